/- The bytes of numbers; what packing and unpacking come to, the program's and the page's -/
import Derived.Test.YtciiekkkldbgfaaWeiIs
import Derived.Test.YtciiekkkldbgfaaNumA
import Derived.Test.YtciiekkkldbgfaaRoot
namespace Go.Ev
open Go Go.Proofs Go.RowKit

/-! numbers of bytes, the lowest first -/
theorem numsB_length (s : ByteArray) : (numsB s).length = s.size := by simp [numsB]
def leN : List Nat → Nat
  | [] => 0
  | b :: bs => b + 256 * leN bs
def leS (s : ByteArray) : Nat := leN (numsB s)
def leB (n x : Nat) : List Nat := (List.range n).map fun j => x / 256 ^ j % 256
theorem leN_append : ∀ a b : List Nat, leN (a ++ b) = leN a + 256 ^ a.length * leN b
  | [], b => by simp [leN]
  | x :: a, b => by
    simp only [List.cons_append, leN, leN_append a b, List.length_cons, Nat.pow_succ, Nat.mul_add]
    rw [← Nat.mul_assoc, Nat.mul_comm 256 (256 ^ a.length)]; omega
theorem leN_zeros : ∀ n, leN (List.replicate n 0) = 0
  | 0 => rfl
  | n + 1 => by rw [List.replicate_succ, leN, leN_zeros n]
theorem leN_lt : ∀ l : List Nat, (∀ b ∈ l, b < 256) → leN l < 256 ^ l.length
  | [], _ => by simp [leN]
  | b :: l, h => by
    have h1 := leN_lt l (fun x hx => h x (by simp [hx]))
    have h2 := h b (by simp)
    simp only [leN, List.length_cons, Nat.pow_succ]; omega
theorem numsB_lt (s : ByteArray) : ∀ b ∈ numsB s, b < 256 := by
  intro b hb
  simp only [numsB, List.mem_map] at hb
  obtain ⟨x, _, rfl⟩ := hb
  exact UInt8.toNat_lt x
theorem leS_lt (s : ByteArray) : leS s < 256 ^ s.size := by
  have := leN_lt (numsB s) (numsB_lt s)
  rwa [numsB_length] at this
theorem numsB_append (a b : ByteArray) : numsB (a ++ b) = numsB a ++ numsB b := by
  unfold numsB
  rw [ByteArray.data_append, Array.toList_append, List.map_append]
theorem numsB_strOf (l : List Nat) (h : ∀ b ∈ l, b < 256) : numsB (strOf l) = l := by
  unfold numsB strOf
  rw [List.map_map]
  conv => rhs; rw [← List.map_id l]
  apply List.map_congr_left
  intro b hb
  have := h b hb
  simp [Function.comp, UInt8.toNat_ofNat', Nat.mod_eq_of_lt this]
theorem strOf_size (l : List Nat) : (strOf l).size = l.length := by simp [strOf, ByteArray.size]
theorem strOf_numsB (s : ByteArray) : strOf (numsB s) = s := by
  unfold strOf numsB
  rw [List.map_map]
  have : ((fun n => UInt8.ofNat n) ∘ UInt8.toNat) = id := by funext x; simp [Function.comp]
  rw [this]; simp
theorem leB_length (n x : Nat) : (leB n x).length = n := by simp [leB]
theorem leB_lt (n x : Nat) : ∀ b ∈ leB n x, b < 256 := by
  intro b hb
  simp only [leB, List.mem_map] at hb
  obtain ⟨j, _, rfl⟩ := hb
  exact Nat.mod_lt _ (by decide)
theorem strOf_take (l : List Nat) (n : Nat) : (strOf l).extract 0 n = strOf (l.take n) := by
  unfold strOf
  apply ByteArray.ext
  rw [ByteArray.data_extract]
  apply Array.ext'
  simp [List.map_take]
theorem leB_take (n m x : Nat) (h : m ≤ n) : (leB n x).take m = leB m x := by
  unfold leB
  rw [← List.map_take, List.take_range, Nat.min_eq_left h]

/-! or, where nothing overlaps -/
theorem orSh {a k : Nat} (x : Nat) (ha : a < 2 ^ k) : a ||| x * 2 ^ k = a + x * 2 ^ k := by
  have := Nat.two_pow_add_eq_or_of_lt ha x
  rw [Nat.or_comm, Nat.mul_comm x, ← this, Nat.add_comm]
def ls (acc x k : Nat) : Nat := acc % 4294967296 ||| x % 4294967296 * 2 ^ k % 4294967296 % 4294967296
theorem ls_eq {acc x k : Nat} (ha : acc < 2 ^ k) (hx : x < 256) (hk : k ≤ 24) : ls acc x k = acc + x * 2 ^ k ∧ acc + x * 2 ^ k < 2 ^ (k + 8) := by
  have h1 : acc + x * 2 ^ k < 2 ^ (k + 8) := by
    have : x * 2 ^ k ≤ 255 * 2 ^ k := Nat.mul_le_mul_right _ (by omega)
    rw [Nat.pow_add]; omega
  have h2 : 2 ^ (k + 8) ≤ 4294967296 := Nat.pow_le_pow_right (n := 2) (j := 32) (by decide) (by omega)
  refine ⟨?_, h1⟩
  unfold ls
  rw [Nat.mod_eq_of_lt (show acc < 4294967296 by omega), Nat.mod_eq_of_lt (show x < 4294967296 by omega), Nat.mod_eq_of_lt (show x * 2 ^ k < 4294967296 by omega), Nat.mod_eq_of_lt (show x * 2 ^ k < 4294967296 by omega)]
  exact orSh x ha

/-! a string by its bytes -/
def strB (n : Nat) (b : Nat → UInt8) : ByteArray := ⟨((List.range n).map b).toArray⟩
theorem strB_of {s : ByteArray} {n : Nat} (h : s.size = n) : s = strB n (fun i => s.data.getD i 0) := by
  subst h
  apply ByteArray.ext
  apply Array.ext
  · simp [strB]
  · intro i h1 h2
    simp only [strB, List.getElem_toArray, List.getElem_map, List.getElem_range]
    rw [Array.getD_eq_getD_getElem?, Array.getElem?_eq_getElem h1]; rfl
theorem numsB_strB (n : Nat) (b : Nat → UInt8) : numsB (strB n b) = (List.range n).map fun i => (b i).toNat := by
  simp [numsB, strB, List.map_map, Function.comp]
end Go.Ev

namespace Go.Ev
open Go Go.Proofs Go.RowKit
/-! numbers and their bytes, the program's and the page's -/
def sS (s : ByteArray) : V1 := .one (.v (.string s))
def ol (b : Nat → UInt8) (i : Nat) : Nat := ls (ls (ls (ls 0 (b (4 * i)).toNat 0) (b (4 * i + 1)).toNat 8) (b (4 * i + 2)).toNat 16) (b (4 * i + 3)).toNat 24
def lbt (u : Nat → Nat) (j : Nat) : Nat := u (j / 4) / 2 ^ (8 * (j % 4)) % 256
theorem run99a (b : Nat → UInt8) : callR E0 1000 99 [sS (strB 32 b)] [] = some ([], .tup [C8 (ol b), .one (.i 0)]) := by kernel_rfl
theorem run102a (b : Nat → UInt8) : callR E0 1000 102 [sS (strB 32 b)] [] = some ([], .val (C8 (ol b))) := by kernel_rfl
theorem run98a (u : Nat → Nat) : callR E0 1000 98 [C8 u] [] = some ([], .val (sS (strOf ((List.range 32).map (lbt u))))) := by kernel_rfl
theorem ol_eq (b : Nat → UInt8) (i : Nat) : ol b i = (b (4 * i)).toNat + 256 * (b (4 * i + 1)).toNat + 65536 * (b (4 * i + 2)).toNat + 16777216 * (b (4 * i + 3)).toNat ∧ ol b i < 4294967296 := by
  have h0 := UInt8.toNat_lt (b (4 * i))
  have h1 := UInt8.toNat_lt (b (4 * i + 1))
  have h2 := UInt8.toNat_lt (b (4 * i + 2))
  have h3 := UInt8.toNat_lt (b (4 * i + 3))
  unfold ol
  rw [(ls_eq (acc := 0) (k := 0) (by decide) h0 (by decide)).1, (ls_eq (k := 8) (by omega) h1 (by decide)).1, (ls_eq (k := 16) (by omega) h2 (by decide)).1, (ls_eq (k := 24) (by omega) h3 (by decide)).1]
  omega
theorem ol_val (s : ByteArray) (b : Nat → UInt8) (e : s = strB 32 b) : valU 8 0 (ol b) = leS s := by
  rw [e, leS, numsB_strB]
  have q := fun i => (ol_eq b i).1
  simp only [valU, q, Nat.zero_add, Nat.reduceAdd, Nat.reduceMul, show List.range 32 = [0, 1, 2, 3, 4, 5, 6, 7, 8, 9, 10, 11, 12, 13, 14, 15, 16, 17, 18, 19, 20, 21, 22, 23, 24, 25, 26, 27, 28, 29, 30, 31] from rfl, List.map_cons, List.map_nil, leN]
  omega
theorem spec99s (s : ByteArray) (h : s.size = 32) : Spec 99 [sS s] (.tup [N8 (leS s), .one (.i 0)]) := by
  have e := strB_of h
  generalize hb : (fun i => s.data.getD i 0) = b at e
  have h := spec_run envE0 rfl (run99a b) trivial rfl rfl
  refine h.congr (fun φ => by rw [e]) (fun φ => ?_)
  simp only [AV.conc, List.map_cons, List.map_nil]
  rw [conc_C8v φ (fun i _ => (ol_eq b i).2) (ol_val s b e)]
theorem spec102s (s : ByteArray) (h : s.size = 32) : Spec 102 [sS s] (.val (N8 (leS s))) := by
  have e := strB_of h
  generalize hb : (fun i => s.data.getD i 0) = b at e
  have h := spec_run envE0 rfl (run102a b) trivial rfl rfl
  refine h.congr (fun φ => by rw [e]) (fun φ => ?_)
  exact conc_C8v φ (fun i _ => (ol_eq b i).2) (ol_val s b e)
theorem limb_eqD (a : Nat) : ∀ i, limb a i = a / 4294967296 ^ i % 4294967296 := fun _ => rfl
theorem lb4 (x r : Nat) (h : r < 4) : x % 4294967296 / 2 ^ (8 * r) % 256 = x / 2 ^ (8 * r) % 256 := by
  match r, h with
  | 0, _ => simp only [Nat.reduceMul, Nat.reducePow]; omega
  | 1, _ => simp only [Nat.reduceMul, Nat.reducePow]; omega
  | 2, _ => simp only [Nat.reduceMul, Nat.reducePow]; omega
  | 3, _ => simp only [Nat.reduceMul, Nat.reducePow]; omega
theorem pow4 (j : Nat) : 256 ^ j = 4294967296 ^ (j / 4) * 2 ^ (8 * (j % 4)) := by
  have h1 : (4294967296 : Nat) ^ (j / 4) = 256 ^ (4 * (j / 4)) := by rw [Nat.pow_mul]
  have h2 : (2 : Nat) ^ (8 * (j % 4)) = 256 ^ (j % 4) := by rw [Nat.pow_mul]
  rw [h1, h2, ← Nat.pow_add, Nat.div_add_mod]
theorem lbt_eq (a j : Nat) : lbt (limb a) j = a / 256 ^ j % 256 := by
  unfold lbt
  rw [limb_eqD, lb4 _ _ (Nat.mod_lt _ (by decide)), pow4, ← Nat.div_div_eq_div_mul]
theorem lbt_leB (a : Nat) : (List.range 32).map (lbt (limb a)) = leB 32 a := by
  unfold leB
  exact List.map_congr_left fun j _ => lbt_eq a j
theorem spec98s (a : Nat) : Spec 98 [N8 a] (.val (sS (strOf (leB 32 a)))) := by
  have h := spec_run envE0 rfl (run98a (limb a)) trivial rfl rfl
  rw [lbt_leB] at h
  exact h.congr (fun φ => by simp only [List.map_cons, List.map_nil, conc_C8]) (fun φ => rfl)
end Go.Ev

namespace Go.Ev
open Go Go.Proofs Go.RowKit
/-! the same, with the highest byte first -/
def revS (s : ByteArray) : ByteArray := strOf (numsB s).reverse
def bgS (x : Nat) : ByteArray := revS (strOf (leB 32 x))
def beS (s : ByteArray) : Nat := leS (revS s)
theorem revS_size (s : ByteArray) : (revS s).size = s.size := by unfold revS; rw [strOf_size, List.length_reverse, numsB_length]
theorem revS_nums (s : ByteArray) : numsB (revS s) = (numsB s).reverse := numsB_strOf _ fun b h => numsB_lt s b (List.mem_reverse.1 h)
theorem revS_revS (s : ByteArray) : revS (revS s) = s := by
  unfold revS
  rw [numsB_strOf _ fun b h => numsB_lt s b (List.mem_reverse.1 h), List.reverse_reverse, strOf_numsB]
theorem run97a (b : Nat → UInt8) : callR E0 1000 97 [sS (strB 32 b)] [] = some ([], .val (sS (strOf ((List.range 32).map fun j => (b (31 - j)).toNat)))) := by kernel_rfl
theorem rev32 (f : Nat → Nat) : ((List.range 32).map f).reverse = (List.range 32).map fun j => f (31 - j) := rfl
theorem spec97s (s : ByteArray) (h : s.size = 32) : Spec 97 [sS s] (.val (sS (revS s))) := by
  have e := strB_of h
  generalize hb : (fun i => s.data.getD i 0) = b at e
  have h := spec_run envE0 rfl (run97a b) trivial rfl rfl
  have h2 : strOf ((List.range 32).map fun j => (b (31 - j)).toNat) = revS s := by
    unfold revS
    rw [e, numsB_strB, rev32]
  rw [h2] at h
  exact h.congr (fun φ => by rw [e]) (fun φ => rfl)
def fRev (vs : List V1) : Option (List Prop × AV) := match vs with | [.one (.v (.string s))] => some ([s.size = 32], .val (sS (revS s))) | _ => none
theorem ct97s : CTok ⟨97, fRev⟩ := by
  intro vs ob r h ho
  simp only [fRev] at h
  split at h
  · simp only [Option.some.injEq, Prod.mk.injEq] at h
    obtain ⟨rfl, rfl⟩ := h
    exact spec97s _ ho.1
  · simp at h
def fOl (vs : List V1) : Option (List Prop × AV) := match vs with | [.one (.v (.string s))] => some ([s.size = 32], .tup [N8 (leS s), .one (.i 0)]) | _ => none
theorem ct99s : CTok ⟨99, fOl⟩ := by
  intro vs ob r h ho
  simp only [fOl] at h
  split at h
  · simp only [Option.some.injEq, Prod.mk.injEq] at h
    obtain ⟨rfl, rfl⟩ := h
    exact spec99s _ ho.1
  · simp at h
def fOp (vs : List V1) : Option (List Prop × AV) := match vs with | [.one (.v (.string s))] => some ([s.size = 32], .val (N8 (leS s))) | _ => none
theorem ct102s : CTok ⟨102, fOp⟩ := by
  intro vs ob r h ho
  simp only [fOp] at h
  split at h
  · simp only [Option.some.injEq, Prod.mk.injEq] at h
    obtain ⟨rfl, rfl⟩ := h
    exact spec102s _ ho.1
  · simp at h
def fLit : List V1 → Option (List Prop × AV) := fn1 fun a => .val (sS (strOf (leB 32 a)))
theorem ctLit98 : CTok ⟨98, fLit⟩ := fun _ _ _ h ho => fn1_ok (fun a _ => spec98s a) h ho
noncomputable def LBg : List CT := [⟨98, fLit⟩, ⟨97, fRev⟩, ⟨99, fOl⟩, ⟨102, fOp⟩]
theorem LBg_ok : AllCT LBg := ⟨ctLit98, ct97s, ct99s, ct102s, trivial⟩
theorem run59a (x : Nat) : callR (mkE LBg noS) 1000 59 [N8 x] [] = some ([x < 4294967296 ^ 8, (strOf (leB 32 x)).size = 32], .val (sS (bgS x))) := by kernel_rfl
theorem run60a (u : Nat → Nat) : callR E0 1000 60 [C8 u] [] = some ([], .val (sS (strOf ((List.range 32).map fun j => lbt u (31 - j))))) := by kernel_rfl
theorem run61a (s : ByteArray) : callR (mkE LBg noS) 1000 61 [sS s] [] = some ([s.size = 32, (revS s).size = 32], .tup [N8 (beS s), .one (.i 0)]) := by kernel_rfl
theorem run64a (b : Nat → UInt8) : callR (mkE LBg noS) 1000 64 [sS (strB 32 b)] [] = some ([(strOf ((List.range 32).map fun j => (b (31 - j)).toNat)).size = 32], .val (N8 (leS (strOf ((List.range 32).map fun j => (b (31 - j)).toNat))))) := by kernel_rfl
theorem leB_size (n x : Nat) : (strOf (leB n x)).size = n := by rw [strOf_size, leB_length]
theorem spec59s (x : Nat) (h : x < 4294967296 ^ 8) : Spec 59 [N8 x] (.val (sS (bgS x))) := spec_run (envMk LBg_ok noS) rfl (run59a x) ⟨h, leB_size 32 x, trivial⟩ rfl rfl
theorem spec60s (a : Nat) : Spec 60 [N8 a] (.val (sS (bgS a))) := by
  have h := spec_run envE0 rfl (run60a (limb a)) trivial rfl rfl
  have h2 : strOf ((List.range 32).map fun j => lbt (limb a) (31 - j)) = bgS a := by
    unfold bgS revS
    rw [numsB_strOf _ (leB_lt 32 a), ← lbt_leB, rev32]
  rw [h2] at h
  exact h.congr (fun φ => by simp only [List.map_cons, List.map_nil, conc_C8]) (fun φ => rfl)
theorem spec61s (s : ByteArray) (h : s.size = 32) : Spec 61 [sS s] (.tup [N8 (beS s), .one (.i 0)]) := spec_run (envMk LBg_ok noS) rfl (run61a s) ⟨h, by rw [revS_size, h], trivial⟩ rfl rfl
theorem spec64s (s : ByteArray) (h : s.size = 32) : Spec 64 [sS s] (.val (N8 (beS s))) := by
  have e := strB_of h
  generalize hb : (fun i => s.data.getD i 0) = b at e
  have h2 : strOf ((List.range 32).map fun j => (b (31 - j)).toNat) = revS s := by
    unfold revS
    rw [e, numsB_strB, rev32]
  have q := spec_run (envMk LBg_ok noS) rfl (run64a b) ⟨by rw [h2, revS_size, h], trivial⟩ rfl rfl
  rw [h2] at q
  exact q.congr (fun φ => by rw [e]) (fun φ => rfl)
end Go.Ev

namespace Go.Ev
open Go Go.Proofs Go.RowKit
/-! packing spots, for any pair of numbers -/
def fBg : List V1 → Option (List Prop × AV) := fn1 fun a => .val (sS (bgS a))
theorem ct59b : CTok ⟨59, fBg⟩ := fun _ _ _ h ho => fn1_ok (fun a h => spec59s a h) h ho
theorem ct60b : CTok ⟨60, fBg⟩ := fun _ _ _ h ho => fn1_ok (fun a _ => spec60s a) h ho
noncomputable def LBx : List CT := ⟨59, fBg⟩ :: ⟨60, fBg⟩ :: L3a
theorem LBx_ok : AllCT LBx := ⟨ct59b, ct60b, L3a_ok⟩
noncomputable def SPk : FuncId → Nat → Bool := fun f t => match f with | 58 => memN t [14, 2000010] | 31 => memN t [6, 12, 16, 2000008] | 32 => memN t [14, 2000010] | 33 => memN t [6, 10] | 57 => memN t [5] | 30 => memN t [6] | _ => false
def packW (x y : Nat) : ByteArray := strOf [2 + y % 2] ++ bgS x
def longW (x y : Nat) : ByteArray := strOf [4] ++ bgS x ++ bgS y
def hdA (y : Nat) : Nat := (2 + (y % 4294967296 % 4294967296 &&& 1 % 4294967296) % 256) % 256
def hdB (y : Nat) : Nat := (2 + (y % 4294967296 % 4294967296 &&& 1 % 4294967296)) % 4294967296 % 256
theorem and1W (x : Nat) : x % 4294967296 % 4294967296 &&& 1 % 4294967296 = x % 2 := by
  rw [show (1 % 4294967296 : Nat) = 2 ^ 1 - 1 from rfl, Nat.and_two_pow_sub_one_eq_mod]; omega
theorem hdA_eq (y : Nat) : hdA y = 2 + y % 2 := by unfold hdA; rw [and1W]; omega
theorem hdB_eq (y : Nat) : hdB y = 2 + y % 2 := by unfold hdB; rw [and1W]; omega
theorem r58 (x y : Nat) (i : Bool) : callR (mkE LBx SPk) 1000 58 [P3 x y i] [] = some ([x < 4294967296 ^ 8, (strOf [hdA y]).size + (bgS x).size ≤ 9223372036854775807], .val (sS (strOf [hdA y] ++ bgS x))) := by kernel_rfl
theorem r32 (x y : Nat) (i : Bool) : callR (mkE LBx SPk) 1000 32 [P3 x y i] [] = some ([x < 4294967296 ^ 8, (strOf [hdB y]).size + (bgS x).size ≤ 9223372036854775807], .val (sS (strOf [hdB y] ++ bgS x))) := by kernel_rfl
theorem r33 (x y : Nat) (i : Bool) : callR (mkE LBx SPk) 1000 33 [P3 x y i] [] = some ([x < 4294967296 ^ 8, (strOf [4]).size + (bgS x).size ≤ 9223372036854775807, y < 4294967296 ^ 8, (strOf [4] ++ bgS x).size + (bgS y).size ≤ 9223372036854775807], .val (sS (longW x y))) := by kernel_rfl
theorem r57t (x y : Nat) (b : Bool) : callR (mkE LBx SPk) 1000 57 [P3 x y false] [b] = some ([x < 4294967296 ^ 8, y < 4294967296 ^ 8, onS x y false = b], bV b) := by cases b <;> kernel_rfl
theorem r57f (x y : Nat) (b : Bool) : callR (mkE LBx SPk) 1000 57 [P3 x y true] [b] = some ([x < 4294967296 ^ 8, y < 4294967296 ^ 8, onS x y true = b], bV false) := by cases b <;> kernel_rfl
theorem bgS_size (x : Nat) : (bgS x).size = 32 := by unfold bgS; rw [revS_size, leB_size]
theorem one_size (n : Nat) : (strOf [n]).size = 1 := by rw [strOf_size]; rfl
theorem app_size (a b : ByteArray) : (a ++ b).size = a.size + b.size := ByteArray.size_append
theorem spec58s (x y : Nat) (i : Bool) (hx : x < 4294967296 ^ 8) : Spec 58 [P3 x y i] (.val (sS (packW x y))) := by
  have := spec_run (envMk LBx_ok SPk) rfl (r58 x y i) ⟨hx, by rw [one_size, bgS_size]; decide, trivial⟩ rfl rfl
  rw [hdA_eq] at this
  exact this
theorem spec32s (x y : Nat) (i : Bool) (hx : x < 4294967296 ^ 8) : Spec 32 [P3 x y i] (.val (sS (packW x y))) := by
  have := spec_run (envMk LBx_ok SPk) rfl (r32 x y i) ⟨hx, by rw [one_size, bgS_size]; decide, trivial⟩ rfl rfl
  rw [hdB_eq] at this
  exact this
theorem spec33s (x y : Nat) (i : Bool) (hx : x < 4294967296 ^ 8) (hy : y < 4294967296 ^ 8) : Spec 33 [P3 x y i] (.val (sS (longW x y))) :=
  spec_run (envMk LBx_ok SPk) rfl (r33 x y i) ⟨hx, by rw [one_size, bgS_size]; decide, hy, by rw [app_size, one_size, bgS_size, bgS_size]; decide, trivial⟩ rfl rfl
noncomputable def mayS (x y : Nat) (i : Bool) : Bool := onS x y i && !i
theorem spec57s (x y : Nat) (i : Bool) (hx : x < 4294967296 ^ 8) (hy : y < 4294967296 ^ 8) : Spec 57 [P3 x y i] (bV (mayS x y i)) := by
  unfold mayS
  cases i with
  | true =>
    have := spec_run (envMk LBx_ok SPk) rfl (r57f x y (onS x y true)) ⟨hx, hy, rfl, trivial⟩ rfl rfl
    simpa using this
  | false =>
    have := spec_run (envMk LBx_ok SPk) rfl (r57t x y (onS x y false)) ⟨hx, hy, rfl, trivial⟩ rfl rfl
    simpa using this
noncomputable def gMayS : List Val → Option (List Prop × AV)
  | [.n x, .n y, .b i] => some ([], bV (mayS x y i))
  | _ => none
theorem ct57s : CTok ⟨57, fnS [aSp] gMayS⟩ := ctS (by
  intro xs ob r hb h ho
  unfold gMayS at h
  split at h
  · simp only [Option.some.injEq, Prod.mk.injEq] at h
    obtain ⟨rfl, rfl⟩ := h
    obtain ⟨⟨h1, h2, _⟩, _⟩ := hb
    exact spec57s _ _ _ h1 h2
  · simp at h)
def gOf58 : List Val → Option (List Prop × AV)
  | [.n x, .n y, .b i] => some ([], .val (sS (packW x y)))
  | _ => none
theorem ct58s : CTok ⟨58, fnS [aSp] gOf58⟩ := ctS (by
  intro xs ob r hb h ho
  unfold gOf58 at h
  split at h
  · simp only [Option.some.injEq, Prod.mk.injEq] at h
    obtain ⟨rfl, rfl⟩ := h
    obtain ⟨⟨h1, h2, _⟩, _⟩ := hb
    exact spec58s _ _ _ h1
  · simp at h)
theorem ct32s : CTok ⟨32, fnS [aSp] gOf58⟩ := ctS (by
  intro xs ob r hb h ho
  unfold gOf58 at h
  split at h
  · simp only [Option.some.injEq, Prod.mk.injEq] at h
    obtain ⟨rfl, rfl⟩ := h
    obtain ⟨⟨h1, h2, _⟩, _⟩ := hb
    exact spec32s _ _ _ h1
  · simp at h)
def gLo33 : List Val → Option (List Prop × AV)
  | [.n x, .n y, .b i] => some ([], .val (sS (longW x y)))
  | _ => none
theorem ct33s : CTok ⟨33, fnS [aSp] gLo33⟩ := ctS (by
  intro xs ob r hb h ho
  unfold gLo33 at h
  split at h
  · simp only [Option.some.injEq, Prod.mk.injEq] at h
    obtain ⟨rfl, rfl⟩ := h
    obtain ⟨⟨h1, h2, _⟩, _⟩ := hb
    exact spec33s _ _ _ h1 h2
  · simp at h)
noncomputable def LPw : List CT := ⟨57, fnS [aSp] gMayS⟩ :: ⟨58, fnS [aSp] gOf58⟩ :: ⟨32, fnS [aSp] gOf58⟩ :: ⟨33, fnS [aSp] gLo33⟩ :: LBx
theorem LPw_ok : AllCT LPw := ⟨ct57s, ct58s, ct32s, ct33s, LBx_ok⟩
theorem r30y (x : Nat) (y : Nat) (i : Bool) : callR (mkE LPw SPk) 1000 30 [P3 x y i] [false] =
    some ([x < 4294967296 ^ 8, y < 4294967296 ^ 8, (!(onS x y i && !i)) = false, x < 4294967296 ^ 8, y < 4294967296 ^ 8], .tup [sS (packW x y), .one (.i 0)]) := by kernel_rfl
theorem r30n (x : Nat) (y : Nat) (i : Bool) : callR (mkE LPw SPk) 1000 30 [P3 x y i] [true] =
    some ([x < 4294967296 ^ 8, y < 4294967296 ^ 8, (!(onS x y i && !i)) = true], .tup [sS ⟨#[]⟩, .one (.i 7)]) := by kernel_rfl
theorem r31y (x : Nat) (y : Nat) (i : Bool) : callR (mkE LPw SPk) 1000 31 [P3 x y i] [false] =
    some ([x < 4294967296 ^ 8, y < 4294967296 ^ 8, (!(onS x y i && !i)) = false, x < 4294967296 ^ 8, 1 + ByteArray.size (bgS x) ≤ 9223372036854775807, y < 4294967296 ^ 8, ByteArray.size (strOf [4] ++ bgS x) + ByteArray.size (bgS y) ≤ 9223372036854775807], .tup [sS (longW x y), .one (.i 0)]) := by kernel_rfl
theorem r31n (x : Nat) (y : Nat) (i : Bool) : callR (mkE LPw SPk) 1000 31 [P3 x y i] [true] =
    some ([x < 4294967296 ^ 8, y < 4294967296 ^ 8, (!(onS x y i && !i)) = true], .tup [sS ⟨#[]⟩, .one (.i 7)]) := by kernel_rfl
theorem r27 (x : Nat) (y : Nat) (i : Bool) : callR (mkE L3a noS) 1000 27 [P3 x y i] [] =
    some ([(0 : Int) ≤ (1 : Int) ∧ (1 : Int) < (4 : Int), okR (modN 1) (facR (limb (modN 1) 0)) (r2N (modN 1)), 0 + 0 < modN 1, y < modN 1, 0 < 4294967296, 0 < 4294967296, 0 < 4294967296, 0 < 4294967296, 0 < 4294967296, 0 < 4294967296, 0 < 4294967296, 0 < 4294967296, y < 4294967296 ^ 8], .val (P3 x (subM (modN 1) 0 y) i)) := by kernel_rfl
end Go.Ev

namespace Go.Ev
open Go Go.Proofs Go.RowKit
noncomputable def pkE (x y : Nat) (i : Bool) : Int := bif mayS x y i then 0 else 7
noncomputable def pkW (x y : Nat) (i : Bool) : ByteArray := bif mayS x y i then packW x y else ⟨#[]⟩
noncomputable def lgW (x y : Nat) (i : Bool) : ByteArray := bif mayS x y i then longW x y else ⟨#[]⟩
theorem spec30u (x y : Nat) (i : Bool) (hx : x < 4294967296 ^ 8) (hy : y < 4294967296 ^ 8) : Spec 30 [P3 x y i] (.tup [sS (pkW x y i), .one (.i (pkE x y i))]) := by
  unfold pkW pkE
  cases h : mayS x y i with
  | true => exact spec_run (envMk LPw_ok SPk) rfl (r30y x y i) ⟨hx, hy, by have h' : (onS x y i && !i) = true := h; rw [h']; rfl, hx, hy, trivial⟩ rfl rfl
  | false => exact spec_run (envMk LPw_ok SPk) rfl (r30n x y i) ⟨hx, hy, by have h' : (onS x y i && !i) = false := h; rw [h']; rfl, trivial⟩ rfl rfl
theorem spec31u (x y : Nat) (i : Bool) (hx : x < 4294967296 ^ 8) (hy : y < 4294967296 ^ 8) : Spec 31 [P3 x y i] (.tup [sS (lgW x y i), .one (.i (pkE x y i))]) := by
  unfold lgW pkE
  cases h : mayS x y i with
  | true => exact spec_run (envMk LPw_ok SPk) rfl (r31y x y i) ⟨hx, hy, by have h' : (onS x y i && !i) = true := h; rw [h']; rfl, hx, by rw [bgS_size]; decide, hy, by rw [app_size, one_size, bgS_size, bgS_size]; decide, trivial⟩ rfl rfl
  | false => exact spec_run (envMk LPw_ok SPk) rfl (r31n x y i) ⟨hx, hy, by have h' : (onS x y i && !i) = false := h; rw [h']; rfl, trivial⟩ rfl rfl
theorem spec27n (x y : Nat) (i : Bool) (hy : y < modN 1) : Spec 27 [P3 x y i] (.val (P3 x (subM (modN 1) 0 y) i)) :=
  spec_run (envMk L3a_ok noS) rfl (r27 x y i) ⟨by decide, okR_K (k := 1) (by decide), modN_pos 1, hy, by decide, by decide, by decide, by decide, by decide, by decide, by decide, by decide, L8 hy, trivial⟩ rfl rfl
noncomputable def gP30 : List Val → Option (List Prop × AV)
  | [.n x, .n y, .b i] => some ([], .tup [sS (pkW x y i), .one (.i (pkE x y i))])
  | _ => none
theorem ct30u : CTok ⟨30, fnS [aSp] gP30⟩ := ctS (by
  intro xs ob r hb h ho
  unfold gP30 at h
  split at h
  · simp only [Option.some.injEq, Prod.mk.injEq] at h
    obtain ⟨rfl, rfl⟩ := h
    obtain ⟨⟨h1, h2, _⟩, _⟩ := hb
    exact spec30u _ _ _ h1 h2
  · simp at h)
noncomputable def gP31 : List Val → Option (List Prop × AV)
  | [.n x, .n y, .b i] => some ([], .tup [sS (lgW x y i), .one (.i (pkE x y i))])
  | _ => none
theorem ct31u : CTok ⟨31, fnS [aSp] gP31⟩ := ctS (by
  intro xs ob r hb h ho
  unfold gP31 at h
  split at h
  · simp only [Option.some.injEq, Prod.mk.injEq] at h
    obtain ⟨rfl, rfl⟩ := h
    obtain ⟨⟨h1, h2, _⟩, _⟩ := hb
    exact spec31u _ _ _ h1 h2
  · simp at h)
/-! it wakes -/
def base33 : ByteArray := ⟨#[3, 107, 23, 209, 242, 225, 44, 66, 71, 248, 188, 230, 229, 99, 164, 64, 242, 119, 3, 125, 129, 45, 235, 51, 160, 244, 161, 57, 69, 216, 152, 194, 150]⟩
theorem pack_base : packW wXN wYN = base33 := by decide +kernel
theorem on_baseW : onS wXN wYN false = true := by
  unfold onS ltW
  rw [cond_false, decide_eq_true wXN_lt, decide_eq_true wYN_lt, eqW_in]
  decide +kernel
def gP30w : List Val → Option (List Prop × AV)
  | [.n x, .n y, .b i] => bif x == wXN && y == wYN && !i then some ([], .tup [sS base33, .one (.i 0)]) else none
  | _ => none
theorem ct30w : CTok ⟨30, fnS [aSp] gP30w⟩ := ctS (by
  intro xs ob r hb h ho
  unfold gP30w at h
  split at h
  · rename_i x y i
    obtain ⟨⟨h1, h2, _⟩, _⟩ := hb
    cases hc : (x == wXN && y == wYN && !i) with
    | false => rw [hc] at h; simp at h
    | true =>
      rw [hc] at h
      simp only [cond_true, Option.some.injEq, Prod.mk.injEq] at h
      obtain ⟨_, rfl⟩ := h
      simp only [Bool.and_eq_true, beq_iff_eq, Bool.not_eq_true'] at hc
      obtain ⟨⟨e1, e2⟩, e3⟩ := hc
      have hm : mayS x y i = true := by unfold mayS; rw [e1, e2, e3, on_baseW]; rfl
      have h := spec30u x y i h1 h2
      unfold pkW pkE at h
      rw [hm, cond_true, cond_true] at h
      rw [show packW x y = base33 by rw [e1, e2, pack_base]] at h
      exact h
  · simp at h)
noncomputable def L37 : List CT := ⟨30, fnS [aSp] gP30w⟩ :: L3a
theorem L37_ok : AllCT L37 := ⟨ct30w, L3a_ok⟩
def wkW : Bool := decide ((base33.data.getD 0 0).toNat = 3)
theorem wkW_t : wkW = true := by decide +kernel
theorem r37 (_u : Nat) : callR (mkE L37 noS) 1000 37 [] [] =
    some ([wXN < 4294967296 ^ 8, wYN < 4294967296 ^ 8], bV wkW) := by kernel_rfl
theorem spec37w : Spec 37 [] (bV true) := by
  have := spec_run (envMk L37_ok noS) rfl (r37 0) ⟨L8 wXN_lt, L8 wYN_lt, trivial⟩ rfl rfl
  rw [wkW_t] at this
  exact this
end Go.Ev

namespace Go.Ev
open Go Go.Proofs Go.RowKit
/-! unpacking spots -/
theorem out_sqI {x : Nat} : outN (modN 1) (sqI x) = sqP x := by
  rw [sqI_J, sqJ_in, out_in (modN_lt 1) (good_fac (by decide)) (sqP_lt x)]
def gSqP : List Val → Option (List Prop × AV)
  | [.n x] => some ([x < modN 1], .val (N8 (sqP x)))
  | _ => none
theorem ct68p : CTok ⟨68, fnS [aN] gSqP⟩ := ctS (by
  intro xs ob r hb h ho
  unfold gSqP at h
  split at h
  · simp only [Option.some.injEq, Prod.mk.injEq] at h
    obtain ⟨rfl, rfl⟩ := h
    have := spec68w _ ho.1
    rw [out_sqI] at this
    exact this
  · simp at h)
def rtS (x : Nat) : Bool := sqB 1 (sqP x)
def evW (x : Nat) : Nat := evC 1 (sqP x)
noncomputable def L63 : List CT := ⟨68, fnS [aN] gSqP⟩ :: ⟨101, fnS [.z, .s [.n8]] gFind⟩ :: L3a
theorem L63_ok : AllCT L63 := ⟨ct68p, ct58, L3a_ok⟩
noncomputable def S63 : FuncId → Nat → Bool := fun f t => match f with | 63 => memN t [14] | _ => false
def zSp : V1 := .agg (cellsU 16 0 zF ++ [.a (.v (.bool false))])
theorem r63t (x : Nat) (y : Nat) (i : Bool) : callR (mkE L63 S63) 1000 63 [P3 x y i, V1.one (Atom.v (Value.bool true))] [true] =
    some ([x < 4294967296 ^ 8, x < modN 1, addM (modN 1) (subM (modN 1) (mulM (modN 1) x (mulM (modN 1) x x)) (addM (modN 1) x (addM (modN 1) x x))) wBN < 4294967296 ^ 8, (0 : Int) ≤ (1 : Int) ∧ (1 : Int) < (2 : Int), addM (modN 1) (subM (modN 1) (mulM (modN 1) x (mulM (modN 1) x x)) (addM (modN 1) x (addM (modN 1) x x))) wBN < modN 1, sqB 1 (addM (modN 1) (subM (modN 1) (mulM (modN 1) x (mulM (modN 1) x x)) (addM (modN 1) x (addM (modN 1) x x))) wBN) = true, (0 : Int) ≤ (1 : Int) ∧ (1 : Int) < (4 : Int), modN 1 < 4294967296 ^ 8, 0 + 0 < modN 1, evC 1 (addM (modN 1) (subM (modN 1) (mulM (modN 1) x (mulM (modN 1) x x)) (addM (modN 1) x (addM (modN 1) x x))) wBN) < modN 1, 0 < 4294967296, 0 < 4294967296, 0 < 4294967296, 0 < 4294967296, 0 < 4294967296, 0 < 4294967296, 0 < 4294967296, 0 < 4294967296, evC 1 (addM (modN 1) (subM (modN 1) (mulM (modN 1) x (mulM (modN 1) x x)) (addM (modN 1) x (addM (modN 1) x x))) wBN) < 4294967296 ^ 8, evC 1 (addM (modN 1) (subM (modN 1) (mulM (modN 1) x (mulM (modN 1) x x)) (addM (modN 1) x (addM (modN 1) x x))) wBN) < 4294967296 ^ 8, subM (modN 1) 0 (evC 1 (addM (modN 1) (subM (modN 1) (mulM (modN 1) x (mulM (modN 1) x x)) (addM (modN 1) x (addM (modN 1) x x))) wBN)) < 4294967296 ^ 8], .tup [P3 x (subM (modN 1) 0 (evW x)) i, .one (.i 0)]) := by kernel_rfl
theorem r63f (x : Nat) (y : Nat) (i : Bool) : callR (mkE L63 S63) 1000 63 [P3 x y i, V1.one (Atom.v (Value.bool false))] [true] =
    some ([x < 4294967296 ^ 8, x < modN 1, addM (modN 1) (subM (modN 1) (mulM (modN 1) x (mulM (modN 1) x x)) (addM (modN 1) x (addM (modN 1) x x))) wBN < 4294967296 ^ 8, (0 : Int) ≤ (1 : Int) ∧ (1 : Int) < (2 : Int), addM (modN 1) (subM (modN 1) (mulM (modN 1) x (mulM (modN 1) x x)) (addM (modN 1) x (addM (modN 1) x x))) wBN < modN 1, sqB 1 (addM (modN 1) (subM (modN 1) (mulM (modN 1) x (mulM (modN 1) x x)) (addM (modN 1) x (addM (modN 1) x x))) wBN) = true, (0 : Int) ≤ (1 : Int) ∧ (1 : Int) < (4 : Int), modN 1 < 4294967296 ^ 8, 0 + 0 < modN 1, evC 1 (addM (modN 1) (subM (modN 1) (mulM (modN 1) x (mulM (modN 1) x x)) (addM (modN 1) x (addM (modN 1) x x))) wBN) < modN 1, 0 < 4294967296, 0 < 4294967296, 0 < 4294967296, 0 < 4294967296, 0 < 4294967296, 0 < 4294967296, 0 < 4294967296, 0 < 4294967296, evC 1 (addM (modN 1) (subM (modN 1) (mulM (modN 1) x (mulM (modN 1) x x)) (addM (modN 1) x (addM (modN 1) x x))) wBN) < 4294967296 ^ 8, evC 1 (addM (modN 1) (subM (modN 1) (mulM (modN 1) x (mulM (modN 1) x x)) (addM (modN 1) x (addM (modN 1) x x))) wBN) < 4294967296 ^ 8, subM (modN 1) 0 (evC 1 (addM (modN 1) (subM (modN 1) (mulM (modN 1) x (mulM (modN 1) x x)) (addM (modN 1) x (addM (modN 1) x x))) wBN)) < 4294967296 ^ 8], .tup [P3 x (evW x) i, .one (.i 0)]) := by kernel_rfl
theorem r63n (x : Nat) (y : Nat) (i : Bool) (o : Bool) : callR (mkE L63 S63) 1000 63 [P3 x y i, V1.one (Atom.v (Value.bool o))] [false] =
    some ([x < 4294967296 ^ 8, x < modN 1, addM (modN 1) (subM (modN 1) (mulM (modN 1) x (mulM (modN 1) x x)) (addM (modN 1) x (addM (modN 1) x x))) wBN < 4294967296 ^ 8, (0 : Int) ≤ (1 : Int) ∧ (1 : Int) < (2 : Int), addM (modN 1) (subM (modN 1) (mulM (modN 1) x (mulM (modN 1) x x)) (addM (modN 1) x (addM (modN 1) x x))) wBN < modN 1, sqB 1 (addM (modN 1) (subM (modN 1) (mulM (modN 1) x (mulM (modN 1) x x)) (addM (modN 1) x (addM (modN 1) x x))) wBN) = false], .tup [zSp, .one (.i 7)]) := by kernel_rfl
def fdX (x : Nat) : Nat := bif rtS x then x else 0
def fdY (x : Nat) (o : Bool) : Nat := bif rtS x then (bif o then subM (modN 1) 0 (evW x) else evW x) else 0
def fdE (x : Nat) : Int := bif rtS x then 0 else 7
theorem zSp_conc (φ : Loc) : zSp.conc φ = (P3 0 0 false).conc φ := by
  have e : concs φ (cellsU 8 0 zF ++ (cellsU 8 0 zF ++ [.a (.v (.bool false))])) = concs φ ([.num 8 0] ++ ([.num 8 0] ++ [.a (.v (.bool false))])) := by
    rw [concs_append, ← limb_zero, ← concs_num, concs_append, ← concs_num, concs_append, concs_append]
  exact congrArg (fun l => Value.agg (List.toArray l)) e
theorem zerr_conc (φ : Loc) (z : Int) : (AV.tup [zSp, .one (.i z)]).conc φ = (AV.tup [P3 0 0 false, .one (.i z)]).conc φ := by
  simp only [AV.conc, List.map_cons, List.map_nil, zSp_conc]
theorem spec63u (x y : Nat) (o : Bool) (hx : x < modN 1) : Spec 63 [P3 x y false, .one (.v (.bool o))] (.tup [P3 (fdX x) (fdY x o) false, .one (.i (fdE x))]) := by
  have hp := sqP_lt x
  have he : evC 1 (sqP x) < modN 1 := evC_lt (by decide)
  cases h : rtS x with
  | false =>
    have e1 : fdX x = 0 := by unfold fdX; rw [h, cond_false]
    have e2 : fdY x o = 0 := by unfold fdY; rw [h, cond_false]
    have e3 : fdE x = 7 := by unfold fdE; rw [h, cond_false]
    rw [e1, e2, e3]
    exact (spec_run (envMk L63_ok S63) rfl (r63n x y false o) ⟨L8 hx, hx, L8 hp, by decide, hp, h, trivial⟩ rfl rfl).congr (fun _ => rfl) (fun φ => zerr_conc φ 7)
  | true =>
    have e1 : fdX x = x := by unfold fdX; rw [h, cond_true]
    have e3 : fdE x = 0 := by unfold fdE; rw [h, cond_true]
    rw [e1, e3]
    cases o with
    | true =>
      have e2 : fdY x true = subM (modN 1) 0 (evW x) := by unfold fdY; rw [h, cond_true, cond_true]
      rw [e2]
      exact spec_run (envMk L63_ok S63) rfl (r63t x y false) ⟨L8 hx, hx, L8 hp, by decide, hp, h, by decide, modN_lt 1, modN_pos 1, he, by decide, by decide, by decide, by decide, by decide, by decide, by decide, by decide, L8 he, L8 he, L8 (subM_lt (modN_pos 1)), trivial⟩ rfl rfl
    | false =>
      have e2 : fdY x false = evW x := by unfold fdY; rw [h, cond_true, cond_false]
      rw [e2]
      exact spec_run (envMk L63_ok S63) rfl (r63f x y false) ⟨L8 hx, hx, L8 hp, by decide, hp, h, by decide, modN_lt 1, modN_pos 1, he, by decide, by decide, by decide, by decide, by decide, by decide, by decide, by decide, L8 he, L8 he, L8 (subM_lt (modN_pos 1)), trivial⟩ rfl rfl
def gFd : List Val → Option (List Prop × AV)
  | [.n x, .n _, .b i, .b o] => some ([x < modN 1, i = false], .tup [P3 (fdX x) (fdY x o) false, .one (.i (fdE x))])
  | _ => none
theorem ct63u : CTok ⟨63, fnS [aSp, .b] gFd⟩ := ctS (by
  intro xs ob r hb h ho
  unfold gFd at h
  split at h
  · simp only [Option.some.injEq, Prod.mk.injEq] at h
    obtain ⟨rfl, rfl⟩ := h
    obtain ⟨hx, rfl, _⟩ := ho
    exact spec63u _ _ _ hx
  · simp at h)
end Go.Ev

namespace Go.Ev
open Go Go.Proofs Go.RowKit
def fBe61 (vs : List V1) : Option (List Prop × AV) := match vs with | [.one (.v (.string s))] => some ([s.size = 32], .tup [N8 (beS s), .one (.i 0)]) | _ => none
theorem ct61b : CTok ⟨61, fBe61⟩ := by
  intro vs ob r h ho
  simp only [fBe61] at h
  split at h
  · simp only [Option.some.injEq, Prod.mk.injEq] at h
    obtain ⟨rfl, rfl⟩ := h
    exact spec61s _ ho.1
  · simp at h
def fBe64 (vs : List V1) : Option (List Prop × AV) := match vs with | [.one (.v (.string s))] => some ([s.size = 32], .val (N8 (beS s))) | _ => none
theorem ct64b : CTok ⟨64, fBe64⟩ := by
  intro vs ob r h ho
  simp only [fBe64] at h
  split at h
  · simp only [Option.some.injEq, Prod.mk.injEq] at h
    obtain ⟨rfl, rfl⟩ := h
    exact spec64s _ ho.1
  · simp at h
noncomputable def L35 : List CT := ⟨63, fnS [aSp, .b] gFd⟩ :: ⟨61, fBe61⟩ :: L63
theorem L35_ok : AllCT L35 := ⟨ct63u, ct61b, L63_ok⟩
noncomputable def S35 : FuncId → Nat → Bool := fun f t => match f with | 35 => memN t [11, 15, 20, 26, 27, 30, 31, 35, 38, 43, 44, 49, 54, 63, 66, 67, 72] | _ => false
def k0 (s : ByteArray) : Nat := (s.data.getD 0 0).toNat
def bx (s : ByteArray) : Nat := beS (s.extract 1 33)
def yb (s : ByteArray) : Nat := beS (s.extract 33 s.size)
theorem r35a (s : ByteArray) : callR (mkE L35 S35) 1000 35 [sS s] [true, true] =
  some ([(!decide ((s.size : Int) = 33)) = true, (!decide ((s.size : Int) = 65)) = true], .tup [zSp, .one (.i 1)]) := by kernel_rfl
theorem r35c2 (s : ByteArray) : callR (mkE L35 S35) 1000 35 [sS s] [false, true, false, false] =
  some ([(!decide ((s.size : Int) = 33)) = false, (0 : Int) ≤ 33 ∧ (33 : Int) ≤ (s.size : Int), (0 : Int) ≤ 1 ∧ (1 : Int) ≤ ((33 : Nat) : Int), (s.extract 1 33).size = 32, (0 : Int) ≤ 0 ∧ (0 : Int) < (s.size : Int), decide (k0 s = 2) = true, decide ((s.size : Int) = 65) = false, ok1 1 (bx s) = false, (bx s) < 4294967296 ^ 8], .tup [zSp, .one (.i 6)]) := by kernel_rfl
theorem r35d2 (s : ByteArray) : callR (mkE L35 S35) 1000 35 [sS s] [false, true, false, true, true, true, false] =
  some ([(!decide ((s.size : Int) = 33)) = false, (0 : Int) ≤ 33 ∧ (33 : Int) ≤ (s.size : Int), (0 : Int) ≤ 1 ∧ (1 : Int) ≤ ((33 : Nat) : Int), (s.extract 1 33).size = 32, (0 : Int) ≤ 0 ∧ (0 : Int) < (s.size : Int), decide (k0 s = 2) = true, decide ((s.size : Int) = 65) = false, ok1 1 (bx s) = true, (bx s) < 4294967296 ^ 8, ok1 1 0 = true, 0 < 4294967296, 0 < 4294967296, 0 < 4294967296, 0 < 4294967296, 0 < 4294967296, 0 < 4294967296, 0 < 4294967296, 0 < 4294967296, decide ((s.size : Int) = 33) = true, (0 : Int) ≤ 0 ∧ (0 : Int) < (s.size : Int), decide (2 < k0 s) = false, (bx s) < 4294967296 ^ 8, 0 < 4294967296, 0 < 4294967296, 0 < 4294967296, 0 < 4294967296, 0 < 4294967296, 0 < 4294967296, 0 < 4294967296, 0 < 4294967296, bx s < modN 1, false = false], .tup [P3 (fdX (bx s)) (fdY (bx s) false) false, .one (.i (fdE (bx s)))]) := by kernel_rfl
theorem r35c3 (s : ByteArray) : callR (mkE L35 S35) 1000 35 [sS s] [false, false, true, false, false] =
  some ([(!decide ((s.size : Int) = 33)) = false, (0 : Int) ≤ 33 ∧ (33 : Int) ≤ (s.size : Int), (0 : Int) ≤ 1 ∧ (1 : Int) ≤ ((33 : Nat) : Int), (s.extract 1 33).size = 32, (0 : Int) ≤ 0 ∧ (0 : Int) < (s.size : Int), decide (k0 s = 2) = false, (0 : Int) ≤ 0 ∧ (0 : Int) < (s.size : Int), decide (k0 s = 3) = true, decide ((s.size : Int) = 65) = false, ok1 1 (bx s) = false, (bx s) < 4294967296 ^ 8], .tup [zSp, .one (.i 6)]) := by kernel_rfl
theorem r35d3 (s : ByteArray) : callR (mkE L35 S35) 1000 35 [sS s] [false, false, true, false, true, true, true, true] =
  some ([(!decide ((s.size : Int) = 33)) = false, (0 : Int) ≤ 33 ∧ (33 : Int) ≤ (s.size : Int), (0 : Int) ≤ 1 ∧ (1 : Int) ≤ ((33 : Nat) : Int), (s.extract 1 33).size = 32, (0 : Int) ≤ 0 ∧ (0 : Int) < (s.size : Int), decide (k0 s = 2) = false, (0 : Int) ≤ 0 ∧ (0 : Int) < (s.size : Int), decide (k0 s = 3) = true, decide ((s.size : Int) = 65) = false, ok1 1 (bx s) = true, (bx s) < 4294967296 ^ 8, ok1 1 0 = true, 0 < 4294967296, 0 < 4294967296, 0 < 4294967296, 0 < 4294967296, 0 < 4294967296, 0 < 4294967296, 0 < 4294967296, 0 < 4294967296, decide ((s.size : Int) = 33) = true, (0 : Int) ≤ 0 ∧ (0 : Int) < (s.size : Int), decide (2 < k0 s) = true, (bx s) < 4294967296 ^ 8, 0 < 4294967296, 0 < 4294967296, 0 < 4294967296, 0 < 4294967296, 0 < 4294967296, 0 < 4294967296, 0 < 4294967296, 0 < 4294967296, bx s < modN 1, false = false], .tup [P3 (fdX (bx s)) (fdY (bx s) true) false, .one (.i (fdE (bx s)))]) := by kernel_rfl
theorem r35b0 (s : ByteArray) : callR (mkE L35 S35) 1000 35 [sS s] [false, false, false, false] =
  some ([(!decide ((s.size : Int) = 33)) = false, (0 : Int) ≤ 33 ∧ (33 : Int) ≤ (s.size : Int), (0 : Int) ≤ 1 ∧ (1 : Int) ≤ ((33 : Nat) : Int), (s.extract 1 33).size = 32, (0 : Int) ≤ 0 ∧ (0 : Int) < (s.size : Int), decide (k0 s = 2) = false, (0 : Int) ≤ 0 ∧ (0 : Int) < (s.size : Int), decide (k0 s = 3) = false, decide ((s.size : Int) = 65) = false], .tup [zSp, .one (.i 6)]) := by kernel_rfl
theorem r35e2 (s : ByteArray) : callR (mkE L35 S35) 1000 35 [sS s] [true, false, true, true, false] =
  some ([(!decide ((s.size : Int) = 33)) = true, (!decide ((s.size : Int) = 65)) = false, (0 : Int) ≤ 33 ∧ (33 : Int) ≤ (s.size : Int), (0 : Int) ≤ 1 ∧ (1 : Int) ≤ ((33 : Nat) : Int), (s.extract 1 33).size = 32, (0 : Int) ≤ 0 ∧ (0 : Int) < (s.size : Int), decide (k0 s = 2) = true, decide ((s.size : Int) = 65) = true, (0 : Int) ≤ 33 ∧ (33 : Int) ≤ (s.size : Int), (s.extract 33 s.size).size = 32, (0 : Int) ≤ 0 ∧ (0 : Int) < (s.size : Int), decide (k0 s = 4) = false], .tup [zSp, .one (.i 6)]) := by kernel_rfl
theorem r35e3 (s : ByteArray) : callR (mkE L35 S35) 1000 35 [sS s] [true, false, false, true, true, false] =
  some ([(!decide ((s.size : Int) = 33)) = true, (!decide ((s.size : Int) = 65)) = false, (0 : Int) ≤ 33 ∧ (33 : Int) ≤ (s.size : Int), (0 : Int) ≤ 1 ∧ (1 : Int) ≤ ((33 : Nat) : Int), (s.extract 1 33).size = 32, (0 : Int) ≤ 0 ∧ (0 : Int) < (s.size : Int), decide (k0 s = 2) = false, (0 : Int) ≤ 0 ∧ (0 : Int) < (s.size : Int), decide (k0 s = 3) = true, decide ((s.size : Int) = 65) = true, (0 : Int) ≤ 33 ∧ (33 : Int) ≤ (s.size : Int), (s.extract 33 s.size).size = 32, (0 : Int) ≤ 0 ∧ (0 : Int) < (s.size : Int), decide (k0 s = 4) = false], .tup [zSp, .one (.i 6)]) := by kernel_rfl
theorem r35e0 (s : ByteArray) : callR (mkE L35 S35) 1000 35 [sS s] [true, false, false, false, true, false] =
  some ([(!decide ((s.size : Int) = 33)) = true, (!decide ((s.size : Int) = 65)) = false, (0 : Int) ≤ 33 ∧ (33 : Int) ≤ (s.size : Int), (0 : Int) ≤ 1 ∧ (1 : Int) ≤ ((33 : Nat) : Int), (s.extract 1 33).size = 32, (0 : Int) ≤ 0 ∧ (0 : Int) < (s.size : Int), decide (k0 s = 2) = false, (0 : Int) ≤ 0 ∧ (0 : Int) < (s.size : Int), decide (k0 s = 3) = false, decide ((s.size : Int) = 65) = true, (0 : Int) ≤ 33 ∧ (33 : Int) ≤ (s.size : Int), (s.extract 33 s.size).size = 32, (0 : Int) ≤ 0 ∧ (0 : Int) < (s.size : Int), decide (k0 s = 4) = false], .tup [zSp, .one (.i 6)]) := by kernel_rfl
theorem r35f (s : ByteArray) : callR (mkE L35 S35) 1000 35 [sS s] [true, false, false, false, true, true, false] =
  some ([(!decide ((s.size : Int) = 33)) = true, (!decide ((s.size : Int) = 65)) = false, (0 : Int) ≤ 33 ∧ (33 : Int) ≤ (s.size : Int), (0 : Int) ≤ 1 ∧ (1 : Int) ≤ ((33 : Nat) : Int), (s.extract 1 33).size = 32, (0 : Int) ≤ 0 ∧ (0 : Int) < (s.size : Int), decide (k0 s = 2) = false, (0 : Int) ≤ 0 ∧ (0 : Int) < (s.size : Int), decide (k0 s = 3) = false, decide ((s.size : Int) = 65) = true, (0 : Int) ≤ 33 ∧ (33 : Int) ≤ (s.size : Int), (s.extract 33 s.size).size = 32, (0 : Int) ≤ 0 ∧ (0 : Int) < (s.size : Int), decide (k0 s = 4) = true, ok1 1 (bx s) = false, (bx s) < 4294967296 ^ 8], .tup [zSp, .one (.i 6)]) := by kernel_rfl
theorem r35g (s : ByteArray) : callR (mkE L35 S35) 1000 35 [sS s] [true, false, false, false, true, true, true, false] =
  some ([(!decide ((s.size : Int) = 33)) = true, (!decide ((s.size : Int) = 65)) = false, (0 : Int) ≤ 33 ∧ (33 : Int) ≤ (s.size : Int), (0 : Int) ≤ 1 ∧ (1 : Int) ≤ ((33 : Nat) : Int), (s.extract 1 33).size = 32, (0 : Int) ≤ 0 ∧ (0 : Int) < (s.size : Int), decide (k0 s = 2) = false, (0 : Int) ≤ 0 ∧ (0 : Int) < (s.size : Int), decide (k0 s = 3) = false, decide ((s.size : Int) = 65) = true, (0 : Int) ≤ 33 ∧ (33 : Int) ≤ (s.size : Int), (s.extract 33 s.size).size = 32, (0 : Int) ≤ 0 ∧ (0 : Int) < (s.size : Int), decide (k0 s = 4) = true, ok1 1 (bx s) = true, (bx s) < 4294967296 ^ 8, ok1 1 (yb s) = false, (yb s) < 4294967296 ^ 8], .tup [zSp, .one (.i 6)]) := by kernel_rfl
theorem r35h (s : ByteArray) : callR (mkE L35 S35) 1000 35 [sS s] [true, false, false, false, true, true, true, true, false, false] =
  some ([(!decide ((s.size : Int) = 33)) = true, (!decide ((s.size : Int) = 65)) = false, (0 : Int) ≤ 33 ∧ (33 : Int) ≤ (s.size : Int), (0 : Int) ≤ 1 ∧ (1 : Int) ≤ ((33 : Nat) : Int), (s.extract 1 33).size = 32, (0 : Int) ≤ 0 ∧ (0 : Int) < (s.size : Int), decide (k0 s = 2) = false, (0 : Int) ≤ 0 ∧ (0 : Int) < (s.size : Int), decide (k0 s = 3) = false, decide ((s.size : Int) = 65) = true, (0 : Int) ≤ 33 ∧ (33 : Int) ≤ (s.size : Int), (s.extract 33 s.size).size = 32, (0 : Int) ≤ 0 ∧ (0 : Int) < (s.size : Int), decide (k0 s = 4) = true, ok1 1 (bx s) = true, (bx s) < 4294967296 ^ 8, ok1 1 (yb s) = true, (yb s) < 4294967296 ^ 8, decide ((s.size : Int) = 33) = false, onS (bx s) (yb s) false = false, (bx s) < 4294967296 ^ 8, (yb s) < 4294967296 ^ 8], .tup [zSp, .one (.i 7)]) := by kernel_rfl
theorem r35i (s : ByteArray) : callR (mkE L35 S35) 1000 35 [sS s] [true, false, false, false, true, true, true, true, false, true] =
  some ([(!decide ((s.size : Int) = 33)) = true, (!decide ((s.size : Int) = 65)) = false, (0 : Int) ≤ 33 ∧ (33 : Int) ≤ (s.size : Int), (0 : Int) ≤ 1 ∧ (1 : Int) ≤ ((33 : Nat) : Int), (s.extract 1 33).size = 32, (0 : Int) ≤ 0 ∧ (0 : Int) < (s.size : Int), decide (k0 s = 2) = false, (0 : Int) ≤ 0 ∧ (0 : Int) < (s.size : Int), decide (k0 s = 3) = false, decide ((s.size : Int) = 65) = true, (0 : Int) ≤ 33 ∧ (33 : Int) ≤ (s.size : Int), (s.extract 33 s.size).size = 32, (0 : Int) ≤ 0 ∧ (0 : Int) < (s.size : Int), decide (k0 s = 4) = true, ok1 1 (bx s) = true, (bx s) < 4294967296 ^ 8, ok1 1 (yb s) = true, (yb s) < 4294967296 ^ 8, decide ((s.size : Int) = 33) = false, onS (bx s) (yb s) false = true, (bx s) < 4294967296 ^ 8, (yb s) < 4294967296 ^ 8], .tup [P3 (bx s) (yb s) false, .one (.i 0)]) := by kernel_rfl
end Go.Ev

namespace Go.Ev
open Go Go.Proofs Go.RowKit
noncomputable def wE (s : ByteArray) : Int :=
  bif decide (s.size = 33) then (bif (decide (k0 s = 2) || decide (k0 s = 3)) && decide (bx s < modN 1) then fdE (bx s) else 6)
  else bif decide (s.size = 65) then (bif decide (k0 s = 4) && (decide (bx s < modN 1) && decide (yb s < modN 1)) then (bif onS (bx s) (yb s) false then 0 else 7) else 6)
  else 1
noncomputable def wX (s : ByteArray) : Nat := bif decide (wE s = 0) then bx s else 0
noncomputable def wY (s : ByteArray) : Nat := bif decide (wE s = 0) then (bif decide (s.size = 33) then fdY (bx s) (decide (2 < k0 s)) else yb s) else 0
theorem ok1w {x : Nat} : ok1 1 x = decide (x < modN 1) := by
  unfold ok1 lessB
  rw [show modB 1 = true from rfl, Bool.true_and]
  rfl
theorem ex_size {s : ByteArray} (h : 33 ≤ s.size) : (s.extract 1 33).size = 32 := by rw [ByteArray.size_extract]; omega
theorem ex_size2 {s : ByteArray} (h : s.size = 65) : (s.extract 33 s.size).size = 32 := by rw [ByteArray.size_extract]; omega
theorem wXY_err {s : ByteArray} (h : wE s ≠ 0) : wX s = 0 ∧ wY s = 0 := by
  have hd : decide (wE s = 0) = false := decide_eq_false h
  constructor
  · unfold wX; rw [hd, cond_false]
  · unfold wY; rw [hd, cond_false]
theorem wE_form {s : ByteArray} (h1 : s.size ≠ 33) (h2 : s.size ≠ 65) : wE s = 1 := by
  unfold wE; rw [decide_eq_false h1, decide_eq_false h2, cond_false, cond_false]
theorem wE_33 {s : ByteArray} (h : s.size = 33) : wE s = bif (decide (k0 s = 2) || decide (k0 s = 3)) && decide (bx s < modN 1) then fdE (bx s) else 6 := by
  unfold wE; rw [decide_eq_true h, cond_true]
theorem wE_65 {s : ByteArray} (h : s.size = 65) : wE s = bif decide (k0 s = 4) && (decide (bx s < modN 1) && decide (yb s < modN 1)) then (bif onS (bx s) (yb s) false then 0 else 7) else 6 := by
  unfold wE; rw [decide_eq_false (show ¬ s.size = 33 by omega), decide_eq_true h, cond_false, cond_true]
theorem res33 {s : ByteArray} (h : s.size = 33) {o : Bool} (ho : decide (2 < k0 s) = o) (he : wE s = fdE (bx s)) : wX s = fdX (bx s) ∧ wY s = fdY (bx s) o := by
  unfold wX wY
  rw [he, decide_eq_true h, cond_true, ho]
  unfold fdE fdX fdY
  cases hr : rtS (bx s) with
  | true => rw [cond_true, cond_true, decide_eq_true rfl, cond_true, cond_true, cond_true]; exact ⟨rfl, rfl⟩
  | false => rw [cond_false, cond_false, decide_eq_false (by decide), cond_false, cond_false, cond_false]; exact ⟨rfl, rfl⟩
end Go.Ev

namespace Go.Ev
open Go Go.Proofs Go.RowKit
def gRt1 : List Val → Option (List Prop × AV)
  | [.z z, .n a] => some ([z = 1, a < modN 1], .tup [N8 (bif sqB 1 a then evC 1 a else 0), .one (.v (.bool (sqB 1 a)))])
  | _ => none
theorem ct65u : CTok ⟨65, fnS [.z, .s [.n8]] gRt1⟩ := ctS (by
  intro xs ob r hb h ho
  unfold gRt1 at h
  split at h
  · simp only [Option.some.injEq, Prod.mk.injEq] at h
    obtain ⟨rfl, rfl⟩ := h
    obtain ⟨rfl, ha, _⟩ := ho
    exact spec23_1 _ ha
  · simp at h)
noncomputable def L36 : List CT := ⟨65, fnS [.z, .s [.n8]] gRt1⟩ :: ⟨64, fBe64⟩ :: L3a
theorem L36_ok : AllCT L36 := ⟨ct65u, ct64b, L3a_ok⟩
noncomputable def S36 : FuncId → Nat → Bool := fun f t => match f with | 36 => memN t [11, 15, 19, 23, 26, 30, 31, 43, 48, 49, 52, 53, 73, 78, 79] | 45 => memN t [21] | _ => false
noncomputable def ixS (s : ByteArray) : Nat := inN (modN 1) (bx s)
noncomputable def aR (s : ByteArray) : Nat := outN (modN 1) (sqJ (ixS s))
noncomputable def evR (s : ByteArray) : Nat := bif sqB 1 (aR s) then evC 1 (aR s) else 0
theorem r36a (s : ByteArray) : callR (mkE L36 S36) 1000 36 [sS s] [true, true] =
  some ([(!decide ((s.size : Int) = 33)) = true, (!decide ((s.size : Int) = 65)) = true], .tup [zSp, .one (.i 1)]) := by kernel_rfl
theorem r36c2 (s : ByteArray) : callR (mkE L36 S36) 1000 36 [sS s] [false, false, false, false] =
  some ([(!decide ((s.size : Int) = 33)) = false, (0 : Int) ≤ 33 ∧ (33 : Int) ≤ (s.size : Int), (0 : Int) ≤ 1 ∧ (1 : Int) ≤ ((33 : Nat) : Int), (s.extract 1 33).size = 32, decide ((s.size : Int) = 65) = false, (0 : Int) ≤ 0 ∧ (0 : Int) < (s.size : Int), (!decide (k0 s = 2)) = false, (0 : Int) ≤ 1 ∧ (1 : Int) < 4, decide (bx s < modN 1) = false, bx s < 4294967296 ^ 8, modN 1 < 4294967296 ^ 8], .tup [zSp, .one (.i 6)]) := by kernel_rfl
theorem r36e2 (s : ByteArray) : callR (mkE L36 S36) 1000 36 [sS s] [false, false, false, true, false] =
  some ([(!decide ((s.size : Int) = 33)) = false, (0 : Int) ≤ 33 ∧ (33 : Int) ≤ (s.size : Int), (0 : Int) ≤ 1 ∧ (1 : Int) ≤ ((33 : Nat) : Int), (s.extract 1 33).size = 32, decide ((s.size : Int) = 65) = false, (0 : Int) ≤ 0 ∧ (0 : Int) < (s.size : Int), (!decide (k0 s = 2)) = false, (0 : Int) ≤ 1 ∧ (1 : Int) < 4, decide (bx s < modN 1) = true, bx s < 4294967296 ^ 8, modN 1 < 4294967296 ^ 8, (0 : Int) ≤ 1 ∧ (1 : Int) < 4, okR (modN 1) (facR (limb (modN 1) 0)) (r2N (modN 1)), bx s < modN 1, bx s < 4294967296 ^ 8, modN 1 < 4294967296 ^ 8, facR (limb (modN 1) 0) < 4294967296, r2N (modN 1) < 4294967296 ^ 8, ixS s < 4294967296 ^ 8, modN 1 = modN 1, facR (limb (modN 1) 0) = facR (limb (modN 1) 0), r2N (modN 1) = r2N (modN 1), ixS s < modN 1, okR (modN 1) (facR (limb (modN 1) 0)) (r2N (modN 1)), sqJ (ixS s) < modN 1, sqJ (ixS s) < 4294967296 ^ 8, aR s < 4294967296 ^ 8, (1 : Int) = 1, aR s < modN 1, sqB 1 (aR s) = false], .tup [zSp, .one (.i 7)]) := by kernel_rfl
theorem r36d2 (s : ByteArray) : callR (mkE L36 S36) 1000 36 [sS s] [false, false, false, true, true, false] =
  some ([(!decide ((s.size : Int) = 33)) = false, (0 : Int) ≤ 33 ∧ (33 : Int) ≤ (s.size : Int), (0 : Int) ≤ 1 ∧ (1 : Int) ≤ ((33 : Nat) : Int), (s.extract 1 33).size = 32, decide ((s.size : Int) = 65) = false, (0 : Int) ≤ 0 ∧ (0 : Int) < (s.size : Int), (!decide (k0 s = 2)) = false, (0 : Int) ≤ 1 ∧ (1 : Int) < 4, decide (bx s < modN 1) = true, bx s < 4294967296 ^ 8, modN 1 < 4294967296 ^ 8, (0 : Int) ≤ 1 ∧ (1 : Int) < 4, okR (modN 1) (facR (limb (modN 1) 0)) (r2N (modN 1)), bx s < modN 1, bx s < 4294967296 ^ 8, modN 1 < 4294967296 ^ 8, facR (limb (modN 1) 0) < 4294967296, r2N (modN 1) < 4294967296 ^ 8, ixS s < 4294967296 ^ 8, modN 1 = modN 1, facR (limb (modN 1) 0) = facR (limb (modN 1) 0), r2N (modN 1) = r2N (modN 1), ixS s < modN 1, okR (modN 1) (facR (limb (modN 1) 0)) (r2N (modN 1)), sqJ (ixS s) < modN 1, sqJ (ixS s) < 4294967296 ^ 8, aR s < 4294967296 ^ 8, (1 : Int) = 1, aR s < modN 1, sqB 1 (aR s) = true, (0 : Int) ≤ 0 ∧ (0 : Int) < (s.size : Int), decide (k0 s = 3) = false], .tup [P3 (bx s) (evR s) false, .one (.i 0)]) := by kernel_rfl
theorem r36c3 (s : ByteArray) : callR (mkE L36 S36) 1000 36 [sS s] [false, false, true, false, false] =
  some ([(!decide ((s.size : Int) = 33)) = false, (0 : Int) ≤ 33 ∧ (33 : Int) ≤ (s.size : Int), (0 : Int) ≤ 1 ∧ (1 : Int) ≤ ((33 : Nat) : Int), (s.extract 1 33).size = 32, decide ((s.size : Int) = 65) = false, (0 : Int) ≤ 0 ∧ (0 : Int) < (s.size : Int), (!decide (k0 s = 2)) = true, (0 : Int) ≤ 0 ∧ (0 : Int) < (s.size : Int), (!decide (k0 s = 3)) = false, (0 : Int) ≤ 1 ∧ (1 : Int) < 4, decide (bx s < modN 1) = false, bx s < 4294967296 ^ 8, modN 1 < 4294967296 ^ 8], .tup [zSp, .one (.i 6)]) := by kernel_rfl
theorem r36e3 (s : ByteArray) : callR (mkE L36 S36) 1000 36 [sS s] [false, false, true, false, true, false] =
  some ([(!decide ((s.size : Int) = 33)) = false, (0 : Int) ≤ 33 ∧ (33 : Int) ≤ (s.size : Int), (0 : Int) ≤ 1 ∧ (1 : Int) ≤ ((33 : Nat) : Int), (s.extract 1 33).size = 32, decide ((s.size : Int) = 65) = false, (0 : Int) ≤ 0 ∧ (0 : Int) < (s.size : Int), (!decide (k0 s = 2)) = true, (0 : Int) ≤ 0 ∧ (0 : Int) < (s.size : Int), (!decide (k0 s = 3)) = false, (0 : Int) ≤ 1 ∧ (1 : Int) < 4, decide (bx s < modN 1) = true, bx s < 4294967296 ^ 8, modN 1 < 4294967296 ^ 8, (0 : Int) ≤ 1 ∧ (1 : Int) < 4, okR (modN 1) (facR (limb (modN 1) 0)) (r2N (modN 1)), bx s < modN 1, bx s < 4294967296 ^ 8, modN 1 < 4294967296 ^ 8, facR (limb (modN 1) 0) < 4294967296, r2N (modN 1) < 4294967296 ^ 8, ixS s < 4294967296 ^ 8, modN 1 = modN 1, facR (limb (modN 1) 0) = facR (limb (modN 1) 0), r2N (modN 1) = r2N (modN 1), ixS s < modN 1, okR (modN 1) (facR (limb (modN 1) 0)) (r2N (modN 1)), sqJ (ixS s) < modN 1, sqJ (ixS s) < 4294967296 ^ 8, aR s < 4294967296 ^ 8, (1 : Int) = 1, aR s < modN 1, sqB 1 (aR s) = false], .tup [zSp, .one (.i 7)]) := by kernel_rfl
theorem r36d3 (s : ByteArray) : callR (mkE L36 S36) 1000 36 [sS s] [false, false, true, false, true, true, true] =
  some ([(!decide ((s.size : Int) = 33)) = false, (0 : Int) ≤ 33 ∧ (33 : Int) ≤ (s.size : Int), (0 : Int) ≤ 1 ∧ (1 : Int) ≤ ((33 : Nat) : Int), (s.extract 1 33).size = 32, decide ((s.size : Int) = 65) = false, (0 : Int) ≤ 0 ∧ (0 : Int) < (s.size : Int), (!decide (k0 s = 2)) = true, (0 : Int) ≤ 0 ∧ (0 : Int) < (s.size : Int), (!decide (k0 s = 3)) = false, (0 : Int) ≤ 1 ∧ (1 : Int) < 4, decide (bx s < modN 1) = true, bx s < 4294967296 ^ 8, modN 1 < 4294967296 ^ 8, (0 : Int) ≤ 1 ∧ (1 : Int) < 4, okR (modN 1) (facR (limb (modN 1) 0)) (r2N (modN 1)), bx s < modN 1, bx s < 4294967296 ^ 8, modN 1 < 4294967296 ^ 8, facR (limb (modN 1) 0) < 4294967296, r2N (modN 1) < 4294967296 ^ 8, ixS s < 4294967296 ^ 8, modN 1 = modN 1, facR (limb (modN 1) 0) = facR (limb (modN 1) 0), r2N (modN 1) = r2N (modN 1), ixS s < modN 1, okR (modN 1) (facR (limb (modN 1) 0)) (r2N (modN 1)), sqJ (ixS s) < modN 1, sqJ (ixS s) < 4294967296 ^ 8, aR s < 4294967296 ^ 8, (1 : Int) = 1, aR s < modN 1, sqB 1 (aR s) = true, (0 : Int) ≤ 0 ∧ (0 : Int) < (s.size : Int), decide (k0 s = 3) = true, okR (modN 1) (facR (limb (modN 1) 0)) (r2N (modN 1)), 0 < modN 1, evR s < modN 1, 0 < 4294967296, 0 < 4294967296, 0 < 4294967296, 0 < 4294967296, 0 < 4294967296, 0 < 4294967296, 0 < 4294967296, 0 < 4294967296, evR s < 4294967296 ^ 8], .tup [P3 (bx s) (subM (modN 1) 0 (evR s)) false, .one (.i 0)]) := by kernel_rfl
theorem r36b0 (s : ByteArray) : callR (mkE L36 S36) 1000 36 [sS s] [false, false, true, true] =
  some ([(!decide ((s.size : Int) = 33)) = false, (0 : Int) ≤ 33 ∧ (33 : Int) ≤ (s.size : Int), (0 : Int) ≤ 1 ∧ (1 : Int) ≤ ((33 : Nat) : Int), (s.extract 1 33).size = 32, decide ((s.size : Int) = 65) = false, (0 : Int) ≤ 0 ∧ (0 : Int) < (s.size : Int), (!decide (k0 s = 2)) = true, (0 : Int) ≤ 0 ∧ (0 : Int) < (s.size : Int), (!decide (k0 s = 3)) = true], .tup [zSp, .one (.i 6)]) := by kernel_rfl
theorem r36f (s : ByteArray) : callR (mkE L36 S36) 1000 36 [sS s] [true, false, true, true] =
  some ([(!decide ((s.size : Int) = 33)) = true, (!decide ((s.size : Int) = 65)) = false, (0 : Int) ≤ 33 ∧ (33 : Int) ≤ (s.size : Int), (0 : Int) ≤ 1 ∧ (1 : Int) ≤ ((33 : Nat) : Int), (s.extract 1 33).size = 32, decide ((s.size : Int) = 65) = true, (0 : Int) ≤ 33 ∧ (33 : Int) ≤ (s.size : Int), (s.extract 33 s.size).size = 32, (0 : Int) ≤ 0 ∧ (0 : Int) < (s.size : Int), (!decide (k0 s = 4)) = true], .tup [zSp, .one (.i 6)]) := by kernel_rfl
theorem r36g (s : ByteArray) : callR (mkE L36 S36) 1000 36 [sS s] [true, false, true, false, false] =
  some ([(!decide ((s.size : Int) = 33)) = true, (!decide ((s.size : Int) = 65)) = false, (0 : Int) ≤ 33 ∧ (33 : Int) ≤ (s.size : Int), (0 : Int) ≤ 1 ∧ (1 : Int) ≤ ((33 : Nat) : Int), (s.extract 1 33).size = 32, decide ((s.size : Int) = 65) = true, (0 : Int) ≤ 33 ∧ (33 : Int) ≤ (s.size : Int), (s.extract 33 s.size).size = 32, (0 : Int) ≤ 0 ∧ (0 : Int) < (s.size : Int), (!decide (k0 s = 4)) = false, (0 : Int) ≤ 1 ∧ (1 : Int) < 4, decide (bx s < modN 1) = false, bx s < 4294967296 ^ 8, modN 1 < 4294967296 ^ 8], .tup [zSp, .one (.i 6)]) := by kernel_rfl
theorem r36h (s : ByteArray) : callR (mkE L36 S36) 1000 36 [sS s] [true, false, true, false, true, false] =
  some ([(!decide ((s.size : Int) = 33)) = true, (!decide ((s.size : Int) = 65)) = false, (0 : Int) ≤ 33 ∧ (33 : Int) ≤ (s.size : Int), (0 : Int) ≤ 1 ∧ (1 : Int) ≤ ((33 : Nat) : Int), (s.extract 1 33).size = 32, decide ((s.size : Int) = 65) = true, (0 : Int) ≤ 33 ∧ (33 : Int) ≤ (s.size : Int), (s.extract 33 s.size).size = 32, (0 : Int) ≤ 0 ∧ (0 : Int) < (s.size : Int), (!decide (k0 s = 4)) = false, (0 : Int) ≤ 1 ∧ (1 : Int) < 4, decide (bx s < modN 1) = true, bx s < 4294967296 ^ 8, modN 1 < 4294967296 ^ 8, (0 : Int) ≤ 1 ∧ (1 : Int) < 4, decide (yb s < modN 1) = false, yb s < 4294967296 ^ 8, modN 1 < 4294967296 ^ 8], .tup [zSp, .one (.i 6)]) := by kernel_rfl
theorem r36i (s : ByteArray) : callR (mkE L36 S36) 1000 36 [sS s] [true, false, true, false, true, true, false] =
  some ([(!decide ((s.size : Int) = 33)) = true, (!decide ((s.size : Int) = 65)) = false, (0 : Int) ≤ 33 ∧ (33 : Int) ≤ (s.size : Int), (0 : Int) ≤ 1 ∧ (1 : Int) ≤ ((33 : Nat) : Int), (s.extract 1 33).size = 32, decide ((s.size : Int) = 65) = true, (0 : Int) ≤ 33 ∧ (33 : Int) ≤ (s.size : Int), (s.extract 33 s.size).size = 32, (0 : Int) ≤ 0 ∧ (0 : Int) < (s.size : Int), (!decide (k0 s = 4)) = false, (0 : Int) ≤ 1 ∧ (1 : Int) < 4, decide (bx s < modN 1) = true, bx s < 4294967296 ^ 8, modN 1 < 4294967296 ^ 8, (0 : Int) ≤ 1 ∧ (1 : Int) < 4, decide (yb s < modN 1) = true, yb s < 4294967296 ^ 8, modN 1 < 4294967296 ^ 8, onS (bx s) (yb s) false = false, bx s < 4294967296 ^ 8, yb s < 4294967296 ^ 8], .tup [zSp, .one (.i 7)]) := by kernel_rfl
theorem r36j (s : ByteArray) : callR (mkE L36 S36) 1000 36 [sS s] [true, false, true, false, true, true, true] =
  some ([(!decide ((s.size : Int) = 33)) = true, (!decide ((s.size : Int) = 65)) = false, (0 : Int) ≤ 33 ∧ (33 : Int) ≤ (s.size : Int), (0 : Int) ≤ 1 ∧ (1 : Int) ≤ ((33 : Nat) : Int), (s.extract 1 33).size = 32, decide ((s.size : Int) = 65) = true, (0 : Int) ≤ 33 ∧ (33 : Int) ≤ (s.size : Int), (s.extract 33 s.size).size = 32, (0 : Int) ≤ 0 ∧ (0 : Int) < (s.size : Int), (!decide (k0 s = 4)) = false, (0 : Int) ≤ 1 ∧ (1 : Int) < 4, decide (bx s < modN 1) = true, bx s < 4294967296 ^ 8, modN 1 < 4294967296 ^ 8, (0 : Int) ≤ 1 ∧ (1 : Int) < 4, decide (yb s < modN 1) = true, yb s < 4294967296 ^ 8, modN 1 < 4294967296 ^ 8, onS (bx s) (yb s) false = true, bx s < 4294967296 ^ 8, yb s < 4294967296 ^ 8], .tup [P3 (bx s) (yb s) false, .one (.i 0)]) := by kernel_rfl
end Go.Ev

namespace Go.Ev
open Go Go.Proofs Go.RowKit
theorem beS_lt {s : ByteArray} (h : s.size = 32) : beS s < 4294967296 ^ 8 := by
  have := leS_lt (revS s)
  rw [revS_size, h] at this
  exact Nat.lt_of_lt_of_le this (by decide)
theorem aR_eq (s : ByteArray) : aR s = sqP (bx s) := by
  unfold aR ixS
  rw [sqJ_in, out_in (modN_lt 1) (good_fac (by decide)) (sqP_lt _)]
theorem bbT {a b : Bool} {x y : Int} (ha : a = true) (hb : b = true) : (bif a && b then x else y) = x := by rw [ha, hb]; rfl
theorem facR_lt : facR (limb (modN 1) 0) < 4294967296 := by decide +kernel
theorem r2_lt : r2N (modN 1) < 4294967296 ^ 8 := L8 (okR_K (k := 1) (by decide)).2.2.1
theorem spec35u (s : ByteArray) : Spec 35 [sS s] (.tup [P3 (wX s) (wY s) false, .one (.i (wE s))]) := by
  have hE0 : ∀ {z : Int}, wE s = z → z ≠ 0 → wX s = 0 ∧ wY s = 0 := fun h h0 => wXY_err (by rw [h]; exact h0)
  by_cases h : s.size = 33
  · have BX8 : bx s < 4294967296 ^ 8 := beS_lt (ex_size (by omega))
    have six : (bif (decide (k0 s = 2) || decide (k0 s = 3)) && decide (bx s < modN 1) then fdE (bx s) else 6) = (6 : Int) → Spec 35 [sS s] (.tup [P3 0 0 false, .one (.i 6)]) → Spec 35 [sS s] (.tup [P3 (wX s) (wY s) false, .one (.i (wE s))]) := by
      intro e hs
      have e := (wE_33 h).trans e
      obtain ⟨e1, e2⟩ := hE0 e (by decide)
      rw [e, e1, e2]
      exact hs
    by_cases hk : k0 s = 2
    · by_cases hx : bx s < modN 1
      · have he : wE s = fdE (bx s) := (wE_33 h).trans (bbT (by rw [decide_eq_true hk, Bool.true_or]) (decide_eq_true hx))
        obtain ⟨e1, e2⟩ := res33 h (o := false) (decide_eq_false (by omega)) he
        rw [he, e1, e2]
        exact spec_run (envMk L35_ok S35) rfl (r35d2 s) ⟨by rw [decide_eq_true (show (s.size : Int) = 33 by omega)]; rfl, by omega, by decide, ex_size (by omega), by omega, decide_eq_true hk, decide_eq_false (show ¬ (s.size : Int) = 65 by omega), by rw [ok1w]; exact decide_eq_true hx, BX8, by rw [ok1w]; exact decide_eq_true (modN_pos 1), by decide, by decide, by decide, by decide, by decide, by decide, by decide, by decide, decide_eq_true (show (s.size : Int) = 33 by omega), by omega, (decide_eq_false (by omega)), BX8, by decide, by decide, by decide, by decide, by decide, by decide, by decide, by decide, hx, rfl, trivial⟩ rfl rfl
      · exact six (by rw [decide_eq_true hk, decide_eq_false hx]; simp only [Bool.and_false, cond_false]) ((spec_run (envMk L35_ok S35) rfl (r35c2 s) ⟨by rw [decide_eq_true (show (s.size : Int) = 33 by omega)]; rfl, by omega, by decide, ex_size (by omega), by omega, decide_eq_true hk, decide_eq_false (show ¬ (s.size : Int) = 65 by omega), by rw [ok1w]; exact decide_eq_false hx, BX8, trivial⟩ rfl rfl).congr (fun _ => rfl) (fun φ => zerr_conc φ 6))
    · have hk2 := hk
      by_cases hk : k0 s = 3
      · by_cases hx : bx s < modN 1
        · have he : wE s = fdE (bx s) := (wE_33 h).trans (bbT (by rw [decide_eq_true hk, Bool.or_true]) (decide_eq_true hx))
          obtain ⟨e1, e2⟩ := res33 h (o := true) (decide_eq_true (by omega)) he
          rw [he, e1, e2]
          exact spec_run (envMk L35_ok S35) rfl (r35d3 s) ⟨by rw [decide_eq_true (show (s.size : Int) = 33 by omega)]; rfl, by omega, by decide, ex_size (by omega), by omega, decide_eq_false (by omega), by omega, decide_eq_true hk, decide_eq_false (show ¬ (s.size : Int) = 65 by omega), by rw [ok1w]; exact decide_eq_true hx, BX8, by rw [ok1w]; exact decide_eq_true (modN_pos 1), by decide, by decide, by decide, by decide, by decide, by decide, by decide, by decide, decide_eq_true (show (s.size : Int) = 33 by omega), by omega, (decide_eq_true (by omega)), BX8, by decide, by decide, by decide, by decide, by decide, by decide, by decide, by decide, hx, rfl, trivial⟩ rfl rfl
        · exact six (by rw [decide_eq_true hk, decide_eq_false hx]; simp only [Bool.and_false, cond_false]) ((spec_run (envMk L35_ok S35) rfl (r35c3 s) ⟨by rw [decide_eq_true (show (s.size : Int) = 33 by omega)]; rfl, by omega, by decide, ex_size (by omega), by omega, decide_eq_false (by omega), by omega, decide_eq_true hk, decide_eq_false (show ¬ (s.size : Int) = 65 by omega), by rw [ok1w]; exact decide_eq_false hx, BX8, trivial⟩ rfl rfl).congr (fun _ => rfl) (fun φ => zerr_conc φ 6))
      · have hk3 := hk
        exact six (by rw [decide_eq_false hk2, decide_eq_false hk3]; simp only [Bool.or_false, Bool.false_and, cond_false]) ((spec_run (envMk L35_ok S35) rfl (r35b0 s) ⟨by rw [decide_eq_true (show (s.size : Int) = 33 by omega)]; rfl, by omega, by decide, ex_size (by omega), by omega, decide_eq_false hk2, by omega, decide_eq_false hk3, decide_eq_false (show ¬ (s.size : Int) = 65 by omega), trivial⟩ rfl rfl).congr (fun _ => rfl) (fun φ => zerr_conc φ 6))
  · by_cases h6 : s.size = 65
    · have BX8 : bx s < 4294967296 ^ 8 := beS_lt (ex_size (by omega))
      have YB8 : yb s < 4294967296 ^ 8 := beS_lt (ex_size2 h6)
      have six : (bif decide (k0 s = 4) && (decide (bx s < modN 1) && decide (yb s < modN 1)) then (bif onS (bx s) (yb s) false then 0 else 7) else 6) = (6 : Int) → Spec 35 [sS s] (.tup [P3 0 0 false, .one (.i 6)]) → Spec 35 [sS s] (.tup [P3 (wX s) (wY s) false, .one (.i (wE s))]) := by
        intro e hs
        have e := (wE_65 h6).trans e
        obtain ⟨e1, e2⟩ := hE0 e (by decide)
        rw [e, e1, e2]
        exact hs
      by_cases hk4 : k0 s = 4
      · have hk2 : ¬ k0 s = 2 := by omega
        have hk3 : ¬ k0 s = 3 := by omega
        by_cases hx : bx s < modN 1
        · by_cases hyl : yb s < modN 1
          · have e0 : wE s = bif onS (bx s) (yb s) false then 0 else 7 := (wE_65 h6).trans (bbT (decide_eq_true hk4) (by rw [decide_eq_true hx, decide_eq_true hyl]; rfl))
            cases ho : onS (bx s) (yb s) false with
            | false =>
              rw [ho, cond_false] at e0
              obtain ⟨e1, e2⟩ := hE0 e0 (by decide)
              rw [e0, e1, e2]
              exact (spec_run (envMk L35_ok S35) rfl (r35h s) ⟨by rw [decide_eq_false (show ¬ (s.size : Int) = 33 by omega)]; rfl, by rw [decide_eq_true (show (s.size : Int) = 65 by omega)]; rfl, by omega, by decide, ex_size (by omega), by omega, decide_eq_false hk2, by omega, decide_eq_false hk3, decide_eq_true (show (s.size : Int) = 65 by omega), by omega, ex_size2 h6, by omega, decide_eq_true hk4, by rw [ok1w]; exact decide_eq_true hx, BX8, by rw [ok1w]; exact decide_eq_true hyl, YB8, decide_eq_false (show ¬ (s.size : Int) = 33 by omega), ho, BX8, YB8, trivial⟩ rfl rfl).congr (fun _ => rfl) (fun φ => zerr_conc φ 7)
            | true =>
              rw [ho, cond_true] at e0
              have e1 : wX s = bx s := by unfold wX; rw [decide_eq_true e0, cond_true]
              have e2 : wY s = yb s := by unfold wY; rw [decide_eq_true e0, cond_true, decide_eq_false h, cond_false]
              rw [e0, e1, e2]
              exact spec_run (envMk L35_ok S35) rfl (r35i s) ⟨by rw [decide_eq_false (show ¬ (s.size : Int) = 33 by omega)]; rfl, by rw [decide_eq_true (show (s.size : Int) = 65 by omega)]; rfl, by omega, by decide, ex_size (by omega), by omega, decide_eq_false hk2, by omega, decide_eq_false hk3, decide_eq_true (show (s.size : Int) = 65 by omega), by omega, ex_size2 h6, by omega, decide_eq_true hk4, by rw [ok1w]; exact decide_eq_true hx, BX8, by rw [ok1w]; exact decide_eq_true hyl, YB8, decide_eq_false (show ¬ (s.size : Int) = 33 by omega), ho, BX8, YB8, trivial⟩ rfl rfl
          · exact six (by rw [decide_eq_false hyl]; simp only [Bool.and_false, cond_false]) ((spec_run (envMk L35_ok S35) rfl (r35g s) ⟨by rw [decide_eq_false (show ¬ (s.size : Int) = 33 by omega)]; rfl, by rw [decide_eq_true (show (s.size : Int) = 65 by omega)]; rfl, by omega, by decide, ex_size (by omega), by omega, decide_eq_false hk2, by omega, decide_eq_false hk3, decide_eq_true (show (s.size : Int) = 65 by omega), by omega, ex_size2 h6, by omega, decide_eq_true hk4, by rw [ok1w]; exact decide_eq_true hx, BX8, by rw [ok1w]; exact decide_eq_false hyl, YB8, trivial⟩ rfl rfl).congr (fun _ => rfl) (fun φ => zerr_conc φ 6))
        · exact six (by rw [decide_eq_false hx]; simp only [Bool.and_false, Bool.false_and, cond_false]) ((spec_run (envMk L35_ok S35) rfl (r35f s) ⟨by rw [decide_eq_false (show ¬ (s.size : Int) = 33 by omega)]; rfl, by rw [decide_eq_true (show (s.size : Int) = 65 by omega)]; rfl, by omega, by decide, ex_size (by omega), by omega, decide_eq_false hk2, by omega, decide_eq_false hk3, decide_eq_true (show (s.size : Int) = 65 by omega), by omega, ex_size2 h6, by omega, decide_eq_true hk4, by rw [ok1w]; exact decide_eq_false hx, BX8, trivial⟩ rfl rfl).congr (fun _ => rfl) (fun φ => zerr_conc φ 6))
      · by_cases hk : k0 s = 2
        · exact six (by rw [decide_eq_false hk4]; simp only [Bool.false_and, cond_false]) ((spec_run (envMk L35_ok S35) rfl (r35e2 s) ⟨by rw [decide_eq_false (show ¬ (s.size : Int) = 33 by omega)]; rfl, by rw [decide_eq_true (show (s.size : Int) = 65 by omega)]; rfl, by omega, by decide, ex_size (by omega), by omega, decide_eq_true hk, decide_eq_true (show (s.size : Int) = 65 by omega), by omega, ex_size2 h6, by omega, decide_eq_false hk4, trivial⟩ rfl rfl).congr (fun _ => rfl) (fun φ => zerr_conc φ 6))
        · have hk2 := hk
          by_cases hk : k0 s = 3
          · exact six (by rw [decide_eq_false hk4]; simp only [Bool.false_and, cond_false]) ((spec_run (envMk L35_ok S35) rfl (r35e3 s) ⟨by rw [decide_eq_false (show ¬ (s.size : Int) = 33 by omega)]; rfl, by rw [decide_eq_true (show (s.size : Int) = 65 by omega)]; rfl, by omega, by decide, ex_size (by omega), by omega, decide_eq_false (by omega), by omega, decide_eq_true hk, decide_eq_true (show (s.size : Int) = 65 by omega), by omega, ex_size2 h6, by omega, decide_eq_false hk4, trivial⟩ rfl rfl).congr (fun _ => rfl) (fun φ => zerr_conc φ 6))
          · have hk3 := hk
            exact six (by rw [decide_eq_false hk4]; simp only [Bool.false_and, cond_false]) ((spec_run (envMk L35_ok S35) rfl (r35e0 s) ⟨by rw [decide_eq_false (show ¬ (s.size : Int) = 33 by omega)]; rfl, by rw [decide_eq_true (show (s.size : Int) = 65 by omega)]; rfl, by omega, by decide, ex_size (by omega), by omega, decide_eq_false hk2, by omega, decide_eq_false hk3, decide_eq_true (show (s.size : Int) = 65 by omega), by omega, ex_size2 h6, by omega, decide_eq_false hk4, trivial⟩ rfl rfl).congr (fun _ => rfl) (fun φ => zerr_conc φ 6))
    · have e := wE_form h h6
      obtain ⟨e1, e2⟩ := hE0 e (by decide)
      rw [e, e1, e2]
      exact (spec_run (envMk L35_ok S35) rfl (r35a s) ⟨by rw [decide_eq_false (show ¬ (s.size : Int) = 33 by omega)]; rfl, by rw [decide_eq_false (show ¬ (s.size : Int) = 65 by omega)]; rfl, trivial⟩ rfl rfl).congr (fun _ => rfl) (fun φ => zerr_conc φ 1)
theorem spec36u (s : ByteArray) : Spec 36 [sS s] (.tup [P3 (wX s) (wY s) false, .one (.i (wE s))]) := by
  have hE0 : ∀ {z : Int}, wE s = z → z ≠ 0 → wX s = 0 ∧ wY s = 0 := fun h h0 => wXY_err (by rw [h]; exact h0)
  by_cases h : s.size = 33
  · have BX8 : bx s < 4294967296 ^ 8 := beS_lt (ex_size (by omega))
    have six : (bif (decide (k0 s = 2) || decide (k0 s = 3)) && decide (bx s < modN 1) then fdE (bx s) else 6) = (6 : Int) → Spec 36 [sS s] (.tup [P3 0 0 false, .one (.i 6)]) → Spec 36 [sS s] (.tup [P3 (wX s) (wY s) false, .one (.i (wE s))]) := by
      intro e hs
      have e := (wE_33 h).trans e
      obtain ⟨e1, e2⟩ := hE0 e (by decide)
      rw [e, e1, e2]
      exact hs
    by_cases hk : k0 s = 2
    · by_cases hx : bx s < modN 1
      · have he : wE s = fdE (bx s) := (wE_33 h).trans (bbT (by rw [decide_eq_true hk, Bool.true_or]) (decide_eq_true hx))
        obtain ⟨e1, e2⟩ := res33 h (o := false) (decide_eq_false (by omega)) he
        rw [he, e1, e2]
        have haR := aR_eq s
        cases hr : rtS (bx s) with
        | false =>
          have e4 : fdX (bx s) = 0 := by unfold fdX; rw [hr, cond_false]
          have e5 : fdY (bx s) false = 0 := by unfold fdY; rw [hr, cond_false]
          have e6 : fdE (bx s) = 7 := by unfold fdE; rw [hr, cond_false]
          rw [e4, e5, e6]
          exact (spec_run (envMk L36_ok S36) rfl (r36e2 s) ⟨by rw [decide_eq_true (show (s.size : Int) = 33 by omega)]; rfl, by omega, by decide, ex_size (by omega), decide_eq_false (show ¬ (s.size : Int) = 65 by omega), by omega, by rw [decide_eq_true hk]; rfl, by decide, decide_eq_true hx, L8 hx, modN_lt 1, by decide, okR_K (k := 1) (by decide), hx, L8 hx, modN_lt 1, facR_lt, r2_lt, L8 (inN_lt (modN_pos 1)), rfl, rfl, rfl, inN_lt (modN_pos 1), okR_K (k := 1) (by decide), addM_lt (modN_pos 1), L8 (addM_lt (modN_pos 1)), L8 (outN_lt (modN_pos 1)), rfl, outN_lt (modN_pos 1), by rw [haR]; exact hr, trivial⟩ rfl rfl).congr (fun _ => rfl) (fun φ => zerr_conc φ 7)
        | true =>
          have e4 : fdX (bx s) = bx s := by unfold fdX; rw [hr, cond_true]
          have e6 : fdE (bx s) = 0 := by unfold fdE; rw [hr, cond_true]
          have hr' : sqB 1 (sqP (bx s)) = true := hr
          have e7 : evR s = evW (bx s) := by unfold evR; rw [haR, hr', cond_true]; rfl
          have hev : evW (bx s) < modN 1 := evC_lt (by decide)
          have e5 : fdY (bx s) false = evR s := by unfold fdY; rw [hr, cond_true, cond_false, e7]
          rw [e4, e5, e6]
          exact spec_run (envMk L36_ok S36) rfl (r36d2 s) ⟨by rw [decide_eq_true (show (s.size : Int) = 33 by omega)]; rfl, by omega, by decide, ex_size (by omega), decide_eq_false (show ¬ (s.size : Int) = 65 by omega), by omega, by rw [decide_eq_true hk]; rfl, by decide, decide_eq_true hx, L8 hx, modN_lt 1, by decide, okR_K (k := 1) (by decide), hx, L8 hx, modN_lt 1, facR_lt, r2_lt, L8 (inN_lt (modN_pos 1)), rfl, rfl, rfl, inN_lt (modN_pos 1), okR_K (k := 1) (by decide), addM_lt (modN_pos 1), L8 (addM_lt (modN_pos 1)), L8 (outN_lt (modN_pos 1)), rfl, outN_lt (modN_pos 1), by rw [haR]; exact hr, by omega, decide_eq_false (by omega), trivial⟩ rfl rfl
      · exact six (by rw [decide_eq_true hk, decide_eq_false hx]; simp only [Bool.and_false, cond_false]) ((spec_run (envMk L36_ok S36) rfl (r36c2 s) ⟨by rw [decide_eq_true (show (s.size : Int) = 33 by omega)]; rfl, by omega, by decide, ex_size (by omega), decide_eq_false (show ¬ (s.size : Int) = 65 by omega), by omega, by rw [decide_eq_true hk]; rfl, by decide, decide_eq_false hx, BX8, modN_lt 1, trivial⟩ rfl rfl).congr (fun _ => rfl) (fun φ => zerr_conc φ 6))
    · have hk2 := hk
      by_cases hk : k0 s = 3
      · by_cases hx : bx s < modN 1
        · have he : wE s = fdE (bx s) := (wE_33 h).trans (bbT (by rw [decide_eq_true hk, Bool.or_true]) (decide_eq_true hx))
          obtain ⟨e1, e2⟩ := res33 h (o := true) (decide_eq_true (by omega)) he
          rw [he, e1, e2]
          have haR := aR_eq s
          cases hr : rtS (bx s) with
          | false =>
            have e4 : fdX (bx s) = 0 := by unfold fdX; rw [hr, cond_false]
            have e5 : fdY (bx s) true = 0 := by unfold fdY; rw [hr, cond_false]
            have e6 : fdE (bx s) = 7 := by unfold fdE; rw [hr, cond_false]
            rw [e4, e5, e6]
            exact (spec_run (envMk L36_ok S36) rfl (r36e3 s) ⟨by rw [decide_eq_true (show (s.size : Int) = 33 by omega)]; rfl, by omega, by decide, ex_size (by omega), decide_eq_false (show ¬ (s.size : Int) = 65 by omega), by omega, by rw [decide_eq_false (show ¬ k0 s = 2 by omega)]; rfl, by omega, by rw [decide_eq_true hk]; rfl, by decide, decide_eq_true hx, L8 hx, modN_lt 1, by decide, okR_K (k := 1) (by decide), hx, L8 hx, modN_lt 1, facR_lt, r2_lt, L8 (inN_lt (modN_pos 1)), rfl, rfl, rfl, inN_lt (modN_pos 1), okR_K (k := 1) (by decide), addM_lt (modN_pos 1), L8 (addM_lt (modN_pos 1)), L8 (outN_lt (modN_pos 1)), rfl, outN_lt (modN_pos 1), by rw [haR]; exact hr, trivial⟩ rfl rfl).congr (fun _ => rfl) (fun φ => zerr_conc φ 7)
          | true =>
            have e4 : fdX (bx s) = bx s := by unfold fdX; rw [hr, cond_true]
            have e6 : fdE (bx s) = 0 := by unfold fdE; rw [hr, cond_true]
            have hr' : sqB 1 (sqP (bx s)) = true := hr
            have e7 : evR s = evW (bx s) := by unfold evR; rw [haR, hr', cond_true]; rfl
            have hev : evW (bx s) < modN 1 := evC_lt (by decide)
            have e5 : fdY (bx s) true = subM (modN 1) 0 (evR s) := by unfold fdY; rw [hr, cond_true, cond_true, e7]
            rw [e4, e5, e6]
            exact spec_run (envMk L36_ok S36) rfl (r36d3 s) ⟨by rw [decide_eq_true (show (s.size : Int) = 33 by omega)]; rfl, by omega, by decide, ex_size (by omega), decide_eq_false (show ¬ (s.size : Int) = 65 by omega), by omega, by rw [decide_eq_false (show ¬ k0 s = 2 by omega)]; rfl, by omega, by rw [decide_eq_true hk]; rfl, by decide, decide_eq_true hx, L8 hx, modN_lt 1, by decide, okR_K (k := 1) (by decide), hx, L8 hx, modN_lt 1, facR_lt, r2_lt, L8 (inN_lt (modN_pos 1)), rfl, rfl, rfl, inN_lt (modN_pos 1), okR_K (k := 1) (by decide), addM_lt (modN_pos 1), L8 (addM_lt (modN_pos 1)), L8 (outN_lt (modN_pos 1)), rfl, outN_lt (modN_pos 1), by rw [haR]; exact hr, by omega, decide_eq_true hk, okR_K (k := 1) (by decide), modN_pos 1, by rw [e7]; exact hev, by decide, by decide, by decide, by decide, by decide, by decide, by decide, by decide, by rw [e7]; exact L8 hev, trivial⟩ rfl rfl
        · exact six (by rw [decide_eq_true hk, decide_eq_false hx]; simp only [Bool.and_false, cond_false]) ((spec_run (envMk L36_ok S36) rfl (r36c3 s) ⟨by rw [decide_eq_true (show (s.size : Int) = 33 by omega)]; rfl, by omega, by decide, ex_size (by omega), decide_eq_false (show ¬ (s.size : Int) = 65 by omega), by omega, by rw [decide_eq_false (show ¬ k0 s = 2 by omega)]; rfl, by omega, by rw [decide_eq_true hk]; rfl, by decide, decide_eq_false hx, BX8, modN_lt 1, trivial⟩ rfl rfl).congr (fun _ => rfl) (fun φ => zerr_conc φ 6))
      · have hk3 := hk
        exact six (by rw [decide_eq_false hk2, decide_eq_false hk3]; simp only [Bool.or_false, Bool.false_and, cond_false]) ((spec_run (envMk L36_ok S36) rfl (r36b0 s) ⟨by rw [decide_eq_true (show (s.size : Int) = 33 by omega)]; rfl, by omega, by decide, ex_size (by omega), decide_eq_false (show ¬ (s.size : Int) = 65 by omega), by omega, by rw [decide_eq_false hk2]; rfl, by omega, by rw [decide_eq_false hk3]; rfl, trivial⟩ rfl rfl).congr (fun _ => rfl) (fun φ => zerr_conc φ 6))
  · by_cases h6 : s.size = 65
    · have BX8 : bx s < 4294967296 ^ 8 := beS_lt (ex_size (by omega))
      have YB8 : yb s < 4294967296 ^ 8 := beS_lt (ex_size2 h6)
      have six : (bif decide (k0 s = 4) && (decide (bx s < modN 1) && decide (yb s < modN 1)) then (bif onS (bx s) (yb s) false then 0 else 7) else 6) = (6 : Int) → Spec 36 [sS s] (.tup [P3 0 0 false, .one (.i 6)]) → Spec 36 [sS s] (.tup [P3 (wX s) (wY s) false, .one (.i (wE s))]) := by
        intro e hs
        have e := (wE_65 h6).trans e
        obtain ⟨e1, e2⟩ := hE0 e (by decide)
        rw [e, e1, e2]
        exact hs
      by_cases hk4 : k0 s = 4
      · by_cases hx : bx s < modN 1
        · by_cases hyl : yb s < modN 1
          · have e0 : wE s = bif onS (bx s) (yb s) false then 0 else 7 := (wE_65 h6).trans (bbT (decide_eq_true hk4) (by rw [decide_eq_true hx, decide_eq_true hyl]; rfl))
            cases ho : onS (bx s) (yb s) false with
            | false =>
              rw [ho, cond_false] at e0
              obtain ⟨e1, e2⟩ := hE0 e0 (by decide)
              rw [e0, e1, e2]
              exact (spec_run (envMk L36_ok S36) rfl (r36i s) ⟨by rw [decide_eq_false (show ¬ (s.size : Int) = 33 by omega)]; rfl, by rw [decide_eq_true (show (s.size : Int) = 65 by omega)]; rfl, by omega, by decide, ex_size (by omega), decide_eq_true (show (s.size : Int) = 65 by omega), by omega, ex_size2 h6, by omega, by rw [decide_eq_true hk4]; rfl, by decide, decide_eq_true hx, L8 hx, modN_lt 1, by decide, decide_eq_true hyl, L8 hyl, modN_lt 1, ho, BX8, YB8, trivial⟩ rfl rfl).congr (fun _ => rfl) (fun φ => zerr_conc φ 7)
            | true =>
              rw [ho, cond_true] at e0
              have e1 : wX s = bx s := by unfold wX; rw [decide_eq_true e0, cond_true]
              have e2 : wY s = yb s := by unfold wY; rw [decide_eq_true e0, cond_true, decide_eq_false h, cond_false]
              rw [e0, e1, e2]
              exact spec_run (envMk L36_ok S36) rfl (r36j s) ⟨by rw [decide_eq_false (show ¬ (s.size : Int) = 33 by omega)]; rfl, by rw [decide_eq_true (show (s.size : Int) = 65 by omega)]; rfl, by omega, by decide, ex_size (by omega), decide_eq_true (show (s.size : Int) = 65 by omega), by omega, ex_size2 h6, by omega, by rw [decide_eq_true hk4]; rfl, by decide, decide_eq_true hx, L8 hx, modN_lt 1, by decide, decide_eq_true hyl, L8 hyl, modN_lt 1, ho, BX8, YB8, trivial⟩ rfl rfl
          · exact six (by rw [decide_eq_false hyl]; simp only [Bool.and_false, cond_false]) ((spec_run (envMk L36_ok S36) rfl (r36h s) ⟨by rw [decide_eq_false (show ¬ (s.size : Int) = 33 by omega)]; rfl, by rw [decide_eq_true (show (s.size : Int) = 65 by omega)]; rfl, by omega, by decide, ex_size (by omega), decide_eq_true (show (s.size : Int) = 65 by omega), by omega, ex_size2 h6, by omega, by rw [decide_eq_true hk4]; rfl, by decide, decide_eq_true hx, L8 hx, modN_lt 1, by decide, decide_eq_false hyl, YB8, modN_lt 1, trivial⟩ rfl rfl).congr (fun _ => rfl) (fun φ => zerr_conc φ 6))
        · exact six (by rw [decide_eq_false hx]; simp only [Bool.and_false, Bool.false_and, cond_false]) ((spec_run (envMk L36_ok S36) rfl (r36g s) ⟨by rw [decide_eq_false (show ¬ (s.size : Int) = 33 by omega)]; rfl, by rw [decide_eq_true (show (s.size : Int) = 65 by omega)]; rfl, by omega, by decide, ex_size (by omega), decide_eq_true (show (s.size : Int) = 65 by omega), by omega, ex_size2 h6, by omega, by rw [decide_eq_true hk4]; rfl, by decide, decide_eq_false hx, BX8, modN_lt 1, trivial⟩ rfl rfl).congr (fun _ => rfl) (fun φ => zerr_conc φ 6))
      · exact six (by rw [decide_eq_false hk4]; simp only [Bool.false_and, cond_false]) ((spec_run (envMk L36_ok S36) rfl (r36f s) ⟨by rw [decide_eq_false (show ¬ (s.size : Int) = 33 by omega)]; rfl, by rw [decide_eq_true (show (s.size : Int) = 65 by omega)]; rfl, by omega, by decide, ex_size (by omega), decide_eq_true (show (s.size : Int) = 65 by omega), by omega, ex_size2 h6, by omega, by rw [decide_eq_false hk4]; rfl, trivial⟩ rfl rfl).congr (fun _ => rfl) (fun φ => zerr_conc φ 6))
    · have e := wE_form h h6
      obtain ⟨e1, e2⟩ := hE0 e (by decide)
      rw [e, e1, e2]
      exact (spec_run (envMk L36_ok S36) rfl (r36a s) ⟨by rw [decide_eq_false (show ¬ (s.size : Int) = 33 by omega)]; rfl, by rw [decide_eq_false (show ¬ (s.size : Int) = 65 by omega)]; rfl, trivial⟩ rfl rfl).congr (fun _ => rfl) (fun φ => zerr_conc φ 1)
end Go.Ev

