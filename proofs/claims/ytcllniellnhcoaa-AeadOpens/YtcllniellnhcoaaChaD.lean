/- What a text is, turned by blocks, the program's and the page's -/
import Derived.Test.YtcllniellnhcoaaChaC
namespace Go.Ev
open Go Go.Proofs Go.RowKit

/-! the program's stream -/
def S25 : FuncId → Nat → Bool := fun f t => match f with | 25 => memN t [22, 28, 30, 37, 39, 43, 46, 50, 51, 55, 56, 2000024, 2000040, 2000052, 4000055, 2000060] | 44 => memN t [7, 11] | _ => false
noncomputable def ES0 : Env := { E0 with S := S25 }
theorem envES0 : EnvOK ES0 := ⟨mixed, envE0.fns, envE0.fms, envE0.lps, envE0.fbs⟩
def bkA (l : List Nat) : Blk := ⟨[.arr .u8 l], 5, true, false, 0⟩
theorem bkA_free (l : List Nat) : Free (bkA l) := fun _ => rfl
def TI (k : ByteArray) (n : Nat) (t : ByteArray) (len a : Nat) (i : Int) : List AV := slots 61 [(0, .val (strV k)), (1, .val (u32 n)), (2, .val (strV t)), (10, .val (.one (.sx 0 len))), (11, iV a), (34, .val (.one (.sx 1 64))), (35, iV 64), (36, iV i)]
theorem wfB {n : Nat} {ls : List (Nat × AV)} (l : List Nat) (h : tmsWf 1 (slots n ls) = true) : wfS (slots n ls) [bkA l] = true := wfS_of (by
  intro b hb
  simp only [List.mem_cons, List.not_mem_nil, or_false] at hb
  rcases hb with rfl
  exact bkA_free _) h
theorem wfB2 {n : Nat} {ls : List (Nat × AV)} (l l' : List Nat) (h : tmsWf 2 (slots n ls) = true) : wfS (slots n ls) [bkA l, bkA l'] = true := wfS_of (by
  intro b hb
  simp only [List.mem_cons, List.not_mem_nil, or_false] at hb
  rcases hb with rfl | rfl <;> exact bkA_free _) h
theorem wfTI (k : ByteArray) (n : Nat) (t : ByteArray) (len a : Nat) (i : Int) (l l' : List Nat) : wfS (TI k n t len a i) [bkA l, bkA l'] = true := wfB2 l l' (by kernel_rfl)
theorem i25t (k : ByteArray) (n : Nat) (t : ByteArray) (len : Nat) (a : Nat) (i : Nat) (l : List Nat) (B : List Nat) : runTo ES0 1000 (Env.S ES0 25) (bodyOf Try.prog 25 10) (TI k n t len a (↑i : Int)) [bkA l, bkA B] [true, true] (TI k n t len a ((↑i : Int) + (1 : Int))) 2 =
    some ([decide ((↑i : Int) < (64 : Int)) = true, (0 : Int) ≤ (↑i : Int) ∧ (↑i : Int) < ((64 : Nat) : Int), 0 + i * 1 < List.length B, inI ((↑a : Int) + (↑i : Int)), decide ((↑a : Int) + (↑i : Int) < (↑len : Int)) = true, inI ((↑a : Int) + (↑i : Int)), (0 : Int) ≤ (↑a : Int) + (↑i : Int) ∧ (↑a : Int) + (↑i : Int) < (↑len : Int), 0 + Int.toNat ((↑a : Int) + (↑i : Int)) * 1 < List.length l, (0 : Int) ≤ (↑a : Int) + (↑i : Int) ∧ (↑a : Int) + (↑i : Int) < (↑len : Int), 0 + Int.toNat ((↑a : Int) + (↑i : Int)) * 1 < List.length l, inI ((↑i : Int) + (1 : Int))], .normal, TI k n t len a ((i : Int) + 1), [bkA (l.set (0 + Int.toNat ((a : Int) + (i : Int)) * 1) (gx (l.getD (0 + Int.toNat ((a : Int) + (i : Int)) * 1) 0) (B.getD (0 + i * 1) 0))), bkA B]) := by kernel_rfl
theorem i25f (k : ByteArray) (n : Nat) (t : ByteArray) (len : Nat) (a : Nat) (i : Nat) (l : List Nat) (B : List Nat) : runTo ES0 1000 (Env.S ES0 25) (bodyOf Try.prog 25 10) (TI k n t len a (↑i : Int)) [bkA l, bkA B] [true, false] (TI k n t len a ((↑i : Int) + (1 : Int))) 2 =
    some ([decide ((↑i : Int) < (64 : Int)) = true, (0 : Int) ≤ (↑i : Int) ∧ (↑i : Int) < ((64 : Nat) : Int), 0 + i * 1 < List.length B, inI ((↑a : Int) + (↑i : Int)), decide ((↑a : Int) + (↑i : Int) < (↑len : Int)) = false, inI ((↑i : Int) + (1 : Int))], .normal, TI k n t len a ((i : Int) + 1), [bkA l, bkA B]) := by kernel_rfl
theorem i25o (k : ByteArray) (n : Nat) (t : ByteArray) (len : Nat) (a : Nat) (i : Nat) (l : List Nat) (B : List Nat) : runTo ES0 1000 (Env.S ES0 25) (bodyOf Try.prog 25 10) (TI k n t len a (↑i : Int)) [bkA l, bkA B] [false] (TI k n t len a (↑i : Int)) 2 =
    some ([decide ((↑i : Int) < (64 : Int)) = false], .exit 3, TI k n t len a (i : Int), [bkA l, bkA B]) := by kernel_rfl
theorem i25loop (k : ByteArray) (n : Nat) (t : ByteArray) (len a : Nat) (f : Nat → Nat) (l B : List Nat) (hl : l.length = len) (ha : a ≤ 100000) (_hlen : len ≤ 100000) (hB : B.length = 64) (hf : ∀ i, i < 64 → B.getD i 0 % 256 = f (a + i) % 256) :
    Goes Try.prog (.loop (bodyOf Try.prog 25 10)) (.exit 3) (TI k n t len a ((0 : Nat) : Int)) [bkA (xorP f a l), bkA B] (TI k n t len a ((64 : Nat) : Int)) [bkA (xorP f (a + 64) l), bkA B] := by
  refine loop_goes (N := 64) (k := 2) (T := fun i => TI k n t len a (i : Int)) (M := fun i => [bkA (xorP f (a + i) l), bkA B]) (by simp) (fun _ _ => rfl) (fun i hi => ?_) ?_
  · have e : 0 + Int.toNat ((a : Int) + (i : Int)) * 1 = a + i := by omega
    have h1 : decide ((i : Int) < 64) = true := decide_eq_true (by omega)
    have h2 : (0 : Int) ≤ (i : Int) ∧ (i : Int) < ((64 : Nat) : Int) := by omega
    have h3 : 0 + i * 1 < B.length := by omega
    have h4 : inI ((a : Int) + (i : Int)) := by unfold inI; omega
    have h5 : inI ((i : Int) + 1) := by unfold inI; omega
    by_cases h : a + i < len
    · have h6 : decide ((a : Int) + (i : Int) < (len : Int)) = true := decide_eq_true (by omega)
      have h7 : (0 : Int) ≤ (a : Int) + (i : Int) ∧ (a : Int) + (i : Int) < (len : Int) := by omega
      have h8 : 0 + Int.toNat ((a : Int) + (i : Int)) * 1 < (xorP f (a + i) l).length := by rw [e, xorP_length]; omega
      have hr : Goes Try.prog (bodyOf Try.prog 25 10) .normal (TI k n t len a (i : Int)) [bkA (xorP f (a + i) l), bkA B] (TI k n t len a ((i : Int) + 1)) [bkA ((xorP f (a + i) l).set (0 + Int.toNat ((a : Int) + (i : Int)) * 1) (gx ((xorP f (a + i) l).getD (0 + Int.toNat ((a : Int) + (i : Int)) * 1) 0) (B.getD (0 + i * 1) 0))), bkA B] := Runs.goes envES0 ⟨[true, true], _, i25t k n t len a i (xorP f (a + i) l) B, ⟨h1, h2, h3, h4, h6, h4, h7, h8, h7, h8, h5, trivial⟩, wfTI _ _ _ _ _ _ _ _⟩
      rw [e, xorP_step f (a + i) l _ (by omega) (by rw [show 0 + i * 1 = i by omega]; exact hf i hi)] at hr
      exact hr
    · have h6 : decide ((a : Int) + (i : Int) < (len : Int)) = false := decide_eq_false (by omega)
      have hr : Goes Try.prog (bodyOf Try.prog 25 10) .normal (TI k n t len a (i : Int)) [bkA (xorP f (a + i) l), bkA B] (TI k n t len a ((i : Int) + 1)) [bkA (xorP f (a + i) l), bkA B] := Runs.goes envES0 ⟨[true, false], _, i25f k n t len a i (xorP f (a + i) l) B, ⟨h1, h2, h3, h4, h6, h5, trivial⟩, wfTI _ _ _ _ _ _ _ _⟩
      rw [show TI k n t len a ((i + 1 : Nat) : Int) = TI k n t len a ((i : Int) + 1) from rfl, show xorP f (a + (i + 1)) l = xorP f (a + i) l from xorP_ge f _ _ l (by omega) (by omega)]
      exact hr
  · exact Runs.goes envES0 ⟨[false], _, i25o k n t len a 64 (xorP f (a + 64) l) B, ⟨decide_eq_false (by omega), trivial⟩, wfTI _ _ _ _ _ _ _ _⟩
/-! the outer loop -/
theorem concs_u8 (φ : Loc) : ∀ l : List Nat, concs φ (l.map fun x => .a (.u .u8 x)) = concs φ [.arr .u8 l]
  | [] => rfl
  | x :: l => by
    have := concs_u8 φ l
    rw [arr_conc] at this ⊢
    rw [List.map_cons, List.map_cons, ← this]; rfl
theorem u8_free (f : Nat → Bool) : ∀ l : List Nat, allPtr f (l.map fun x => .a (.u .u8 x)) = true
  | [] => rfl
  | x :: l => by rw [List.map_cons]; exact u8_free f l
theorem sb45 (k t : ByteArray) (n : Nat) (hk : k.size = 32) (ht : t.size = 12) : SpecB Try.prog 45 [strV k, u32 n, strV t] 5 [.arr .u8 (blkL k n t)] 64 := by
  have h := run45 k t n
  unfold dropB at h
  split at h
  · rename_i ob c b m mem h1
    simp only [Option.some.injEq, Prod.mk.injEq] at h
    obtain ⟨rfl, rfl, hm⟩ := h
    have hs := callBy_specB envEK h1 hm rfl rfl (u8_free _ _) ⟨hk, ht, trivial, trivial, wf2 (w16_free _) (w16_free _) (tTB _), trivial⟩ (by simp [strV, u32, V1.wf])
    intro φ w
    refine (hs φ w).mono ?_
    rintro e w' ⟨b, cap, h2, h3, h4, tail, lo, hi, h5, h6, _⟩
    rw [concs_u8] at h5 h6
    exact ⟨b, cap, h2, h3, h4, tail, lo, hi, h5, h6, fun h => by simp at h⟩
  · simp at h
def fb45 : FuncId → List V1 → Option (List Prop × TypeId × List Piece × Nat) := fun f vs =>
  match Nat.beq f 45, vs with
  | true, [.one (.v (.string k)), .one (.u .u32 n), .one (.v (.string t))] => some ([k.size = 32, t.size = 12], 5, [.arr .u8 (blkL k n t)], 64)
  | _, _ => none
theorem fb45_ok : ∀ f vs ob e ps n, fb45 f vs = some (ob, e, ps, n) → All ob → SpecB Try.prog f vs e ps n := by
  intro f vs ob e ps n h ho
  unfold fb45 at h
  split at h
  · rename_i k m t hf
    simp only [Option.some.injEq, Prod.mk.injEq] at h
    obtain ⟨rfl, rfl, rfl, rfl⟩ := h
    rw [Nat.eq_of_beq_eq_true hf]
    exact sb45 k t m ho.1 ho.2.1
  · simp at h
end Go.Ev

namespace Go.Ev
open Go Go.Proofs Go.RowKit

def TO (k : ByteArray) (n : Nat) (t : ByteArray) (len : Nat) (a : Int) : List AV := slots 61 [(0, .val (strV k)), (1, .val (u32 n)), (2, .val (strV t)), (10, .val (.one (.sx 0 len))), (11, iV a)]
theorem wfTO (k : ByteArray) (n : Nat) (t : ByteArray) (len : Nat) (a : Int) (l : List Nat) : wfS (TO k n t len a) [bkA l] = true := wfB l (by kernel_rfl)
noncomputable def ES1 (k : ByteArray) (n : Nat) (t : ByteArray) (len a : Nat) (f : Nat → Nat) (l : List Nat) : Env :=
  addL (addB ES0 fb45) 10 (bodyOf Try.prog 25 10) (sumC (TI k n t len a ((0 : Nat) : Int)) [bkA (xorP f a l), bkA (blkL k n t)] (TI k n t len a ((64 : Nat) : Int)) [bkA (xorP f (a + 64) l), bkA (blkL k n t)] (.exit 3))
theorem envES1 (k : ByteArray) (n : Nat) (t : ByteArray) (len a : Nat) (f : Nat → Nat) (l : List Nat) (hl : l.length = len) (ha : a ≤ 100000) (hlen : len ≤ 100000) (hf : ∀ i, i < 64 → (blkL k n t).getD i 0 % 256 = f (a + i) % 256) : EnvOK (ES1 k n t len a f l) :=
  envAddL (envAddB envES0 fb45_ok) (sumC_ok rfl (i25loop k n t len a f l (blkL k n t) hl ha hlen (blkL_length k n t) hf))
theorem o25t (k : ByteArray) (n : Nat) (t : ByteArray) (len : Nat) (a : Nat) (f : Nat → Nat) (l : List Nat) : runTo (ES1 k n t len a f l) 1000 (Env.S ES0 25) (bodyOf Try.prog 25 7) (TO k n t len (a : Int)) [bkA (xorP f a l)] [true] (TO k ((n + 1) % 4294967296) t len ((a : Int) + 64)) 1 =
    some ([decide ((a : Int) < (len : Int)) = true, ByteArray.size k = 32, ByteArray.size t = 12, bodyOf Try.prog 25 10 = bodyOf Try.prog 25 10, (TI k n t len a ((0 : Nat) : Int), [bkA (xorP f a l), bkA (blkL k n t)]) = (TI k n t len a ((0 : Nat) : Int), [bkA (xorP f a l), bkA (blkL k n t)]), wfS (TI k n t len a ((0 : Nat) : Int)) [bkA (xorP f a l), bkA (blkL k n t)] = true, inI ((a : Int) + (64 : Int))], .normal, TO k ((n + 1) % 4294967296) t len ((a : Int) + 64), [bkA (xorP f (a + 64) l)]) := by kernel_rfl
theorem o25o (k : ByteArray) (n : Nat) (t : ByteArray) (len : Nat) (a : Nat) (l : List Nat) : runTo ES0 1000 (Env.S ES0 25) (bodyOf Try.prog 25 7) (TO k n t len (a : Int)) [bkA l] [false] (TO k n t len (a : Int)) 1 =
    some ([decide ((a : Int) < (len : Int)) = false], .exit 1, TO k n t len (a : Int), [bkA l]) := by kernel_rfl
theorem o25loop (k : ByteArray) (n : Nat) (t s : ByteArray) (hk : k.size = 32) (ht : t.size = 12) (hs : s.size ≤ 4096) :
    Goes Try.prog (.loop (bodyOf Try.prog 25 7)) (.exit 1) (TO k n t s.size ((0 : Nat) : Int)) [bkA (numsB s)] (TO k (nAt n ((s.size + 63) / 64)) t s.size ((64 * ((s.size + 63) / 64) : Nat) : Int)) [bkA (xorP (kb k n t) s.size (numsB s))] := by
  have e0 : xorP (kb k n t) (64 * 0) (numsB s) = numsB s := xorP_zero _ _
  have hf : ∀ j i, i < 64 → (blkL k (nAt n j) t).getD i 0 % 256 = kb k n t (64 * j + i) % 256 := fun j i hi => kb_mod k n t j i hi
  have hlen := numsB_length s
  have main : Goes Try.prog (.loop (bodyOf Try.prog 25 7)) (.exit 1) (TO k n t s.size ((64 * 0 : Nat) : Int)) [bkA (xorP (kb k n t) (64 * 0) (numsB s))] (TO k (nAt n ((s.size + 63) / 64)) t s.size ((64 * ((s.size + 63) / 64) : Nat) : Int)) [bkA (xorP (kb k n t) (64 * ((s.size + 63) / 64)) (numsB s))] := by
    refine loop_goes (N := (s.size + 63) / 64) (k := 1) (T := fun j => TO k (nAt n j) t s.size ((64 * j : Nat) : Int)) (M := fun j => [bkA (xorP (kb k n t) (64 * j) (numsB s))]) (by simp) (fun _ _ => rfl) (fun j hj => ?_) ?_
    · have h1 : decide (((64 * j : Nat) : Int) < (s.size : Int)) = true := decide_eq_true (by omega)
      have h2 : inI (((64 * j : Nat) : Int) + 64) := by unfold inI; omega
      have hr : Goes Try.prog (bodyOf Try.prog 25 7) .normal (TO k (nAt n j) t s.size ((64 * j : Nat) : Int)) [bkA (xorP (kb k n t) (64 * j) (numsB s))] (TO k ((nAt n j + 1) % 4294967296) t s.size (((64 * j : Nat) : Int) + 64)) [bkA (xorP (kb k n t) (64 * j + 64) (numsB s))] :=
        Runs.goes (envES1 k (nAt n j) t s.size (64 * j) (kb k n t) (numsB s) hlen (by omega) (by omega) (hf j)) ⟨[true], _, o25t k (nAt n j) t s.size (64 * j) (kb k n t) (numsB s), ⟨h1, hk, ht, rfl, rfl, wfTI _ _ _ _ _ _ _ _, h2, trivial⟩, wfTO _ _ _ _ _ _⟩
      have e1 : (((64 * (j + 1) : Nat)) : Int) = ((64 * j : Nat) : Int) + 64 := by omega
      have e2 : 64 * (j + 1) = 64 * j + 64 := by omega
      show Goes Try.prog (bodyOf Try.prog 25 7) .normal (TO k (nAt n j) t s.size ((64 * j : Nat) : Int)) [bkA (xorP (kb k n t) (64 * j) (numsB s))] (TO k (nAt n (j + 1)) t s.size ((64 * (j + 1) : Nat) : Int)) [bkA (xorP (kb k n t) (64 * (j + 1)) (numsB s))]
      rw [e1, e2]
      exact hr
    · exact Runs.goes envES0 ⟨[false], _, o25o k _ t s.size (64 * ((s.size + 63) / 64)) _, ⟨decide_eq_false (by omega), trivial⟩, wfTO _ _ _ _ _ _⟩
  rw [e0, xorP_ge (kb k n t) (64 * ((s.size + 63) / 64)) s.size (numsB s) (by omega) (by omega)] at main
  exact main
noncomputable def ES2 (k : ByteArray) (n : Nat) (t s : ByteArray) : Env :=
  addL ES0 7 (bodyOf Try.prog 25 7) (sumC (TO k n t s.size ((0 : Nat) : Int)) [bkA (numsB s)] (TO k (nAt n ((s.size + 63) / 64)) t s.size ((64 * ((s.size + 63) / 64) : Nat) : Int)) [bkA (xorP (kb k n t) s.size (numsB s))] (.exit 1))
theorem envES2 (k : ByteArray) (n : Nat) (t s : ByteArray) (hk : k.size = 32) (ht : t.size = 12) (hs : s.size ≤ 4096) : EnvOK (ES2 k n t s) := envAddL envES0 (sumC_ok rfl (o25loop k n t s hk ht hs))
theorem r25 (k : ByteArray) (n : Nat) (t : ByteArray) (s : ByteArray) : callR (ES2 k n t s) 1000 25 [strV k, u32 n, strV t, strV s] [true, true, false] =
    some ([decide ((↑(ByteArray.size k) : Int) = (32 : Int)) = true, decide ((↑(ByteArray.size t) : Int) = (12 : Int)) = true, decide ((4096 : Int) < (↑(ByteArray.size s) : Int)) = false, bodyOf Try.prog 25 7 = bodyOf Try.prog 25 7, (TO k n t s.size ((0 : Nat) : Int), [bkA (numsB s)]) = (TO k n t s.size ((0 : Nat) : Int), [bkA (numsB s)]), wfS (TO k n t s.size ((0 : Nat) : Int)) [bkA (numsB s)] = true, 0 = 0 ∧ ByteArray.size s = List.length (xorP (kb k n t) (ByteArray.size s) (numsB s))], .tup [strV (streamOf k n t s), .one (.i 0)]) := by kernel_rfl
theorem r25l (k : ByteArray) (n : Nat) (t : ByteArray) (s : ByteArray) : callR ES0 1000 25 [strV k, u32 n, strV t, strV s] [true, true, true] =
    some ([decide ((↑(ByteArray.size k) : Int) = (32 : Int)) = true, decide ((↑(ByteArray.size t) : Int) = (12 : Int)) = true, decide ((4096 : Int) < (↑(ByteArray.size s) : Int)) = true], AV.tup [V1.one (Atom.v (Value.string (ByteArray.mk (Array.mk [])))), V1.one (Atom.i (Int.ofNat 2))]) := by kernel_rfl
theorem r25a (k : ByteArray) (n : Nat) (t : ByteArray) (s : ByteArray) : callR ES0 1000 25 [strV k, u32 n, strV t, strV s] [false] =
    some ([decide ((↑(ByteArray.size k) : Int) = (32 : Int)) = false], AV.tup [V1.one (Atom.v (Value.string (ByteArray.mk (Array.mk [])))), V1.one (Atom.i (Int.ofNat 1))]) := by kernel_rfl
theorem r25b (k : ByteArray) (n : Nat) (t : ByteArray) (s : ByteArray) : callR ES0 1000 25 [strV k, u32 n, strV t, strV s] [true, false] =
    some ([decide ((↑(ByteArray.size k) : Int) = (32 : Int)) = true, decide ((↑(ByteArray.size t) : Int) = (12 : Int)) = false], AV.tup [V1.one (Atom.v (Value.string (ByteArray.mk (Array.mk [])))), V1.one (Atom.i (Int.ofNat 1))]) := by kernel_rfl
/-- what a text is, turned: its bytes, the error. -/
def strmB (k : ByteArray) (n : Nat) (t s : ByteArray) : ByteArray := bif fitKN k t then (bif decide (s.size ≤ 4096) then streamOf k n t s else ⟨#[]⟩) else ⟨#[]⟩
def strmE (k t s : ByteArray) : Int := bif fitKN k t then (bif decide (s.size ≤ 4096) then 0 else 2) else 1
def fnStream (vs : List V1) : Option (List Prop × AV) :=
  match vs with
  | [.one (.v (.string k)), .one (.u .u32 n), .one (.v (.string t)), .one (.v (.string s))] => some ([], .tup [strV (strmB k n t s), .one (.i (strmE k t s))])
  | _ => none
theorem ct25 : CTok ⟨25, fnStream⟩ := by
  intro vs ob r h ho
  simp only [fnStream] at h
  split at h
  · rename_i k n t s
    simp only [Option.some.injEq, Prod.mk.injEq] at h
    obtain ⟨rfl, rfl⟩ := h
    unfold strmB strmE
    by_cases hk : k.size = 32
    · by_cases ht : t.size = 12
      · rw [show fitKN k t = true by simp [fitKN, hk, ht], cond_true, cond_true]
        by_cases hs : s.size ≤ 4096
        · rw [decide_eq_true hs, cond_true, cond_true]
          exact spec_run (envES2 k n t s hk ht hs) rfl (r25 k n t s) ⟨decide_eq_true (by omega), decide_eq_true (by omega), decide_eq_false (by omega), rfl, rfl, wfTO _ _ _ _ _ _, ⟨rfl, by rw [xorP_length, numsB_length]⟩, trivial⟩ rfl rfl
        · rw [decide_eq_false hs, cond_false, cond_false]
          exact spec_run envES0 rfl (r25l k n t s) ⟨decide_eq_true (by omega), decide_eq_true (by omega), decide_eq_true (by omega), trivial⟩ rfl rfl
      · rw [show fitKN k t = false by simp [fitKN, ht], cond_false, cond_false]
        exact spec_run envES0 rfl (r25b k n t s) ⟨decide_eq_true (by omega), decide_eq_false (by omega), trivial⟩ rfl rfl
    · rw [show fitKN k t = false by simp [fitKN, hk], cond_false, cond_false]
      exact spec_run envES0 rfl (r25a k n t s) ⟨decide_eq_false (by omega), trivial⟩ rfl rfl
  · simp at h
end Go.Ev

namespace Go.Ev
open Go Go.Proofs Go.RowKit

/-! the page's stream -/
noncomputable def EP : Env := mkE [⟨22, fnBlockR⟩] fun f t => match f with | 26 => memN t [17, 19, 22, 33, 38, 40, 2000013, 2000034, 4000040, 2000042] | _ => false
theorem envEP : EnvOK EP := envMk (show AllCT [⟨22, fnBlockR⟩] from ⟨ct22, trivial⟩) _
def TP (k : ByteArray) (n : Nat) (t : ByteArray) (len : Nat) (B : ByteArray) (i : Int) : List AV := slots 43 [(0, .val (strV k)), (1, .val (u32 n)), (2, .val (strV t)), (9, .val (.one (.sx 0 len))), (10, .val (strV B)), (11, iV i)]
theorem wfTP (k : ByteArray) (n : Nat) (t : ByteArray) (len : Nat) (B : ByteArray) (i : Int) (l : List Nat) : wfS (TP k n t len B i) [bkA l] = true := wfB l (by kernel_rfl)
theorem p26t (k : ByteArray) (n : Nat) (t : ByteArray) (len : Nat) (B : ByteArray) (i : Nat) (l : List Nat) : runTo EP 1000 (Env.S EP 26) (bodyOf Try.prog 26 4) (TP k n t len B (↑i : Int)) [bkA l] [true, true] (TP k ((n + 1) % 4294967296) t len (blockOf k n t) ((↑i : Int) + (1 : Int))) 1 =
    some ([decide ((↑i : Int) < (↑len : Int)) = true, decide (Int.ofNat (i % 64) = (0 : Int)) = true, fitKN k t = true, (0 : Int) ≤ (↑i : Int) ∧ (↑i : Int) < (↑len : Int), 0 + i * 1 < List.length l, (0 : Int) ≤ Int.tmod (↑i : Int) (64 : Int) ∧ Int.tmod (↑i : Int) (64 : Int) < (↑(ByteArray.size (blockOf k n t)) : Int), (0 : Int) ≤ (↑i : Int) ∧ (↑i : Int) < (↑len : Int), 0 + i * 1 < List.length l, inI ((↑i : Int) + (1 : Int))], .normal, TP k ((n + 1) % 4294967296) t len (blockOf k n t) ((i : Int) + 1), [bkA (l.set (0 + i * 1) (gx (l.getD (0 + i * 1) 0) (byteAt (blockOf k n t) (Int.toNat (Int.tmod (i : Int) 64)))))]) := by kernel_rfl
theorem p26f (k : ByteArray) (n : Nat) (t : ByteArray) (len : Nat) (B : ByteArray) (i : Nat) (l : List Nat) : runTo EP 1000 (Env.S EP 26) (bodyOf Try.prog 26 4) (TP k n t len B (↑i : Int)) [bkA l] [true, false] (TP k n t len B ((↑i : Int) + (1 : Int))) 1 =
    some ([decide ((↑i : Int) < (↑len : Int)) = true, decide (Int.ofNat (i % 64) = (0 : Int)) = false, (0 : Int) ≤ (↑i : Int) ∧ (↑i : Int) < (↑len : Int), 0 + i * 1 < List.length l, (0 : Int) ≤ Int.tmod (↑i : Int) (64 : Int) ∧ Int.tmod (↑i : Int) (64 : Int) < (↑(ByteArray.size B) : Int), (0 : Int) ≤ (↑i : Int) ∧ (↑i : Int) < (↑len : Int), 0 + i * 1 < List.length l, inI ((↑i : Int) + (1 : Int))], .normal, TP k n t len B ((i : Int) + 1), [bkA (l.set (0 + i * 1) (gx (l.getD (0 + i * 1) 0) (byteAt B (Int.toNat (Int.tmod (i : Int) 64)))))]) := by kernel_rfl
theorem p26o (k : ByteArray) (n : Nat) (t : ByteArray) (len : Nat) (B : ByteArray) (i : Nat) (l : List Nat) : runTo EP 1000 (Env.S EP 26) (bodyOf Try.prog 26 4) (TP k n t len B (↑i : Int)) [bkA l] [false] (TP k n t len B (↑i : Int)) 1 =
    some ([decide ((↑i : Int) < (↑len : Int)) = false], .exit 0, TP k n t len B (i : Int), [bkA l]) := by kernel_rfl
def bP (k : ByteArray) (n : Nat) (t : ByteArray) (i : Nat) : ByteArray := match i with | 0 => ⟨#[]⟩ | i + 1 => blockOf k (nAt n (i / 64)) t
theorem p26loop (k : ByteArray) (n : Nat) (t s : ByteArray) (hkt : fitKN k t = true) (hs : s.size ≤ 1000000) :
    Goes Try.prog (.loop (bodyOf Try.prog 26 4)) (.exit 0) (TP k n t s.size ⟨#[]⟩ ((0 : Nat) : Int)) [bkA (numsB s)] (TP k (nAt n ((s.size + 63) / 64)) t s.size (bP k n t s.size) (s.size : Int)) [bkA (xorP (kb k n t) s.size (numsB s))] := by
  have e0 : xorP (kb k n t) 0 (numsB s) = numsB s := xorP_zero _ _
  have hlen := numsB_length s
  have main : Goes Try.prog (.loop (bodyOf Try.prog 26 4)) (.exit 0) (TP k (nAt n ((0 + 63) / 64)) t s.size (bP k n t 0) ((0 : Nat) : Int)) [bkA (xorP (kb k n t) 0 (numsB s))] (TP k (nAt n ((s.size + 63) / 64)) t s.size (bP k n t s.size) (s.size : Int)) [bkA (xorP (kb k n t) s.size (numsB s))] := by
    refine loop_goes (N := s.size) (k := 1) (T := fun i => TP k (nAt n ((i + 63) / 64)) t s.size (bP k n t i) (i : Int)) (M := fun i => [bkA (xorP (kb k n t) i (numsB s))]) (by simp) (fun _ _ => rfl) (fun i hi => ?_) ?_
    · have h1 : decide ((i : Int) < (s.size : Int)) = true := decide_eq_true (by omega)
      have h2 : inI ((i : Int) + 1) := by unfold inI; omega
      have h3 : (0 : Int) ≤ (i : Int) ∧ (i : Int) < (s.size : Int) := by omega
      have h4 : 0 + i * 1 < (xorP (kb k n t) i (numsB s)).length := by rw [xorP_length]; omega
      have e1 : 0 + i * 1 = i := by omega
      have e2 : Int.toNat (Int.tmod (i : Int) 64) = i % 64 := rfl
      have hb : ∀ B : ByteArray, B.size = 64 → (0 : Int) ≤ Int.tmod (i : Int) 64 ∧ Int.tmod (i : Int) 64 < (B.size : Int) := by
        intro B hB
        show (0 : Int) ≤ ((i % 64 : Nat) : Int) ∧ ((i % 64 : Nat) : Int) < (B.size : Int)
        omega
      have hst : ∀ y, y % 256 = kb k n t i % 256 → (xorP (kb k n t) i (numsB s)).set i (gx ((xorP (kb k n t) i (numsB s)).getD i 0) y) = xorP (kb k n t) (i + 1) (numsB s) := fun y hy => xorP_step _ _ _ _ (by omega) hy
      have hkb : byteAt (blockOf k (nAt n (i / 64)) t) (i % 64) % 256 = kb k n t i % 256 := rfl
      have hbn : bP k n t (i + 1) = blockOf k (nAt n (i / 64)) t := rfl
      show Goes Try.prog (bodyOf Try.prog 26 4) .normal (TP k (nAt n ((i + 63) / 64)) t s.size (bP k n t i) (i : Int)) [bkA (xorP (kb k n t) i (numsB s))] (TP k (nAt n ((i + 1 + 63) / 64)) t s.size (bP k n t (i + 1)) ((i + 1 : Nat) : Int)) [bkA (xorP (kb k n t) (i + 1) (numsB s))]
      rw [hbn, show ((i + 1 : Nat) : Int) = (i : Int) + 1 by omega]
      by_cases hm : i % 64 = 0
      · have hd : decide (Int.ofNat (i % 64) = (0 : Int)) = true := decide_eq_true (by rw [hm]; rfl)
        have hr : Goes Try.prog (bodyOf Try.prog 26 4) .normal (TP k (nAt n (i / 64)) t s.size (bP k n t i) (i : Int)) [bkA (xorP (kb k n t) i (numsB s))] (TP k ((nAt n (i / 64) + 1) % 4294967296) t s.size (blockOf k (nAt n (i / 64)) t) ((i : Int) + 1)) [bkA ((xorP (kb k n t) i (numsB s)).set (0 + i * 1) (gx ((xorP (kb k n t) i (numsB s)).getD (0 + i * 1) 0) (byteAt (blockOf k (nAt n (i / 64)) t) (Int.toNat (Int.tmod (i : Int) 64)))))] :=
          Runs.goes envEP ⟨[true, true], _, p26t k (nAt n (i / 64)) t s.size (bP k n t i) i _, ⟨h1, hd, hkt, h3, h4, hb _ (blockOf_size _ _ _), h3, h4, h2, trivial⟩, wfTP _ _ _ _ _ _ _⟩
        rw [e1, e2, hst _ hkb] at hr
        rw [show (i + 63) / 64 = i / 64 by omega, show (i + 1 + 63) / 64 = i / 64 + 1 by omega]
        exact hr
      · have hd : decide (Int.ofNat (i % 64) = (0 : Int)) = false := decide_eq_false (by show ¬ ((i % 64 : Nat) : Int) = 0; omega)
        have hB : bP k n t i = blockOf k (nAt n (i / 64)) t := by
          cases i with
          | zero => simp at hm
          | succ j => show blockOf k (nAt n (j / 64)) t = _; rw [show (j + 1) / 64 = j / 64 by omega]
        rw [hB, show (i + 1 + 63) / 64 = (i + 63) / 64 by omega]
        have hr : Goes Try.prog (bodyOf Try.prog 26 4) .normal (TP k (nAt n ((i + 63) / 64)) t s.size (blockOf k (nAt n (i / 64)) t) (i : Int)) [bkA (xorP (kb k n t) i (numsB s))] (TP k (nAt n ((i + 63) / 64)) t s.size (blockOf k (nAt n (i / 64)) t) ((i : Int) + 1)) [bkA ((xorP (kb k n t) i (numsB s)).set (0 + i * 1) (gx ((xorP (kb k n t) i (numsB s)).getD (0 + i * 1) 0) (byteAt (blockOf k (nAt n (i / 64)) t) (Int.toNat (Int.tmod (i : Int) 64)))))] :=
          Runs.goes envEP ⟨[true, false], _, p26f k (nAt n ((i + 63) / 64)) t s.size (blockOf k (nAt n (i / 64)) t) i _, ⟨h1, hd, h3, h4, hb _ (blockOf_size _ _ _), h3, h4, h2, trivial⟩, wfTP _ _ _ _ _ _ _⟩
        rw [e1, e2, hst _ hkb] at hr
        exact hr
    · exact Runs.goes envEP ⟨[false], _, p26o k _ t s.size _ s.size _, ⟨decide_eq_false (by omega), trivial⟩, wfTP _ _ _ _ _ _ _⟩
  rw [e0] at main
  exact main
noncomputable def EP2 (k : ByteArray) (n : Nat) (t s : ByteArray) : Env :=
  addL EP 4 (bodyOf Try.prog 26 4) (sumC (TP k n t s.size ⟨#[]⟩ ((0 : Nat) : Int)) [bkA (numsB s)] (TP k (nAt n ((s.size + 63) / 64)) t s.size (bP k n t s.size) (s.size : Int)) [bkA (xorP (kb k n t) s.size (numsB s))] (.exit 0))
theorem envEP2 (k : ByteArray) (n : Nat) (t s : ByteArray) (hkt : fitKN k t = true) (hs : s.size ≤ 1000000) : EnvOK (EP2 k n t s) := envAddL envEP (sumC_ok rfl (p26loop k n t s hkt hs))
theorem r26 (k : ByteArray) (n : Nat) (t s : ByteArray) : callR (EP2 k n t s) 1000 26 [strV k, u32 n, strV t, strV s] [] =
    some ([bodyOf Try.prog 26 4 = bodyOf Try.prog 26 4, (TP k n t s.size ⟨#[]⟩ ((0 : Nat) : Int), [bkA (numsB s)]) = (TP k n t s.size ⟨#[]⟩ ((0 : Nat) : Int), [bkA (numsB s)]), wfS (TP k n t s.size ⟨#[]⟩ ((0 : Nat) : Int)) [bkA (numsB s)] = true, 0 = 0 ∧ s.size = (xorP (kb k n t) s.size (numsB s)).length], .val (strV (streamOf k n t s))) := by kernel_rfl
def fnStreamR (vs : List V1) : Option (List Prop × AV) :=
  match vs with
  | [.one (.v (.string k)), .one (.u .u32 n), .one (.v (.string t)), .one (.v (.string s))] => some ([fitKN k t = true, s.size ≤ 1000000], .val (strV (streamOf k n t s)))
  | _ => none
theorem ct26 : CTok ⟨26, fnStreamR⟩ := by
  intro vs ob r h ho
  simp only [fnStreamR] at h
  split at h
  · rename_i k n t s
    simp only [Option.some.injEq, Prod.mk.injEq] at h
    obtain ⟨rfl, rfl⟩ := h
    exact spec_run (envEP2 k n t s ho.1 ho.2.1) rfl (r26 k n t s) ⟨rfl, rfl, wfTP _ _ _ _ _ _ _, ⟨rfl, by rw [xorP_length, numsB_length]⟩, trivial⟩ rfl rfl
  · simp at h
end Go.Ev

