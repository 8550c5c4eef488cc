/- The law WeipackBack holds of every argument, without a condition -/
import Derived.Test.YtciiekkkldbgfaaPackC
import Derived.JoinedOf
import Derived.SizedLaws
namespace Go.Ev
open Go Go.Proofs Go.RowKit
/-! the bytes of numbers, back -/
theorem leB_succ (n x : Nat) : leB (n + 1) x = x % 256 :: leB n (x / 256) := by
  unfold leB
  rw [List.range_succ_eq_map, List.map_cons, List.map_map]
  rw [Nat.pow_zero, Nat.div_one]
  congr 1
  refine List.map_congr_left fun j _ => ?_
  show x / 256 ^ (j + 1) % 256 = x / 256 / 256 ^ j % 256
  rw [Nat.pow_succ, Nat.mul_comm, Nat.div_div_eq_div_mul]
theorem leN_leB : ∀ (n x : Nat), leN (leB n x) = x % 256 ^ n
  | 0, x => by simp [leB, leN, Nat.mod_one]
  | n + 1, x => by
    rw [leB_succ]
    show x % 256 + 256 * leN (leB n (x / 256)) = _
    rw [leN_leB n, Nat.pow_succ, Nat.mul_comm (256 ^ n), Nat.mod_mul]
theorem strOf_app (a b : List Nat) : strOf a ++ strOf b = strOf (a ++ b) := by
  apply ByteArray.ext
  simp [strOf, ByteArray.data_append]
theorem strOf_ext (l : List Nat) (a b : Nat) : (strOf l).extract a b = strOf ((l.take b).drop a) := by
  apply ByteArray.ext
  simp [strOf, ByteArray.data_extract, List.extract_eq_take_drop, List.drop_take, List.map_drop, List.map_take]
theorem bgS_eq (x : Nat) : bgS x = strOf (leB 32 x).reverse := by
  unfold bgS revS
  rw [numsB_strOf _ (leB_lt 32 x)]
theorem beS_strOf {l : List Nat} (h : ∀ b ∈ l, b < 256) : beS (strOf l) = leN l.reverse := by
  unfold beS leS
  rw [revS_nums, numsB_strOf l h]
theorem k0_strOf (b : Nat) (l : List Nat) (h : b < 256) : k0 (strOf (b :: l)) = b := by
  unfold k0 strOf
  simp [UInt8.toNat_ofNat', Nat.mod_eq_of_lt h]
theorem rev_lt (n x : Nat) : ∀ b ∈ (leB n x).reverse, b < 256 := fun b h => leB_lt n x b (List.mem_reverse.1 h)
theorem rev_len (n x : Nat) : (leB n x).reverse.length = n := by rw [List.length_reverse, leB_length]
theorem W8_pow {x : Nat} (h : x < 4294967296 ^ 8) : x < 256 ^ 32 := Nat.lt_of_lt_of_le h (by decide)
/-- a short string. -/
theorem short_of {k x : Nat} (hk : k < 256) (hx : x < 4294967296 ^ 8) : (strOf (k :: (leB 32 x).reverse)).size = 33 ∧ k0 (strOf (k :: (leB 32 x).reverse)) = k ∧ bx (strOf (k :: (leB 32 x).reverse)) = x := by
  refine ⟨by rw [strOf_size, List.length_cons, rev_len], k0_strOf _ _ hk, ?_⟩
  unfold bx
  rw [strOf_ext, List.take_of_length_le (by rw [List.length_cons, rev_len]; exact Nat.le_refl _)]
  show beS (strOf (leB 32 x).reverse) = x
  rw [beS_strOf (rev_lt 32 x), List.reverse_reverse, leN_leB, Nat.mod_eq_of_lt (W8_pow hx)]
/-- a long string. -/
theorem long_of {x : Nat} {r : List Nat} (hx : x < 4294967296 ^ 8) (hr : ∀ b ∈ r, b < 256) (hl : r.length = 32) :
    (strOf (4 :: ((leB 32 x).reverse ++ r))).size = 65 ∧ k0 (strOf (4 :: ((leB 32 x).reverse ++ r))) = 4 ∧ bx (strOf (4 :: ((leB 32 x).reverse ++ r))) = x ∧ yb (strOf (4 :: ((leB 32 x).reverse ++ r))) = leN r.reverse := by
  have hs : (strOf (4 :: ((leB 32 x).reverse ++ r))).size = 65 := by rw [strOf_size, List.length_cons, List.length_append, rev_len, hl]
  refine ⟨hs, k0_strOf _ _ (by decide), ?_, ?_⟩
  · unfold bx
    rw [strOf_ext]
    show beS (strOf (((leB 32 x).reverse ++ r).take 32)) = x
    rw [List.take_append_of_le_length (by rw [rev_len]; exact Nat.le_refl _), List.take_of_length_le (by rw [rev_len]; exact Nat.le_refl _), beS_strOf (rev_lt 32 x), List.reverse_reverse, leN_leB, Nat.mod_eq_of_lt (W8_pow hx)]
  · unfold yb
    rw [hs, strOf_ext, List.take_of_length_le (by rw [List.length_cons, List.length_append, rev_len, hl]; exact Nat.le_refl _)]
    show beS (strOf (((leB 32 x).reverse ++ r).drop 32)) = _
    rw [List.drop_append_of_le_length (by rw [rev_len]; exact Nat.le_refl _), List.drop_of_length_le (by rw [rev_len]; exact Nat.le_refl _), List.nil_append, beS_strOf hr]
theorem packW_eq (x y : Nat) : packW x y = strOf ((2 + y % 2) :: (leB 32 x).reverse) := by
  unfold packW; rw [bgS_eq, strOf_app]; rfl
theorem longW_eq (x y : Nat) : longW x y = strOf (4 :: ((leB 32 x).reverse ++ (leB 32 y).reverse)) := by
  unfold longW; rw [bgS_eq, bgS_eq, strOf_app, strOf_app]; rfl
end Go.Ev

namespace Go.Ev
open Go Go.Proofs Go.RowKit
theorem pr1 : Go.NT.Pr (modN 1) := by rw [modN_P]; exact Go.NT.primeK (by decide)
theorem modN1_odd : modN 1 % 2 = 1 := by decide +kernel
theorem ev1_even (a : Nat) : evC 1 a % 2 = 0 := Go.NT.evenN_even modN1_odd (by rw [modN_P]; exact Go.NT.candN_lt (by decide))
theorem ev1_sq {a : Nat} (h : sqB 1 a = true) : evC 1 a * evC 1 a % modN 1 = a := by
  unfold evC
  rw [Go.NT.evenN_sq (by rw [modN_P]; exact Go.NT.candN_lt (by decide))]
  exact (isSq_iff 1 a).1 h
theorem sum0 {m z : Nat} (hz : z < 2 * m) (h0 : z % m = 0) : z = 0 ∨ z = m := by
  rcases Nat.lt_or_ge z m with h | h
  · rw [Nat.mod_eq_of_lt h] at h0; exact .inl h0
  · right
    have := Nat.mod_eq_sub_mod h
    rw [this, Nat.mod_eq_of_lt (by omega)] at h0
    omega
theorem ev1_of {x a : Nat} (hx : x < modN 1) (h : x * x % modN 1 = a) : sqB 1 a = true ∧ evC 1 a = if x % 2 = 1 then modN 1 - x else x := by
  have hs : sqB 1 a = true := Go.NT.isSq_of (r := x) (by decide) (by rw [← modN_P]; exact h)
  refine ⟨hs, ?_⟩
  have he := ev1_even a
  have hl : evC 1 a < modN 1 := evC_lt (by decide)
  have hq : evC 1 a * evC 1 a % modN 1 = x * x % modN 1 := by rw [ev1_sq hs, h]
  have hm := modN1_odd
  rcases Go.NT.sq_eq pr1 hl hx hq with h1 | h1
  · split <;> omega
  · rcases sum0 (by omega) h1 with h2 | h2 <;> split <;> omega
theorem onS_iff {x y : Nat} : onS x y false = true ↔ x < modN 1 ∧ y < modN 1 ∧ y * y % modN 1 = sqP x := by
  unfold onS ltW
  rw [cond_false, eqW_in]
  simp only [Bool.and_eq_true, decide_eq_true_iff]
  exact ⟨fun ⟨⟨a, b⟩, c⟩ => ⟨a, b, c⟩, fun ⟨a, b, c⟩ => ⟨⟨a, b⟩, c⟩⟩
theorem subM1 {x : Nat} (h0 : x ≠ 0) (hx : x < modN 1) : subM (modN 1) 0 x = modN 1 - x := by
  unfold subM
  rw [Nat.mod_eq_of_lt (by omega), Nat.zero_add]
theorem subM10 : subM (modN 1) 0 0 = 0 := by
  unfold subM
  rw [Nat.zero_add, Nat.sub_zero, Nat.mod_self]
/-- a short string of a spot, with either head. -/
theorem unp_short {x y k : Nat} (hon : onS x y false = true) (hk : k = 2 ∨ k = 3) :
    wE (strOf (k :: (leB 32 x).reverse)) = 0 ∧ wX (strOf (k :: (leB 32 x).reverse)) = x ∧ wY (strOf (k :: (leB 32 x).reverse)) = if k = 2 + y % 2 then y else subM (modN 1) 0 y := by
  obtain ⟨hx, hy, hq⟩ := onS_iff.1 hon
  obtain ⟨h1, h2, h3⟩ := short_of (k := k) (x := x) (by omega) (L8 hx)
  generalize strOf (k :: (leB 32 x).reverse) = s at *
  obtain ⟨e1, e2⟩ := ev1_of hy hq
  have hr : rtS (bx s) = true := by rw [h3]; exact e1
  have hev : evW (bx s) = if y % 2 = 1 then modN 1 - y else y := by rw [h3]; exact e2
  have hkk : (decide (k0 s = 2) || decide (k0 s = 3)) = true := by
    rw [h2]
    rcases hk with rfl | rfl <;> rfl
  have hfd : fdE (bx s) = 0 := by unfold fdE; rw [hr, cond_true]
  have he : wE s = 0 := ((wE_33 h1).trans (bbT hkk (by rw [h3]; exact decide_eq_true hx))).trans hfd
  have hx' : wX s = x := by unfold wX; rw [decide_eq_true he, cond_true, h3]
  refine ⟨he, hx', ?_⟩
  have hyy : wY s = bif decide (2 < k) then subM (modN 1) 0 (evW (bx s)) else evW (bx s) := by
    unfold wY fdY
    rw [decide_eq_true he, cond_true, decide_eq_true h1, cond_true, hr, cond_true, h2]
  have hm := modN1_odd
  rw [hyy, hev]
  rcases hk with rfl | rfl
  · rw [show decide (2 < 2) = false from rfl, cond_false]
    by_cases hp : y % 2 = 1
    · rw [if_pos hp, if_neg (by omega), subM1 (by omega) hy]
    · rw [if_neg hp, if_pos (by omega)]
  · rw [show decide (2 < 3) = true from rfl, cond_true]
    by_cases hp : y % 2 = 1
    · rw [if_pos hp, if_pos (by omega), subM1 (by omega) (by omega)]; omega
    · rw [if_neg hp, if_neg (by omega)]
/-- a long string of a spot, with any Y. -/
theorem unp_long {x : Nat} {r : List Nat} (hx : x < modN 1) (hr : ∀ b ∈ r, b < 256) (hl : r.length = 32) :
    wE (strOf (4 :: ((leB 32 x).reverse ++ r))) = (bif decide (leN r.reverse < modN 1) then (bif onS x (leN r.reverse) false then 0 else 7) else 6) ∧
    (wE (strOf (4 :: ((leB 32 x).reverse ++ r))) = 0 → wX (strOf (4 :: ((leB 32 x).reverse ++ r))) = x ∧ wY (strOf (4 :: ((leB 32 x).reverse ++ r))) = leN r.reverse) := by
  obtain ⟨h1, h2, h3, h4⟩ := long_of (x := x) (L8 hx) hr hl
  generalize strOf (4 :: ((leB 32 x).reverse ++ r)) = s at *
  generalize leN r.reverse = y at *
  constructor
  · rw [wE_65 h1, h2, h3, h4, decide_eq_true hx]
    rfl
  · intro he
    have hx' : wX s = x := by unfold wX; rw [decide_eq_true he, cond_true, h3]
    have hy' : wY s = y := by unfold wY; rw [decide_eq_true he, cond_true, decide_eq_false (by omega), cond_false, h4]
    exact ⟨hx', hy'⟩
/-- one bit of Y turned. -/
theorem turned_y {x y y' : Nat} (hon : onS x y false = true) (hon' : onS x y' false = true) (hne : (y + y') % 2 = 1) : y' = subM (modN 1) 0 y := by
  obtain ⟨hx, hy, hq⟩ := onS_iff.1 hon
  obtain ⟨_, hy', hq'⟩ := onS_iff.1 hon'
  rcases Go.NT.sq_eq pr1 hy hy' (by rw [hq, hq']) with h | h
  · omega
  · rcases sum0 (by omega) h with h2 | h2
    · omega
    · rw [subM1 (by omega) hy]; omega
end Go.Ev

namespace Go.Ev
open Go Go.Proofs Go.RowKit
def pk33 (x y : Nat) (j : Nat) : UInt8 := (packW x y).data.getD j 0
def pk65 (x y : Nat) (j : Nat) : UInt8 := (longW x y).data.getD j 0
theorem pk33_eq (x y : Nat) : strB 33 (pk33 x y) = packW x y := (strB_of (by rw [packW_eq, strOf_size, List.length_cons, rev_len])).symm
theorem pk65_eq (x y : Nat) : strB 65 (pk65 x y) = longW x y := (strB_of (by rw [longW_eq, strOf_size, List.length_cons, List.length_append, rev_len, rev_len])).symm
noncomputable def gP30y : List Val → Option (List Prop × AV)
  | [.n x, .n y, .b i] => some ([mayS x y i = true], .tup [sS (strB 33 (pk33 x y)), .one (.i 0)])
  | _ => none
noncomputable def gP31y : List Val → Option (List Prop × AV)
  | [.n x, .n y, .b i] => some ([mayS x y i = true], .tup [sS (strB 65 (pk65 x y)), .one (.i 0)])
  | _ => none
noncomputable def gP30n : List Val → Option (List Prop × AV)
  | [.n x, .n y, .b i] => some ([mayS x y i = false], .tup [sS ⟨#[]⟩, .one (.i 7)])
  | _ => none
noncomputable def gNgW : List Val → Option (List Prop × AV)
  | [.n x, .n y, .b i] => some ([y < modN 1], .val (P3 x (subM (modN 1) 0 y) i))
  | _ => none
theorem ct30y : CTok ⟨30, fnS [aSp] gP30y⟩ := ctS (by
  intro xs ob r hb h ho
  unfold gP30y at h
  split at h
  · rename_i x y i
    simp only [Option.some.injEq, Prod.mk.injEq] at h
    obtain ⟨rfl, rfl⟩ := h
    obtain ⟨⟨h1, h2, _⟩, _⟩ := hb
    have h := spec30u x y i h1 h2
    unfold pkW pkE at h
    rw [ho.1, cond_true, cond_true, ← pk33_eq] at h
    exact h
  · simp at h)
theorem ct31y : CTok ⟨31, fnS [aSp] gP31y⟩ := ctS (by
  intro xs ob r hb h ho
  unfold gP31y at h
  split at h
  · rename_i x y i
    simp only [Option.some.injEq, Prod.mk.injEq] at h
    obtain ⟨rfl, rfl⟩ := h
    obtain ⟨⟨h1, h2, _⟩, _⟩ := hb
    have h := spec31u x y i h1 h2
    unfold lgW pkE at h
    rw [ho.1, cond_true, cond_true, ← pk65_eq] at h
    exact h
  · simp at h)
theorem ct30n : CTok ⟨30, fnS [aSp] gP30n⟩ := ctS (by
  intro xs ob r hb h ho
  unfold gP30n at h
  split at h
  · rename_i x y i
    simp only [Option.some.injEq, Prod.mk.injEq] at h
    obtain ⟨rfl, rfl⟩ := h
    obtain ⟨⟨h1, h2, _⟩, _⟩ := hb
    have h := spec30u x y i h1 h2
    unfold pkW pkE at h
    rw [ho.1, cond_false, cond_false] at h
    exact h
  · simp at h)
theorem ct27w : CTok ⟨27, fnS [aSp] gNgW⟩ := ctS (by
  intro xs ob r hb h ho
  unfold gNgW at h
  split at h
  · simp only [Option.some.injEq, Prod.mk.injEq] at h
    obtain ⟨rfl, rfl⟩ := h
    exact spec27n _ _ _ ho.1
  · simp at h)
noncomputable def S11 : FuncId → Nat → Bool := fun f t => match f with | 29 => memN t [11, 16, 19, 22, 27, 30, 32, 2000028] | 11 => memN t [25, 28, 31, 35, 2000037, 104, 108, 113, 118, 122, 128, 134, 139, 145] | _ => false
noncomputable def LPb : List CT := ⟨30, fnS [aSp] gP30y⟩ :: ⟨31, fnS [aSp] gP31y⟩ :: ⟨27, fnS [aSp] gNgW⟩ :: ⟨35, fnUnW⟩ :: ⟨37, cV (bV true)⟩ :: ⟨34, fNum9⟩ :: LPw
theorem LPb_ok : AllCT LPb := ⟨ct30y, ct31y, ct27w, ct35u, ctV spec37w, ct34n, LPw_ok⟩
noncomputable def LPm : List CT := ⟨30, fnS [aSp] gP30n⟩ :: ⟨31, fnS [aSp] gP31⟩ :: ⟨37, cV (bV true)⟩ :: ⟨34, fNum9⟩ :: LPw
theorem LPm_ok : AllCT LPm := ⟨ct30n, ct31u, ctV spec37w, ct34n, LPw_ok⟩
noncomputable def EBb (c : Cells) : Env := mkE (ldC 27 (fun off => .agg (fldPs c [.n8, .n8, .b] off)) :: LPb) S11
theorem envEBb (c : Cells) : EnvOK (EBb c) := envMk (show AllCT (ldC 27 (fun off => .agg (fldPs c [.n8, .n8, .b] off)) :: LPb) from ⟨ldC_ok _ _, LPb_ok⟩) _
noncomputable def EBm (c : Cells) : Env := mkE (ldC 27 (fun off => .agg (fldPs c [.n8, .n8, .b] off)) :: LPm) S11
theorem envEBm (c : Cells) : EnvOK (EBm c) := envMk (show AllCT (ldC 27 (fun off => .agg (fldPs c [.n8, .n8, .b] off)) :: LPm) from ⟨ldC_ok _ _, LPm_ok⟩) _
def T11 (a b : Atom) (i : Int) : List AV := slots 148 [(0, .val (.agg [.a a, .a b])), (1, .val (.one (.ptr 2 0))), (2, bV false), (3, iV i)]
theorem wfT11 {X Y : Blk} {a b : Atom} {i : Int} (hX : Free X) (hY : Free Y) (ha : isO 0 a) (hb : isO 1 b) : wfS (T11 a b i) (MH X Y a b) = true :=
  wfS4 (by rcases ha with rfl | ⟨l, k, rfl⟩ <;> rcases hb with rfl | ⟨l', k', rfl⟩ <;> kernel_rfl) hX hY (wfBox ha hb) (wfBox ha hb)
def flS (x y : Nat) : ByteArray := strOf (((pk33 x y 0).toNat % 256 ^^^ 1 % 256) :: (List.range 32).map (fun j => (pk33 x y (j + 1)).toNat))
def flL (x y : Nat) : ByteArray := strOf ((List.range 64).map (fun j => (pk65 x y j).toNat) ++ [(pk65 x y 64).toNat % 256 ^^^ 1 % 256])
theorem b11a (ps : List Piece) (e : TypeId) (c : Cells) (b : Atom) (len cap i : Nat) : runTo (EBb c) 1000 (Env.S (EBb c) 11) (bodyOf Try.prog 11 4) (T11 (Atom.sl 0 0 len cap) b (i : Int)) (MH (rowB c shW len 29) (YL ps e) (Atom.sl 0 0 len cap) b) [true, true, false, false, false, false, false, false, false] (T11 (Atom.sl 0 0 len cap) b ((i : Int) + 1)) 4 =
  some ([decide ((i : Int) < (len : Int)) = true, decide ((i : Int) < (3 : Int)) = true, (0 : Int) ≤ (i : Int) ∧ (i : Int) < (len : Int), LoadsAs Try.prog 27 (rowPs c shW len 0) (0 + i * 50) (V1.agg (fldPs c [.n8, .n8, .b] (0 + i * 50))), (nA c (0 + i * 50)) < 4294967296 ^ 8, (nA c (0 + i * 50 + 8)) < 4294967296 ^ 8, mayS (nA c (0 + i * 50)) (nA c (0 + i * 50 + 8)) (bA c (0 + i * 50 + 8 + 8)) = true, (nA c (0 + i * 50)) < 4294967296 ^ 8, (nA c (0 + i * 50 + 8)) < 4294967296 ^ 8, mayS (nA c (0 + i * 50)) (nA c (0 + i * 50 + 8)) (bA c (0 + i * 50 + 8 + 8)) = true, (!decide (wE (strB 33 (pk33 (nA c (0 + i * 50)) (nA c (0 + i * 50 + 8)))) = 0)) = false, (!decide (wE (strB 65 (pk65 (nA c (0 + i * 50)) (nA c (0 + i * 50 + 8)))) = 0)) = false, (!decide (wE (flS (nA c (0 + i * 50)) (nA c (0 + i * 50 + 8))) = 0)) = false, (!decide (wE (flL (nA c (0 + i * 50)) (nA c (0 + i * 50 + 8))) = 7)) = false, (!(decide (wX (strB 33 (pk33 (nA c (0 + i * 50)) (nA c (0 + i * 50 + 8)))) % 4294967296 ^ 8 = (nA c (0 + i * 50)) % 4294967296 ^ 8) && (decide (wY (strB 33 (pk33 (nA c (0 + i * 50)) (nA c (0 + i * 50 + 8)))) % 4294967296 ^ 8 = (nA c (0 + i * 50 + 8)) % 4294967296 ^ 8) && (false == (bA c (0 + i * 50 + 8 + 8)) && true)))) = false, (!(decide (wX (strB 65 (pk65 (nA c (0 + i * 50)) (nA c (0 + i * 50 + 8)))) % 4294967296 ^ 8 = (nA c (0 + i * 50)) % 4294967296 ^ 8) && (decide (wY (strB 65 (pk65 (nA c (0 + i * 50)) (nA c (0 + i * 50 + 8)))) % 4294967296 ^ 8 = (nA c (0 + i * 50 + 8)) % 4294967296 ^ 8) && (false == (bA c (0 + i * 50 + 8 + 8)) && true)))) = false, (nA c (0 + i * 50)) < 4294967296 ^ 8, (nA c (0 + i * 50 + 8)) < 4294967296 ^ 8, (nA c (0 + i * 50 + 8)) < modN 1, (!(decide (wX (flS (nA c (0 + i * 50)) (nA c (0 + i * 50 + 8))) % 4294967296 ^ 8 = (nA c (0 + i * 50)) % 4294967296 ^ 8) && (decide (wY (flS (nA c (0 + i * 50)) (nA c (0 + i * 50 + 8))) % 4294967296 ^ 8 = subM (modN 1) 0 (nA c (0 + i * 50 + 8)) % 4294967296 ^ 8) && (false == (bA c (0 + i * 50 + 8 + 8)) && true)))) = false, inI ((i : Int) + 1)], .normal, T11 (Atom.sl 0 0 len cap) b ((i : Int) + 1), MH (rowB c shW len 29) (YL ps e) (Atom.sl 0 0 len cap) b) := by kernel_rfl
theorem b11b (ps : List Piece) (e : TypeId) (c : Cells) (b : Atom) (len cap i : Nat) : runTo (EBb c) 1000 (Env.S (EBb c) 11) (bodyOf Try.prog 11 4) (T11 (Atom.sl 0 0 len cap) b (i : Int)) (MH (rowB c shW len 29) (YL ps e) (Atom.sl 0 0 len cap) b) [true, true, false, false, false, true, false, false, false, false] (T11 (Atom.sl 0 0 len cap) b ((i : Int) + 1)) 4 =
  some ([decide ((i : Int) < (len : Int)) = true, decide ((i : Int) < (3 : Int)) = true, (0 : Int) ≤ (i : Int) ∧ (i : Int) < (len : Int), LoadsAs Try.prog 27 (rowPs c shW len 0) (0 + i * 50) (V1.agg (fldPs c [.n8, .n8, .b] (0 + i * 50))), (nA c (0 + i * 50)) < 4294967296 ^ 8, (nA c (0 + i * 50 + 8)) < 4294967296 ^ 8, mayS (nA c (0 + i * 50)) (nA c (0 + i * 50 + 8)) (bA c (0 + i * 50 + 8 + 8)) = true, (nA c (0 + i * 50)) < 4294967296 ^ 8, (nA c (0 + i * 50 + 8)) < 4294967296 ^ 8, mayS (nA c (0 + i * 50)) (nA c (0 + i * 50 + 8)) (bA c (0 + i * 50 + 8 + 8)) = true, (!decide (wE (strB 33 (pk33 (nA c (0 + i * 50)) (nA c (0 + i * 50 + 8)))) = 0)) = false, (!decide (wE (strB 65 (pk65 (nA c (0 + i * 50)) (nA c (0 + i * 50 + 8)))) = 0)) = false, (!decide (wE (flS (nA c (0 + i * 50)) (nA c (0 + i * 50 + 8))) = 0)) = false, (!decide (wE (flL (nA c (0 + i * 50)) (nA c (0 + i * 50 + 8))) = 7)) = true, (!decide (wE (flL (nA c (0 + i * 50)) (nA c (0 + i * 50 + 8))) = 6)) = false, (!(decide (wX (strB 33 (pk33 (nA c (0 + i * 50)) (nA c (0 + i * 50 + 8)))) % 4294967296 ^ 8 = (nA c (0 + i * 50)) % 4294967296 ^ 8) && (decide (wY (strB 33 (pk33 (nA c (0 + i * 50)) (nA c (0 + i * 50 + 8)))) % 4294967296 ^ 8 = (nA c (0 + i * 50 + 8)) % 4294967296 ^ 8) && (false == (bA c (0 + i * 50 + 8 + 8)) && true)))) = false, (!(decide (wX (strB 65 (pk65 (nA c (0 + i * 50)) (nA c (0 + i * 50 + 8)))) % 4294967296 ^ 8 = (nA c (0 + i * 50)) % 4294967296 ^ 8) && (decide (wY (strB 65 (pk65 (nA c (0 + i * 50)) (nA c (0 + i * 50 + 8)))) % 4294967296 ^ 8 = (nA c (0 + i * 50 + 8)) % 4294967296 ^ 8) && (false == (bA c (0 + i * 50 + 8 + 8)) && true)))) = false, (nA c (0 + i * 50)) < 4294967296 ^ 8, (nA c (0 + i * 50 + 8)) < 4294967296 ^ 8, (nA c (0 + i * 50 + 8)) < modN 1, (!(decide (wX (flS (nA c (0 + i * 50)) (nA c (0 + i * 50 + 8))) % 4294967296 ^ 8 = (nA c (0 + i * 50)) % 4294967296 ^ 8) && (decide (wY (flS (nA c (0 + i * 50)) (nA c (0 + i * 50 + 8))) % 4294967296 ^ 8 = subM (modN 1) 0 (nA c (0 + i * 50 + 8)) % 4294967296 ^ 8) && (false == (bA c (0 + i * 50 + 8 + 8)) && true)))) = false, inI ((i : Int) + 1)], .normal, T11 (Atom.sl 0 0 len cap) b ((i : Int) + 1), MH (rowB c shW len 29) (YL ps e) (Atom.sl 0 0 len cap) b) := by kernel_rfl
theorem b11d (ps : List Piece) (e : TypeId) (c : Cells) (b : Atom) (len cap i : Nat) : runTo (EBb c) 1000 (Env.S (EBb c) 11) (bodyOf Try.prog 11 4) (T11 (Atom.sl 0 0 len cap) b (i : Int)) (MH (rowB c shW len 29) (YL ps e) (Atom.sl 0 0 len cap) b) [true, true, false, false, false, true, true, false, false, false, false] (T11 (Atom.sl 0 0 len cap) b ((i : Int) + 1)) 4 =
  some ([decide ((i : Int) < (len : Int)) = true, decide ((i : Int) < (3 : Int)) = true, (0 : Int) ≤ (i : Int) ∧ (i : Int) < (len : Int), LoadsAs Try.prog 27 (rowPs c shW len 0) (0 + i * 50) (V1.agg (fldPs c [.n8, .n8, .b] (0 + i * 50))), (nA c (0 + i * 50)) < 4294967296 ^ 8, (nA c (0 + i * 50 + 8)) < 4294967296 ^ 8, mayS (nA c (0 + i * 50)) (nA c (0 + i * 50 + 8)) (bA c (0 + i * 50 + 8 + 8)) = true, (nA c (0 + i * 50)) < 4294967296 ^ 8, (nA c (0 + i * 50 + 8)) < 4294967296 ^ 8, mayS (nA c (0 + i * 50)) (nA c (0 + i * 50 + 8)) (bA c (0 + i * 50 + 8 + 8)) = true, (!decide (wE (strB 33 (pk33 (nA c (0 + i * 50)) (nA c (0 + i * 50 + 8)))) = 0)) = false, (!decide (wE (strB 65 (pk65 (nA c (0 + i * 50)) (nA c (0 + i * 50 + 8)))) = 0)) = false, (!decide (wE (flS (nA c (0 + i * 50)) (nA c (0 + i * 50 + 8))) = 0)) = false, (!decide (wE (flL (nA c (0 + i * 50)) (nA c (0 + i * 50 + 8))) = 7)) = true, (!decide (wE (flL (nA c (0 + i * 50)) (nA c (0 + i * 50 + 8))) = 6)) = true, (nA c (0 + i * 50)) < 4294967296 ^ 8, (nA c (0 + i * 50 + 8)) < 4294967296 ^ 8, (nA c (0 + i * 50 + 8)) < modN 1, (!(decide (wX (flL (nA c (0 + i * 50)) (nA c (0 + i * 50 + 8))) % 4294967296 ^ 8 = (nA c (0 + i * 50)) % 4294967296 ^ 8) && (decide (wY (flL (nA c (0 + i * 50)) (nA c (0 + i * 50 + 8))) % 4294967296 ^ 8 = subM (modN 1) 0 (nA c (0 + i * 50 + 8)) % 4294967296 ^ 8) && (false == (bA c (0 + i * 50 + 8 + 8)) && true)))) = false, (!(decide (wX (strB 33 (pk33 (nA c (0 + i * 50)) (nA c (0 + i * 50 + 8)))) % 4294967296 ^ 8 = (nA c (0 + i * 50)) % 4294967296 ^ 8) && (decide (wY (strB 33 (pk33 (nA c (0 + i * 50)) (nA c (0 + i * 50 + 8)))) % 4294967296 ^ 8 = (nA c (0 + i * 50 + 8)) % 4294967296 ^ 8) && (false == (bA c (0 + i * 50 + 8 + 8)) && true)))) = false, (!(decide (wX (strB 65 (pk65 (nA c (0 + i * 50)) (nA c (0 + i * 50 + 8)))) % 4294967296 ^ 8 = (nA c (0 + i * 50)) % 4294967296 ^ 8) && (decide (wY (strB 65 (pk65 (nA c (0 + i * 50)) (nA c (0 + i * 50 + 8)))) % 4294967296 ^ 8 = (nA c (0 + i * 50 + 8)) % 4294967296 ^ 8) && (false == (bA c (0 + i * 50 + 8 + 8)) && true)))) = false, (nA c (0 + i * 50)) < 4294967296 ^ 8, (nA c (0 + i * 50 + 8)) < 4294967296 ^ 8, (nA c (0 + i * 50 + 8)) < modN 1, (!(decide (wX (flS (nA c (0 + i * 50)) (nA c (0 + i * 50 + 8))) % 4294967296 ^ 8 = (nA c (0 + i * 50)) % 4294967296 ^ 8) && (decide (wY (flS (nA c (0 + i * 50)) (nA c (0 + i * 50 + 8))) % 4294967296 ^ 8 = subM (modN 1) 0 (nA c (0 + i * 50 + 8)) % 4294967296 ^ 8) && (false == (bA c (0 + i * 50 + 8 + 8)) && true)))) = false, inI ((i : Int) + 1)], .normal, T11 (Atom.sl 0 0 len cap) b ((i : Int) + 1), MH (rowB c shW len 29) (YL ps e) (Atom.sl 0 0 len cap) b) := by kernel_rfl
theorem b11n (ps : List Piece) (e : TypeId) (c : Cells) (b : Atom) (len cap i : Nat) : runTo (EBm c) 1000 (Env.S (EBm c) 11) (bodyOf Try.prog 11 4) (T11 (Atom.sl 0 0 len cap) b (i : Int)) (MH (rowB c shW len 29) (YL ps e) (Atom.sl 0 0 len cap) b) [true, true] (T11 (Atom.sl 0 0 len cap) b ((i : Int) + 1)) 4 =
  some ([decide ((i : Int) < (len : Int)) = true, decide ((i : Int) < (3 : Int)) = true, (0 : Int) ≤ (i : Int) ∧ (i : Int) < (len : Int), LoadsAs Try.prog 27 (rowPs c shW len 0) (0 + i * 50) (V1.agg (fldPs c [.n8, .n8, .b] (0 + i * 50))), (nA c (0 + i * 50)) < 4294967296 ^ 8, (nA c (0 + i * 50 + 8)) < 4294967296 ^ 8, mayS (nA c (0 + i * 50)) (nA c (0 + i * 50 + 8)) (bA c (0 + i * 50 + 8 + 8)) = false, (nA c (0 + i * 50)) < 4294967296 ^ 8, (nA c (0 + i * 50 + 8)) < 4294967296 ^ 8, inI ((i : Int) + 1)], .normal, T11 (Atom.sl 0 0 len cap) b ((i : Int) + 1), MH (rowB c shW len 29) (YL ps e) (Atom.sl 0 0 len cap) b) := by kernel_rfl
theorem b11e (ps : List Piece) (e : TypeId) (c : Cells) (b : Atom) (len cap i : Nat) : runTo (EBb c) 1000 (Env.S (EBb c) 11) (bodyOf Try.prog 11 4) (T11 (Atom.sl 0 0 len cap) b (i : Int)) (MH (rowB c shW len 29) (YL ps e) (Atom.sl 0 0 len cap) b) [true, false] (T11 (Atom.sl 0 0 len cap) b (i : Int)) 4 =
  some ([decide ((i : Int) < (len : Int)) = true, decide ((i : Int) < (3 : Int)) = false], .exit 0, T11 (Atom.sl 0 0 len cap) b (i : Int), MH (rowB c shW len 29) (YL ps e) (Atom.sl 0 0 len cap) b) := by kernel_rfl
theorem b11c (ps : List Piece) (e : TypeId) (c : Cells) (b : Atom) (len cap i : Nat) : runTo (EBb c) 1000 (Env.S (EBb c) 11) (bodyOf Try.prog 11 4) (T11 (Atom.sl 0 0 len cap) b (i : Int)) (MH (rowB c shW len 29) (YL ps e) (Atom.sl 0 0 len cap) b) [false] (T11 (Atom.sl 0 0 len cap) b (i : Int)) 4 =
  some ([decide ((i : Int) < (len : Int)) = false], .exit 0, T11 (Atom.sl 0 0 len cap) b (i : Int), MH (rowB c shW len 29) (YL ps e) (Atom.sl 0 0 len cap) b) := by kernel_rfl
end Go.Ev

namespace Go.Ev
open Go Go.Proofs Go.RowKit
theorem two_lt (x y : Nat) : ∀ b ∈ (2 + y % 2) :: (leB 32 x).reverse, b < 256 := by
  intro b h
  rcases List.mem_cons.1 h with rfl | h
  · omega
  · exact rev_lt 32 x b h
theorem four_lt (x y : Nat) : ∀ b ∈ 4 :: ((leB 32 x).reverse ++ (leB 32 y).reverse), b < 256 := by
  intro b h
  rcases List.mem_cons.1 h with rfl | h
  · decide
  · rcases List.mem_append.1 h with h | h
    · exact rev_lt 32 x b h
    · exact rev_lt 32 y b h
theorem xor1 : ∀ b, b < 256 → b % 256 ^^^ 1 % 256 = if b % 2 = 0 then b + 1 else b - 1 := by decide +kernel
theorem flS_eq (x y : Nat) : flS x y = strOf ((3 - y % 2) :: (leB 32 x).reverse) := by
  have h1 : numsB (strB 33 (pk33 x y)) = (List.range 33).map fun i => (pk33 x y i).toNat := numsB_strB 33 _
  rw [pk33_eq, packW_eq, numsB_strOf _ (two_lt x y), List.range_succ_eq_map, List.map_cons, List.map_map] at h1
  injection h1 with h2 h3
  unfold flS
  have h4 : (List.range 32).map (fun j => (pk33 x y (j + 1)).toNat) = (leB 32 x).reverse := h3.symm
  rw [h4, ← h2, xor1 _ (by omega)]
  congr 2
  split <;> omega
/-- the other Y. -/
def yO (y : Nat) : Nat := if y % 2 = 0 then y + 1 else y - 1
def rO (y : Nat) : List Nat := (leB 31 (y / 256)).reverse ++ [(y % 256) % 256 ^^^ 1 % 256]
theorem flL_eq (x y : Nat) : flL x y = strOf (4 :: ((leB 32 x).reverse ++ rO y)) := by
  have h1 : numsB (strB 65 (pk65 x y)) = (List.range 65).map fun i => (pk65 x y i).toNat := numsB_strB 65 _
  rw [pk65_eq, longW_eq, numsB_strOf _ (four_lt x y), List.range_succ, List.map_append, leB_succ 31 y, List.reverse_cons, ← List.append_assoc, ← List.cons_append] at h1
  obtain ⟨h2, h3⟩ := List.append_inj' h1 rfl
  have h4 : y % 256 = (pk65 x y 64).toNat := by
    have := h3
    simp only [List.map_cons, List.map_nil, List.cons.injEq, and_true] at this
    exact this
  unfold flL rO
  rw [← h2, ← h4]
  rw [List.cons_append, List.append_assoc]
theorem rO_lt (y : Nat) : ∀ b ∈ rO y, b < 256 := by
  intro b h
  rcases List.mem_append.1 h with h | h
  · exact rev_lt 31 _ b h
  · rw [List.mem_singleton.1 h, xor1 _ (by omega)]
    split <;> omega
theorem rO_len (y : Nat) : (rO y).length = 32 := by unfold rO; rw [List.length_append, rev_len]; rfl
theorem leN_cons (b : Nat) (l : List Nat) : leN (b :: l) = b + 256 * leN l := rfl
theorem div31 {y : Nat} (hy : y < 256 ^ 32) : y / 256 < 256 ^ 31 := by
  have h : (256 : Nat) ^ 32 = 256 ^ 31 * 256 := Nat.pow_succ 256 31
  generalize 256 ^ 31 = q at *
  omega
theorem rO_num {y : Nat} (hy : y < 4294967296 ^ 8) : leN (rO y).reverse = yO y := by
  have h31 := div31 (W8_pow hy)
  have hb := xor1 (y % 256) (Nat.mod_lt _ (by decide))
  unfold rO yO
  generalize (y % 256) % 256 ^^^ 1 % 256 = b at *
  rw [List.reverse_append, List.reverse_reverse, List.reverse_singleton, List.singleton_append, leN_cons, leN_leB, Nat.mod_eq_of_lt h31, hb]
  clear hb h31 hy
  split <;> split <;> omega
theorem yO_sum (y : Nat) : (y + yO y) % 2 = 1 := by unfold yO; split <;> omega
/-- both long strings of a spot. -/
theorem unp_longW {x y : Nat} (hon : onS x y false = true) : wE (longW x y) = 0 ∧ wX (longW x y) = x ∧ wY (longW x y) = y := by
  obtain ⟨hx, hy, hq⟩ := onS_iff.1 hon
  obtain ⟨h1, h2⟩ := unp_long (r := (leB 32 y).reverse) hx (rev_lt 32 y) (rev_len 32 y)
  rw [List.reverse_reverse, leN_leB, Nat.mod_eq_of_lt (W8_pow (L8 hy))] at h1 h2
  rw [decide_eq_true hy, cond_true, hon, cond_true, ← longW_eq] at h1
  rw [← longW_eq] at h2
  obtain ⟨h3, h4⟩ := h2 h1
  exact ⟨h1, h3, h4⟩
theorem unp_flL {x y : Nat} (hon : onS x y false = true) : wE (flL x y) = 7 ∨ wE (flL x y) = 6 ∨ (wE (flL x y) = 0 ∧ wX (flL x y) = x ∧ wY (flL x y) = subM (modN 1) 0 y) := by
  obtain ⟨hx, hy, hq⟩ := onS_iff.1 hon
  obtain ⟨h1, h2⟩ := unp_long (r := rO y) hx (rO_lt y) (rO_len y)
  rw [rO_num (L8 hy), ← flL_eq] at h1 h2
  cases hl : decide (yO y < modN 1) with
  | false => rw [hl, cond_false] at h1; exact .inr (.inl h1)
  | true =>
    rw [hl, cond_true] at h1
    cases ho : onS x (yO y) false with
    | false => rw [ho, cond_false] at h1; exact .inl h1
    | true =>
      rw [ho, cond_true] at h1
      obtain ⟨h3, h4⟩ := h2 h1
      exact .inr (.inr ⟨h1, h3, h4.trans (turned_y hon ho (yO_sum y))⟩)
theorem eqs {a b c d : Nat} (h1 : a = c) (h2 : b = d) : (!(decide (a % 4294967296 ^ 8 = c % 4294967296 ^ 8) && (decide (b % 4294967296 ^ 8 = d % 4294967296 ^ 8) && (false == false && true)))) = false := by
  subst h1 h2
  simp
theorem turn11 {c : Cells} {b : Atom} {ps : List Piece} {e : TypeId} (hY : Free (YL ps e)) (hb : isO 1 b) {len cap i : Nat} (hi : i < len) (h3 : i < 3) (ho : All (rowOb c shW len 0)) :
    Goes Try.prog (bodyOf Try.prog 11 4) .normal (T11 (.sl 0 0 len cap) b (i : Int)) (MH (rowB c shW len 29) (YL ps e) (.sl 0 0 len cap) b) (T11 (.sl 0 0 len cap) b ((i : Int) + 1)) (MH (rowB c shW len 29) (YL ps e) (.sl 0 0 len cap) b) := by
  obtain ⟨hx, hy⟩ := rowW_ok hi ho
  have hii : (0 : Int) ≤ (i : Int) ∧ (i : Int) < (len : Int) := by omega
  have hd1 : decide ((i : Int) < (len : Int)) = true := decide_eq_true (by omega)
  have hd2 : decide ((i : Int) < (3 : Int)) = true := decide_eq_true (by omega)
  have hin : inI ((i : Int) + 1) := by unfold inI; omega
  have hw := wfT11 (X := rowB c shW len 29) (Y := YL ps e) (i := (i : Int) + 1) (rowB_free _ _ _ _) hY (.inr ⟨len, cap, rfl⟩) hb
  have hld := ld27 (c := c) hi
  cases hm : mayS (nA c (0 + i * 50)) (nA c (0 + i * 50 + 8)) (bA c (0 + i * 50 + 8 + 8)) with
  | false => exact Runs.goes (envEBm c) ⟨_, _, b11n ps e c b len cap i, ⟨hd1, hd2, hii, hld, hx, hy, hm, hx, hy, hin, trivial⟩, hw⟩
  | true =>
    have ra := b11a ps e c b len cap i
    have rb := b11b ps e c b len cap i
    have rd := b11d ps e c b len cap i
    generalize hX : nA c (0 + i * 50) = x at *
    generalize hYy : nA c (0 + i * 50 + 8) = y at *
    generalize hI : bA c (0 + i * 50 + 8 + 8) = w at *
    have hwf : w = false := by
      have := hm
      unfold mayS at this
      cases w with
      | false => rfl
      | true => rw [Bool.not_true, Bool.and_false] at this; cases this
    subst hwf
    have hon : onS x y false = true := by
      have := hm
      unfold mayS at this
      rw [Bool.not_false, Bool.and_true] at this
      exact this
    have hyl := (onS_iff.1 hon).2.1
    obtain ⟨s1, s2, s3⟩ := unp_short (k := 2 + y % 2) hon (by omega)
    rw [if_pos rfl] at s3
    rw [← packW_eq, ← pk33_eq] at s1 s2 s3
    obtain ⟨l1, l2, l3⟩ := unp_longW hon
    rw [← pk65_eq] at l1 l2 l3
    obtain ⟨f1, f2, f3⟩ := unp_short (k := 3 - y % 2) hon (by omega)
    rw [if_neg (by omega)] at f3
    rw [← flS_eq] at f1 f2 f3
    have z0 : ∀ {n : Int}, n = 0 → (!decide (n = 0)) = false := by rintro _ rfl; rfl
    rcases unp_flL hon with q | q | ⟨q, q2, q3⟩
    · exact Runs.goes (envEBb c) ⟨_, _, ra, ⟨hd1, hd2, hii, hld, hx, hy, hm, hx, hy, hm, z0 s1, z0 l1, z0 f1, by rw [q]; rfl, eqs s2 s3, eqs l2 l3, hx, hy, hyl, eqs f2 f3, hin, trivial⟩, hw⟩
    · exact Runs.goes (envEBb c) ⟨_, _, rb, ⟨hd1, hd2, hii, hld, hx, hy, hm, hx, hy, hm, z0 s1, z0 l1, z0 f1, by rw [q]; rfl, by rw [q]; rfl, eqs s2 s3, eqs l2 l3, hx, hy, hyl, eqs f2 f3, hin, trivial⟩, hw⟩
    · exact Runs.goes (envEBb c) ⟨_, _, rd, ⟨hd1, hd2, hii, hld, hx, hy, hm, hx, hy, hm, z0 s1, z0 l1, z0 f1, by rw [q]; rfl, by rw [q]; rfl, hx, hy, hyl, eqs q2 q3, eqs s2 s3, eqs l2 l3, hx, hy, hyl, eqs f2 f3, hin, trivial⟩, hw⟩
theorem loopP11 {c : Cells} {b : Atom} {ps : List Piece} {e : TypeId} (hY : Free (YL ps e)) (hb : isO 1 b) {len cap : Nat} (ho : All (rowOb c shW len 0)) : ∀ (k i : Nat), i + k = min len 3 → GoesN Try.prog (bodyOf Try.prog 11 4) (k + 1) (.exit 0) (T11 (.sl 0 0 len cap) b (i : Int)) (MH (rowB c shW len 29) (YL ps e) (.sl 0 0 len cap) b) (T11 (.sl 0 0 len cap) b ((min len 3 : Nat) : Int)) (MH (rowB c shW len 29) (YL ps e) (.sl 0 0 len cap) b)
  | 0, i, hk => by
    have hw := wfT11 (X := rowB c shW len 29) (Y := YL ps e) (i := (i : Int)) (rowB_free _ _ _ _) hY (.inr ⟨len, cap, rfl⟩) hb
    have e' : i = min len 3 := by omega
    by_cases hi : i < len
    · rw [← e']
      exact GoesN.out (by simp) (Runs.goes (envEBb c) ⟨_, _, b11e ps e c b len cap i, ⟨decide_eq_true (by omega), decide_eq_false (by omega), trivial⟩, hw⟩)
    · rw [← e']
      exact GoesN.out (by simp) (Runs.goes (envEBb c) ⟨_, _, b11c ps e c b len cap i, ⟨decide_eq_false (by omega), trivial⟩, hw⟩)
  | k + 1, i, hk => by
    have ih := loopP11 (c := c) (len := len) (cap := cap) hY hb ho k (i + 1) (by omega)
    rw [show ((i + 1 : Nat) : Int) = (i : Int) + 1 by omega] at ih
    exact GoesN.cons rfl (turn11 (i := i) hY hb (by omega) (by omega) ho) ih
noncomputable def sumP11 (c : Cells) (ps : List Piece) (e : TypeId) (b : Atom) (len cap : Nat) : List AV → List Blk → List Bool → CoR := sumC (T11 (.sl 0 0 len cap) b ((0 : Nat) : Int)) (MH (rowB c shW len 29) (YL ps e) (.sl 0 0 len cap) b) (T11 (.sl 0 0 len cap) b ((min len 3 : Nat) : Int)) (MH (rowB c shW len 29) (YL ps e) (.sl 0 0 len cap) b) (.exit 0)
theorem sumP11_ok {c : Cells} {b : Atom} {ps : List Piece} {e : TypeId} (hY : Free (YL ps e)) (hb : isO 1 b) {len cap : Nat} (ho : All (rowOb c shW len 0)) : SumOK Try.prog (.loop (bodyOf Try.prog 11 4)) (sumP11 c ps e b len cap) :=
  sumC_ok rfl (loopP11 hY hb ho (min len 3) 0 (by omega)).loop
end Go.Ev

namespace Go.Ev
open Go Go.Proofs Go.RowKit
noncomputable def E11z : Env := mkE LPb S11
theorem envE11z : EnvOK E11z := envMk LPb_ok _
noncomputable def GH00 : Env := E11z
noncomputable def GE00 : Env := GH00
theorem l11k00 : dropM (callBy GE00 (evalC GE00 1000) 11 [V1.agg [.a (.v (.slice none 0 0)), .a (.v (.slice none 0 0))]] [deadB, deadB] [false, false, false]) =
  some ([inI (((0 : Nat) : Int) + ((0 : Nat) : Int)), decide ((0 : Int) < ((0 : Nat) : Int)) = false, decide ((4000 : Int) < (((0 : Nat) : Int) + ((0 : Nat) : Int))) = false, decide ((0 : Int) < ((0 : Nat) : Int)) = false], bV true) := by kernel_rfl
noncomputable def GH01 (cB : Cells) (lB kB : Nat) : Env := addL E11z 3 (bodyOf Try.prog 29 3) (sumH deadB cB (.v (.slice none 0 0)) lB kB ((lB : Int) + ((0 : Nat) : Int)))
noncomputable def GE01 (cB : Cells) (lB kB : Nat) : Env := (GH01 cB lB kB)
theorem l11h01 (cB : Cells) (lB kB : Nat) : dropM (callBy (GH01 cB lB kB) (evalC (GH01 cB lB kB) 1000) 11 [V1.agg [.a (.v (.slice none 0 0)), .a (.sl 1 0 lB kB)]] [deadB, rowB cB shX lB 9] [true]) =
  some ([inI ((lB : Int) + ((0 : Nat) : Int)), bodyOf Try.prog 29 3 = bodyOf Try.prog 29 3, (TH (.v (.slice none 0 0)) (.sl 1 0 lB kB) ((lB : Int) + ((0 : Nat) : Int)) ((0 : Nat) : Int), (MH deadB (rowB cB shX lB 9) (.v (.slice none 0 0)) (.sl 1 0 lB kB))) = (TH (.v (.slice none 0 0)) (.sl 1 0 lB kB) ((lB : Int) + ((0 : Nat) : Int)) ((0 : Nat) : Int), (MH deadB (rowB cB shX lB 9) (.v (.slice none 0 0)) (.sl 1 0 lB kB))), wfS (TH (.v (.slice none 0 0)) (.sl 1 0 lB kB) ((lB : Int) + ((0 : Nat) : Int)) ((0 : Nat) : Int)) (MH deadB (rowB cB shX lB 9) (.v (.slice none 0 0)) (.sl 1 0 lB kB)) = true, decide ((4000 : Int) < hv cB lB 0 ((lB : Int) + ((0 : Nat) : Int))) = true], bV true) := by kernel_rfl
theorem l11k01 (cB : Cells) (lB kB : Nat) : dropM (callBy (GE01 cB lB kB) (evalC (GE01 cB lB kB) 1000) 11 [V1.agg [.a (.v (.slice none 0 0)), .a (.sl 1 0 lB kB)]] [deadB, rowB cB shX lB 9] [false, false]) =
  some ([inI ((lB : Int) + ((0 : Nat) : Int)), bodyOf Try.prog 29 3 = bodyOf Try.prog 29 3, (TH (.v (.slice none 0 0)) (.sl 1 0 lB kB) ((lB : Int) + ((0 : Nat) : Int)) ((0 : Nat) : Int), (MH deadB (rowB cB shX lB 9) (.v (.slice none 0 0)) (.sl 1 0 lB kB))) = (TH (.v (.slice none 0 0)) (.sl 1 0 lB kB) ((lB : Int) + ((0 : Nat) : Int)) ((0 : Nat) : Int), (MH deadB (rowB cB shX lB 9) (.v (.slice none 0 0)) (.sl 1 0 lB kB))), wfS (TH (.v (.slice none 0 0)) (.sl 1 0 lB kB) ((lB : Int) + ((0 : Nat) : Int)) ((0 : Nat) : Int)) (MH deadB (rowB cB shX lB 9) (.v (.slice none 0 0)) (.sl 1 0 lB kB)) = true, decide ((4000 : Int) < hv cB lB 0 ((lB : Int) + ((0 : Nat) : Int))) = false, decide ((0 : Int) < ((0 : Nat) : Int)) = false], bV true) := by kernel_rfl
noncomputable def GH10 (cA : Cells) (lA kA : Nat) : Env := E11z
noncomputable def GE10 (cA : Cells) (lA kA : Nat) : Env := (addL (GH10 cA lA kA) 4 (bodyOf Try.prog 11 4) (sumP11 cA [] 0 (.v (.slice none 0 0)) lA kA))
theorem l11h10 (cA : Cells) (lA kA : Nat) : dropM (callBy (GH10 cA lA kA) (evalC (GH10 cA lA kA) 1000) 11 [V1.agg [.a (.sl 0 0 lA kA), .a (.v (.slice none 0 0))]] [rowB cA shW lA 29, thereB] [false, true]) =
  some ([inI (((0 : Nat) : Int) + (lA : Int)), decide ((0 : Int) < ((0 : Nat) : Int)) = false, decide ((4000 : Int) < (((0 : Nat) : Int) + (lA : Int))) = true], bV true) := by kernel_rfl
theorem l11k10 (cA : Cells) (lA kA : Nat) : dropM (callBy (GE10 cA lA kA) (evalC (GE10 cA lA kA) 1000) 11 [V1.agg [.a (.sl 0 0 lA kA), .a (.v (.slice none 0 0))]] [rowB cA shW lA 29, thereB] [false, false]) =
  some ([inI (((0 : Nat) : Int) + (lA : Int)), decide ((0 : Int) < ((0 : Nat) : Int)) = false, decide ((4000 : Int) < (((0 : Nat) : Int) + (lA : Int))) = false, bodyOf Try.prog 11 4 = bodyOf Try.prog 11 4, (T11 (.sl 0 0 lA kA) (.v (.slice none 0 0)) ((0 : Nat) : Int), (MH (rowB cA shW lA 29) thereB (.sl 0 0 lA kA) (.v (.slice none 0 0)))) = (T11 (.sl 0 0 lA kA) (.v (.slice none 0 0)) ((0 : Nat) : Int), (MH (rowB cA shW lA 29) thereB (.sl 0 0 lA kA) (.v (.slice none 0 0)))), wfS (T11 (.sl 0 0 lA kA) (.v (.slice none 0 0)) ((0 : Nat) : Int)) (MH (rowB cA shW lA 29) thereB (.sl 0 0 lA kA) (.v (.slice none 0 0))) = true], bV true) := by kernel_rfl
noncomputable def GH11 (cA : Cells) (lA kA : Nat) (cB : Cells) (lB kB : Nat) : Env := addL E11z 3 (bodyOf Try.prog 29 3) (sumH (rowB cA shW lA 29) cB (.sl 0 0 lA kA) lB kB ((lB : Int) + (lA : Int)))
noncomputable def GE11 (cA : Cells) (lA kA : Nat) (cB : Cells) (lB kB : Nat) : Env := (addL (GH11 cA lA kA cB lB kB) 4 (bodyOf Try.prog 11 4) (sumP11 cA (rowPs cB shX lB 0) 9 (.sl 1 0 lB kB) lA kA))
theorem l11h11 (cA : Cells) (lA kA : Nat) (cB : Cells) (lB kB : Nat) : dropM (callBy (GH11 cA lA kA cB lB kB) (evalC (GH11 cA lA kA cB lB kB) 1000) 11 [V1.agg [.a (.sl 0 0 lA kA), .a (.sl 1 0 lB kB)]] [rowB cA shW lA 29, rowB cB shX lB 9] [true]) =
  some ([inI ((lB : Int) + (lA : Int)), bodyOf Try.prog 29 3 = bodyOf Try.prog 29 3, (TH (.sl 0 0 lA kA) (.sl 1 0 lB kB) ((lB : Int) + (lA : Int)) ((0 : Nat) : Int), (MH (rowB cA shW lA 29) (rowB cB shX lB 9) (.sl 0 0 lA kA) (.sl 1 0 lB kB))) = (TH (.sl 0 0 lA kA) (.sl 1 0 lB kB) ((lB : Int) + (lA : Int)) ((0 : Nat) : Int), (MH (rowB cA shW lA 29) (rowB cB shX lB 9) (.sl 0 0 lA kA) (.sl 1 0 lB kB))), wfS (TH (.sl 0 0 lA kA) (.sl 1 0 lB kB) ((lB : Int) + (lA : Int)) ((0 : Nat) : Int)) (MH (rowB cA shW lA 29) (rowB cB shX lB 9) (.sl 0 0 lA kA) (.sl 1 0 lB kB)) = true, decide ((4000 : Int) < hv cB lB 0 ((lB : Int) + (lA : Int))) = true], bV true) := by kernel_rfl
theorem l11k11 (cA : Cells) (lA kA : Nat) (cB : Cells) (lB kB : Nat) : dropM (callBy (GE11 cA lA kA cB lB kB) (evalC (GE11 cA lA kA cB lB kB) 1000) 11 [V1.agg [.a (.sl 0 0 lA kA), .a (.sl 1 0 lB kB)]] [rowB cA shW lA 29, rowB cB shX lB 9] [false]) =
  some ([inI ((lB : Int) + (lA : Int)), bodyOf Try.prog 29 3 = bodyOf Try.prog 29 3, (TH (.sl 0 0 lA kA) (.sl 1 0 lB kB) ((lB : Int) + (lA : Int)) ((0 : Nat) : Int), (MH (rowB cA shW lA 29) (rowB cB shX lB 9) (.sl 0 0 lA kA) (.sl 1 0 lB kB))) = (TH (.sl 0 0 lA kA) (.sl 1 0 lB kB) ((lB : Int) + (lA : Int)) ((0 : Nat) : Int), (MH (rowB cA shW lA 29) (rowB cB shX lB 9) (.sl 0 0 lA kA) (.sl 1 0 lB kB))), wfS (TH (.sl 0 0 lA kA) (.sl 1 0 lB kB) ((lB : Int) + (lA : Int)) ((0 : Nat) : Int)) (MH (rowB cA shW lA 29) (rowB cB shX lB 9) (.sl 0 0 lA kA) (.sl 1 0 lB kB)) = true, decide ((4000 : Int) < hv cB lB 0 ((lB : Int) + (lA : Int))) = false, bodyOf Try.prog 11 4 = bodyOf Try.prog 11 4, (T11 (.sl 0 0 lA kA) (.sl 1 0 lB kB) ((0 : Nat) : Int), (MH (rowB cA shW lA 29) (rowB cB shX lB 9) (.sl 0 0 lA kA) (.sl 1 0 lB kB))) = (T11 (.sl 0 0 lA kA) (.sl 1 0 lB kB) ((0 : Nat) : Int), (MH (rowB cA shW lA 29) (rowB cB shX lB 9) (.sl 0 0 lA kA) (.sl 1 0 lB kB))), wfS (T11 (.sl 0 0 lA kA) (.sl 1 0 lB kB) ((0 : Nat) : Int)) (MH (rowB cA shW lA 29) (rowB cB shX lB 9) (.sl 0 0 lA kA) (.sl 1 0 lB kB)) = true], bV true) := by kernel_rfl
end Go.Ev

namespace Go.Ev
open Go Go.Proofs Go.RowKit
set_option maxRecDepth 100000 in
theorem law11 {H : Type} {enc : TypeId × Value → H} {r : Reach} {W : World} {base : Nat} {v : Value} {d : DataW H} {ps : List MemPlace} (hval : Value.okWide Try.prog W r base 56 v) (h : DataW.Trod enc Try.prog W 0 (fun _ => true) true 56 v d ps) (hwt : ∀ n ∈ d.weights Try.prog 56, n ≤ BB) :
    Calls Try.prog 11 #[v] W (Trues W) := by
  refine two_calls shW shX (DA := 20) (DB := 20) (B := BB) (Q := Trues) u56 rfl rfl ct56 c22 c54 c56 uP k29w s29w b29 uX k9 s9 b9 ?_ hval h hwt
  intro cA cB oA oB kA kB w φ hm
  have h00 : (0 : Nat) ≤ BB := Nat.zero_le _
  cases oA with
  | none =>
    cases oB with
    | none => exact law_runMD envE11z l11k00 ⟨inI0 h00 h00, by decide, by decide, by decide, trivial⟩ hm rfl
    | some x =>
      obtain ⟨lB, kB'⟩ := x
      obtain ⟨_, _, _, hlB, hBB⟩ := kB
      have hH : EnvOK (GH01 cB lB kB') := envAddL envE11z (sumH_ok deadB_free (isOn 0) lB kB' _ (by omega) hBB hlB)
      have hE : EnvOK (GE01 cB lB kB') := hH
      by_cases hh : (4000 : Int) < hv cB lB 0 ((lB : Int) + ((0 : Nat) : Int))
      · exact law_runMD hH (l11h01 cB lB kB') ⟨inI0 hlB h00, rfl, rfl, wfTH deadB_free (rowB_free _ _ _ _) (isOn 0) (isOs 1 _ _), decide_eq_true hh, trivial⟩ hm rfl
      · exact law_runMD hE (l11k01 cB lB kB') ⟨inI0 hlB h00, rfl, rfl, wfTH deadB_free (rowB_free _ _ _ _) (isOn 0) (isOs 1 _ _), decide_eq_false hh, by decide, trivial⟩ hm rfl
  | some y =>
    obtain ⟨lA, kA'⟩ := y
    obtain ⟨_, _, hoA, hlA, _⟩ := kA
    cases oB with
    | none =>
      have hm' := mrel_there hm
      have hE : EnvOK (GE10 cA lA kA') := envAddL envE11z (sumP11_ok there_free (isOn 1) hoA)
      by_cases hh : (4000 : Int) < ((0 : Nat) : Int) + (lA : Int)
      · have q := law_runMD envE11z (l11h10 cA lA kA') ⟨inI0 h00 hlA, by decide, decide_eq_true hh, trivial⟩ hm' rfl
        exact q
      · have q := law_runMD hE (l11k10 cA lA kA') ⟨inI0 h00 hlA, by decide, decide_eq_false hh, rfl, rfl, wfT11 (rowB_free _ _ _ _) there_free (isOs 0 _ _) (isOn 1), trivial⟩ hm' rfl
        exact q
    | some x =>
      obtain ⟨lB, kB'⟩ := x
      obtain ⟨_, _, _, hlB, hBB⟩ := kB
      have hH : EnvOK (GH11 cA lA kA' cB lB kB') := envAddL envE11z (sumH_ok (rowB_free _ _ _ _) (isOs 0 _ _) lB kB' _ (by omega) hBB hlB)
      have hE : EnvOK (GE11 cA lA kA' cB lB kB') := envAddL hH (sumP11_ok (row_YL _ _) (isOs 1 _ _) hoA)
      by_cases hh : (4000 : Int) < hv cB lB 0 ((lB : Int) + (lA : Int))
      · exact law_runMD hH (l11h11 cA lA kA' cB lB kB') ⟨inI0 hlB hlA, rfl, rfl, wfTH (rowB_free _ _ _ _) (rowB_free _ _ _ _) (isOs 0 _ _) (isOs 1 _ _), decide_eq_true hh, trivial⟩ hm rfl
      · exact law_runMD hE (l11k11 cA lA kA' cB lB kB') ⟨inI0 hlB hlA, rfl, rfl, wfTH (rowB_free _ _ _ _) (rowB_free _ _ _ _) (isOs 0 _ _) (isOs 1 _ _), decide_eq_false hh, rfl, rfl, wfT11 (rowB_free _ _ _ _) (rowB_free _ _ _ _) (isOs 0 _ _) (isOs 1 _ _), trivial⟩ hm rfl
end Go.Ev

namespace Go.Proofs.Ytciiekkkldbgfaa.Laws
open Go Go.Ev Go.RowKit Go.ChangeShapes Go.WideShapes Go.ChangeAt

set_option maxRecDepth 100000 in
theorem lifted11 (os : Os) (started : os.Started) (H : Type) (enc : TypeId × Value → H) :
    ReturnsInHanded {} Try.checked os 11 .any (Rows.weipackBackSpec.pre6 enc Try.prog Try.f11 Rows.weipackBackRow.domain false) (Rows.weipackBackSpec.post enc Try.prog Try.f11 false true false false) := by
  refine returnsInHanded_of_change_sized (C := Try.checked) own started (by kernel_rfl) Try.func11
    (ChangeSpec.witness6 (enc := enc) (C := Try.checked) false ⟨#[], #[.agg #[.slice none 0 0, .slice none 0 0]], []⟩ 8 (by kernel_rfl) (by kernel_rfl) (by kernel_rfl) (by kernel_rfl)) ?_
  intro W base args ds gs before hval0 hW _ hsz0 _
  have hsz : (DataW.weightsEach Try.prog (Try.f11.params.toList ++ Rows.weipackBackSpec.plain.varTypes Try.prog) (ds ++ gs)).all (· ≤ reachBytes) = true := hsz0
  clear hsz0
  have hval : ∀ (j : Nat) t v, Try.f11.params[j]? = some t → args[j]? = some v → Value.okWide Try.prog W .any base t v := hval0
  have hW' := hW
  obtain ⟨p, q, hA0, hV, hbef, hfz, hnd⟩ := hW
  have hp : Try.f11.params = #[56] := by kernel_rfl
  have hA : DataW.TrodAll enc Try.prog W 0 (fun _ => true) true Try.f11.params.toList args.toList ds p := hA0
  rw [hp] at hA hval
  obtain ⟨v0, d0, rfl, rfl, h0⟩ := trodAll_one hA
  obtain ⟨rfl, rfl⟩ := trodVars_none hV
  refine (law11 (hval 0 56 v0 rfl rfl) h0 (fun n hn => by simpa using List.all_eq_true.1 hsz n (DataW.weights_mem_each (j := 0) (t := 56) (by rw [hp]; rfl) rfl n hn))).mono ?_
  rintro e W' ⟨rfl, hb⟩
  exact ⟨_, rfl, post_true (tb := 4) rfl hp (by kernel_rfl) u4 laid rd56 row56 rfl rfl hW' hb⟩

theorem holds11 : Rows.WeipackBackSaid :=
  OpenClaim.holds_of_wide 11 Try.f11 rfl rfl rfl rfl rfl rfl rfl ⟨rfl, rfl, rfl, rfl, rfl⟩ rfl rfl rfl rfl rfl (by kernel_rfl) Try.func11 (by kernel_rfl)
    (of_decide_eq_true (by kernel_rfl)) (by unfold Func.isWrapper; first | (rw [if_pos (by decide +kernel)]; kernel_rfl) | (rw [if_neg (by decide +kernel)]; exact ⟨rfl, rfl⟩))
    (fun os started H enc _ => lifted11 os started H enc)

end Go.Proofs.Ytciiekkkldbgfaa.Laws

namespace Go.Proofs.Ytciiekkkldbgfaa
open Go
theorem weipackBack_holds : Rows.WeipackBackSaid := Laws.holds11
end Go.Proofs.Ytciiekkkldbgfaa

