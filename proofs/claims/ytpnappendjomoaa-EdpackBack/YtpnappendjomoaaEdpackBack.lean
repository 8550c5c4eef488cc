/- The law EdpackBack holds of every argument, without a condition -/
import Derived.Test.YtpnappendjomoaaPackC
import Derived.Test.YtpnappendjomoaaPackA
import Derived.Test.YtpnappendjomoaaCurve
import Derived.JoinedOf
import Derived.SizedLaws
namespace Go.Ev
open Go Go.Proofs Go.RowKit
/-! the law of the curve, turned towards its x -/
def zE (y : Nat) : Nat := addM (modN 0) 1 (mulM (modN 0) dN (mulM (modN 0) y y))
def nuE (y : Nat) : Nat := subM (modN 0) (mulM (modN 0) y y) 1
theorem zE_cz (y : Nat) : C0 (zE y) (1 + (dN : Int) * (y * y)) :=
  (cz_add _ _).trans (((Cz.refl _ 1).add ((cz_mul _ _).trans ((Cz.refl _ _).mul (cz_mul y y)))).trans (Cz.of_eq rfl))
theorem nuE_cz (y : Nat) : C0 (nuE y) ((y : Int) * y - 1) := (cz_sub (modN_one 0)).trans ((cz_mul y y).sub (Cz.refl _ 1))
theorem zE_ne (y : Int) : ¬ C0 (1 + (dN : Int) * (y * y)) 0 := by
  intro h
  have hy : C0 y 0 := nsq (s := y) (t := 1) (h.lc1 1 (by grind))
  exact one_ne (h.lc2 hy 1 (-((dN : Int) * y)) (by grind))
theorem zE_lt (y : Nat) : zE y < modN 0 := addM_lt (modN_pos 0)
theorem uE_down (y : Nat) : uE y = pDown ⟨0, 0, zE y, 0⟩ (nuE y) := by
  have h := down_in (p := ⟨0, 0, zE y, 0⟩) ⟨modN_pos 0, modN_pos 0, zE_lt y, modN_pos 0⟩ (nuE y)
  rw [← h]
  have e1 : yyE y = inN (modN 0) (mulM (modN 0) y y) := in_mul (by decide) y y
  have e2 : bwE y = inN (modN 0) (zE y) := by
    unfold bwE zE
    rw [e1, in_mul (by decide) dN (mulM (modN 0) y y), in_add 1 (mulM (modN 0) dN (mulM (modN 0) y y))]
  unfold uE
  rw [e1, e2, in_sub (modN_pos 0) (modN_one 0)]
  rfl
theorem uE_cz (y : Nat) : C0 ((uE y : Int) * (1 + (dN : Int) * (y * y))) ((y : Int) * y - 1) := by
  have hz := zE_cz y
  have hc := nuE_cz y
  have hi := inv_cz (k := 0) (by decide) (zE_lt y) (fun h => zE_ne y (hz.symm.trans h))
  have hu : C0 (uE y) ((nuE y : Int) * invP 0 (zE y)) := by
    rw [uE_down]
    exact cz_mul _ _
  exact hu.lc4 hz hc hi (1 + (dN : Int) * (y * y)) (-((nuE y : Int) * invP 0 (zE y))) 1 (nuE y) (by grind)
theorem uE_on {x y : Nat} (h : On x y) : C0 ((x : Int) * x) (uE y) := by
  have hu := uE_cz y
  unfold On at h
  refine (cz_cancel pr0 (a := 1 + (dN : Int) * (y * y)) (hu.lc2 h 1 1 ?_) (zE_ne y)).symm
  grind
theorem on_uE {x y : Nat} (h : C0 ((x : Int) * x) (uE y)) : On x y := by
  have hu := uE_cz y
  unfold On
  exact hu.lc2 h (-1) (-(1 + (dN : Int) * (y * y))) (by grind)
theorem modN0_odd : modN 0 % 2 = 1 := by decide +kernel
theorem ev_even (a : Nat) : evC 0 a % 2 = 0 := Go.NT.evenN_even modN0_odd (by rw [modN_P]; exact Go.NT.candN_lt (by decide))
theorem ev_sq {a : Nat} (h : sqB 0 a = true) : evC 0 a * evC 0 a % modN 0 = a := by
  unfold evC
  rw [Go.NT.evenN_sq (by rw [modN_P]; exact Go.NT.candN_lt (by decide))]
  exact (isSq_iff 0 a).1 h
/-- the even root of the square of a number. -/
theorem ev_of {x a : Nat} (hx : x < modN 0) (h : x * x % modN 0 = a) : sqB 0 a = true ∧ evC 0 a = if x % 2 = 1 then modN 0 - x else x := by
  have hs : sqB 0 a = true := Go.NT.isSq_of (r := x) (by decide) (by rw [← modN_P]; exact h)
  refine ⟨hs, ?_⟩
  have he := ev_even a
  have hl : evC 0 a < modN 0 := evC_lt (by decide)
  have hq : evC 0 a * evC 0 a % modN 0 = x * x % modN 0 := by rw [ev_sq hs, h]
  have hm := modN0_odd
  have h0 : ∀ z : Nat, z < 2 * modN 0 → z % modN 0 = 0 → z = 0 ∨ z = modN 0 := by
    intro z hz h0
    rcases Nat.lt_or_ge z (modN 0) with h | h
    · rw [Nat.mod_eq_of_lt h] at h0; exact .inl h0
    · right
      have := Nat.mod_eq_sub_mod h
      rw [this, Nat.mod_eq_of_lt (by omega)] at h0
      omega
  rcases Go.NT.sq_eq pr0 hl hx hq with h1 | h1
  · split <;> omega
  · rcases h0 _ (by omega) h1 with h2 | h2 <;> split <;> omega
/-! the bytes of numbers, back -/
theorem leB_succ (n x : Nat) : leB (n + 1) x = x % 256 :: leB n (x / 256) := by
  unfold leB
  rw [List.range_succ_eq_map, List.map_cons, List.map_map]
  rw [Nat.pow_zero, Nat.div_one]
  congr 1
  refine List.map_congr_left fun j _ => ?_
  show x / 256 ^ (j + 1) % 256 = x / 256 / 256 ^ j % 256
  rw [Nat.pow_succ, Nat.mul_comm, Nat.div_div_eq_div_mul]
theorem leN_leB : ∀ (n x : Nat), leN (leB n x) = x % 256 ^ n
  | 0, x => by simp [leB, leN, Nat.mod_one]
  | n + 1, x => by
    rw [leB_succ]
    show x % 256 + 256 * leN (leB n (x / 256)) = _
    rw [leN_leB n, Nat.pow_succ, Nat.mul_comm (256 ^ n), Nat.mod_mul]
theorem leB_leN : ∀ l : List Nat, (∀ b ∈ l, b < 256) → leB l.length (leN l) = l
  | [], _ => rfl
  | b :: l, h => by
    have hb := h b (List.mem_cons_self ..)
    have ih := leB_leN l fun x hx => h x (List.mem_cons_of_mem _ hx)
    show leB (l.length + 1) (b + 256 * leN l) = b :: l
    rw [leB_succ, show (b + 256 * leN l) % 256 = b by omega, show (b + 256 * leN l) / 256 = leN l by omega, ih]
theorem leS_leB {x : Nat} (h : x < 256 ^ 32) : leS (strOf (leB 32 x)) = x := by
  unfold leS
  rw [numsB_strOf _ (leB_lt 32 x), leN_leB, Nat.mod_eq_of_lt h]
theorem strOf_leS {s : ByteArray} (h : s.size = 32) : strOf (leB 32 (leS s)) = s := by
  have := leB_leN (numsB s) (numsB_lt s)
  rw [numsB_length, h] at this
  unfold leS
  rw [this, strOf_numsB]
end Go.Ev

namespace Go.Ev
open Go Go.Proofs Go.RowKit
theorem sq_uE {x y : Nat} (h : On x y) : x * x % modN 0 = uE y := by
  refine Cz.nat (Nat.mod_lt _ (modN_pos 0)) (uE_lt y) ?_
  have h1 := cz_mod (m := modN 0) (x * x)
  rw [Int.natCast_mul] at h1
  exact h1.trans (uE_on h)
theorem subM0 {x : Nat} (h0 : x ≠ 0) (hx : x < modN 0) : subM (modN 0) 0 x = modN 0 - x := by
  unfold subM
  rw [Nat.mod_eq_of_lt (by omega), Nat.zero_add]
theorem unp_of {s : ByteArray} {x y o : Nat} (hon : onE x y = true) (hs : s.size = 32) (hl : leS s = y + 57896044618658097711785492504343953926634992332820282019728792003956564819968 * o) (ho : o < 2) :
    unpE s = (if o = 1 ∧ x = 0 then 6 else 0) ∧ (unpE s = 0 → unpX s = (if o = x % 2 then x else subM (modN 0) 0 x) ∧ unpY s = y) := by
  obtain ⟨hx, hy, hO⟩ := onE_iff.1 hon
  have hM := mod0_lt
  have hyU : yU s = y := by rw [yU_eq s hs, hl]; omega
  have hodd : oddU s = decide (o = 1) := by
    unfold oddU
    rw [hl]
    congr 1
    rw [show (y + 57896044618658097711785492504343953926634992332820282019728792003956564819968 * o) / 57896044618658097711785492504343953926634992332820282019728792003956564819968 = o by omega]
  obtain ⟨h1, h2⟩ := ev_of hx (sq_uE hO)
  have hsq : sqU s = true := by unfold sqU; rw [hyU]; exact h1
  have hev : evU s = if x % 2 = 1 then modN 0 - x else x := by unfold evU; rw [hyU]; exact h2
  have hodd2 := modN0_odd
  have hE : unpE s = bif decide (o = 1) && decide (evU s = 0) then 6 else 0 := by
    unfold unpE
    rw [decide_eq_true hs, hyU, decide_eq_true hy, hsq, hodd]; rfl
  have hev0 : evU s = 0 ↔ x = 0 := by
    rw [hev]; split <;> omega
  constructor
  · rw [hE]
    by_cases hc : o = 1 ∧ x = 0
    · rw [if_pos hc, decide_eq_true hc.1, decide_eq_true (hev0.2 hc.2)]; rfl
    · rw [if_neg hc]
      by_cases h3 : o = 1
      · have h4 : ¬ evU s = 0 := fun h => hc ⟨h3, hev0.1 h⟩
        rw [decide_eq_true h3, decide_eq_false h4]; rfl
      · rw [decide_eq_false h3]; rfl
  · intro h0
    obtain ⟨e1, e2⟩ := unp_ok s h0
    rw [e1, e2, hodd, hyU]
    refine ⟨?_, rfl⟩
    have hnc : ¬ (o = 1 ∧ x = 0) := by
      rintro ⟨h3, h4⟩
      rw [hE, decide_eq_true h3, decide_eq_true (hev0.2 h4)] at h0
      cases h0
    by_cases h3 : o = 1
    · have hx0 : x ≠ 0 := fun h => hnc ⟨h3, h⟩
      rw [decide_eq_true h3, cond_true, hev]
      by_cases hp : x % 2 = 1
      · rw [if_pos hp, if_pos (by omega), subM0 (by omega) (by omega)]; omega
      · rw [if_neg hp, if_neg (by omega)]
    · rw [decide_eq_false h3, cond_false, hev]
      by_cases hp : x % 2 = 1
      · rw [if_pos hp, if_neg (by omega), subM0 (by omega) hx]
      · rw [if_neg hp, if_pos (by omega)]
theorem five : ∀ b1 b2 b3 b4 b5 : Bool, (bif b1 then (bif b2 then (bif b3 then (bif b4 && b5 then 6 else 0) else 7) else 6) else 1 : Int) = 0 → b1 = true ∧ b2 = true ∧ b3 = true ∧ (b4 && b5) = false := by decide
theorem unpE_zero {s : ByteArray} (h : unpE s = 0) : s.size = 32 ∧ yU s < modN 0 ∧ sqU s = true ∧ (oddU s = true → evU s ≠ 0) := by
  unfold unpE at h
  obtain ⟨h1, h2, h3, h4⟩ := five _ _ _ _ _ h
  refine ⟨of_decide_eq_true h1, of_decide_eq_true h2, h3, fun ho h0 => ?_⟩
  rw [ho, Bool.true_and] at h4
  exact of_decide_eq_false h4 h0
theorem root_unp {s : ByteArray} (h : unpE s = 0) : unpX s < modN 0 ∧ unpX s % 2 = (if oddU s = true then 1 else 0) ∧ unpX s * unpX s % modN 0 = uE (yU s) := by
  have hodd2 := modN0_odd
  obtain ⟨hs, hy, hsq, hnz⟩ := unpE_zero h
  obtain ⟨e1, e2⟩ := unp_ok s h
  have hev : evU s < modN 0 := evC_lt (by decide)
  have hee : evU s % 2 = 0 := ev_even _
  have hq : evU s * evU s % modN 0 = uE (yU s) := ev_sq hsq
  rw [e1]
  generalize evU s = ev at *
  generalize uE (yU s) = u at *
  generalize hM : modN 0 = M at *
  cases ho : oddU s with
  | false => 
    rw [cond_false, if_neg (by decide)]
    exact ⟨hev, hee, hq⟩
  | true =>
    have h0 := hnz ho
    have e0 : subM M 0 ev = M - ev := by rw [← hM]; exact subM0 h0 (by rw [hM]; exact hev)
    rw [cond_true, e0, if_pos rfl]
    exact ⟨by omega, by omega, by rw [Go.NT.neg_sq (by omega)]; exact hq⟩
theorem on_unp {s : ByteArray} (h : unpE s = 0) : onE (unpX s) (yU s) = true := by
  obtain ⟨hs, hy, hsq, hnz⟩ := unpE_zero h
  obtain ⟨hXl, hXp, hXq⟩ := root_unp h
  refine onE_iff.2 ⟨hXl, hy, on_uE ?_⟩
  have h1 := cz_mod (m := modN 0) (unpX s * unpX s)
  rw [Int.natCast_mul, hXq] at h1
  exact h1.symm
/-- what is unpacked packs to the same bytes. -/
theorem pack_unp {s : ByteArray} (h : unpE s = 0) : onE (unpX s) (unpY s) = true ∧ packB (unpX s) (unpY s) = s := by
  obtain ⟨hs, hy, hsq, hnz⟩ := unpE_zero h
  obtain ⟨hXl, hXp, hXq⟩ := root_unp h
  have hon := on_unp h
  obtain ⟨e1, e2⟩ := unp_ok s h
  rw [e2]
  refine ⟨hon, ?_⟩
  have hl := leS_lt s
  rw [hs] at hl
  have hyU := yU_eq s hs
  unfold packB
  have hd : leS s / 57896044618658097711785492504343953926634992332820282019728792003956564819968 = unpX s % 2 := by
    rw [hXp]
    cases ho : oddU s with
    | true => unfold oddU at ho; rw [if_pos rfl]; exact of_decide_eq_true ho
    | false =>
      unfold oddU at ho
      have := of_decide_eq_false ho
      rw [if_neg (by decide)]; omega
  rw [← hd, hyU, show leS s % 57896044618658097711785492504343953926634992332820282019728792003956564819968 + 57896044618658097711785492504343953926634992332820282019728792003956564819968 * (leS s / 57896044618658097711785492504343953926634992332820282019728792003956564819968) = leS s by omega]
  exact strOf_leS hs
/-- what is packed unpacks to the same. -/
theorem unp_pack {x y : Nat} (hon : onE x y = true) : (packB x y).size = 32 ∧ unpE (packB x y) = 0 ∧ unpX (packB x y) = x ∧ unpY (packB x y) = y := by
  obtain ⟨hx, hy⟩ := onE_lt hon
  have hM := mod0_lt
  have hs : (packB x y).size = 32 := by unfold packB; rw [strOf_size, leB_length]
  have hl : leS (packB x y) = y + 57896044618658097711785492504343953926634992332820282019728792003956564819968 * (x % 2) := leS_leB (by omega)
  obtain ⟨h1, h2⟩ := unp_of hon hs hl (by omega)
  have h0 : unpE (packB x y) = 0 := by rw [h1, if_neg (by omega)]
  obtain ⟨h3, h4⟩ := h2 h0
  rw [if_pos rfl] at h3
  exact ⟨hs, h0, h3, h4⟩
end Go.Ev

namespace Go.Ev
open Go Go.Proofs Go.RowKit
def pkb (x y : Nat) (i : Nat) : UInt8 := (packB x y).data.getD i 0
noncomputable def gP47y : List Val → Option (List Prop × AV)
  | [.n x, .n y] => some ([onE x y = true], .tup [sS (strB 32 (pkb x y)), .one (.i 0)])
  | _ => none
noncomputable def gP47n : List Val → Option (List Prop × AV)
  | [.n x, .n y] => some ([onE x y = false], .tup [sS ⟨#[]⟩, .one (.i 7)])
  | _ => none
theorem pkb_eq {x y : Nat} (h : onE x y = true) : strB 32 (pkb x y) = packB x y := (strB_of (unp_pack h).1).symm
theorem ct47y : CTok ⟨47, fnS [.s [.n8, .n8]] gP47y⟩ := ctS (by
  intro xs ob r hb h ho
  unfold gP47y at h
  split at h
  · simp only [Option.some.injEq, Prod.mk.injEq] at h
    obtain ⟨rfl, rfl⟩ := h
    obtain ⟨⟨h1, h2, _⟩, _⟩ := hb
    have h := spec47u _ _ h1 h2
    unfold packS packE at h
    rw [ho.1, cond_true, cond_true, ← pkb_eq ho.1] at h
    exact h
  · simp at h)
theorem ct47n : CTok ⟨47, fnS [.s [.n8, .n8]] gP47n⟩ := ctS (by
  intro xs ob r hb h ho
  unfold gP47n at h
  split at h
  · simp only [Option.some.injEq, Prod.mk.injEq] at h
    obtain ⟨rfl, rfl⟩ := h
    obtain ⟨⟨h1, h2, _⟩, _⟩ := hb
    have h := spec47u _ _ h1 h2
    unfold packS packE at h
    rw [ho.1, cond_false, cond_false] at h
    exact h
  · simp at h)
noncomputable def S14 : FuncId → Nat → Bool := fun f t => match f with | 46 => memN t [11, 16, 19, 22, 27, 30, 32, 2000028] | 14 => memN t [23, 26, 29, 33, 2000035, 68, 72, 77, 80, 83, 88, 94, 97, 100, 105, 2000106, 112, 120, 126, 2000127, 128] | _ => false
noncomputable def LBk (c : Cells) : List CT := ⟨47, fnS [.s [.n8, .n8]] gP47y⟩ :: ⟨43, fnS [aPt] g43R⟩ :: ldC 51 (fun off => .agg (fldPs c [.n8, .n8] off)) :: LPk
noncomputable def EBk (c : Cells) : Env := mkE (LBk c) S14
def T14 (a b : Atom) (i : Int) : List AV := slots 131 [(0, .val (.agg [.a a, .a b])), (1, .val (.one (.ptr 2 0))), (2, bV false), (3, iV i)]
def flS (x y : Nat) : ByteArray := strOf ((List.range 31).map (fun j => (pkb x y j).toNat) ++ [(pkb x y 31).toNat % 256 ^^^ 128 % 256])
theorem envEBk (c : Cells) : EnvOK (EBk c) := envMk (show AllCT (LBk c) from ⟨ct47y, ct43R, ldC_ok _ _, LPk_ok⟩) _
noncomputable def LBn (c : Cells) : List CT := ⟨47, fnS [.s [.n8, .n8]] gP47n⟩ :: ldC 51 (fun off => .agg (fldPs c [.n8, .n8] off)) :: LPk
noncomputable def EBn (c : Cells) : Env := mkE (LBn c) S14
theorem envEBn (c : Cells) : EnvOK (EBn c) := envMk (show AllCT (LBn c) from ⟨ct47n, ldC_ok _ _, LPk_ok⟩) _
theorem wfT14 {X Y : Blk} {a b : Atom} {i : Int} (hX : Free X) (hY : Free Y) (ha : isO 0 a) (hb : isO 1 b) : wfS (T14 a b i) (MH X Y a b) = true :=
  wfS4 (by rcases ha with rfl | ⟨l, k, rfl⟩ <;> rcases hb with rfl | ⟨l', k', rfl⟩ <;> kernel_rfl) hX hY (wfBox ha hb) (wfBox ha hb)
theorem b14z (Y : Blk) (c : Cells) (b : Atom) (len cap i : Nat) : runTo (EBk c) 1000 (Env.S (EBk c) 14) (bodyOf Try.prog 14 4) (T14 (Atom.sl 0 0 len cap) b (i : Int)) (MH (rowB c shE len 53) Y (Atom.sl 0 0 len cap) b) [true, true, false, false, true, false] (T14 (Atom.sl 0 0 len cap) b ((i : Int) + 1)) 4 =
  some ([decide ((i : Int) < (len : Int)) = true, decide ((i : Int) < (3 : Int)) = true, (0 : Int) ≤ (i : Int) ∧ (i : Int) < (len : Int), LoadsAs Try.prog 51 (rowPs c shE len 0) (0 + i * 48) (V1.agg (fldPs c [.n8, .n8] (0 + i * 48))), (nA c (0 + i * 48)) < 4294967296 ^ 8, (nA c (0 + i * 48 + 8)) < 4294967296 ^ 8, onE (nA c (0 + i * 48)) (nA c (0 + i * 48 + 8)) = true, (!decide (unpE (strB 32 (pkb (nA c (0 + i * 48)) (nA c (0 + i * 48 + 8)))) = 0)) = false, (!(decide (unpX (strB 32 (pkb (nA c (0 + i * 48)) (nA c (0 + i * 48 + 8)))) % 4294967296 ^ 8 = (nA c (0 + i * 48)) % 4294967296 ^ 8) && (decide (unpY (strB 32 (pkb (nA c (0 + i * 48)) (nA c (0 + i * 48 + 8)))) % 4294967296 ^ 8 = (nA c (0 + i * 48 + 8)) % 4294967296 ^ 8) && true))) = false, isZ (nA c (0 + i * 48)) = true, (!decide (unpE (flS (nA c (0 + i * 48)) (nA c (0 + i * 48 + 8))) = 6)) = false, inI ((i : Int) + 1)], .normal, T14 (Atom.sl 0 0 len cap) b ((i : Int) + 1), MH (rowB c shE len 53) Y (Atom.sl 0 0 len cap) b) := by kernel_rfl
theorem b14pt (ps : List Piece) (e : TypeId) (c : Cells) (b : Atom) (len cap i : Nat) : runTo (EBk c) 1000 (Env.S (EBk c) 14) (bodyOf Try.prog 14 4) (T14 (Atom.sl 0 0 len cap) b (i : Int)) (MH (rowB c shE len 53) ⟨ps, e, true, true, 0⟩ (Atom.sl 0 0 len cap) b) [true, true, false, false, false, false, false] (T14 (Atom.sl 0 0 len cap) b ((i : Int) + 1)) 4 =
  some ([decide ((i : Int) < (len : Int)) = true, decide ((i : Int) < (3 : Int)) = true, (0 : Int) ≤ (i : Int) ∧ (i : Int) < (len : Int), LoadsAs Try.prog 51 (rowPs c shE len 0) (0 + i * 48) (V1.agg (fldPs c [.n8, .n8] (0 + i * 48))), (nA c (0 + i * 48)) < 4294967296 ^ 8, (nA c (0 + i * 48 + 8)) < 4294967296 ^ 8, onE (nA c (0 + i * 48)) (nA c (0 + i * 48 + 8)) = true, (!decide (unpE (strB 32 (pkb (nA c (0 + i * 48)) (nA c (0 + i * 48 + 8)))) = 0)) = false, (!(decide (unpX (strB 32 (pkb (nA c (0 + i * 48)) (nA c (0 + i * 48 + 8)))) % 4294967296 ^ 8 = (nA c (0 + i * 48)) % 4294967296 ^ 8) && (decide (unpY (strB 32 (pkb (nA c (0 + i * 48)) (nA c (0 + i * 48 + 8)))) % 4294967296 ^ 8 = (nA c (0 + i * 48 + 8)) % 4294967296 ^ 8) && true))) = false, isZ (nA c (0 + i * 48)) = false, (!decide (unpE (flS (nA c (0 + i * 48)) (nA c (0 + i * 48 + 8))) = 0)) = false, (nA c (0 + i * 48)) < 4294967296 ^ 8, (nA c (0 + i * 48 + 8)) < 4294967296 ^ 8, onE (nA c (0 + i * 48)) (nA c (0 + i * 48 + 8)) = true, (!(decide (unpX (flS (nA c (0 + i * 48)) (nA c (0 + i * 48 + 8))) % 4294967296 ^ 8 = subM (modN 0) 0 (nA c (0 + i * 48)) % 4294967296 ^ 8) && (decide (unpY (flS (nA c (0 + i * 48)) (nA c (0 + i * 48 + 8))) % 4294967296 ^ 8 = (nA c (0 + i * 48 + 8)) % 4294967296 ^ 8) && true))) = false, inI ((i : Int) + 1)], .normal, T14 (Atom.sl 0 0 len cap) b ((i : Int) + 1), MH (rowB c shE len 53) ⟨ps, e, true, true, 0⟩ (Atom.sl 0 0 len cap) b) := by kernel_rfl
theorem b14n (Y : Blk) (c : Cells) (b : Atom) (len cap i : Nat) : runTo (EBn c) 1000 (Env.S (EBn c) 14) (bodyOf Try.prog 14 4) (T14 (Atom.sl 0 0 len cap) b (i : Int)) (MH (rowB c shE len 53) Y (Atom.sl 0 0 len cap) b) [true, true] (T14 (Atom.sl 0 0 len cap) b ((i : Int) + 1)) 4 =
  some ([decide ((i : Int) < (len : Int)) = true, decide ((i : Int) < (3 : Int)) = true, (0 : Int) ≤ (i : Int) ∧ (i : Int) < (len : Int), LoadsAs Try.prog 51 (rowPs c shE len 0) (0 + i * 48) (V1.agg (fldPs c [.n8, .n8] (0 + i * 48))), (nA c (0 + i * 48)) < 4294967296 ^ 8, (nA c (0 + i * 48 + 8)) < 4294967296 ^ 8, onE (nA c (0 + i * 48)) (nA c (0 + i * 48 + 8)) = false, inI ((i : Int) + 1)], .normal, T14 (Atom.sl 0 0 len cap) b ((i : Int) + 1), MH (rowB c shE len 53) Y (Atom.sl 0 0 len cap) b) := by kernel_rfl
theorem b14b (Y : Blk) (c : Cells) (b : Atom) (len cap i : Nat) : runTo (EBk c) 1000 (Env.S (EBk c) 14) (bodyOf Try.prog 14 4) (T14 (Atom.sl 0 0 len cap) b (i : Int)) (MH (rowB c shE len 53) Y (Atom.sl 0 0 len cap) b) [true, false] (T14 (Atom.sl 0 0 len cap) b (i : Int)) 4 =
  some ([decide ((i : Int) < (len : Int)) = true, decide ((i : Int) < (3 : Int)) = false], .exit 0, T14 (Atom.sl 0 0 len cap) b (i : Int), MH (rowB c shE len 53) Y (Atom.sl 0 0 len cap) b) := by kernel_rfl
theorem b14c (Y : Blk) (c : Cells) (b : Atom) (len cap i : Nat) : runTo (EBk c) 1000 (Env.S (EBk c) 14) (bodyOf Try.prog 14 4) (T14 (Atom.sl 0 0 len cap) b (i : Int)) (MH (rowB c shE len 53) Y (Atom.sl 0 0 len cap) b) [false] (T14 (Atom.sl 0 0 len cap) b (i : Int)) 4 =
  some ([decide ((i : Int) < (len : Int)) = false], .exit 0, T14 (Atom.sl 0 0 len cap) b (i : Int), MH (rowB c shE len 53) Y (Atom.sl 0 0 len cap) b) := by kernel_rfl
end Go.Ev

namespace Go.Ev
open Go Go.Proofs Go.RowKit
theorem pkb_nat {x y : Nat} (hon : onE x y = true) : ∀ j, j < 32 → (pkb x y j).toNat = (y + 57896044618658097711785492504343953926634992332820282019728792003956564819968 * (x % 2)) / 256 ^ j % 256 := by
  have h1 : numsB (strB 32 (pkb x y)) = (List.range 32).map fun i => (pkb x y i).toNat := numsB_strB 32 _
  rw [pkb_eq hon] at h1
  unfold packB at h1
  rw [numsB_strOf _ (leB_lt 32 _)] at h1
  intro j hj
  unfold leB at h1
  exact ((List.map_inj_left.1 h1) j (List.mem_range.2 hj)).symm
theorem xor128 : ∀ b, b < 256 → b % 256 ^^^ 128 % 256 = if b < 128 then b + 128 else b - 128 := by decide +kernel
theorem fl_le {x y : Nat} (hon : onE x y = true) : (flS x y).size = 32 ∧ leS (flS x y) = y + 57896044618658097711785492504343953926634992332820282019728792003956564819968 * (1 - x % 2) := by
  have hM := mod0_lt
  have hy := (onE_lt hon).2
  have hp := pkb_nat hon
  generalize hn : y + 57896044618658097711785492504343953926634992332820282019728792003956564819968 * (x % 2) = n at *
  have e1 : (List.range 31).map (fun j => (pkb x y j).toNat) = leB 31 n := List.map_congr_left fun j hj => hp j (by have := List.mem_range.1 hj; omega)
  have hb := hp 31 (by omega)
  have hn0 : n / 256 ^ 31 < 256 := Nat.div_lt_of_lt_mul (by omega)
  rw [Nat.mod_eq_of_lt hn0] at hb
  have hlast : (pkb x y 31).toNat % 256 ^^^ 128 % 256 = y / 256 ^ 31 + 128 * (1 - x % 2) := by
    rw [hb, xor128 _ hn0]
    split <;> omega
  have hl : (pkb x y 31).toNat % 256 ^^^ 128 % 256 < 256 := by rw [hlast]; omega
  unfold flS
  rw [e1]
  refine ⟨by rw [strOf_size, List.length_append, leB_length]; rfl, ?_⟩
  unfold leS
  rw [numsB_strOf _ (by intro b h; rcases List.mem_append.1 h with h | h; exact leB_lt 31 n b h; rw [List.mem_singleton.1 h]; exact hl), leN_append, leN_leB, leB_length]
  show _ + _ * (_ + 256 * 0) = _
  rw [hlast]
  omega
theorem fl_zero {y : Nat} (hon : onE 0 y = true) : unpE (flS 0 y) = 6 := by
  obtain ⟨h1, h2⟩ := fl_le hon
  rw [(unp_of hon h1 h2 (by omega)).1, if_pos ⟨rfl, rfl⟩]
theorem fl_neg {x y : Nat} (hon : onE x y = true) (h0 : x ≠ 0) : unpE (flS x y) = 0 ∧ unpX (flS x y) = subM (modN 0) 0 x ∧ unpY (flS x y) = y := by
  obtain ⟨h1, h2⟩ := fl_le hon
  obtain ⟨h3, h4⟩ := unp_of hon h1 h2 (by omega)
  have he : unpE (flS x y) = 0 := by rw [h3, if_neg (by rintro ⟨_, h⟩; exact h0 h)]
  obtain ⟨h5, h6⟩ := h4 he
  rw [if_neg (by omega)] at h5
  exact ⟨he, h5, h6⟩
abbrev YL (ps : List Piece) (e : TypeId) : Blk := ⟨ps, e, true, true, 0⟩
theorem turn14 {c : Cells} {b : Atom} {ps : List Piece} {e : TypeId} (hY : Free (YL ps e)) (hb : isO 1 b) {len cap i : Nat} (hi : i < len) (h3 : i < 3) (ho : All (rowOb c shE len 0)) :
    Goes Try.prog (bodyOf Try.prog 14 4) .normal (T14 (.sl 0 0 len cap) b (i : Int)) (MH (rowB c shE len 53) (YL ps e) (.sl 0 0 len cap) b) (T14 (.sl 0 0 len cap) b ((i : Int) + 1)) (MH (rowB c shE len 53) (YL ps e) (.sl 0 0 len cap) b) := by
  obtain ⟨hx, hy⟩ := rowE_ok hi ho
  have hii : (0 : Int) ≤ (i : Int) ∧ (i : Int) < (len : Int) := by omega
  have hd1 : decide ((i : Int) < (len : Int)) = true := decide_eq_true (by omega)
  have hd2 : decide ((i : Int) < (3 : Int)) = true := decide_eq_true (by omega)
  have hin : inI ((i : Int) + 1) := by unfold inI; omega
  have hw := wfT14 (X := rowB c shE len 53) (Y := YL ps e) (i := (i : Int) + 1) (rowB_free _ _ _ _) hY (.inr ⟨len, cap, rfl⟩) hb
  have hld := ld51 (c := c) hi
  cases hon : onE (nA c (0 + i * 48)) (nA c (0 + i * 48 + 8)) with
  | true =>
    obtain ⟨_, u1, u2, u3⟩ := unp_pack hon
    rw [← pkb_eq hon] at u1 u2 u3
    by_cases h0 : nA c (0 + i * 48) = 0
    · have hz : isZ (nA c (0 + i * 48)) = true := by rw [isZ_eq hx]; exact decide_eq_true h0
      have hf : unpE (flS (nA c (0 + i * 48)) (nA c (0 + i * 48 + 8))) = 6 := by
        have := hon
        rw [h0] at this ⊢
        exact fl_zero this
      exact Runs.goes (envEBk c) ⟨_, _, b14z (YL ps e) c b len cap i, ⟨hd1, hd2, hii, hld, hx, hy, hon, by rw [u1]; rfl, by rw [u2, u3]; simp, hz, by rw [hf]; rfl, hin, trivial⟩, hw⟩
    · have hz : isZ (nA c (0 + i * 48)) = false := by rw [isZ_eq hx]; exact decide_eq_false h0
      obtain ⟨f1, f2, f3⟩ := fl_neg hon h0
      exact Runs.goes (envEBk c) ⟨_, _, b14pt ps e c b len cap i, ⟨hd1, hd2, hii, hld, hx, hy, hon, by rw [u1]; rfl, by rw [u2, u3]; simp, hz, by rw [f1]; rfl, hx, hy, hon, by rw [f2, f3]; simp, hin, trivial⟩, hw⟩
  | false =>
    exact Runs.goes (envEBn c) ⟨_, _, b14n (YL ps e) c b len cap i, ⟨hd1, hd2, hii, hld, hx, hy, hon, hin, trivial⟩, hw⟩
theorem loopP14 {c : Cells} {b : Atom} {ps : List Piece} {e : TypeId} (hY : Free (YL ps e)) (hb : isO 1 b) {len cap : Nat} (ho : All (rowOb c shE len 0)) : ∀ (k i : Nat), i + k = min len 3 → GoesN Try.prog (bodyOf Try.prog 14 4) (k + 1) (.exit 0) (T14 (.sl 0 0 len cap) b (i : Int)) (MH (rowB c shE len 53) (YL ps e) (.sl 0 0 len cap) b) (T14 (.sl 0 0 len cap) b ((min len 3 : Nat) : Int)) (MH (rowB c shE len 53) (YL ps e) (.sl 0 0 len cap) b)
  | 0, i, hk => by
    have hw := wfT14 (X := rowB c shE len 53) (Y := YL ps e) (i := (i : Int)) (rowB_free _ _ _ _) hY (.inr ⟨len, cap, rfl⟩) hb
    have e' : i = min len 3 := by omega
    by_cases hi : i < len
    · rw [← e']
      exact GoesN.out (by simp) (Runs.goes (envEBk c) ⟨_, _, b14b (YL ps e) c b len cap i, ⟨decide_eq_true (by omega), decide_eq_false (by omega), trivial⟩, hw⟩)
    · rw [← e']
      exact GoesN.out (by simp) (Runs.goes (envEBk c) ⟨_, _, b14c (YL ps e) c b len cap i, ⟨decide_eq_false (by omega), trivial⟩, hw⟩)
  | k + 1, i, hk => by
    have ih := loopP14 (c := c) (len := len) (cap := cap) hY hb ho k (i + 1) (by omega)
    rw [show ((i + 1 : Nat) : Int) = (i : Int) + 1 by omega] at ih
    exact GoesN.cons rfl (turn14 (i := i) hY hb (by omega) (by omega) ho) ih
noncomputable def sumP14 (c : Cells) (ps : List Piece) (e : TypeId) (b : Atom) (len cap : Nat) : List AV → List Blk → List Bool → CoR := sumC (T14 (.sl 0 0 len cap) b ((0 : Nat) : Int)) (MH (rowB c shE len 53) (YL ps e) (.sl 0 0 len cap) b) (T14 (.sl 0 0 len cap) b ((min len 3 : Nat) : Int)) (MH (rowB c shE len 53) (YL ps e) (.sl 0 0 len cap) b) (.exit 0)
theorem sumP14_ok {c : Cells} {b : Atom} {ps : List Piece} {e : TypeId} (hY : Free (YL ps e)) (hb : isO 1 b) {len cap : Nat} (ho : All (rowOb c shE len 0)) : SumOK Try.prog (.loop (bodyOf Try.prog 14 4)) (sumP14 c ps e b len cap) :=
  sumC_ok rfl (loopP14 hY hb ho (min len 3) 0 (by omega)).loop
end Go.Ev

namespace Go.Ev
open Go Go.Proofs Go.RowKit
noncomputable def LX14 (c : Cells) : List CT := ldC 9 (fun off => .one (.v (.string (sA c off)))) :: LPk
noncomputable def EX14 (c : Cells) : Env := mkE (LX14 c) S14
theorem envEX14 (c : Cells) : EnvOK (EX14 c) := envMk (show AllCT (LX14 c) from ⟨ldC_ok _ _, LPk_ok⟩) _
def X14 (a b : Atom) (j i : Int) : List AV := slots 131 [(0, .val (.agg [.a a, .a b])), (1, .val (.one (.ptr 2 0))), (2, bV false), (3, iV j), (12, iV i)]
theorem wfX14 {X Y : Blk} {a b : Atom} {j i : Int} (hX : Free X) (hY : Free Y) (ha : isO 0 a) (hb : isO 1 b) : wfS (X14 a b j i) (MH X Y a b) = true :=
  wfS4 (by rcases ha with rfl | ⟨l, k, rfl⟩ <;> rcases hb with rfl | ⟨l', k', rfl⟩ <;> kernel_rfl) hX hY (wfBox ha hb) (wfBox ha hb)
theorem x14n (X : Blk) (c : Cells) (a : Atom) (len cap : Nat) (j : Int) (i : Nat) : runTo (EX14 c) 1000 (Env.S (EX14 c) 14) (bodyOf Try.prog 14 23) (X14 a (Atom.sl 1 0 len cap) j (i : Int)) (MH X (rowB c shX len 9) a (Atom.sl 1 0 len cap)) [true, true, true] (X14 a (Atom.sl 1 0 len cap) j ((i : Int) + 1)) 4 =
  some ([decide ((i : Int) < (len : Int)) = true, decide ((i : Int) < (8 : Int)) = true, (0 : Int) ≤ (i : Int) ∧ (i : Int) < (len : Int), LoadsAs Try.prog 9 (rowPs c shX len 0) (0 + i * 1) (.one (.v (.string (sA c (0 + i * 1))))), (!decide (unpE (sA c (0 + i * 1)) = 0)) = true, inI ((i : Int) + 1)], .normal, X14 a (Atom.sl 1 0 len cap) j ((i : Int) + 1), MH X (rowB c shX len 9) a (Atom.sl 1 0 len cap)) := by kernel_rfl
theorem x14y (X : Blk) (c : Cells) (a : Atom) (len cap : Nat) (j : Int) (i : Nat) : runTo (EX14 c) 1000 (Env.S (EX14 c) 14) (bodyOf Try.prog 14 23) (X14 a (Atom.sl 1 0 len cap) j (i : Int)) (MH X (rowB c shX len 9) a (Atom.sl 1 0 len cap)) [true, true, false, false, false] (X14 a (Atom.sl 1 0 len cap) j ((i : Int) + 1)) 4 =
  some ([decide ((i : Int) < (len : Int)) = true, decide ((i : Int) < (8 : Int)) = true, (0 : Int) ≤ (i : Int) ∧ (i : Int) < (len : Int), LoadsAs Try.prog 9 (rowPs c shX len 0) (0 + i * 1) (.one (.v (.string (sA c (0 + i * 1))))), (!decide (unpE (sA c (0 + i * 1)) = 0)) = false, unpX (sA c (0 + i * 1)) < 4294967296 ^ 8, unpY (sA c (0 + i * 1)) < 4294967296 ^ 8, (!decide (packE (unpX (sA c (0 + i * 1))) (unpY (sA c (0 + i * 1))) = 0)) = false, (0 : Int) ≤ (i : Int) ∧ (i : Int) < (len : Int), LoadsAs Try.prog 9 (rowPs c shX len 0) (0 + i * 1) (.one (.v (.string (sA c (0 + i * 1))))), (!((packS (unpX (sA c (0 + i * 1))) (unpY (sA c (0 + i * 1)))).toList == (sA c (0 + i * 1)).toList)) = false, inI ((i : Int) + 1)], .normal, X14 a (Atom.sl 1 0 len cap) j ((i : Int) + 1), MH X (rowB c shX len 9) a (Atom.sl 1 0 len cap)) := by kernel_rfl
theorem x14b (X : Blk) (c : Cells) (a : Atom) (len cap : Nat) (j : Int) (i : Nat) : runTo (EX14 c) 1000 (Env.S (EX14 c) 14) (bodyOf Try.prog 14 23) (X14 a (Atom.sl 1 0 len cap) j (i : Int)) (MH X (rowB c shX len 9) a (Atom.sl 1 0 len cap)) [true, false] (X14 a (Atom.sl 1 0 len cap) j (i : Int)) 4 =
  some ([decide ((i : Int) < (len : Int)) = true, decide ((i : Int) < (8 : Int)) = false], .exit 2, X14 a (Atom.sl 1 0 len cap) j (i : Int), MH X (rowB c shX len 9) a (Atom.sl 1 0 len cap)) := by kernel_rfl
theorem x14c (X : Blk) (c : Cells) (a : Atom) (len cap : Nat) (j : Int) (i : Nat) : runTo (EX14 c) 1000 (Env.S (EX14 c) 14) (bodyOf Try.prog 14 23) (X14 a (Atom.sl 1 0 len cap) j (i : Int)) (MH X (rowB c shX len 9) a (Atom.sl 1 0 len cap)) [false] (X14 a (Atom.sl 1 0 len cap) j (i : Int)) 4 =
  some ([decide ((i : Int) < (len : Int)) = false], .exit 2, X14 a (Atom.sl 1 0 len cap) j (i : Int), MH X (rowB c shX len 9) a (Atom.sl 1 0 len cap)) := by kernel_rfl
theorem turnX14 {c : Cells} {a : Atom} {X : Blk} (hX : Free X) (ha : isO 0 a) {len cap i : Nat} (j : Int) (hi : i < len) (h3 : i < 8) :
    Goes Try.prog (bodyOf Try.prog 14 23) .normal (X14 a (.sl 1 0 len cap) j (i : Int)) (MH X (rowB c shX len 9) a (.sl 1 0 len cap)) (X14 a (.sl 1 0 len cap) j ((i : Int) + 1)) (MH X (rowB c shX len 9) a (.sl 1 0 len cap)) := by
  have hii : (0 : Int) ≤ (i : Int) ∧ (i : Int) < (len : Int) := by omega
  have hd1 : decide ((i : Int) < (len : Int)) = true := decide_eq_true (by omega)
  have hd2 : decide ((i : Int) < (8 : Int)) = true := decide_eq_true (by omega)
  have hin : inI ((i : Int) + 1) := by unfold inI; omega
  have hw := wfX14 (X := X) (Y := rowB c shX len 9) (j := j) (i := (i : Int) + 1) hX (rowB_free _ _ _ _) ha (.inr ⟨len, cap, rfl⟩)
  have hld := ld9 (c := c) hi
  by_cases h0 : unpE (sA c (0 + i * 1)) = 0
  · obtain ⟨hon, hpk⟩ := pack_unp h0
    obtain ⟨hx, hy⟩ := onE_lt hon
    exact Runs.goes (envEX14 c) ⟨_, _, x14y X c a len cap j i, ⟨hd1, hd2, hii, hld, by rw [decide_eq_true h0]; rfl, L8 hx, L8 hy, by unfold packE; rw [hon]; rfl, hii, hld, by unfold packS; rw [hon, cond_true, hpk]; exact neb_self _, hin, trivial⟩, hw⟩
  · exact Runs.goes (envEX14 c) ⟨_, _, x14n X c a len cap j i, ⟨hd1, hd2, hii, hld, by rw [decide_eq_false h0]; rfl, hin, trivial⟩, hw⟩
theorem loopX14 {c : Cells} {a : Atom} {X : Blk} (hX : Free X) (ha : isO 0 a) {len cap : Nat} (j : Int) : ∀ (k i : Nat), i + k = min len 8 → GoesN Try.prog (bodyOf Try.prog 14 23) (k + 1) (.exit 2) (X14 a (.sl 1 0 len cap) j (i : Int)) (MH X (rowB c shX len 9) a (.sl 1 0 len cap)) (X14 a (.sl 1 0 len cap) j ((min len 8 : Nat) : Int)) (MH X (rowB c shX len 9) a (.sl 1 0 len cap))
  | 0, i, hk => by
    have hw := wfX14 (X := X) (Y := rowB c shX len 9) (j := j) (i := (i : Int)) hX (rowB_free _ _ _ _) ha (.inr ⟨len, cap, rfl⟩)
    have e : i = min len 8 := by omega
    by_cases hi : i < len
    · rw [← e]
      exact GoesN.out (by simp) (Runs.goes (envEX14 c) ⟨_, _, x14b X c a len cap j i, ⟨decide_eq_true (by omega), decide_eq_false (by omega), trivial⟩, hw⟩)
    · rw [← e]
      exact GoesN.out (by simp) (Runs.goes (envEX14 c) ⟨_, _, x14c X c a len cap j i, ⟨decide_eq_false (by omega), trivial⟩, hw⟩)
  | k + 1, i, hk => by
    have ih := loopX14 (c := c) (X := X) (len := len) (cap := cap) hX ha j k (i + 1) (by omega)
    rw [show ((i + 1 : Nat) : Int) = (i : Int) + 1 by omega] at ih
    exact GoesN.cons rfl (turnX14 (i := i) hX ha j (by omega) (by omega)) ih
noncomputable def sumX14 (c : Cells) (X : Blk) (a : Atom) (len cap : Nat) (j : Int) : List AV → List Blk → List Bool → CoR := sumC (X14 a (.sl 1 0 len cap) j ((0 : Nat) : Int)) (MH X (rowB c shX len 9) a (.sl 1 0 len cap)) (X14 a (.sl 1 0 len cap) j ((min len 8 : Nat) : Int)) (MH X (rowB c shX len 9) a (.sl 1 0 len cap)) (.exit 2)
theorem sumX14_ok {c : Cells} {a : Atom} {X : Blk} (hX : Free X) (ha : isO 0 a) {len cap : Nat} (j : Int) : SumOK Try.prog (.loop (bodyOf Try.prog 14 23)) (sumX14 c X a len cap j) :=
  sumC_ok rfl (loopX14 hX ha j (min len 8) 0 (by omega)).loop
end Go.Ev

namespace Go.Ev
open Go Go.Proofs Go.RowKit
abbrev thereB : Blk := YL [] 0
noncomputable def E14z : Env := mkE LPk S14
theorem envE14z : EnvOK E14z := envMk LPk_ok _
noncomputable def FH00 : Env := E14z
noncomputable def FE00 : Env := FH00
theorem l14k00 : dropM (callBy FE00 (evalC FE00 1000) 14 [V1.agg [.a (.v (.slice none 0 0)), .a (.v (.slice none 0 0))]] [deadB, deadB] [false, false, false, false]) =
  some ([inI (((0 : Nat) : Int) + ((0 : Nat) : Int)), decide ((0 : Int) < ((0 : Nat) : Int)) = false, decide ((4000 : Int) < (((0 : Nat) : Int) + ((0 : Nat) : Int))) = false, decide ((0 : Int) < ((0 : Nat) : Int)) = false, decide ((0 : Int) < ((0 : Nat) : Int)) = false], bV true) := by kernel_rfl
noncomputable def FH01 (cB : Cells) (lB kB : Nat) : Env := addL E14z 3 (bodyOf Try.prog 46 3) (sumH deadB cB (.v (.slice none 0 0)) lB kB ((lB : Int) + ((0 : Nat) : Int)))
noncomputable def FE01 (cB : Cells) (lB kB : Nat) : Env := (addL (FH01 cB lB kB) 23 (bodyOf Try.prog 14 23) (sumX14 cB deadB (.v (.slice none 0 0)) lB kB (0 : Int)))
theorem l14h01 (cB : Cells) (lB kB : Nat) : dropM (callBy (FH01 cB lB kB) (evalC (FH01 cB lB kB) 1000) 14 [V1.agg [.a (.v (.slice none 0 0)), .a (.sl 1 0 lB kB)]] [deadB, rowB cB shX lB 9] [true]) =
  some ([inI ((lB : Int) + ((0 : Nat) : Int)), bodyOf Try.prog 46 3 = bodyOf Try.prog 46 3, (TH (.v (.slice none 0 0)) (.sl 1 0 lB kB) ((lB : Int) + ((0 : Nat) : Int)) ((0 : Nat) : Int), (MH deadB (rowB cB shX lB 9) (.v (.slice none 0 0)) (.sl 1 0 lB kB))) = (TH (.v (.slice none 0 0)) (.sl 1 0 lB kB) ((lB : Int) + ((0 : Nat) : Int)) ((0 : Nat) : Int), (MH deadB (rowB cB shX lB 9) (.v (.slice none 0 0)) (.sl 1 0 lB kB))), wfS (TH (.v (.slice none 0 0)) (.sl 1 0 lB kB) ((lB : Int) + ((0 : Nat) : Int)) ((0 : Nat) : Int)) (MH deadB (rowB cB shX lB 9) (.v (.slice none 0 0)) (.sl 1 0 lB kB)) = true, decide ((4000 : Int) < hv cB lB 0 ((lB : Int) + ((0 : Nat) : Int))) = true], bV true) := by kernel_rfl
theorem l14k01 (cB : Cells) (lB kB : Nat) : dropM (callBy (FE01 cB lB kB) (evalC (FE01 cB lB kB) 1000) 14 [V1.agg [.a (.v (.slice none 0 0)), .a (.sl 1 0 lB kB)]] [deadB, rowB cB shX lB 9] [false, false]) =
  some ([inI ((lB : Int) + ((0 : Nat) : Int)), bodyOf Try.prog 46 3 = bodyOf Try.prog 46 3, (TH (.v (.slice none 0 0)) (.sl 1 0 lB kB) ((lB : Int) + ((0 : Nat) : Int)) ((0 : Nat) : Int), (MH deadB (rowB cB shX lB 9) (.v (.slice none 0 0)) (.sl 1 0 lB kB))) = (TH (.v (.slice none 0 0)) (.sl 1 0 lB kB) ((lB : Int) + ((0 : Nat) : Int)) ((0 : Nat) : Int), (MH deadB (rowB cB shX lB 9) (.v (.slice none 0 0)) (.sl 1 0 lB kB))), wfS (TH (.v (.slice none 0 0)) (.sl 1 0 lB kB) ((lB : Int) + ((0 : Nat) : Int)) ((0 : Nat) : Int)) (MH deadB (rowB cB shX lB 9) (.v (.slice none 0 0)) (.sl 1 0 lB kB)) = true, decide ((4000 : Int) < hv cB lB 0 ((lB : Int) + ((0 : Nat) : Int))) = false, decide ((0 : Int) < ((0 : Nat) : Int)) = false, bodyOf Try.prog 14 23 = bodyOf Try.prog 14 23, (X14 (.v (.slice none 0 0)) (.sl 1 0 lB kB) (0 : Int) ((0 : Nat) : Int), (MH deadB (rowB cB shX lB 9) (.v (.slice none 0 0)) (.sl 1 0 lB kB))) = (X14 (.v (.slice none 0 0)) (.sl 1 0 lB kB) (0 : Int) ((0 : Nat) : Int), (MH deadB (rowB cB shX lB 9) (.v (.slice none 0 0)) (.sl 1 0 lB kB))), wfS (X14 (.v (.slice none 0 0)) (.sl 1 0 lB kB) (0 : Int) ((0 : Nat) : Int)) (MH deadB (rowB cB shX lB 9) (.v (.slice none 0 0)) (.sl 1 0 lB kB)) = true], bV true) := by kernel_rfl
noncomputable def FH10 (cA : Cells) (lA kA : Nat) : Env := E14z
noncomputable def FE10 (cA : Cells) (lA kA : Nat) : Env := (addL (FH10 cA lA kA) 4 (bodyOf Try.prog 14 4) (sumP14 cA [] 0 (.v (.slice none 0 0)) lA kA))
theorem l14h10 (cA : Cells) (lA kA : Nat) : dropM (callBy (FH10 cA lA kA) (evalC (FH10 cA lA kA) 1000) 14 [V1.agg [.a (.sl 0 0 lA kA), .a (.v (.slice none 0 0))]] [rowB cA shE lA 53, thereB] [false, true]) =
  some ([inI (((0 : Nat) : Int) + (lA : Int)), decide ((0 : Int) < ((0 : Nat) : Int)) = false, decide ((4000 : Int) < (((0 : Nat) : Int) + (lA : Int))) = true], bV true) := by kernel_rfl
theorem l14k10 (cA : Cells) (lA kA : Nat) : dropM (callBy (FE10 cA lA kA) (evalC (FE10 cA lA kA) 1000) 14 [V1.agg [.a (.sl 0 0 lA kA), .a (.v (.slice none 0 0))]] [rowB cA shE lA 53, thereB] [false, false, false]) =
  some ([inI (((0 : Nat) : Int) + (lA : Int)), decide ((0 : Int) < ((0 : Nat) : Int)) = false, decide ((4000 : Int) < (((0 : Nat) : Int) + (lA : Int))) = false, bodyOf Try.prog 14 4 = bodyOf Try.prog 14 4, (T14 (.sl 0 0 lA kA) (.v (.slice none 0 0)) ((0 : Nat) : Int), (MH (rowB cA shE lA 53) thereB (.sl 0 0 lA kA) (.v (.slice none 0 0)))) = (T14 (.sl 0 0 lA kA) (.v (.slice none 0 0)) ((0 : Nat) : Int), (MH (rowB cA shE lA 53) thereB (.sl 0 0 lA kA) (.v (.slice none 0 0)))), wfS (T14 (.sl 0 0 lA kA) (.v (.slice none 0 0)) ((0 : Nat) : Int)) (MH (rowB cA shE lA 53) thereB (.sl 0 0 lA kA) (.v (.slice none 0 0))) = true, decide ((0 : Int) < ((0 : Nat) : Int)) = false], bV true) := by kernel_rfl
noncomputable def FH11 (cA : Cells) (lA kA : Nat) (cB : Cells) (lB kB : Nat) : Env := addL E14z 3 (bodyOf Try.prog 46 3) (sumH (rowB cA shE lA 53) cB (.sl 0 0 lA kA) lB kB ((lB : Int) + (lA : Int)))
noncomputable def FE11 (cA : Cells) (lA kA : Nat) (cB : Cells) (lB kB : Nat) : Env := (addL (addL (FH11 cA lA kA cB lB kB) 4 (bodyOf Try.prog 14 4) (sumP14 cA (rowPs cB shX lB 0) 9 (.sl 1 0 lB kB) lA kA)) 23 (bodyOf Try.prog 14 23) (sumX14 cB (rowB cA shE lA 53) (.sl 0 0 lA kA) lB kB ((min lA 3 : Nat) : Int)))
theorem l14h11 (cA : Cells) (lA kA : Nat) (cB : Cells) (lB kB : Nat) : dropM (callBy (FH11 cA lA kA cB lB kB) (evalC (FH11 cA lA kA cB lB kB) 1000) 14 [V1.agg [.a (.sl 0 0 lA kA), .a (.sl 1 0 lB kB)]] [rowB cA shE lA 53, rowB cB shX lB 9] [true]) =
  some ([inI ((lB : Int) + (lA : Int)), bodyOf Try.prog 46 3 = bodyOf Try.prog 46 3, (TH (.sl 0 0 lA kA) (.sl 1 0 lB kB) ((lB : Int) + (lA : Int)) ((0 : Nat) : Int), (MH (rowB cA shE lA 53) (rowB cB shX lB 9) (.sl 0 0 lA kA) (.sl 1 0 lB kB))) = (TH (.sl 0 0 lA kA) (.sl 1 0 lB kB) ((lB : Int) + (lA : Int)) ((0 : Nat) : Int), (MH (rowB cA shE lA 53) (rowB cB shX lB 9) (.sl 0 0 lA kA) (.sl 1 0 lB kB))), wfS (TH (.sl 0 0 lA kA) (.sl 1 0 lB kB) ((lB : Int) + (lA : Int)) ((0 : Nat) : Int)) (MH (rowB cA shE lA 53) (rowB cB shX lB 9) (.sl 0 0 lA kA) (.sl 1 0 lB kB)) = true, decide ((4000 : Int) < hv cB lB 0 ((lB : Int) + (lA : Int))) = true], bV true) := by kernel_rfl
theorem l14k11 (cA : Cells) (lA kA : Nat) (cB : Cells) (lB kB : Nat) : dropM (callBy (FE11 cA lA kA cB lB kB) (evalC (FE11 cA lA kA cB lB kB) 1000) 14 [V1.agg [.a (.sl 0 0 lA kA), .a (.sl 1 0 lB kB)]] [rowB cA shE lA 53, rowB cB shX lB 9] [false]) =
  some ([inI ((lB : Int) + (lA : Int)), bodyOf Try.prog 46 3 = bodyOf Try.prog 46 3, (TH (.sl 0 0 lA kA) (.sl 1 0 lB kB) ((lB : Int) + (lA : Int)) ((0 : Nat) : Int), (MH (rowB cA shE lA 53) (rowB cB shX lB 9) (.sl 0 0 lA kA) (.sl 1 0 lB kB))) = (TH (.sl 0 0 lA kA) (.sl 1 0 lB kB) ((lB : Int) + (lA : Int)) ((0 : Nat) : Int), (MH (rowB cA shE lA 53) (rowB cB shX lB 9) (.sl 0 0 lA kA) (.sl 1 0 lB kB))), wfS (TH (.sl 0 0 lA kA) (.sl 1 0 lB kB) ((lB : Int) + (lA : Int)) ((0 : Nat) : Int)) (MH (rowB cA shE lA 53) (rowB cB shX lB 9) (.sl 0 0 lA kA) (.sl 1 0 lB kB)) = true, decide ((4000 : Int) < hv cB lB 0 ((lB : Int) + (lA : Int))) = false, bodyOf Try.prog 14 4 = bodyOf Try.prog 14 4, (T14 (.sl 0 0 lA kA) (.sl 1 0 lB kB) ((0 : Nat) : Int), (MH (rowB cA shE lA 53) (rowB cB shX lB 9) (.sl 0 0 lA kA) (.sl 1 0 lB kB))) = (T14 (.sl 0 0 lA kA) (.sl 1 0 lB kB) ((0 : Nat) : Int), (MH (rowB cA shE lA 53) (rowB cB shX lB 9) (.sl 0 0 lA kA) (.sl 1 0 lB kB))), wfS (T14 (.sl 0 0 lA kA) (.sl 1 0 lB kB) ((0 : Nat) : Int)) (MH (rowB cA shE lA 53) (rowB cB shX lB 9) (.sl 0 0 lA kA) (.sl 1 0 lB kB)) = true, bodyOf Try.prog 14 23 = bodyOf Try.prog 14 23, (X14 (.sl 0 0 lA kA) (.sl 1 0 lB kB) ((min lA 3 : Nat) : Int) ((0 : Nat) : Int), (MH (rowB cA shE lA 53) (rowB cB shX lB 9) (.sl 0 0 lA kA) (.sl 1 0 lB kB))) = (X14 (.sl 0 0 lA kA) (.sl 1 0 lB kB) ((min lA 3 : Nat) : Int) ((0 : Nat) : Int), (MH (rowB cA shE lA 53) (rowB cB shX lB 9) (.sl 0 0 lA kA) (.sl 1 0 lB kB))), wfS (X14 (.sl 0 0 lA kA) (.sl 1 0 lB kB) ((min lA 3 : Nat) : Int) ((0 : Nat) : Int)) (MH (rowB cA shE lA 53) (rowB cB shX lB 9) (.sl 0 0 lA kA) (.sl 1 0 lB kB)) = true], bV true) := by kernel_rfl
end Go.Ev

namespace Go.Ev
open Go Go.Proofs Go.RowKit
/-- a slice that is none needs no block: let one stand for it, beside the other's. -/
theorem mrel_there {w : World} {φ : Loc} {c : Cells} {sh : List SK} {l : Nat} {e : TypeId} (h : MRel w φ [rowB c sh l e, deadB] w) : MRel w (fun _ => φ 0) [rowB c sh l e, thereB] w := by
  have h0 := h.old 0 _ rfl rfl rfl
  have two : ∀ (i : Nat) (b : Blk), ([rowB c sh l e, thereB] : List Blk)[i]? = some b → (i = 0 ∧ b = rowB c sh l e) ∨ (i = 1 ∧ b = thereB) := by
    intro i b h
    match i, h with
    | 0, h => simp only [List.getElem?_cons_zero, Option.some.injEq] at h; exact .inl ⟨rfl, h.symm⟩
    | 1, h => simp only [List.getElem?_cons_succ, List.getElem?_cons_zero, Option.some.injEq] at h; exact .inr ⟨rfl, h.symm⟩
    | i + 2, h => simp at h
  have ro : ∀ (i : Nat) (b : Blk), ([rowB c sh l e, thereB] : List Blk)[i]? = some b → b.ro = false → False := by
    intro i b h hro
    rcases two i b h with ⟨_, rfl⟩ | ⟨_, rfl⟩ <;> cases hro
  refine ⟨h.below, ?_, ?_, ?_, ?_, ?_⟩
  · intro i j b1 b2 hb1 _ _ _ hro _ _
    exact (ro i b1 hb1 hro).elim
  · intro i b1 hb1 _ hro
    exact (ro i b1 hb1 hro).elim
  · intro i b1 hb1 _ _
    rcases two i b1 hb1 with ⟨rfl, rfl⟩ | ⟨rfl, rfl⟩
    · refine ⟨h0.1, fun j v hv => h0.2 j v ?_⟩
      rw [concs_agree (n := 0) (φ := fun _ => φ 0) (φ' := φ) (fun i hi => absurd hi (Nat.not_lt_zero i)) _ (rowB_fr _ _ _ _ _)]
      exact hv
    · exact ⟨h0.1, fun j v hv => by simp [concs] at hv⟩
  · intro i b1 hb1 _ hro
    exact (ro i b1 hb1 hro).elim
  · intro i b1 hb1
    rcases two i b1 hb1 with ⟨_, rfl⟩ | ⟨_, rfl⟩
    · exact rowB_fr _ _ _ _ _
    · rfl
theorem there_free : Free thereB := fun _ => rfl
theorem row_YL (c : Cells) (l : Nat) : Free (YL (rowPs c shX l 0) 9) := fun f => row_free c shX f l 0
set_option maxRecDepth 100000 in
theorem law14 {H : Type} {enc : TypeId × Value → H} {r : Reach} {W : World} {base : Nat} {v : Value} {d : DataW H} {ps : List MemPlace} (hval : Value.okWide Try.prog W r base 73 v) (h : DataW.Trod enc Try.prog W 0 (fun _ => true) true 73 v d ps) (hwt : ∀ n ∈ d.weights Try.prog 73, n ≤ BB) :
    Calls Try.prog 14 #[v] W (Trues W) := by
  refine two_calls shE shX (DA := 20) (DB := 20) (B := BB) (Q := Trues) u73 rfl rfl ct73 c49 c71 c73 uP k53 s53 b53 uX k9 s9 b9 ?_ hval h hwt
  intro cA cB oA oB kA kB w φ hm
  have h00 : (0 : Nat) ≤ BB := Nat.zero_le _
  cases oA with
  | none =>
    cases oB with
    | none => exact law_runMD envE14z l14k00 ⟨inI0 h00 h00, by decide, by decide, by decide, by decide, trivial⟩ hm rfl
    | some x =>
      obtain ⟨lB, kB'⟩ := x
      obtain ⟨_, _, _, hlB, hBB⟩ := kB
      have hH : EnvOK (FH01 cB lB kB') := envAddL envE14z (sumH_ok deadB_free (isOn 0) lB kB' _ (by omega) hBB hlB)
      have hE : EnvOK (FE01 cB lB kB') := envAddL hH (sumX14_ok deadB_free (isOn 0) _)
      by_cases hh : (4000 : Int) < hv cB lB 0 ((lB : Int) + ((0 : Nat) : Int))
      · exact law_runMD hH (l14h01 cB lB kB') ⟨inI0 hlB h00, rfl, rfl, wfTH deadB_free (rowB_free _ _ _ _) (isOn 0) (isOs 1 _ _), decide_eq_true hh, trivial⟩ hm rfl
      · exact law_runMD hE (l14k01 cB lB kB') ⟨inI0 hlB h00, rfl, rfl, wfTH deadB_free (rowB_free _ _ _ _) (isOn 0) (isOs 1 _ _), decide_eq_false hh, by decide, rfl, rfl, wfX14 deadB_free (rowB_free _ _ _ _) (isOn 0) (isOs 1 _ _), trivial⟩ hm rfl
  | some y =>
    obtain ⟨lA, kA'⟩ := y
    obtain ⟨_, _, hoA, hlA, _⟩ := kA
    cases oB with
    | none =>
      have hm' := mrel_there hm
      have hE : EnvOK (FE10 cA lA kA') := envAddL envE14z (sumP14_ok there_free (isOn 1) hoA)
      by_cases hh : (4000 : Int) < ((0 : Nat) : Int) + (lA : Int)
      · have q := law_runMD envE14z (l14h10 cA lA kA') ⟨inI0 h00 hlA, by decide, decide_eq_true hh, trivial⟩ hm' rfl
        exact q
      · have q := law_runMD hE (l14k10 cA lA kA') ⟨inI0 h00 hlA, by decide, decide_eq_false hh, rfl, rfl, wfT14 (rowB_free _ _ _ _) there_free (isOs 0 _ _) (isOn 1), by decide, trivial⟩ hm' rfl
        exact q
    | some x =>
      obtain ⟨lB, kB'⟩ := x
      obtain ⟨_, _, _, hlB, hBB⟩ := kB
      have hH : EnvOK (FH11 cA lA kA' cB lB kB') := envAddL envE14z (sumH_ok (rowB_free _ _ _ _) (isOs 0 _ _) lB kB' _ (by omega) hBB hlB)
      have hE : EnvOK (FE11 cA lA kA' cB lB kB') := envAddL (envAddL hH (sumP14_ok (row_YL _ _) (isOs 1 _ _) hoA)) (sumX14_ok (rowB_free _ _ _ _) (isOs 0 _ _) _)
      by_cases hh : (4000 : Int) < hv cB lB 0 ((lB : Int) + (lA : Int))
      · exact law_runMD hH (l14h11 cA lA kA' cB lB kB') ⟨inI0 hlB hlA, rfl, rfl, wfTH (rowB_free _ _ _ _) (rowB_free _ _ _ _) (isOs 0 _ _) (isOs 1 _ _), decide_eq_true hh, trivial⟩ hm rfl
      · exact law_runMD hE (l14k11 cA lA kA' cB lB kB') ⟨inI0 hlB hlA, rfl, rfl, wfTH (rowB_free _ _ _ _) (rowB_free _ _ _ _) (isOs 0 _ _) (isOs 1 _ _), decide_eq_false hh, rfl, rfl, wfT14 (rowB_free _ _ _ _) (rowB_free _ _ _ _) (isOs 0 _ _) (isOs 1 _ _), rfl, rfl, wfX14 (rowB_free _ _ _ _) (rowB_free _ _ _ _) (isOs 0 _ _) (isOs 1 _ _), trivial⟩ hm rfl
end Go.Ev

namespace Go.Proofs.Ytpnappendjomoaa.Laws
open Go Go.Ev Go.RowKit Go.ChangeShapes Go.WideShapes Go.ChangeAt

set_option maxRecDepth 100000 in
theorem lifted14 (os : Os) (started : os.Started) (H : Type) (enc : TypeId × Value → H) :
    ReturnsInHanded {} Try.checked os 14 .any (Rows.edpackBackSpec.pre6 enc Try.prog Try.f14 Rows.edpackBackRow.domain false) (Rows.edpackBackSpec.post enc Try.prog Try.f14 false true false false) := by
  refine returnsInHanded_of_change_sized (C := Try.checked) own started (by kernel_rfl) Try.func14
    (ChangeSpec.witness6 (enc := enc) (C := Try.checked) false ⟨#[], #[.agg #[.slice none 0 0, .slice none 0 0]], []⟩ 8 (by kernel_rfl) (by kernel_rfl) (by kernel_rfl) (by kernel_rfl)) ?_
  intro W base args ds gs before hval0 hW _ hsz0 _
  have hsz : (DataW.weightsEach Try.prog (Try.f14.params.toList ++ Rows.edpackBackSpec.plain.varTypes Try.prog) (ds ++ gs)).all (· ≤ reachBytes) = true := hsz0
  clear hsz0
  have hval : ∀ (j : Nat) t v, Try.f14.params[j]? = some t → args[j]? = some v → Value.okWide Try.prog W .any base t v := hval0
  have hW' := hW
  obtain ⟨p, q, hA0, hV, hbef, hfz, hnd⟩ := hW
  have hp : Try.f14.params = #[73] := by kernel_rfl
  have hA : DataW.TrodAll enc Try.prog W 0 (fun _ => true) true Try.f14.params.toList args.toList ds p := hA0
  rw [hp] at hA hval
  obtain ⟨v0, d0, rfl, rfl, h0⟩ := trodAll_one hA
  obtain ⟨rfl, rfl⟩ := trodVars_none hV
  refine (law14 (hval 0 73 v0 rfl rfl) h0 (fun n hn => by simpa using List.all_eq_true.1 hsz n (DataW.weights_mem_each (j := 0) (t := 73) (by rw [hp]; rfl) rfl n hn))).mono ?_
  rintro e W' ⟨rfl, hb⟩
  exact ⟨_, rfl, post_true (tb := 4) rfl hp (by kernel_rfl) u4 laid rd73 row73 rfl rfl hW' hb⟩

theorem holds14 : Rows.EdpackBackSaid :=
  OpenClaim.holds_of_wide 14 Try.f14 rfl rfl rfl rfl rfl rfl rfl ⟨rfl, rfl, rfl, rfl, rfl⟩ rfl rfl rfl rfl rfl (by kernel_rfl) Try.func14 (by kernel_rfl)
    (of_decide_eq_true (by kernel_rfl)) (by unfold Func.isWrapper; first | (rw [if_pos (by decide +kernel)]; kernel_rfl) | (rw [if_neg (by decide +kernel)]; exact ⟨rfl, rfl⟩))
    (fun os started H enc _ => lifted14 os started H enc)

end Go.Proofs.Ytpnappendjomoaa.Laws

namespace Go.Proofs.Ytpnappendjomoaa
open Go
theorem edpackBack_holds : Rows.EdpackBackSaid := Laws.holds14
end Go.Proofs.Ytpnappendjomoaa

