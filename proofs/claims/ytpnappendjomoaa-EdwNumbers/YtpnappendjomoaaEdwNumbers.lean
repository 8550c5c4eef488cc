/- The law EdwNumbers holds of every argument, without a condition -/
import Derived.Test.YtpnappendjomoaaCurve
import Derived.JoinedOf
namespace Go.Ev
open Go Go.Proofs Go.RowKit
theorem len_L : lenN (modN 2) = 253 := by decide +kernel
def fN {α : Type} (x : Nat) (f : Nat → α) : α := match x with | 0 => f 0 | n + 1 => f (n + 1)
theorem fN_eq {α : Type} (x : Nat) (f : Nat → α) : fN x f = f x := by unfold fN; split <;> rfl
def fE {α : Type} (p : E4) (f : E4 → α) : α := fN p.x fun x => fN p.y fun y => fN p.z fun z => fN p.t fun t => f ⟨x, y, z, t⟩
theorem fE_eq {α : Type} (p : E4) (f : E4 → α) : fE p f = f p := by unfold fE; simp only [fN_eq]
def pTimesF {α : Type} (k : Nat) (p : E4) (f : E4 → α) : Nat → E4 → α
  | 0, x => f x
  | j + 1, x => fE (pAdd x x) fun d => bif bitB k j then fE (pAdd d p) fun e => pTimesF k p f j e else pTimesF k p f j d
theorem pTimesF_eq {α : Type} (k : Nat) (p : E4) (f : E4 → α) : ∀ j x, pTimesF k p f j x = f (pTimesG k p j x)
  | 0, _ => rfl
  | j + 1, x => by
    unfold pTimesF pTimesG pStep
    simp only [fE_eq]
    cases bitB k j with
    | true => simp only [cond_true]; exact pTimesF_eq k p f j _
    | false => simp only [cond_false]; exact pTimesF_eq k p f j _
theorem ord : (pTimesF (modN 2) (pLift bXN bYN) (fun q => decide (q.x = 0) && decide (q.y = q.z) && decide (q.z ≠ 0)) 253 (pLift 0 1)) = true := by decide +kernel
theorem nm_order : nmX (modN 2) bXN bYN = 0 ∧ nmY (modN 2) bXN bYN = 1 := by
  have h := ord
  rw [pTimesF_eq] at h
  have hl := pLift_lt bXN_lt bYN_lt
  have hp := on_of onE_base
  have hr := rep_times (modN_lt 2) hp (rep_lift hp.1 hp.2.1)
  have hn := nmul_on hp (modN 2)
  unfold pTimes at hr
  rw [len_L] at hr
  simp only [Bool.and_eq_true, decide_eq_true_iff] at h
  obtain ⟨⟨h1, h2⟩, h3⟩ := h
  obtain ⟨_, hz, hx, hy, _⟩ := hr
  show (nmul (bXN, bYN) (modN 2)).1 = 0 ∧ (nmul (bXN, bYN) (modN 2)).2 = 1
  have hx' : (pTimesG (modN 2) (pLift bXN bYN) 253 (pLift 0 1)).x = 0 := h1
  have hy' : (pTimesG (modN 2) (pLift bXN bYN) 253 (pLift 0 1)).y = (pTimesG (modN 2) (pLift bXN bYN) 253 (pLift 0 1)).z := h2
  generalize pTimesG (modN 2) (pLift bXN bYN) 253 (pLift 0 1) = Q at *
  generalize nmul (bXN, bYN) (modN 2) = r at *
  change C0 Q.x (r.1 * Q.z) at hx
  change C0 Q.y (r.2 * Q.z) at hy
  rw [hx'] at hx
  rw [hy'] at hy
  constructor
  · refine Cz.nat hn.1 (modN_pos 0) (cz_cancel pr0 (a := Q.z) ?_ hz)
    exact hx.lc1 (-1) (by grind)
  · refine Cz.nat hn.2.1 (modN_one 0) (cz_cancel pr0 (a := Q.z) ?_ hz)
    exact hy.lc1 (-1) (by grind)
theorem nm_more : nmX (addN (modN 2) 1) bXN bYN = bXN ∧ nmY (addN (modN 2) 1) bXN bYN = bYN := by
  have hp := on_of onE_base
  have h1 : addN (modN 2) 1 = modN 2 + 1 := by
    unfold addN
    exact Nat.mod_eq_of_lt (by decide +kernel)
  obtain ⟨hx, hy⟩ := nm_order
  have h0 : nmul (bXN, bYN) (modN 2) = gnone := Prod.ext hx hy
  have h : nmul (bXN, bYN) (modN 2 + 1) = (bXN, bYN) := by
    rw [nmul_add hp (modN 2) 1, h0]
    have e1 : nmul (bXN, bYN) 1 = (bXN, bYN) := by
      show gadd gnone (bXN, bYN) = _
      rw [gadd_comm gnone_on hp, gadd_none hp]
    rw [e1, gadd_comm gnone_on hp, gadd_none hp]
  rw [h1]
  exact ⟨congrArg Prod.fst h, congrArg Prod.snd h⟩
theorem bo_add {a b bx bz : Nat} (hB : onE bx bz = true) (h : addK a b = 0) (ha : a < 4294967296 ^ 8) (hb : b < 4294967296 ^ 8) : boX a bx bz b bx bz = nmX (addN a b) bx bz ∧ boY a bx bz b bx bz = nmY (addN a b) bx bz := by
  have hp := on_of hB
  have h1 : addN a b = a + b := by
    unfold addK at h
    unfold addN
    exact Nat.mod_eq_of_lt (by omega)
  rw [h1]
  have h := nmul_add hp a b
  exact ⟨(congrArg Prod.fst h).symm, (congrArg Prod.snd h).symm⟩
end Go.Ev

namespace Go.Ev
open Go Go.Proofs Go.RowKit

noncomputable def S7 : FuncId → Nat → Bool := fun f t => match f with | 7 => memN t [47, 52, 57, 67, 72, 81, 87, 110, 114, 119] | _ => false
noncomputable def L7 (bx bz : Nat) : List CT := ⟨34, cV (.val (P2 bx bz))⟩ :: L15
def isB (bx bz : Nat) : Prop := bx = bXN ∧ bz = bYN
theorem L7_ok {bx bz : Nat} (h : isB bx bz) : AllCT (L7 bx bz) := ⟨by rw [h.1, h.2]; exact ctV spec34b, L15_ok⟩
noncomputable def E7 (bx bz : Nat) : Env := mkE (L7 bx bz) S7
theorem envE7 {bx bz : Nat} (h : isB bx bz) : EnvOK (E7 bx bz) := envMk (L7_ok h) S7
def T7 (len cap : Nat) (i : Int) : List AV := slots 123 [(0, sV' len cap), (2, bV false), (3, pV 1), (10, iV i)]
def M7 (c : Cells) (m bx bz : Nat) : List Blk := [rowB c shA m 27, ⟨[.num 8 bx, .num 8 bz], 51, true, false, 0⟩]
theorem wfT7 (c : Cells) (m bx bz len cap : Nat) (i : Int) : wfS (T7 len cap i) (M7 c m bx bz) = true := wfS_of (by
  intro b hb
  simp only [M7, List.mem_cons, List.not_mem_nil, or_false] at hb
  rcases hb with rfl | rfl
  · exact rowB_free _ _ _ _
  · exact fun _ => rfl) (by show tmsWf 2 _ = true; kernel_rfl)
theorem nm_orderB {bx bz : Nat} (h : isB bx bz) : nmX (modN 2) bx bz = 0 ∧ nmY (modN 2) bx bz = 1 := by rw [h.1, h.2]; exact nm_order
theorem nm_moreB {bx bz : Nat} (h : isB bx bz) : nmX (addN (modN 2) 1) bx bz = bx ∧ nmY (addN (modN 2) 1) bx bz = bz := by rw [h.1, h.2]; exact nm_more
theorem a7t (c : Cells) (bx : Nat) (bz : Nat) (len : Nat) (cap : Nat) : runTo (E7 bx bz) 1000 (Env.S (E7 bx bz) 7) (bodyOf Try.prog 7 8) (T7 len cap ((0 : Nat) : Int)) (M7 c 1 bx bz) [true, true, false, true] (T7 len cap (↑(0 + 1) : Int)) 2 =
    some ([decide (((0 : Nat) : Int) < (↑len : Int)) = true, (0 : Int) ≤ ((0 : Nat) : Int) ∧ ((0 : Nat) : Int) < (↑len : Int), (0 : Int) ≤ ((0 : Nat) : Int) ∧ ((0 : Nat) : Int) < (↑len : Int), nA c 0 < 4294967296 ^ 8, nA c 8 < 4294967296 ^ 8, (0 : Int) ≤ ((0 : Nat) : Int) ∧ ((0 : Nat) : Int) < (↑len : Int), (0 : Int) ≤ ((0 : Nat) : Int) ∧ ((0 : Nat) : Int) < (↑len : Int), nA c 0 < 4294967296 ^ 8, bx < 4294967296 ^ 8, bz < 4294967296 ^ 8, nA c 8 < 4294967296 ^ 8, bx < 4294967296 ^ 8, bz < 4294967296 ^ 8, onE bx bz = true, onE bx bz = true, addN (nA c 0) (nA c 8) < 4294967296 ^ 8, bx < 4294967296 ^ 8, bz < 4294967296 ^ 8, onE bx bz = true, decide (addK (nA c 0) (nA c 8) = 0) = true, (!(decide (boX (nA c 0) bx bz (nA c 8) bx bz % 4294967296 ^ 8 = nmX (addN (nA c 0) (nA c 8)) bx bz % 4294967296 ^ 8) && (decide (boY (nA c 0) bx bz (nA c 8) bx bz % 4294967296 ^ 8 = nmY (addN (nA c 0) (nA c 8)) bx bz % 4294967296 ^ 8) && true))) = false, onE (boX (nA c 0) bx bz (nA c 8) bx bz) (boY (nA c 0) bx bz (nA c 8) bx bz) = true, boX (nA c 0) bx bz (nA c 8) bx bz < 4294967296 ^ 8, boY (nA c 0) bx bz (nA c 8) bx bz < 4294967296 ^ 8], .normal, T7 len cap ((0 + 1 : Nat) : Int), M7 c 1 bx bz) := by kernel_rfl
theorem a7f (c : Cells) (bx : Nat) (bz : Nat) (len : Nat) (cap : Nat) : runTo (E7 bx bz) 1000 (Env.S (E7 bx bz) 7) (bodyOf Try.prog 7 8) (T7 len cap ((0 : Nat) : Int)) (M7 c 1 bx bz) [true, false, true] (T7 len cap (↑(0 + 1) : Int)) 2 =
    some ([decide (((0 : Nat) : Int) < (↑len : Int)) = true, (0 : Int) ≤ ((0 : Nat) : Int) ∧ ((0 : Nat) : Int) < (↑len : Int), (0 : Int) ≤ ((0 : Nat) : Int) ∧ ((0 : Nat) : Int) < (↑len : Int), nA c 0 < 4294967296 ^ 8, nA c 8 < 4294967296 ^ 8, (0 : Int) ≤ ((0 : Nat) : Int) ∧ ((0 : Nat) : Int) < (↑len : Int), (0 : Int) ≤ ((0 : Nat) : Int) ∧ ((0 : Nat) : Int) < (↑len : Int), nA c 0 < 4294967296 ^ 8, bx < 4294967296 ^ 8, bz < 4294967296 ^ 8, nA c 8 < 4294967296 ^ 8, bx < 4294967296 ^ 8, bz < 4294967296 ^ 8, onE bx bz = true, onE bx bz = true, addN (nA c 0) (nA c 8) < 4294967296 ^ 8, bx < 4294967296 ^ 8, bz < 4294967296 ^ 8, onE bx bz = true, decide (addK (nA c 0) (nA c 8) = 0) = false, onE (boX (nA c 0) bx bz (nA c 8) bx bz) (boY (nA c 0) bx bz (nA c 8) bx bz) = true, boX (nA c 0) bx bz (nA c 8) bx bz < 4294967296 ^ 8, boY (nA c 0) bx bz (nA c 8) bx bz < 4294967296 ^ 8], .normal, T7 len cap ((0 + 1 : Nat) : Int), M7 c 1 bx bz) := by kernel_rfl
theorem l7s_1_0 (c : Cells) {bx bz len cap : Nat} (hB : isB bx bz) (hl : 0 < len) (ho : All (rowOb c shA 1 0)) : Goes Try.prog (bodyOf Try.prog 7 8) .normal (T7 len cap ((0 : Nat) : Int)) (M7 c 1 bx bz) (T7 len cap ((0 + 1 : Nat) : Int)) (M7 c 1 bx bz) := by
  obtain ⟨g0, g1, _⟩ := ho
  have w0 : nA c 0 < 4294967296 ^ 8 := g0
  have w1 : nA c 8 < 4294967296 ^ 8 := g1
  have hll : decide (((0 : Nat) : Int) < (len : Int)) = true := decide_eq_true (by omega)
  have hii : 0 ≤ ((0 : Nat) : Int) ∧ ((0 : Nat) : Int) < (len : Int) := by omega
  have hb : onE bx bz = true := by rw [hB.1, hB.2]; exact onE_base
  obtain ⟨hb1, hb2⟩ := dN0 hb
  have hbo := bo_on (k := nA c 0) (m := nA c 8) hb hb
  obtain ⟨b1, b2⟩ := dN0 hbo
  have hs := addN_lt (nA c 0) (nA c 8)
  cases hc : decide (addK (nA c 0) (nA c 8) = 0) with
  | true =>
    have z1 := neq2_f (bo_add hb (of_decide_eq_true hc) w0 w1).1 (bo_add hb (of_decide_eq_true hc) w0 w1).2
    exact Runs.goes (envE7 hB) ⟨_, _, a7t c bx bz len cap, ⟨(by first | with_reducible assumption | with_reducible exact L8 (by with_reducible assumption) | exact decide_eq_true (by omega) | exact decide_eq_false (by omega) | omega), (by first | with_reducible assumption | with_reducible exact L8 (by with_reducible assumption) | exact decide_eq_true (by omega) | exact decide_eq_false (by omega) | omega), (by first | with_reducible assumption | with_reducible exact L8 (by with_reducible assumption) | exact decide_eq_true (by omega) | exact decide_eq_false (by omega) | omega), (by first | with_reducible assumption | with_reducible exact L8 (by with_reducible assumption) | exact decide_eq_true (by omega) | exact decide_eq_false (by omega) | omega), (by first | with_reducible assumption | with_reducible exact L8 (by with_reducible assumption) | exact decide_eq_true (by omega) | exact decide_eq_false (by omega) | omega), (by first | with_reducible assumption | with_reducible exact L8 (by with_reducible assumption) | exact decide_eq_true (by omega) | exact decide_eq_false (by omega) | omega), (by first | with_reducible assumption | with_reducible exact L8 (by with_reducible assumption) | exact decide_eq_true (by omega) | exact decide_eq_false (by omega) | omega), (by first | with_reducible assumption | with_reducible exact L8 (by with_reducible assumption) | exact decide_eq_true (by omega) | exact decide_eq_false (by omega) | omega), (by first | with_reducible assumption | with_reducible exact L8 (by with_reducible assumption) | exact decide_eq_true (by omega) | exact decide_eq_false (by omega) | omega), (by first | with_reducible assumption | with_reducible exact L8 (by with_reducible assumption) | exact decide_eq_true (by omega) | exact decide_eq_false (by omega) | omega), (by first | with_reducible assumption | with_reducible exact L8 (by with_reducible assumption) | exact decide_eq_true (by omega) | exact decide_eq_false (by omega) | omega), (by first | with_reducible assumption | with_reducible exact L8 (by with_reducible assumption) | exact decide_eq_true (by omega) | exact decide_eq_false (by omega) | omega), (by first | with_reducible assumption | with_reducible exact L8 (by with_reducible assumption) | exact decide_eq_true (by omega) | exact decide_eq_false (by omega) | omega), (by first | with_reducible assumption | with_reducible exact L8 (by with_reducible assumption) | exact decide_eq_true (by omega) | exact decide_eq_false (by omega) | omega), (by first | with_reducible assumption | with_reducible exact L8 (by with_reducible assumption) | exact decide_eq_true (by omega) | exact decide_eq_false (by omega) | omega), (addN_lt _ _), (by first | with_reducible assumption | with_reducible exact L8 (by with_reducible assumption) | exact decide_eq_true (by omega) | exact decide_eq_false (by omega) | omega), (by first | with_reducible assumption | with_reducible exact L8 (by with_reducible assumption) | exact decide_eq_true (by omega) | exact decide_eq_false (by omega) | omega), (by first | with_reducible assumption | with_reducible exact L8 (by with_reducible assumption) | exact decide_eq_true (by omega) | exact decide_eq_false (by omega) | omega), (by first | with_reducible assumption | with_reducible exact L8 (by with_reducible assumption) | exact decide_eq_true (by omega) | exact decide_eq_false (by omega) | omega), (by first | with_reducible assumption | with_reducible exact L8 (by with_reducible assumption) | exact decide_eq_true (by omega) | exact decide_eq_false (by omega) | omega), (by first | with_reducible assumption | with_reducible exact L8 (by with_reducible assumption) | exact decide_eq_true (by omega) | exact decide_eq_false (by omega) | omega), (by first | with_reducible assumption | with_reducible exact L8 (by with_reducible assumption) | exact decide_eq_true (by omega) | exact decide_eq_false (by omega) | omega), (by first | with_reducible assumption | with_reducible exact L8 (by with_reducible assumption) | exact decide_eq_true (by omega) | exact decide_eq_false (by omega) | omega), trivial⟩, wfT7 _ _ _ _ _ _ _⟩
  | false => exact Runs.goes (envE7 hB) ⟨_, _, a7f c bx bz len cap, ⟨(by first | with_reducible assumption | with_reducible exact L8 (by with_reducible assumption) | exact decide_eq_true (by omega) | exact decide_eq_false (by omega) | omega), (by first | with_reducible assumption | with_reducible exact L8 (by with_reducible assumption) | exact decide_eq_true (by omega) | exact decide_eq_false (by omega) | omega), (by first | with_reducible assumption | with_reducible exact L8 (by with_reducible assumption) | exact decide_eq_true (by omega) | exact decide_eq_false (by omega) | omega), (by first | with_reducible assumption | with_reducible exact L8 (by with_reducible assumption) | exact decide_eq_true (by omega) | exact decide_eq_false (by omega) | omega), (by first | with_reducible assumption | with_reducible exact L8 (by with_reducible assumption) | exact decide_eq_true (by omega) | exact decide_eq_false (by omega) | omega), (by first | with_reducible assumption | with_reducible exact L8 (by with_reducible assumption) | exact decide_eq_true (by omega) | exact decide_eq_false (by omega) | omega), (by first | with_reducible assumption | with_reducible exact L8 (by with_reducible assumption) | exact decide_eq_true (by omega) | exact decide_eq_false (by omega) | omega), (by first | with_reducible assumption | with_reducible exact L8 (by with_reducible assumption) | exact decide_eq_true (by omega) | exact decide_eq_false (by omega) | omega), (by first | with_reducible assumption | with_reducible exact L8 (by with_reducible assumption) | exact decide_eq_true (by omega) | exact decide_eq_false (by omega) | omega), (by first | with_reducible assumption | with_reducible exact L8 (by with_reducible assumption) | exact decide_eq_true (by omega) | exact decide_eq_false (by omega) | omega), (by first | with_reducible assumption | with_reducible exact L8 (by with_reducible assumption) | exact decide_eq_true (by omega) | exact decide_eq_false (by omega) | omega), (by first | with_reducible assumption | with_reducible exact L8 (by with_reducible assumption) | exact decide_eq_true (by omega) | exact decide_eq_false (by omega) | omega), (by first | with_reducible assumption | with_reducible exact L8 (by with_reducible assumption) | exact decide_eq_true (by omega) | exact decide_eq_false (by omega) | omega), (by first | with_reducible assumption | with_reducible exact L8 (by with_reducible assumption) | exact decide_eq_true (by omega) | exact decide_eq_false (by omega) | omega), (by first | with_reducible assumption | with_reducible exact L8 (by with_reducible assumption) | exact decide_eq_true (by omega) | exact decide_eq_false (by omega) | omega), (addN_lt _ _), (by first | with_reducible assumption | with_reducible exact L8 (by with_reducible assumption) | exact decide_eq_true (by omega) | exact decide_eq_false (by omega) | omega), (by first | with_reducible assumption | with_reducible exact L8 (by with_reducible assumption) | exact decide_eq_true (by omega) | exact decide_eq_false (by omega) | omega), (by first | with_reducible assumption | with_reducible exact L8 (by with_reducible assumption) | exact decide_eq_true (by omega) | exact decide_eq_false (by omega) | omega), (by first | with_reducible assumption | with_reducible exact L8 (by with_reducible assumption) | exact decide_eq_true (by omega) | exact decide_eq_false (by omega) | omega), (by first | with_reducible assumption | with_reducible exact L8 (by with_reducible assumption) | exact decide_eq_true (by omega) | exact decide_eq_false (by omega) | omega), (by first | with_reducible assumption | with_reducible exact L8 (by with_reducible assumption) | exact decide_eq_true (by omega) | exact decide_eq_false (by omega) | omega), (by first | with_reducible assumption | with_reducible exact L8 (by with_reducible assumption) | exact decide_eq_true (by omega) | exact decide_eq_false (by omega) | omega), trivial⟩, wfT7 _ _ _ _ _ _ _⟩
end Go.Ev

namespace Go.Ev
open Go Go.Proofs Go.RowKit
theorem l7p (c : Cells) (bx bz : Nat) (len cap : Nat) (m : Nat) : runTo (E7 bx bz) 1000 ((E7 bx bz).S 7) (bodyOf Try.prog 7 8) (T7 len cap (m : Int)) (M7 c m bx bz) [false] (T7 len cap (m : Int)) 2 =
    some ([decide ((m : Int) < (len : Int)) = false], .exit 0, T7 len cap (m : Int), M7 c m bx bz) := by kernel_rfl
theorem l7q (c : Cells) (bx bz : Nat) (len cap : Nat) : runTo (E7 bx bz) 1000 ((E7 bx bz).S 7) (bodyOf Try.prog 7 8) (T7 len cap ((1 : Nat) : Int)) (M7 c 1 bx bz) [true] (T7 len cap ((1 : Nat) : Int)) 2 =
    some ([decide (((1 : Nat) : Int) < (len : Int)) = true], .exit 0, T7 len cap ((1 : Nat) : Int), M7 c 1 bx bz) := by kernel_rfl
theorem l7loop (c : Cells) (bx bz : Nat) (len cap : Nat) {m : Nat} (hB : isB bx bz) (hm : m = min len 1) (ho : All (rowOb c shA m 0)) : Goes Try.prog (.loop (bodyOf Try.prog 7 8)) (.exit 0) (T7 len cap ((0 : Nat) : Int)) (M7 c m bx bz) (T7 len cap (m : Int)) (M7 c m bx bz) := by
  refine loop_goes (N := m) (k := 2) (T := fun i => T7 len cap (i : Int)) (M := fun _ => M7 c m bx bz) (by simp) (fun _ _ => rfl) (fun i hi => ?_) ?_
  · have h3 : (m = 1 ∧ i = 0) := by omega
    have hl : i < len := by omega
    clear hm
    rcases h3 with ⟨rfl, rfl⟩
    · exact l7s_1_0 c hB hl ho
  · by_cases h : m < len
    · obtain rfl : m = 1 := by omega
      exact Runs.goes (envE7 hB) ⟨[true], _, l7q c bx bz len cap, ⟨decide_eq_true (by omega), trivial⟩, wfT7 _ _ _ _ _ _ _⟩
    · exact Runs.goes (envE7 hB) ⟨[false], _, l7p c bx bz len cap m, ⟨decide_eq_false (by omega), trivial⟩, wfT7 _ _ _ _ _ _ _⟩
noncomputable def l7X (c : Cells) (bx bz : Nat) (len cap : Nat) (m : Nat) : Env := withL (E7 bx bz) 8 (bodyOf Try.prog 7 8) (sumC (T7 len cap ((0 : Nat) : Int)) (M7 c m bx bz) (T7 len cap (m : Int)) (M7 c m bx bz) (.exit 0))
theorem l7Xok (c : Cells) (bx bz : Nat) (len cap : Nat) {m : Nat} (hB : isB bx bz) (hm : m = min len 1) (ho : All (rowOb c shA m 0)) : EnvOK (l7X c bx bz len cap m) := envWithL (envE7 hB) (sumC_ok rfl (l7loop c bx bz len cap hB hm ho))
theorem l7run7 (c : Cells) (bx : Nat) (bz : Nat) (len : Nat) (cap : Nat) (m : Nat) : dropM (callBy (l7X c bx bz len cap m) (evalC (l7X c bx bz len cap m) 1000) 7 [V1.one (Atom.sl 0 0 len cap)] [rowB c shA m 27] [false, false]) =
    some ([(0 : Int) ≤ (2 : Int) ∧ (2 : Int) < (4 : Int), modN 2 < 4294967296 ^ 8, bx < 4294967296 ^ 8, bz < 4294967296 ^ 8, onE bx bz = true, (0 : Int) ≤ (2 : Int) ∧ (2 : Int) < (4 : Int), modN 2 < 4294967296 ^ 8, 1 < 4294967296, 0 < 4294967296, 0 < 4294967296, 0 < 4294967296, 0 < 4294967296, 0 < 4294967296, 0 < 4294967296, 0 < 4294967296, addN (modN 2) 1 < 4294967296 ^ 8, bx < 4294967296 ^ 8, bz < 4294967296 ^ 8, onE bx bz = true, (!(decide (nmX (modN 2) bx bz % 4294967296 ^ 8 = 0 % 4294967296 ^ 8) && (decide (nmY (modN 2) bx bz % 4294967296 ^ 8 = 1 % 4294967296 ^ 8) && true))) = false, (!(decide (nmX (addN (modN 2) 1) bx bz % 4294967296 ^ 8 = bx % 4294967296 ^ 8) && (decide (nmY (addN (modN 2) 1) bx bz % 4294967296 ^ 8 = bz % 4294967296 ^ 8) && true))) = false, (bodyOf Try.prog 7 8) = (bodyOf Try.prog 7 8), (T7 len cap ((0 : Nat) : Int), M7 c m bx bz) = (T7 len cap ((0 : Nat) : Int), M7 c m bx bz), wfS (T7 len cap ((0 : Nat) : Int)) (M7 c m bx bz) = true], bV true) := by kernel_rfl
theorem l7nil7 (bx : Nat) (bz : Nat) : dropM (callBy (E7 bx bz) (evalC (E7 bx bz) 1000) 7 [V1.one (Atom.v (Value.slice none 0 0))] [] [false, false, false]) =
    some ([(0 : Int) ≤ (2 : Int) ∧ (2 : Int) < (4 : Int), modN 2 < 4294967296 ^ 8, bx < 4294967296 ^ 8, bz < 4294967296 ^ 8, onE bx bz = true, (0 : Int) ≤ (2 : Int) ∧ (2 : Int) < (4 : Int), modN 2 < 4294967296 ^ 8, 1 < 4294967296, 0 < 4294967296, 0 < 4294967296, 0 < 4294967296, 0 < 4294967296, 0 < 4294967296, 0 < 4294967296, 0 < 4294967296, addN (modN 2) 1 < 4294967296 ^ 8, bx < 4294967296 ^ 8, bz < 4294967296 ^ 8, onE bx bz = true, (!(decide (nmX (modN 2) bx bz % 4294967296 ^ 8 = 0 % 4294967296 ^ 8) && (decide (nmY (modN 2) bx bz % 4294967296 ^ 8 = 1 % 4294967296 ^ 8) && true))) = false, (!(decide (nmX (addN (modN 2) 1) bx bz % 4294967296 ^ 8 = bx % 4294967296 ^ 8) && (decide (nmY (addN (modN 2) 1) bx bz % 4294967296 ^ 8 = bz % 4294967296 ^ 8) && true))) = false, decide ((0 : Int) < ((0 : Nat) : Int)) = false], bV true) := by kernel_rfl
theorem l7nila7 {bx bz : Nat} (hB : isB bx bz) (w : World) : Calls (E7 bx bz).P 7 #[.slice none 0 0] w (Trues w) := by
  have hb : onE bx bz = true := by rw [hB.1, hB.2]; exact onE_base
  obtain ⟨hb1, hb2⟩ := dN0 hb
  have z1 := neq2_f (nm_orderB hB).1 (nm_orderB hB).2
  have z2 := neq2_f (nm_moreB hB).1 (nm_moreB hB).2
  have hs := addN_lt (modN 2) 1
  exact law_nilD (envE7 hB) (l7nil7 bx bz) ⟨(by decide), (modN_lt _), (by first | with_reducible assumption | with_reducible exact L8 (by with_reducible assumption) | exact decide_eq_true (by omega) | exact decide_eq_false (by omega) | omega), (by first | with_reducible assumption | with_reducible exact L8 (by with_reducible assumption) | exact decide_eq_true (by omega) | exact decide_eq_false (by omega) | omega), (by first | with_reducible assumption | with_reducible exact L8 (by with_reducible assumption) | exact decide_eq_true (by omega) | exact decide_eq_false (by omega) | omega), (by decide), (modN_lt _), lit1, lit0, lit0, lit0, lit0, lit0, lit0, lit0, (addN_lt _ _), (by first | with_reducible assumption | with_reducible exact L8 (by with_reducible assumption) | exact decide_eq_true (by omega) | exact decide_eq_false (by omega) | omega), (by first | with_reducible assumption | with_reducible exact L8 (by with_reducible assumption) | exact decide_eq_true (by omega) | exact decide_eq_false (by omega) | omega), (by first | with_reducible assumption | with_reducible exact L8 (by with_reducible assumption) | exact decide_eq_true (by omega) | exact decide_eq_false (by omega) | omega), (by first | with_reducible assumption | with_reducible exact L8 (by with_reducible assumption) | exact decide_eq_true (by omega) | exact decide_eq_false (by omega) | omega), (by first | with_reducible assumption | with_reducible exact L8 (by with_reducible assumption) | exact decide_eq_true (by omega) | exact decide_eq_false (by omega) | omega), (by first | with_reducible assumption | with_reducible exact L8 (by with_reducible assumption) | exact decide_eq_true (by omega) | exact decide_eq_false (by omega) | omega), trivial⟩ w
theorem l7nilc7 (w : World) : Calls Try.prog 7 #[.slice none 0 0] w (Trues w) := l7nila7 (bx := bXN) (bz := bYN) ⟨rfl, rfl⟩ w
theorem l7obs (c : Cells) {bx bz : Nat} (hB : isB bx bz) (len cap m : Nat) : All [(0 : Int) ≤ (2 : Int) ∧ (2 : Int) < (4 : Int), modN 2 < 4294967296 ^ 8, bx < 4294967296 ^ 8, bz < 4294967296 ^ 8, onE bx bz = true, (0 : Int) ≤ (2 : Int) ∧ (2 : Int) < (4 : Int), modN 2 < 4294967296 ^ 8, 1 < 4294967296, 0 < 4294967296, 0 < 4294967296, 0 < 4294967296, 0 < 4294967296, 0 < 4294967296, 0 < 4294967296, 0 < 4294967296, addN (modN 2) 1 < 4294967296 ^ 8, bx < 4294967296 ^ 8, bz < 4294967296 ^ 8, onE bx bz = true, (!(decide (nmX (modN 2) bx bz % 4294967296 ^ 8 = 0 % 4294967296 ^ 8) && (decide (nmY (modN 2) bx bz % 4294967296 ^ 8 = 1 % 4294967296 ^ 8) && true))) = false, (!(decide (nmX (addN (modN 2) 1) bx bz % 4294967296 ^ 8 = bx % 4294967296 ^ 8) && (decide (nmY (addN (modN 2) 1) bx bz % 4294967296 ^ 8 = bz % 4294967296 ^ 8) && true))) = false, (bodyOf Try.prog 7 8) = (bodyOf Try.prog 7 8), (T7 len cap ((0 : Nat) : Int), M7 c m bx bz) = (T7 len cap ((0 : Nat) : Int), M7 c m bx bz), wfS (T7 len cap ((0 : Nat) : Int)) (M7 c m bx bz) = true] := by
  have hb : onE bx bz = true := by rw [hB.1, hB.2]; exact onE_base
  obtain ⟨hb1, hb2⟩ := dN0 hb
  have z1 := neq2_f (nm_orderB hB).1 (nm_orderB hB).2
  have z2 := neq2_f (nm_moreB hB).1 (nm_moreB hB).2
  have hs := addN_lt (modN 2) 1
  have hw := wfT7 c m bx bz len cap ((0 : Nat) : Int)
  exact ⟨(by decide), (modN_lt _), (by first | with_reducible assumption | with_reducible exact L8 (by with_reducible assumption) | exact decide_eq_true (by omega) | exact decide_eq_false (by omega) | omega), (by first | with_reducible assumption | with_reducible exact L8 (by with_reducible assumption) | exact decide_eq_true (by omega) | exact decide_eq_false (by omega) | omega), (by first | with_reducible assumption | with_reducible exact L8 (by with_reducible assumption) | exact decide_eq_true (by omega) | exact decide_eq_false (by omega) | omega), (by decide), (modN_lt _), lit1, lit0, lit0, lit0, lit0, lit0, lit0, lit0, (addN_lt _ _), (by first | with_reducible assumption | with_reducible exact L8 (by with_reducible assumption) | exact decide_eq_true (by omega) | exact decide_eq_false (by omega) | omega), (by first | with_reducible assumption | with_reducible exact L8 (by with_reducible assumption) | exact decide_eq_true (by omega) | exact decide_eq_false (by omega) | omega), (by first | with_reducible assumption | with_reducible exact L8 (by with_reducible assumption) | exact decide_eq_true (by omega) | exact decide_eq_false (by omega) | omega), (by first | with_reducible assumption | with_reducible exact L8 (by with_reducible assumption) | exact decide_eq_true (by omega) | exact decide_eq_false (by omega) | omega), (by first | with_reducible assumption | with_reducible exact L8 (by with_reducible assumption) | exact decide_eq_true (by omega) | exact decide_eq_false (by omega) | omega), rfl, rfl, (by assumption), trivial⟩
theorem law7g {bx bz : Nat} (hB : isB bx bz) (c : Cells) (m len cap : Nat) (hm : m = min len 1) (ho : All (rowOb c shA m 0)) (w : World) (φ : Loc) (hmr : MRel w φ [rowB c shA m 27] w) : Calls Try.prog 7 #[(V1.one (.sl 0 0 len cap)).conc φ] w (Trues w) := by
  have h3 := law_runD (l7Xok c bx bz len cap hB hm ho) (l7run7 c bx bz len cap m) (l7obs c hB len cap m) hmr
  exact h3
set_option maxRecDepth 100000 in
theorem law7 {H : Type} {enc : TypeId × Value → H} {r : Reach} {W : World} {base : Nat} {v : Value} {d : DataW H} {ps : List MemPlace} (hval : Value.okWide Try.prog W r base 22 v) (h : DataW.Trod enc Try.prog W 0 (fun _ => true) true 22 v d ps) :
    Calls Try.prog 7 #[v] W (Trues W) := by
  refine rows_calls shA (K := 1) (Q := Trues) u22 k27 s27 l7nilc7 ?_ hval h
  intro c m len cap hm _ _ ho w φ hmr
  exact law7g (bx := bXN) (bz := bYN) ⟨rfl, rfl⟩ c m len cap hm ho w φ hmr
end Go.Ev

namespace Go.Proofs.Ytpnappendjomoaa.Laws
open Go Go.Ev Go.RowKit Go.ChangeShapes Go.WideShapes Go.ChangeAt

set_option maxRecDepth 100000 in
theorem lifted7 (os : Os) (started : os.Started) (H : Type) (enc : TypeId × Value → H) :
    ReturnsInHanded {} Try.checked os 7 .any (Rows.edwNumbersSpec.pre6 enc Try.prog Try.f7 Rows.edwNumbersRow.domain false) (Rows.edwNumbersSpec.post enc Try.prog Try.f7 false true false false) := by
  refine returnsInHanded_of_change (C := Try.checked) own started (by kernel_rfl) Try.func7
    (ChangeSpec.witness6 (enc := enc) (C := Try.checked) false ⟨#[], #[.slice none 0 0], []⟩ 8 (by kernel_rfl) (by kernel_rfl) (by kernel_rfl) (by kernel_rfl)) ?_
  intro W base args ds gs before hval0 hW _ _
  have hval : ∀ (j : Nat) t v, Try.f7.params[j]? = some t → args[j]? = some v → Value.okWide Try.prog W .any base t v := hval0
  have hW' := hW
  obtain ⟨p, q, hA0, hV, hbef, hfz, hnd⟩ := hW
  have hp : Try.f7.params = #[22] := by kernel_rfl
  have hA : DataW.TrodAll enc Try.prog W 0 (fun _ => true) true Try.f7.params.toList args.toList ds p := hA0
  rw [hp] at hA hval
  obtain ⟨v0, d0, rfl, rfl, h0⟩ := trodAll_one hA
  obtain ⟨rfl, rfl⟩ := trodVars_none hV
  refine (law7 (hval 0 22 v0 rfl rfl) h0).mono ?_
  rintro e W' ⟨rfl, hb⟩
  exact ⟨_, rfl, post_true (tb := 4) rfl hp (by kernel_rfl) u4 laid rd22 row22 rfl rfl hW' hb⟩

theorem holds7 : Rows.EdwNumbersSaid :=
  OpenClaim.holds_of_wide 7 Try.f7 rfl rfl rfl rfl rfl rfl rfl ⟨rfl, rfl, rfl, rfl, rfl⟩ rfl rfl rfl rfl rfl (by kernel_rfl) Try.func7 (by kernel_rfl)
    (of_decide_eq_true (by kernel_rfl)) (by unfold Func.isWrapper; first | (rw [if_pos (by decide +kernel)]; kernel_rfl) | (rw [if_neg (by decide +kernel)]; exact ⟨rfl, rfl⟩))
    (fun os started H enc _ => lifted7 os started H enc)

end Go.Proofs.Ytpnappendjomoaa.Laws

namespace Go.Proofs.Ytpnappendjomoaa
open Go
theorem edwNumbers_holds : Rows.EdwNumbersSaid := Laws.holds7
end Go.Proofs.Ytpnappendjomoaa

