/- Keyed sums, nodes, and the law, of every input; An evaluator of the model's code with values known in part, and its soundness -/
import Derived.Test.YtfcobjhnkghdjaaGreatPartP
import Derived.Test.YtfcobjhnkghdjaaGreatPartL
import Derived.Maps.OwnSet
import Derived.Maps.Views
namespace Go.Ev.H5
open Go Go.Proofs Go.RowKit
set_option maxRecDepth 100000
/-! the first good one of so many -/
noncomputable def mst (w : ByteArray) : Nat → ByteArray → Option ByteArray
  | 0, _ => none
  | t + 1, s => bif gd (beS (hL w s)) then some (hmac w s) else mst w t (hmac w s)
noncomputable def chl (a : Nat) (c x : ByteArray) : Nat → ByteArray → Option (ByteArray × ByteArray)
  | 0, _ => none
  | t + 1, s => bif smB a (beS (hL c s)) then some (bgS (smV a (beS (hL c s))), hR c s) else chl a c x t (one1 ++ hR c s ++ x)
theorem mst_zero (w s : ByteArray) : mst w 0 s = none := rfl
theorem mst_succ (w : ByteArray) (t : Nat) (s : ByteArray) : mst w (t + 1) s = bif gd (beS (hL w s)) then some (hmac w s) else mst w t (hmac w s) := rfl
theorem chl_zero (a : Nat) (c x s : ByteArray) : chl a c x 0 s = none := rfl
theorem chl_succ (a : Nat) (c x : ByteArray) (t : Nat) (s : ByteArray) : chl a c x (t + 1) s = bif smB a (beS (hL c s)) then some (bgS (smV a (beS (hL c s))), hR c s) else chl a c x t (one1 ++ hR c s ++ x) := rfl
theorem mayB2 {k c : ByteArray} (hk : k.size = 32) (hc : c.size = 32) : mayB 2 k c = gd (beS k) := by
  unfold mayB
  rw [decide_eq_true hk, decide_eq_true hc]
  rfl
theorem mayB1 {k c : ByteArray} (hk : k.size = 32) (hc : c.size = 32) : mayB 1 k c = true := by
  unfold mayB
  rw [decide_eq_true hk, decide_eq_true hc]
  rfl
theorem nB_free (k c : ByteArray) : Free (nB k c) := fun _ => rfl
theorem free1 (k c : ByteArray) : ∀ b ∈ [nB k c], Free b := by
  intro b hb
  simp only [List.mem_cons, List.not_mem_nil, or_false] at hb
  subst hb; exact nB_free _ _
theorem free2 (k c k' c' : ByteArray) : ∀ b ∈ [nB k c, nB k' c'], Free b := by
  intro b hb
  simp only [List.mem_cons, List.not_mem_nil, or_false] at hb
  rcases hb with rfl | rfl <;> exact nB_free _ _
theorem wf1 {n : Nat} {l : List (Nat × AV)} (k c : ByteArray) (h : tmsWf 1 (slots n l) = true) : wfS (slots n l) [nB k c] = true := wfS_of (free1 k c) h
theorem wf2 {n : Nat} {l : List (Nat × AV)} (k c k' c' : ByteArray) (h : tmsWf 2 (slots n l) = true) : wfS (slots n l) [nB k c, nB k' c'] = true := wfS_of (free2 k c k' c') h
theorem wP_size : wP.size = 14 := rfl
theorem wE_size : wE.size = 12 := rfl
theorem envMs : EnvOK (mkE LMy SMs) := envMk LMy_ok SMs
theorem nx_size (c s : ByteArray) (i : Nat) : (one1 ++ hR c s ++ ixS i).size = 37 := by
  rw [ByteArray.size_append, ByteArray.size_append, hR_size, ixS_size]; rfl
theorem nx1_size (c s : ByteArray) : (one1 ++ hR c s).size = 33 := by
  rw [ByteArray.size_append, hR_size]; rfl
theorem adV_lt {a : Nat} (ha : a < modN 3) (b : Nat) : adV a b < modN 3 := Nat.mod_lt _ (Nat.lt_of_le_of_lt (Nat.zero_le _) ha)
theorem adV_eq (a b : Nat) : adV a b = addM (modN 3) a b := by unfold adV addM; rw [Nat.add_comm]
theorem smB_of {a b : Nat} (ha : a < modN 3) (hb : b < modN 3) : smB a b = !isZ (adV a b) := by
  unfold smB gd
  rw [← adV_eq a b, decide_eq_true hb, decide_eq_true (adV_lt ha b), Bool.true_and, Bool.and_true]
theorem smB_out {a b : Nat} (hb : ¬ b < modN 3) : smB a b = false := by
  unfold smB
  rw [decide_eq_false hb, Bool.false_and]
theorem smV_of {a b : Nat} (hb : b < modN 3) : smV a b = adV a b := by
  unfold smV
  rw [decide_eq_true hb, cond_true, adV_eq a b]
theorem obH_ok {c s : ByteArray} {b : Bool} (hc : c.size = 32) (hs : s.size ≤ 1000000) (h : decide (beS (hL c s) < modN 3) = b) : All (obH c s b) := by
  have hz := hmac_size c s
  exact ⟨by omega, by omega, by omega, hL_size _ _, rfl, by decide, by omega, h, beS_lt (hL_size _ _), modN_lt 3, trivial⟩
theorem ob12_ok {k c s : ByteArray} (hk : k.size = 32) (ha : beS k < modN 3) (hb : beS (hL c s) < modN 3) : All (ob12 k c s) := ⟨by omega, hk, okR_K (by omega), hb, ha, beS_lt (hL_size _ _), beS_lt hk, trivial⟩
theorem obT_ok {c s : ByteArray} {i j : Nat} (hj : j < 8) : All (obT c s i j) := by
  have hz := hmac_size c s
  exact ⟨by omega, by rw [hR'_eq, hR_size]; omega, by rw [hR'_eq, nx1_size, ixS_size]; omega, by unfold inI; omega, trivial⟩
theorem All_ap {l r : List Prop} (h : All l) (h' : All r) : All (l ++ r) := All_append.2 ⟨h, h'⟩
theorem yes22 (s : ByteArray) (j : Nat) (hj : j < 8) (hs : s.size ≤ 1000000) (hg : gd (beS (hL wP s)) = true) : Goes Tryz.prog (bodyOf Tryz.prog 22 6) (.ret) (T22 s (j : Int)) ([nB e0 e0]) (T22r) ([nB ((hmac wP s).extract 0 32) ((hmac wP s).extract 32 64)]) := by
  exact Runs.goes envMs ⟨_, _, t22y s j, ⟨decide_eq_true (by omega), by rw [wP_size]; omega, by omega, hmac_size _ _, by rw [mayB2 (hL_size _ _) (hR_size _ _)]; exact hg, trivial⟩, wf1 _ _ (by kernel_rfl)⟩
theorem no22 (s : ByteArray) (j : Nat) (hj : j < 8) (hs : s.size ≤ 1000000) (hg : gd (beS (hL wP s)) = false) : Goes Tryz.prog (bodyOf Tryz.prog 22 6) (.normal) (T22 s (j : Int)) ([nB e0 e0]) (T22 (hmac wP s) ((j : Int) + 1)) ([nB e0 e0]) := by
  exact Runs.goes envMs ⟨_, _, t22n s j, ⟨decide_eq_true (by omega), by rw [wP_size]; omega, by omega, hmac_size _ _, by rw [mayB2 (hL_size _ _) (hR_size _ _)]; exact hg, by unfold inI; omega, trivial⟩, wf1 _ _ (by kernel_rfl)⟩
theorem out22 (s : ByteArray) (j : Nat) (hj : ¬ j < 8) : Goes Tryz.prog (bodyOf Tryz.prog 22 6) (.exit 0) (T22 s (j : Int)) ([nB e0 e0]) (T22x) ([nB e0 e0]) := by
  exact Runs.goes envMs ⟨_, _, t22x s j, ⟨decide_eq_false (by omega), trivial⟩, wf1 _ _ (by kernel_rfl)⟩
theorem yes16 (s : ByteArray) (j : Nat) (hj : j < 8) (hs : s.size ≤ 1000000) (hg : gd (beS (hL wP s)) = true) : Goes Tryz.prog (bodyOf Tryz.prog 16 6) (.ret) (T16 wP s (j : Int)) ([nB e0 e0]) (T16r) ([nB ((hmac wP s).extract 0 32) ((hmac wP s).extract 32 64)]) := by
  have hz := hmac_size wP s
  have r := t16y wP s j
  rw [hR'_eq] at r
  exact Runs.goes envMs ⟨_, _, r, ⟨decide_eq_true (by omega), by rw [wP_size]; omega, by omega, by omega, by omega, by rw [mayB2 (hL_size _ _) (hR_size _ _)]; exact hg, trivial⟩, wf1 _ _ (by kernel_rfl)⟩
theorem no16 (s : ByteArray) (j : Nat) (hj : j < 8) (hs : s.size ≤ 1000000) (hg : gd (beS (hL wP s)) = false) : Goes Tryz.prog (bodyOf Tryz.prog 16 6) (.normal) (T16 wP s (j : Int)) ([nB e0 e0]) (T16 wP (hmac wP s) ((j : Int) + 1)) ([nB e0 e0]) := by
  have hz := hmac_size wP s
  have r := t16n wP s j
  rw [hR'_eq] at r
  exact Runs.goes envMs ⟨_, _, r, ⟨decide_eq_true (by omega), by rw [wP_size]; omega, by omega, by omega, by omega, by rw [mayB2 (hL_size _ _) (hR_size _ _)]; exact hg, by unfold inI; omega, trivial⟩, wf1 _ _ (by kernel_rfl)⟩
theorem out16 (s : ByteArray) (j : Nat) (hj : ¬ j < 8) : Goes Tryz.prog (bodyOf Tryz.prog 16 6) (.exit 0) (T16 wP s (j : Int)) ([nB e0 e0]) (T16x) ([nB e0 e0]) := by
  exact Runs.goes envMs ⟨_, _, t16x wP s j, ⟨decide_eq_false (by omega), trivial⟩, wf1 _ _ (by kernel_rfl)⟩
theorem loop22s : ∀ (t j : Nat) (s : ByteArray) (r : ByteArray), j + t = 8 → s.size ≤ 1000000 → mst wP t s = some r → GoesN Tryz.prog (bodyOf Tryz.prog 22 6) (t + 1) (.ret) (T22 s (j : Int)) ([nB e0 e0]) (T22r) ([nB (r.extract 0 32) (r.extract 32 64)]) := by
  intro t
  induction t with
  | zero =>
    intro j s r hj hs hm
    rw [mst_zero] at hm; cases hm
  | succ t ih =>
    intro j s r hj hs hm
    rw [mst_succ] at hm
    cases hg : gd (beS (hL wP s)) with
    | true =>
      rw [hg, cond_true, Option.some.injEq] at hm
      subst hm
      exact GoesN.out (by simp) (yes22 s j (by omega) hs hg)
    | false =>
      rw [hg, cond_false] at hm
      have ih := ih (j + 1) (hmac wP s) r (by omega) (by rw [hmac_size]; omega) hm
      rw [show ((j + 1 : Nat) : Int) = (j : Int) + 1 by omega] at ih
      exact GoesN.cons (M1 := [nB e0 e0]) rfl (no22 s j (by omega) hs hg) ih
theorem loop22n : ∀ (t j : Nat) (s : ByteArray), j + t = 8 → s.size ≤ 1000000 → mst wP t s = none → GoesN Tryz.prog (bodyOf Tryz.prog 22 6) (t + 1) (.exit 0) (T22 s (j : Int)) ([nB e0 e0]) (T22x) ([nB e0 e0]) := by
  intro t
  induction t with
  | zero =>
    intro j s hj hs hm
    exact GoesN.out (by simp) (out22 s j (by omega))
  | succ t ih =>
    intro j s hj hs hm
    rw [mst_succ] at hm
    cases hg : gd (beS (hL wP s)) with
    | true =>
      rw [hg, cond_true] at hm; cases hm
    | false =>
      rw [hg, cond_false] at hm
      have ih := ih (j + 1) (hmac wP s) (by omega) (by rw [hmac_size]; omega) hm
      rw [show ((j + 1 : Nat) : Int) = (j : Int) + 1 by omega] at ih
      exact GoesN.cons (M1 := [nB e0 e0]) rfl (no22 s j (by omega) hs hg) ih
theorem loop16s : ∀ (t j : Nat) (s : ByteArray) (r : ByteArray), j + t = 8 → s.size ≤ 1000000 → mst wP t s = some r → GoesN Tryz.prog (bodyOf Tryz.prog 16 6) (t + 1) (.ret) (T16 wP s (j : Int)) ([nB e0 e0]) (T16r) ([nB (r.extract 0 32) (r.extract 32 64)]) := by
  intro t
  induction t with
  | zero =>
    intro j s r hj hs hm
    rw [mst_zero] at hm; cases hm
  | succ t ih =>
    intro j s r hj hs hm
    rw [mst_succ] at hm
    cases hg : gd (beS (hL wP s)) with
    | true =>
      rw [hg, cond_true, Option.some.injEq] at hm
      subst hm
      exact GoesN.out (by simp) (yes16 s j (by omega) hs hg)
    | false =>
      rw [hg, cond_false] at hm
      have ih := ih (j + 1) (hmac wP s) r (by omega) (by rw [hmac_size]; omega) hm
      rw [show ((j + 1 : Nat) : Int) = (j : Int) + 1 by omega] at ih
      exact GoesN.cons (M1 := [nB e0 e0]) rfl (no16 s j (by omega) hs hg) ih
theorem loop16n : ∀ (t j : Nat) (s : ByteArray), j + t = 8 → s.size ≤ 1000000 → mst wP t s = none → GoesN Tryz.prog (bodyOf Tryz.prog 16 6) (t + 1) (.exit 0) (T16 wP s (j : Int)) ([nB e0 e0]) (T16x) ([nB e0 e0]) := by
  intro t
  induction t with
  | zero =>
    intro j s hj hs hm
    exact GoesN.out (by simp) (out16 s j (by omega))
  | succ t ih =>
    intro j s hj hs hm
    rw [mst_succ] at hm
    cases hg : gd (beS (hL wP s)) with
    | true =>
      rw [hg, cond_true] at hm; cases hm
    | false =>
      rw [hg, cond_false] at hm
      have ih := ih (j + 1) (hmac wP s) (by omega) (by rw [hmac_size]; omega) hm
      rw [show ((j + 1 : Nat) : Int) = (j : Int) + 1 by omega] at ih
      exact GoesN.cons (M1 := [nB e0 e0]) rfl (no16 s j (by omega) hs hg) ih
theorem yes27 {k c : ByteArray} {i : Nat} (hk : k.size = 32) (hc : c.size = 32) (ha : beS k < modN 3) (s : ByteArray) (j : Nat) (hj : j < 8) (hs : s.size ≤ 1000000) (hg : smB (beS k) (beS (hL c s)) = true) : Goes Tryz.prog (bodyOf Tryz.prog 27 5) (.ret) (T27 s i (j : Int)) ([nB k c, nB e0 e0]) (T27r) ([nB k c, nB (bgS (smV (beS k) (beS (hL c s)))) (hR c s)]) := by
  exact Runs.goes envMs ⟨_, _, t27y k c s i j, ⟨decide_eq_true (by omega), by omega, by omega, hmac_size _ _, hk, hL_size _ _, ha, hg, trivial⟩, wf2 _ _ _ _ (by kernel_rfl)⟩
theorem no27 {k c : ByteArray} {i : Nat} (hk : k.size = 32) (hc : c.size = 32) (ha : beS k < modN 3) (s : ByteArray) (j : Nat) (hj : j < 8) (hs : s.size ≤ 1000000) (hg : smB (beS k) (beS (hL c s)) = false) : Goes Tryz.prog (bodyOf Tryz.prog 27 5) (.normal) (T27 s i (j : Int)) ([nB k c, nB e0 e0]) (T27 (one1 ++ hR c s ++ ixS i) i ((j : Int) + 1)) ([nB k c, nB e0 e0]) := by
  exact Runs.goes envMs ⟨_, _, t27n k c s i j, ⟨decide_eq_true (by omega), by omega, by omega, hmac_size _ _, hk, hL_size _ _, ha, hg, by rw [hR_size]; omega, by rw [nx1_size, ixS_size]; omega, by unfold inI; omega, trivial⟩, wf2 _ _ _ _ (by kernel_rfl)⟩
theorem out27 {k c : ByteArray} {i : Nat} (s : ByteArray) (j : Nat) (hj : ¬ j < 8) : Goes Tryz.prog (bodyOf Tryz.prog 27 5) (.exit 0) (T27 s i (j : Int)) ([nB k c, nB e0 e0]) (T27x) ([nB k c, nB e0 e0]) := by
  exact Runs.goes envMs ⟨_, _, t27x k c s i j, ⟨decide_eq_false (by omega), trivial⟩, wf2 _ _ _ _ (by kernel_rfl)⟩
theorem yes12 {k c : ByteArray} {i : Nat} (hk : k.size = 32) (hc : c.size = 32) (ha : beS k < modN 3) (s : ByteArray) (j : Nat) (hj : j < 8) (hs : s.size ≤ 1000000) (hg : smB (beS k) (beS (hL c s)) = true) : Goes Tryz.prog (bodyOf Tryz.prog 12 7) .ret (T12 s i (j : Int)) ([nB k c, nB e0 e0]) T12r [nB k c, nB (bgS (smV (beS k) (beS (hL c s)))) (hR c s)] := by
  have hz := hmac_size c s
  by_cases hb : beS (hL c s) < modN 3
  · rw [smB_of ha hb] at hg
    rw [smV_of hb]
    have r := t12y k c s i j
    rw [hR'_eq] at r
    exact Runs.goes envMs ⟨_, _, r, All_ap (All_ap (All_ap ⟨decide_eq_true (by omega), trivial⟩ (obH_ok hc hs (decide_eq_true hb))) (ob12_ok hk ha hb)) ⟨hg, Nat.lt_trans (adV_lt ha _) (modN_lt 3), by omega, trivial⟩, wf2 _ _ _ _ (by kernel_rfl)⟩
  · rw [smB_out hb] at hg; cases hg
theorem no12 {k c : ByteArray} {i : Nat} (hk : k.size = 32) (hc : c.size = 32) (ha : beS k < modN 3) (s : ByteArray) (j : Nat) (hj : j < 8) (hs : s.size ≤ 1000000) (hg : smB (beS k) (beS (hL c s)) = false) : Goes Tryz.prog (bodyOf Tryz.prog 12 7) .normal (T12 s i (j : Int)) ([nB k c, nB e0 e0]) (T12 (one1 ++ hR c s ++ ixS i) i ((j : Int) + 1)) ([nB k c, nB e0 e0]) := by
  by_cases hb : beS (hL c s) < modN 3
  · rw [smB_of ha hb] at hg
    have r := t12z k c s i j
    rw [hR'_eq] at r
    exact Runs.goes envMs ⟨_, _, r, All_ap (All_ap (All_ap (All_ap ⟨decide_eq_true (by omega), trivial⟩ (obH_ok hc hs (decide_eq_true hb))) (ob12_ok hk ha hb)) ⟨hg, trivial⟩) (obT_ok hj), wf2 _ _ _ _ (by kernel_rfl)⟩
  · have r := t12n k c s i j
    rw [hR'_eq] at r
    exact Runs.goes envMs ⟨_, _, r, All_ap (All_ap ⟨decide_eq_true (by omega), trivial⟩ (obH_ok hc hs (decide_eq_false hb))) (obT_ok hj), wf2 _ _ _ _ (by kernel_rfl)⟩
theorem out12 {k c : ByteArray} {i : Nat} (s : ByteArray) (j : Nat) (hj : ¬ j < 8) : Goes Tryz.prog (bodyOf Tryz.prog 12 7) (.exit 0) (T12 s i (j : Int)) ([nB k c, nB e0 e0]) (T12x) ([nB k c, nB e0 e0]) := by
  exact Runs.goes envMs ⟨_, _, t12x k c s i j, ⟨decide_eq_false (by omega), trivial⟩, wf2 _ _ _ _ (by kernel_rfl)⟩
theorem loop27s {k c : ByteArray} {i : Nat} (hk : k.size = 32) (hc : c.size = 32) (ha : beS k < modN 3) : ∀ (t j : Nat) (s : ByteArray) (r : ByteArray × ByteArray), j + t = 8 → s.size ≤ 1000000 → chl (beS k) c (ixS i) t s = some r → GoesN Tryz.prog (bodyOf Tryz.prog 27 5) (t + 1) (.ret) (T27 s i (j : Int)) ([nB k c, nB e0 e0]) (T27r) ([nB k c, nB r.1 r.2]) := by
  intro t
  induction t with
  | zero =>
    intro j s r hj hs hm
    rw [chl_zero] at hm; cases hm
  | succ t ih =>
    intro j s r hj hs hm
    rw [chl_succ] at hm
    cases hg : smB (beS k) (beS (hL c s)) with
    | true =>
      rw [hg, cond_true, Option.some.injEq] at hm
      subst hm
      exact GoesN.out (by simp) (yes27 hk hc ha s j (by omega) hs hg)
    | false =>
      rw [hg, cond_false] at hm
      have ih := ih (j + 1) (one1 ++ hR c s ++ ixS i) r (by omega) (by rw [nx_size]; omega) hm
      rw [show ((j + 1 : Nat) : Int) = (j : Int) + 1 by omega] at ih
      exact GoesN.cons (M1 := [nB k c, nB e0 e0]) rfl (no27 hk hc ha s j (by omega) hs hg) ih
theorem loop27n {k c : ByteArray} {i : Nat} (hk : k.size = 32) (hc : c.size = 32) (ha : beS k < modN 3) : ∀ (t j : Nat) (s : ByteArray), j + t = 8 → s.size ≤ 1000000 → chl (beS k) c (ixS i) t s = none → GoesN Tryz.prog (bodyOf Tryz.prog 27 5) (t + 1) (.exit 0) (T27 s i (j : Int)) ([nB k c, nB e0 e0]) (T27x) ([nB k c, nB e0 e0]) := by
  intro t
  induction t with
  | zero =>
    intro j s hj hs hm
    exact GoesN.out (by simp) (out27 s j (by omega))
  | succ t ih =>
    intro j s hj hs hm
    rw [chl_succ] at hm
    cases hg : smB (beS k) (beS (hL c s)) with
    | true =>
      rw [hg, cond_true] at hm; cases hm
    | false =>
      rw [hg, cond_false] at hm
      have ih := ih (j + 1) (one1 ++ hR c s ++ ixS i) (by omega) (by rw [nx_size]; omega) hm
      rw [show ((j + 1 : Nat) : Int) = (j : Int) + 1 by omega] at ih
      exact GoesN.cons (M1 := [nB k c, nB e0 e0]) rfl (no27 hk hc ha s j (by omega) hs hg) ih
theorem loop12s {k c : ByteArray} {i : Nat} (hk : k.size = 32) (hc : c.size = 32) (ha : beS k < modN 3) : ∀ (t j : Nat) (s : ByteArray) (r : ByteArray × ByteArray), j + t = 8 → s.size ≤ 1000000 → chl (beS k) c (ixS i) t s = some r → GoesN Tryz.prog (bodyOf Tryz.prog 12 7) (t + 1) (.ret) (T12 s i (j : Int)) ([nB k c, nB e0 e0]) (T12r) ([nB k c, nB r.1 r.2]) := by
  intro t
  induction t with
  | zero =>
    intro j s r hj hs hm
    rw [chl_zero] at hm; cases hm
  | succ t ih =>
    intro j s r hj hs hm
    rw [chl_succ] at hm
    cases hg : smB (beS k) (beS (hL c s)) with
    | true =>
      rw [hg, cond_true, Option.some.injEq] at hm
      subst hm
      exact GoesN.out (by simp) (yes12 hk hc ha s j (by omega) hs hg)
    | false =>
      rw [hg, cond_false] at hm
      have ih := ih (j + 1) (one1 ++ hR c s ++ ixS i) r (by omega) (by rw [nx_size]; omega) hm
      rw [show ((j + 1 : Nat) : Int) = (j : Int) + 1 by omega] at ih
      exact GoesN.cons (M1 := [nB k c, nB e0 e0]) rfl (no12 hk hc ha s j (by omega) hs hg) ih
theorem loop12n {k c : ByteArray} {i : Nat} (hk : k.size = 32) (hc : c.size = 32) (ha : beS k < modN 3) : ∀ (t j : Nat) (s : ByteArray), j + t = 8 → s.size ≤ 1000000 → chl (beS k) c (ixS i) t s = none → GoesN Tryz.prog (bodyOf Tryz.prog 12 7) (t + 1) (.exit 0) (T12 s i (j : Int)) ([nB k c, nB e0 e0]) (T12x) ([nB k c, nB e0 e0]) := by
  intro t
  induction t with
  | zero =>
    intro j s hj hs hm
    exact GoesN.out (by simp) (out12 s j (by omega))
  | succ t ih =>
    intro j s hj hs hm
    rw [chl_succ] at hm
    cases hg : smB (beS k) (beS (hL c s)) with
    | true =>
      rw [hg, cond_true] at hm; cases hm
    | false =>
      rw [hg, cond_false] at hm
      have ih := ih (j + 1) (one1 ++ hR c s ++ ixS i) (by omega) (by rw [nx_size]; omega) hm
      rw [show ((j + 1 : Nat) : Int) = (j : Int) + 1 by omega] at ih
      exact GoesN.cons (M1 := [nB k c, nB e0 e0]) rfl (no12 hk hc ha s j (by omega) hs hg) ih
end Go.Ev.H5

namespace Go.Ev.H5
open Go Go.Proofs Go.RowKit
set_option maxRecDepth 100000
noncomputable def E22s (s : ByteArray) (T : List AV) (k c : ByteArray) (ex : Ex) : Env := addLp (mkE LMy SMs) 6 (bodyOf Tryz.prog 22 6) (sumC (T22 s 0) [nB e0 e0] T [nB k c] ex)
noncomputable def E16s (s : ByteArray) (T : List AV) (k c : ByteArray) (ex : Ex) : Env := addLp (mkE LMy SMs) 6 (bodyOf Tryz.prog 16 6) (sumC (T16 wP s 0) [nB e0 e0] T [nB k c] ex)
noncomputable def E27s (s : ByteArray) (i : Nat) (k c : ByteArray) (T : List AV) (k' c' : ByteArray) (ex : Ex) : Env := addLp (mkE LMy SMs) 5 (bodyOf Tryz.prog 27 5) (sumC (T27 s i 0) [nB k c, nB e0 e0] T [nB k c, nB k' c'] ex)
noncomputable def E12s (s : ByteArray) (i : Nat) (k c : ByteArray) (T : List AV) (k' c' : ByteArray) (ex : Ex) : Env := addLp (mkE LMy SMs) 7 (bodyOf Tryz.prog 12 7) (sumC (T12 s i 0) [nB k c, nB e0 e0] T [nB k c, nB k' c'] ex)
def res (k c : ByteArray) (e : Int) : AV := .tup [node k c, .one (.i e)]
theorem rA (z : Int) (s : ByteArray) : callR (mkE LMy SMs) 1000 22 [.one (.i z), sS s] [false, false] = some ([decide (z = 1) = false, decide (z = 2) = false], res e0 e0 1) := by kernel_rfl
theorem rB1 (z : Int) (s : ByteArray) : callR (mkE LMy SMs) 1000 22 [.one (.i z), sS s] [true, true] = some ([decide (z = 1) = true, decide ((s.size : Int) < 16) = true], res e0 e0 1) := by kernel_rfl
theorem rC1 (z : Int) (s : ByteArray) : callR (mkE LMy SMs) 1000 22 [.one (.i z), sS s] [true, false, true] = some ([decide (z = 1) = true, decide ((s.size : Int) < 16) = false, decide ((64 : Int) < (s.size : Int)) = true], res e0 e0 1) := by kernel_rfl
theorem rB2 (z : Int) (s : ByteArray) : callR (mkE LMy SMs) 1000 22 [.one (.i z), sS s] [false, true, true] = some ([decide (z = 1) = false, decide (z = 2) = true, decide ((s.size : Int) < 16) = true], res e0 e0 1) := by kernel_rfl
theorem rC2 (z : Int) (s : ByteArray) : callR (mkE LMy SMs) 1000 22 [.one (.i z), sS s] [false, true, false, true] = some ([decide (z = 1) = false, decide (z = 2) = true, decide ((s.size : Int) < 16) = false, decide ((64 : Int) < (s.size : Int)) = true], res e0 e0 1) := by kernel_rfl
theorem rD (z : Int) (s : ByteArray) : callR (mkE LMy SMs) 1000 22 [.one (.i z), sS s] [true, false, false, true] = some ([decide (z = 1) = true, decide ((s.size : Int) < 16) = false, decide ((64 : Int) < (s.size : Int)) = false, decide (z = 1) = true, wE.size ≤ 128, s.size ≤ 10000000000000, (hmac wE s).size = 64], res (hL wE s) (hR wE s) 0) := by kernel_rfl
def ob22 (s : ByteArray) (T : List AV) (k c : ByteArray) : List Prop := [decide ((2 : Int) = 1) = false, decide ((2 : Int) = 2) = true, decide ((s.size : Int) < 16) = false, decide ((64 : Int) < (s.size : Int)) = false, decide ((2 : Int) = 1) = false, bodyOf Tryz.prog 22 6 = bodyOf Tryz.prog 22 6, (T22 s 0, [nB e0 e0]) = (T22 s 0, [nB e0 e0]), wfS (T22 s 0) [nB e0 e0] = true]
theorem rS (s k c : ByteArray) : callR (E22s s T22r k c .ret) 1000 22 [.one (.i 2), sS s] [false, true, false, false, false] = some (ob22 s T22r k c, res k c 0) := by kernel_rfl
theorem rN (s : ByteArray) : callR (E22s s T22x e0 e0 (.exit 0)) 1000 22 [.one (.i 2), sS s] [false, true, false, false, false] = some (ob22 s T22x e0 e0, res e0 e0 3) := by kernel_rfl
theorem rE (s : ByteArray) : callR (mkE LMy SMs) 1000 16 [.one (.i 1), sS s] [false, true, true] =
    some ([decide ((1 : Int) = 2) = false, decide ((0 : Int) < 8) = true, wE.size ≤ 128, s.size ≤ 10000000000000, (0 : Int) ≤ 32 ∧ (32 : Int) ≤ ((hmac wE s).size : Int), (0 : Int) ≤ 32 ∧ (32 : Int) ≤ ((hmac wE s).size : Int), mayB 1 (hL wE s) (hR' wE s) = true], res (hL wE s) (hR' wE s) 0) := by kernel_rfl
def ob16 (s : ByteArray) : List Prop := [decide ((2 : Int) = 2) = true, bodyOf Tryz.prog 16 6 = bodyOf Tryz.prog 16 6, (T16 wP s 0, [nB e0 e0]) = (T16 wP s 0, [nB e0 e0]), wfS (T16 wP s 0) [nB e0 e0] = true]
theorem rPs (s k c : ByteArray) : callR (E16s s T16r k c .ret) 1000 16 [.one (.i 2), sS s] [true] = some (ob16 s, res k c 0) := by kernel_rfl
theorem rPn (s : ByteArray) : callR (E16s s T16x e0 e0 (.exit 0)) 1000 16 [.one (.i 2), sS s] [true] = some (ob16 s, res e0 e0 3) := by kernel_rfl
/-! masters -/
noncomputable def msK (z : Int) (s : ByteArray) : ByteArray := bif decide (z = 1) then hL wE s else (match mst wP 8 s with | some h => h.extract 0 32 | none => e0)
noncomputable def msC (z : Int) (s : ByteArray) : ByteArray := bif decide (z = 1) then hR wE s else (match mst wP 8 s with | some h => h.extract 32 64 | none => e0)
noncomputable def msE (z : Int) (s : ByteArray) : Int := bif decide (z = 1) then 0 else (match mst wP 8 s with | some _ => 0 | none => 3)
def sdB (z : Int) (s : ByteArray) : Bool := (decide (z = 1) || decide (z = 2)) && (!decide (s.size < 16) && !decide (64 < s.size))
theorem lift {a b : Nat} : decide ((a : Int) < (b : Int)) = decide (a < b) := by
  by_cases h : a < b
  · rw [decide_eq_true h, decide_eq_true (by omega)]
  · rw [decide_eq_false h, decide_eq_false (by omega)]
theorem spec16 (z : Int) (s : ByteArray) (hz : z = 1 ∨ z = 2) (hs : s.size ≤ 1000000) : Spec 16 [.one (.i z), sS s] (res (msK z s) (msC z s) (msE z s)) := by
  have hw : (hmac wE s).size = 64 := hmac_size _ _
  rcases hz with rfl | rfl
  · have r := rE s
    rw [hR'_eq] at r
    exact spec_run envMs rfl r ⟨by decide, by decide, by rw [wE_size]; omega, by omega, by omega, by omega, mayB1 (hL_size _ _) (hR_size _ _), trivial⟩ rfl rfl
  · unfold msK msC msE
    rw [show decide ((2 : Int) = 1) = false from rfl, cond_false, cond_false, cond_false]
    cases hm : mst wP 8 s with
    | some h =>
      have hE : EnvOK (E16s s T16r (h.extract 0 32) (h.extract 32 64) .ret) := envAddLp envMs (sumC_ok rfl (loop16s 8 0 s h (by omega) hs hm).loop)
      exact spec_run hE rfl (rPs s _ _) ⟨by decide, rfl, rfl, wf1 _ _ (by kernel_rfl), trivial⟩ rfl rfl
    | none =>
      have hE : EnvOK (E16s s T16x e0 e0 (.exit 0)) := envAddLp envMs (sumC_ok rfl (loop16n 8 0 s (by omega) hs hm).loop)
      exact spec_run hE rfl (rPn s) ⟨by decide, rfl, rfl, wf1 _ _ (by kernel_rfl), trivial⟩ rfl rfl
theorem spec22 (z : Int) (s : ByteArray) : Spec 22 [.one (.i z), sS s] (res (bif sdB z s then msK z s else e0) (bif sdB z s then msC z s else e0) (bif sdB z s then msE z s else 1)) := by
  have run := fun {ob : List Prop} {ch : List Bool} {r : AV} (h : callR (mkE LMy SMs) 1000 22 [.one (.i z), sS s] ch = some (ob, r)) (ho : All ob) (hr : r.wf 0 = true) => spec_run envMs rfl h ho hr rfl
  have e1 := lift (a := s.size) (b := 16)
  have e2 := lift (a := 64) (b := s.size)
  unfold sdB
  by_cases h1 : z = 1
  · rw [decide_eq_true h1, Bool.true_or, Bool.true_and]
    by_cases hs : s.size < 16
    · rw [decide_eq_true hs]
      exact run (rB1 z s) ⟨decide_eq_true h1, e1.trans (decide_eq_true hs), trivial⟩ rfl
    · rw [decide_eq_false hs]
      by_cases hl : 64 < s.size
      · rw [decide_eq_true hl]
        exact run (rC1 z s) ⟨decide_eq_true h1, e1.trans (decide_eq_false hs), e2.trans (decide_eq_true hl), trivial⟩ rfl
      · rw [decide_eq_false hl]
        have r := run (rD z s) ⟨decide_eq_true h1, e1.trans (decide_eq_false hs), e2.trans (decide_eq_false hl), decide_eq_true h1, by rw [wE_size]; omega, by omega, hmac_size _ _, trivial⟩ rfl
        subst h1
        exact r
  · rw [decide_eq_false h1, Bool.false_or]
    by_cases h2 : z = 2
    · rw [decide_eq_true h2, Bool.true_and]
      by_cases hs : s.size < 16
      · rw [decide_eq_true hs]
        exact run (rB2 z s) ⟨decide_eq_false h1, decide_eq_true h2, e1.trans (decide_eq_true hs), trivial⟩ rfl
      · rw [decide_eq_false hs]
        by_cases hl : 64 < s.size
        · rw [decide_eq_true hl]
          exact run (rC2 z s) ⟨decide_eq_false h1, decide_eq_true h2, e1.trans (decide_eq_false hs), e2.trans (decide_eq_true hl), trivial⟩ rfl
        · rw [decide_eq_false hl]
          subst h2
          rw [show (!false && !false) = true from rfl, cond_true, cond_true, cond_true]
          unfold msK msC msE
          rw [show decide ((2 : Int) = 1) = false from rfl, cond_false, cond_false, cond_false]
          cases hm : mst wP 8 s with
          | some h =>
            have hE : EnvOK (E22s s T22r (h.extract 0 32) (h.extract 32 64) .ret) := envAddLp envMs (sumC_ok rfl (loop22s 8 0 s h (by omega) (by omega) hm).loop)
            exact spec_run hE rfl (rS s _ _) ⟨by decide, by decide, e1.trans (decide_eq_false hs), e2.trans (decide_eq_false hl), by decide, rfl, rfl, wf1 _ _ (by kernel_rfl), trivial⟩ rfl rfl
          | none =>
            have hE : EnvOK (E22s s T22x e0 e0 (.exit 0)) := envAddLp envMs (sumC_ok rfl (loop22n 8 0 s (by omega) (by omega) hm).loop)
            exact spec_run hE rfl (rN s) ⟨by decide, by decide, e1.trans (decide_eq_false hs), e2.trans (decide_eq_false hl), by decide, rfl, rfl, wf1 _ _ (by kernel_rfl), trivial⟩ rfl rfl
    · rw [decide_eq_false h2]
      exact run (rA z s) ⟨decide_eq_false h1, decide_eq_false h2, trivial⟩ rfl
noncomputable def fnMs (vs : List V1) : Option (List Prop × AV) := match vs with | [.one (.i z), .one (.v (.string s))] => some ([], res (bif sdB z s then msK z s else e0) (bif sdB z s then msC z s else e0) (bif sdB z s then msE z s else 1)) | _ => none
noncomputable def fnMsP (vs : List V1) : Option (List Prop × AV) := match vs with | [.one (.i z), .one (.v (.string s))] => some ([z = 1 ∨ z = 2, s.size ≤ 1000000], res (msK z s) (msC z s) (msE z s)) | _ => none
theorem ct22 : CTok ⟨22, fnMs⟩ := by
  intro vs ob r h ho
  simp only [fnMs] at h
  split at h
  · simp only [Option.some.injEq, Prod.mk.injEq] at h
    obtain ⟨rfl, rfl⟩ := h
    exact spec22 _ _
  · simp at h
theorem ct16 : CTok ⟨16, fnMsP⟩ := by
  intro vs ob r h ho
  simp only [fnMsP] at h
  split at h
  · simp only [Option.some.injEq, Prod.mk.injEq] at h
    obtain ⟨rfl, rfl⟩ := h
    obtain ⟨h1, h2, _⟩ := ho
    exact spec16 _ _ h1 h2
  · simp at h
/-! hardened children -/
def hdS (k : ByteArray) (i : Nat) : ByteArray := zer1 ++ k ++ ixS i
theorem hdS_size {k : ByteArray} (h : k.size = 32) (i : Nat) : (hdS k i).size = 37 := by
  unfold hdS
  rw [ByteArray.size_append, ByteArray.size_append, h, ixS_size]; rfl
theorem hd1_size {k : ByteArray} (h : k.size = 32) : (zer1 ++ k).size = 33 := by
  rw [ByteArray.size_append, h]; rfl
theorem c1f (k c : ByteArray) (i : Nat) : callR (mkE LMy SMs) 1000 27 [.one (.i 1), node k c, u32 i] [true, false, true, true] =
    some ([decide ((1 : Int) = 1) = true, decide (i < 2147483648) = false, decide (2147483648 ≤ i) = true, 1 + k.size ≤ 9223372036854775807, (zer1 ++ k).size + (ixS i).size ≤ 9223372036854775807, decide ((0 : Int) < 8) = true, c.size ≤ 128, (hdS k i).size ≤ 10000000000000, (hmac c (hdS k i)).size = 64], res (hL c (hdS k i)) (hR c (hdS k i)) 0) := by kernel_rfl
theorem c0f (k c : ByteArray) (i : Nat) : callR (mkE LMy SMs) 1000 27 [.one (.i 1), node k c, u32 i] [true, true] = some ([decide ((1 : Int) = 1) = true, decide (i < 2147483648) = true], res e0 e0 10) := by kernel_rfl
def ob27 (k c : ByteArray) (i : Nat) : List Prop := [decide ((2 : Int) = 1) = false, decide (2147483648 ≤ i) = true, 1 + k.size ≤ 9223372036854775807, (zer1 ++ k).size + (ixS i).size ≤ 9223372036854775807, bodyOf Tryz.prog 27 5 = bodyOf Tryz.prog 27 5, (T27 (hdS k i) i 0, [nB k c, nB e0 e0]) = (T27 (hdS k i) i 0, [nB k c, nB e0 e0]), wfS (T27 (hdS k i) i 0) [nB k c, nB e0 e0] = true]
theorem cS (k c k' c' : ByteArray) (i : Nat) : callR (E27s (hdS k i) i k c T27r k' c' .ret) 1000 27 [.one (.i 2), node k c, u32 i] [false, true] = some (ob27 k c i, res k' c' 0) := by kernel_rfl
theorem cN (k c : ByteArray) (i : Nat) : callR (E27s (hdS k i) i k c T27x e0 e0 (.exit 0)) 1000 27 [.one (.i 2), node k c, u32 i] [false, true] = some (ob27 k c i, res e0 e0 3) := by kernel_rfl
theorem d1 (k c : ByteArray) (i : Nat) : callR (mkE LMy SMs) 1000 12 [.one (.i 1), node k c, u32 i] [true, false, false, true] =
    some ([decide ((1 : Int) = 1) = true, decide (i < 2147483648) = false, 1 + k.size ≤ 9223372036854775807, (zer1 ++ k).size + (ixS i).size ≤ 9223372036854775807, decide (i < 2147483648) = false, decide ((0 : Int) < 8) = true, c.size ≤ 128, (hdS k i).size ≤ 10000000000000, (0 : Int) ≤ 32 ∧ (32 : Int) ≤ ((hmac c (hdS k i)).size : Int), (0 : Int) ≤ 32 ∧ (32 : Int) ≤ ((hmac c (hdS k i)).size : Int)], res (hL c (hdS k i)) (hR' c (hdS k i)) 0) := by kernel_rfl
theorem d0 (k c : ByteArray) (i : Nat) : callR (mkE LMy SMs) 1000 12 [.one (.i 1), node k c, u32 i] [true, true] = some ([decide ((1 : Int) = 1) = true, decide (i < 2147483648) = true], res e0 e0 10) := by kernel_rfl
def ob12h (k c : ByteArray) (i : Nat) : List Prop := [decide ((2 : Int) = 1) = false, 1 + k.size ≤ 9223372036854775807, (zer1 ++ k).size + (ixS i).size ≤ 9223372036854775807, decide (i < 2147483648) = false, bodyOf Tryz.prog 12 7 = bodyOf Tryz.prog 12 7, (T12 (hdS k i) i 0, [nB k c, nB e0 e0]) = (T12 (hdS k i) i 0, [nB k c, nB e0 e0]), wfS (T12 (hdS k i) i 0) [nB k c, nB e0 e0] = true]
theorem dS (k c k' c' : ByteArray) (i : Nat) : callR (E12s (hdS k i) i k c T12r k' c' .ret) 1000 12 [.one (.i 2), node k c, u32 i] [false, false] = some (ob12h k c i, res k' c' 0) := by kernel_rfl
theorem dN (k c : ByteArray) (i : Nat) : callR (E12s (hdS k i) i k c T12x e0 e0 (.exit 0)) 1000 12 [.one (.i 2), node k c, u32 i] [false, false] = some (ob12h k c i, res e0 e0 3) := by kernel_rfl
/-- a child, of what the sum is begun by. -/
noncomputable def chK (z : Int) (k c s x : ByteArray) : ByteArray := bif decide (z = 1) then hL c s else (match chl (beS k) c x 8 s with | some r => r.1 | none => e0)
noncomputable def chC (z : Int) (k c s x : ByteArray) : ByteArray := bif decide (z = 1) then hR c s else (match chl (beS k) c x 8 s with | some r => r.2 | none => e0)
noncomputable def chE (z : Int) (k c s x : ByteArray) : Int := bif decide (z = 1) then 0 else (match chl (beS k) c x 8 s with | some _ => 0 | none => 3)
/-- what a child of these is known by: of a key that may be, hardened. -/
def chOk (z : Int) (k c : ByteArray) (i : Nat) : List Prop := [z = 1 ∨ z = 2, mayB z k c = true, 2147483648 ≤ i]
theorem may_parts {z : Int} {k c : ByteArray} (h : mayB z k c = true) : k.size = 32 ∧ c.size = 32 ∧ (z = 1 ∨ beS k < modN 3) := by
  unfold mayB gd at h
  simp only [Bool.and_eq_true, Bool.or_eq_true, decide_eq_true_eq] at h
  exact ⟨h.2.1, h.2.2.1, h.2.2.2.elim .inl fun h => .inr h.2⟩
theorem spec27h (z : Int) (k c : ByteArray) (i : Nat) (hz : z = 1 ∨ z = 2) (hm : mayB z k c = true) (hi : 2147483648 ≤ i) : Spec 27 [.one (.i z), node k c, u32 i] (res (chK z k c (hdS k i) (ixS i)) (chC z k c (hdS k i) (ixS i)) (chE z k c (hdS k i) (ixS i))) := by
  obtain ⟨hk, hc, ha⟩ := may_parts hm
  have h1 := hd1_size hk
  have h2 := hdS_size hk i
  have h3 := ixS_size i
  rcases hz with rfl | rfl
  · exact spec_run envMs rfl (c1f k c i) ⟨by decide, decide_eq_false (by omega), decide_eq_true hi, by omega, by omega, by decide, by omega, by omega, hmac_size _ _, trivial⟩ rfl rfl
  · have ha : beS k < modN 3 := ha.resolve_left (by omega)
    unfold chK chC chE
    rw [show decide ((2 : Int) = 1) = false from rfl, cond_false, cond_false, cond_false]
    cases hm : chl (beS k) c (ixS i) 8 (hdS k i) with
    | some r =>
      have hE : EnvOK (E27s (hdS k i) i k c T27r r.1 r.2 .ret) := envAddLp envMs (sumC_ok rfl (loop27s hk hc ha 8 0 _ r (by omega) (by omega) hm).loop)
      exact spec_run hE rfl (cS k c _ _ i) ⟨by decide, decide_eq_true hi, by omega, by omega, rfl, rfl, wf2 _ _ _ _ (by kernel_rfl), trivial⟩ rfl rfl
    | none =>
      have hE : EnvOK (E27s (hdS k i) i k c T27x e0 e0 (.exit 0)) := envAddLp envMs (sumC_ok rfl (loop27n hk hc ha 8 0 _ (by omega) (by omega) hm).loop)
      exact spec_run hE rfl (cN k c i) ⟨by decide, decide_eq_true hi, by omega, by omega, rfl, rfl, wf2 _ _ _ _ (by kernel_rfl), trivial⟩ rfl rfl
theorem spec12h (z : Int) (k c : ByteArray) (i : Nat) (hz : z = 1 ∨ z = 2) (hm : mayB z k c = true) (hi : 2147483648 ≤ i) : Spec 12 [.one (.i z), node k c, u32 i] (res (chK z k c (hdS k i) (ixS i)) (chC z k c (hdS k i) (ixS i)) (chE z k c (hdS k i) (ixS i))) := by
  obtain ⟨hk, hc, ha⟩ := may_parts hm
  have h1 := hd1_size hk
  have h2 := hdS_size hk i
  have h3 := ixS_size i
  have h4 := hmac_size c (hdS k i)
  rcases hz with rfl | rfl
  · have r := d1 k c i
    rw [hR'_eq] at r
    exact spec_run envMs rfl r ⟨by decide, decide_eq_false (by omega), by omega, by omega, decide_eq_false (by omega), by decide, by omega, by omega, by omega, by omega, trivial⟩ rfl rfl
  · have ha : beS k < modN 3 := ha.resolve_left (by omega)
    unfold chK chC chE
    rw [show decide ((2 : Int) = 1) = false from rfl, cond_false, cond_false, cond_false]
    cases hm : chl (beS k) c (ixS i) 8 (hdS k i) with
    | some r =>
      have hE : EnvOK (E12s (hdS k i) i k c T12r r.1 r.2 .ret) := envAddLp envMs (sumC_ok rfl (loop12s hk hc ha 8 0 _ r (by omega) (by omega) hm).loop)
      exact spec_run hE rfl (dS k c _ _ i) ⟨by decide, by omega, by omega, decide_eq_false (by omega), rfl, rfl, wf2 _ _ _ _ (by kernel_rfl), trivial⟩ rfl rfl
    | none =>
      have hE : EnvOK (E12s (hdS k i) i k c T12x e0 e0 (.exit 0)) := envAddLp envMs (sumC_ok rfl (loop12n hk hc ha 8 0 _ (by omega) (by omega) hm).loop)
      exact spec_run hE rfl (dN k c i) ⟨by decide, by omega, by omega, decide_eq_false (by omega), rfl, rfl, wf2 _ _ _ _ (by kernel_rfl), trivial⟩ rfl rfl
end Go.Ev.H5

namespace Go.Ev.H5
open Go Go.Proofs Go.RowKit
set_option maxRecDepth 100000
noncomputable def resC (z : Int) (k c : ByteArray) (i : Nat) : AV := res (chK z k c (hdS k i) (ixS i)) (chC z k c (hdS k i) (ixS i)) (chE z k c (hdS k i) (ixS i))
noncomputable def fnCh (vs : List V1) : Option (List Prop × AV) := match vs with | [.one (.i z), .agg [.a (.v (.string k)), .a (.v (.string c))], .one (.u .u32 i)] => some (chOk z k c i, resC z k c i) | _ => none
theorem ct27 : CTok ⟨27, fnCh⟩ := by
  intro vs ob r h ho
  simp only [fnCh] at h
  split at h
  · simp only [Option.some.injEq, Prod.mk.injEq] at h
    obtain ⟨rfl, rfl⟩ := h
    obtain ⟨h1, h2, h3, _⟩ := ho
    exact spec27h _ _ _ _ h1 h2 h3
  · simp at h
theorem ct12 : CTok ⟨12, fnCh⟩ := by
  intro vs ob r h ho
  simp only [fnCh] at h
  split at h
  · simp only [Option.some.injEq, Prod.mk.injEq] at h
    obtain ⟨rfl, rfl⟩ := h
    obtain ⟨h1, h2, h3, _⟩ := ho
    exact spec12h _ _ _ _ h1 h2 h3
  · simp at h
noncomputable def LCh : List CT := ⟨27, fnCh⟩ :: LMy
theorem LCh_ok : AllCT LCh := ⟨ct27, LMy_ok⟩
theorem r10y (z : Int) (k c : ByteArray) (i : Nat) : callR (mkE LCh SMs) 1000 10 [.one (.i z), node k c, u32 i] [true] = some ([mayB z k c = true, z = 1 ∨ z = 2, mayB z k c = true, 2147483648 ≤ i], resC z k c i) := by kernel_rfl
theorem ct10 : CTok ⟨10, fnCh⟩ := by
  intro vs ob r h ho
  simp only [fnCh] at h
  split at h
  · simp only [Option.some.injEq, Prod.mk.injEq] at h
    obtain ⟨rfl, rfl⟩ := h
    obtain ⟨h1, h2, h3, _⟩ := ho
    exact spec_run (envMk LCh_ok SMs) rfl (r10y _ _ _ _) ⟨h2, h1, h2, h3, trivial⟩ rfl rfl
  · simp at h
noncomputable def LWk : List CT := ⟨10, fnCh⟩ :: ⟨12, fnCh⟩ :: ⟨22, fnMs⟩ :: ⟨16, fnMsP⟩ :: LCh
theorem LWk_ok : AllCT LWk := ⟨ct10, ct12, ct22, ct16, LCh_ok⟩
noncomputable def SWk : FuncId → Nat → Bool := fun f t => match f with | 14 => memN t [10, 15, 21] | _ => false
theorem r14 : callR (mkE LWk SWk) 1000 14 [] [true, true, true] = some ([(0 : Int) ≤ 16 ∧ (16 : Int) ≤ 1000000, decide ((bif sdB 1 (zs 16) then msE 1 (zs 16) else 1) = 0) = true, decide (((bif sdB 1 (zs 16) then msK 1 (zs 16) else e0).size : Int) = 32) = true, decide (((bif sdB 1 (zs 16) then msC 1 (zs 16) else e0).size : Int) = 32) = true], bV true) := by kernel_rfl
theorem sdB_of {z : Int} {s : ByteArray} (hz : z = 1 ∨ z = 2) (h1 : 16 ≤ s.size) (h2 : s.size ≤ 64) : sdB z s = true := by
  unfold sdB
  rw [decide_eq_false (show ¬ s.size < 16 by omega), decide_eq_false (show ¬ 64 < s.size by omega)]
  rcases hz with rfl | rfl <;> rfl
theorem wakes14 : Spec 14 [] (bV true) := by
  have hs : sdB 1 (zs 16) = true := sdB_of (.inl rfl) (by rw [zs_size]; omega) (by rw [zs_size]; omega)
  refine spec_run (envMk LWk_ok SWk) rfl r14 ⟨by omega, ?_, ?_, ?_, trivial⟩ rfl rfl
  · rw [hs]; exact decide_eq_true rfl
  · rw [hs]; exact deq (hL_size _ _)
  · rw [hs]; exact deq (hR_size _ _)
/-! what is handed on from node to node -/
def atH (x : Nat) : Nat := x % 4294967296 ||| 2147483648
theorem atH_ge (x : Nat) : 2147483648 ≤ atH x := by unfold atH; exact Nat.right_le_or
theorem bgS_size (x : Nat) : (bgS x).size = 32 := by unfold bgS; rw [revS_size, strOf_size, leB_length]
theorem leB_succ (n x : Nat) : leB (n + 1) x = x % 256 :: leB n (x / 256) := by
  unfold leB
  rw [List.range_succ_eq_map, List.map_cons, List.map_map]
  rw [Nat.pow_zero, Nat.div_one]
  congr 1
  refine List.map_congr_left fun j _ => ?_
  show x / 256 ^ (j + 1) % 256 = x / 256 / 256 ^ j % 256
  rw [Nat.pow_succ, Nat.mul_comm, Nat.div_div_eq_div_mul]
theorem leN_leB : ∀ (n x : Nat), leN (leB n x) = x % 256 ^ n
  | 0, x => by simp [leB, leN, Nat.mod_one]
  | n + 1, x => by
    rw [leB_succ]
    show x % 256 + 256 * leN (leB n (x / 256)) = _
    rw [leN_leB n, Nat.pow_succ, Nat.mul_comm (256 ^ n), Nat.mod_mul]
theorem leS_leB {x : Nat} (h : x < 256 ^ 32) : leS (strOf (leB 32 x)) = x := by
  unfold leS
  rw [numsB_strOf _ (leB_lt 32 x), leN_leB, Nat.mod_eq_of_lt h]
theorem beS_bgS {x : Nat} (h : x < 4294967296 ^ 8) : beS (bgS x) = x := by
  unfold beS bgS
  rw [revS_revS]
  exact leS_leB (by rw [show (256 : Nat) ^ 32 = 4294967296 ^ 8 from by decide]; exact h)
theorem smV_lt {a : Nat} (ha : a < modN 3) (b : Nat) : smV a b < 4294967296 ^ 8 := by
  unfold smV
  cases decide (b < modN 3) with
  | true => rw [cond_true, ← adV_eq]; exact Nat.lt_trans (adV_lt ha b) (modN_lt 3)
  | false => rw [cond_false]; decide
theorem smB_gd {a b : Nat} (h : smB a b = true) : gd (smV a b) = true := by
  unfold smB at h
  unfold smV
  rw [Bool.and_eq_true] at h
  rw [h.1, cond_true]; exact h.2
theorem chl_ok {a : Nat} (ha : a < modN 3) {c x : ByteArray} : ∀ (t : Nat) (s : ByteArray) (r : ByteArray × ByteArray), chl a c x t s = some r → mayB 2 r.1 r.2 = true := by
  intro t
  induction t with
  | zero => intro s r h; rw [chl_zero] at h; cases h
  | succ t ih =>
    intro s r h
    rw [chl_succ] at h
    cases hg : smB a (beS (hL c s)) with
    | true =>
      rw [hg, cond_true, Option.some.injEq] at h
      subst h
      rw [mayB2 (bgS_size _) (hR_size _ _), beS_bgS (smV_lt ha _)]
      exact smB_gd hg
    | false =>
      rw [hg, cond_false] at h
      exact ih _ r h
theorem mst_ok {w : ByteArray} : ∀ (t : Nat) (s h : ByteArray), mst w t s = some h → mayB 2 (h.extract 0 32) (h.extract 32 64) = true := by
  intro t
  induction t with
  | zero => intro s h hm; rw [mst_zero] at hm; cases hm
  | succ t ih =>
    intro s h hm
    rw [mst_succ] at hm
    cases hg : gd (beS (hL w s)) with
    | true =>
      rw [hg, cond_true, Option.some.injEq] at hm
      subst hm
      have : mayB 2 (hL w s) (hR w s) = true := by rw [mayB2 (hL_size _ _) (hR_size _ _)]; exact hg
      exact this
    | false =>
      rw [hg, cond_false] at hm
      exact ih _ h hm
/-- where no error is, there is a node that may be. -/
theorem ms_may {z : Int} {s : ByteArray} (hz : z = 1 ∨ z = 2) (h : msE z s = 0) : mayB z (msK z s) (msC z s) = true := by
  rcases hz with rfl | rfl
  · exact mayB1 (hL_size _ _) (hR_size _ _)
  · unfold msE at h
    unfold msK msC
    rw [show decide ((2 : Int) = 1) = false from rfl, cond_false] at *
    rw [cond_false]
    cases hm : mst wP 8 s with
    | some r => exact mst_ok 8 s r hm
    | none => rw [hm] at h; cases h
theorem ch_may {z : Int} {k c s x : ByteArray} (hz : z = 1 ∨ z = 2) (hk : mayB z k c = true) (h : chE z k c s x = 0) : mayB z (chK z k c s x) (chC z k c s x) = true := by
  rcases hz with rfl | rfl
  · exact mayB1 (hL_size _ _) (hR_size _ _)
  · have ha := (may_parts hk).2.2.resolve_left (by omega)
    unfold chE at h
    unfold chK chC
    rw [show decide ((2 : Int) = 1) = false from rfl, cond_false] at *
    rw [cond_false]
    cases hm : chl (beS k) c x 8 s with
    | some r => exact chl_ok ha 8 s r hm
    | none => rw [hm] at h; cases h
end Go.Ev.H5

namespace Go.Ev
open Go Go.RowKit

/-! maps: code between the evaluator's runs -/
section
variable {P : Program} {w0 w : World} {φ : Loc} {a : Act}
theorem opsA_pre {cf : CF} {S : Nat → Bool} {ops : Array Oper} (hcf : CfOK P cf) {Q : Exit → Act → World → Prop} (ks : List Nat) : ∀ (l : List Oper) (k : Nat) (tm : List AV) (mem : List Blk) (c c' : List Bool) (ob : List Prop) (tm' : List AV) (mem' : List Blk)
    (φ : Loc) (a : Act) (w : World), (∀ j, j < l.length → l[j]? = ops[k + j]?) → opsA P cf S ops.toList l tm mem c = some (ob, c', tm', mem') → All ob → Rel w0 φ tm mem a w →
    (∀ φ' a' w', Agree mem.length φ φ' → mem.length ≤ mem'.length → Rel w0 φ' tm' mem' a' w' → wpOps P ops Q ks a' w') → wpOps P ops Q (List.range' k l.length ++ ks) a w
  | [], k, tm, mem, c, c', ob, tm', mem', φ, a, w, _, h, _, hr, hQ => by
    simp only [opsA, Option.some.injEq, Prod.mk.injEq] at h
    obtain ⟨rfl, rfl, rfl, rfl⟩ := h
    exact hQ φ a w (Agree.refl _ _) (Nat.le_refl _) hr
  | o :: rest, k, tm, mem, c, c', ob, tm', mem', φ, a, w, hl, h, ho, hr, hQ => by
    rw [opsA_eq] at h
    split at h
    · rename_i ob1 c1 v mem1 hst
      split at h
      · rename_i ob2 r hrest
        simp only [Option.some.injEq, Prod.mk.injEq] at h
        obtain ⟨rfl, rfl⟩ := h
        rw [All_append] at ho
        have hk : ops[k]? = some o := by have := hl 0 (by simp); simpa using this.symm
        simp only [List.length_cons, List.range'_succ, List.cons_append, wpOps, hk]
        refine stepG_sound hcf hst ho.1 hr ?_
        intro φ' w' ha hlen hm hv
        refine opsA_pre hcf ks rest (k + 1) _ _ _ _ _ _ _ φ' _ w' (fun j hj => by have := hl (j + 1) (by simp; omega); simpa [Nat.add_assoc, Nat.add_comm 1 j] using this) hrest ho.2 (hr.put o.dst ha hlen hm hv) ?_
        intro φ2 a2 w2 ha2 hl2 hr2
        exact hQ φ2 a2 w2 (ha.trans hlen ha2) (Nat.le_trans hlen hl2) hr2
      · simp at h
    · simp at h
/-- a run of some operations of a region, seen by a state. -/
def preTo (E : Env) (n : Nat) (S : Nat → Bool) (ops : Array Oper) (l : List Oper) (T : List AV) (M : List Blk) (c : List Bool) (T' : List AV) (k : Nat) : Option (List Prop × List AV × List Blk) :=
  match opsA E.P (callBy E (evalC E n)) S ops.toList l T M c with
  | some (ob, _, tm, mem) => some (ob, fitT T' tm, mem.take k)
  | none => none
theorem preTo_wp {E : Env} (hE : EnvOK E) {n : Nat} {S : Nat → Bool} {ops : Array Oper} {l : List Oper} {T T' : List AV} {M M' : List Blk} {c : List Bool} {ob : List Prop} (k : Nat) (ks : List Nat)
    (h : preTo E n S ops l T M c T' M'.length = some (ob, T', M')) (ho : All ob) (hw : wfS T' M' = true) (hl : ∀ j, j < l.length → l[j]? = ops[k + j]?) (hr : Rel w0 φ T M a w) {Q : Exit → Act → World → Prop}
    (hQ : ∀ φ' a' w', Agree M.length φ φ' → Rel w0 φ' T' M' a' w' → wpOps E.P ops Q ks a' w') : wpOps E.P ops Q (List.range' k l.length ++ ks) a w := by
  unfold preTo at h
  split at h
  · rename_i ob1 c1 tm mem h1
    simp only [Option.some.injEq, Prod.mk.injEq] at h
    obtain ⟨rfl, h2, h3⟩ := h
    exact opsA_pre (callBy_ok hE (evalC_ok hE n)) ks l k _ _ _ _ _ _ _ φ a w hl h1 ho hr fun φ' a' w' hag _ hr' => hQ φ' a' w' hag (hr'.fit (fits_of (by rw [h2, h3]) hw))
  · simp at h
theorem wpOps_step {ops : Array Oper} {Q : Exit → Act → World → Prop} {k : Nat} {ks : List Nat} {o : Oper} (hk : ops[k]? = some o) (hg : o.guard = none) (h : o.wp P a w (wpOps P ops Q ks) Q) : wpOps P ops Q (k :: ks) a w := by
  simp only [wpOps, hk]
  rw [if_pos (by simp [Region.wanted, hg])]
  exact .inl h
theorem lookup_wp {o : Oper} {t : TypeId} {m x : Operand} {b : Nat} {key v : Value} {K : Act → World → Prop} {Q : Exit → Act → World → Prop} (hop : o.op = Op.lookup t m x true) (hm : a.eval m = .map (some b)) (hx : a.eval x = key)
    (hr : (Instr.lookup t (.map (some b)) key true).run P w = .ok v w) (h : K (a.put o.dst v) w) : o.wp P a w K Q := by
  unfold Oper.wp
  simp [execOp, hop, hm, hx, hr, Result.andThen]
  exact h
theorem update_wp {o : Oper} {t : TypeId} {m x y : Operand} {b : Nat} {key val : Value} {w' : World} {K : Act → World → Prop} {Q : Exit → Act → World → Prop} (hop : o.op = Op.mapUpdate t m x y) (hm : a.eval m = .map (some b)) (hx : a.eval x = key) (hy : a.eval y = val)
    (hr : (Instr.mapUpdate t (.map (some b)) key val).run P w = .ok () w') (h : K (a.put o.dst undef) w') : o.wp P a w K Q := by
  unfold Oper.wp
  simp [execOp, hop, hm, hx, hy, hr, Result.andThen]
  exact h
theorem make_wp {o : Oper} {t : TypeId} {K : Act → World → Prop} {Q : Exit → Act → World → Prop} (hop : o.op = Op.makeMap t none) (h : K (a.put o.dst (.map (some w.heap.size))) (w.alloc (.map #[] 0))) : o.wp P a w K Q := by
  unfold Oper.wp
  simp [execOp, hop, run_makeMap, Result.andThen]
  exact h
/-- the rows of the start, seen from another world. -/
theorem MRel.rebase {M : List Blk} (hro : ∀ (i : Nat) (b : Blk), M[i]? = some b → b.ro = true) (h : MRel w0 φ M w) {w' : World} (hs : w0.heap.size ≤ w'.heap.size) (hk : ∀ (i : Nat) (b : Blk), M[i]? = some b → b.live = true → w'.heap[(φ i).1]? = w0.heap[(φ i).1]?) : MRel w' φ M w' := by
  refine ⟨Below.refl _ _, ?_, ?_, ?_, ?_, h.wf⟩
  · intro i j b1 b2 hb1 _ _ _ hr _ _
    rw [hro i b1 hb1] at hr; cases hr
  · intro i b1 hb1 _ hr
    rw [hro i b1 hb1] at hr; cases hr
  · intro i b1 hb1 hl hr
    obtain ⟨h1, h2⟩ := h.old i b1 hb1 hl hr
    refine ⟨Nat.lt_of_lt_of_le h1 hs, fun j v hv => ?_⟩
    have := h2 j v hv
    unfold World.cell? at this ⊢
    rw [hk i b1 hb1 hl]
    exact this
  · intro i b1 hb1 _ hr
    rw [hro i b1 hb1] at hr; cases hr
theorem World.ownsMap.below {H : Type} {k : TypeId} {R : Value → Option (DataW H × List MemPlace)} {b n : Nat} {D : DataW H} (h : w.ownsMap P k R b n D) {B : Nat} {w' : World} (hb : Below B w w') (hlt : b < B) : w'.ownsMap P k R b n D := by
  obtain ⟨es, clock, h1, h2⟩ := h
  exact ⟨es, clock, (hb.block b hlt).trans h1, h2⟩
end
end Go.Ev

namespace Go.Ev
open Go Go.RowKit Go.ChangeShapes Go.WideShapes Go.ChangeAt
/-! rows of a number, three strings, and a slice of numbers -/
/-- what a slice in a row is: of nothing, or of so many numbers. -/
def SubS (W : World) (B : Nat) (v : Value) (n : Nat) (q : Nat → Nat) : Prop :=
  (n = 0 ∧ ∃ o cap, v = .slice o 0 cap) ∨ ∃ b p cap, v = .slice (some ⟨b, p, none⟩) n cap ∧ 1 ≤ n ∧ n ≤ cap ∧ cap ≤ maxLen ∧ n ≤ B ∧ b < W.heap.size ∧ ∀ j, j < n → q j < 4294967296 ∧ W.cell? ⟨b, p + j, none⟩ = some (.int .u32 (q j : Int))
section
variable {H : Type} {enc : TypeId × Value → H} {P : Program} {W : World} {base : Nat} {sp : Nat → Bool} {held : Bool}
theorem sub_open {t e : TypeId} {D : Nat} (ht : P.underlying t = some (.slice e)) (he : kindsT P D e = some [8]) (ce : P.cellsOf e = 1) (hb : 0 < P.bytesOf e) {B n : Nat} {v : Value} {y : DataW H × List MemPlace}
    (h : DataW.trod enc P W base (fun _ => true) held n t [v] = some y) (hwt : ∀ m ∈ y.1.weights P t, m ≤ B) : ∃ n q, SubS W B v n q := by
  rcases Go.Deep.open_slice ht h with ⟨hcs, _⟩ | ⟨a, len, cap, m, n, DD, Pl, hcs, _, hl, hcap, hm, hxe, hx⟩
  · simp only [List.cons.injEq, and_true] at hcs
    subst hcs
    exact ⟨0, fun _ => 0, .inl ⟨rfl, none, 0, rfl⟩⟩
  · simp only [List.cons.injEq, and_true] at hcs
    subst hcs
    simp only [if_true] at hm
    rcases Nat.eq_zero_or_pos len with h0 | h0
    · subst h0
      exact ⟨0, fun _ => 0, .inl ⟨rfl, some a, cap, rfl⟩⟩
    · have hcell : ∀ j, j < len → ∃ z : Nat, z < 4294967296 ∧ W.cell? (a.add j) = some (.int .u32 (z : Int)) := by
        intro j hj
        obtain ⟨cs, h1, h2⟩ := hx j (by omega)
        rw [ce, Nat.mul_one] at h1
        obtain ⟨_, h3, h4⟩ := World.cells?_some h1
        have h5 := h4 0 (by omega)
        match cs, h3 with
        | [x], _ =>
          obtain ⟨z, rfl, hz⟩ : HasK 8 x := (trod_kinds D e [8] he _ _ _ h2 rfl).1
          refine ⟨z, hz, ?_⟩
          rw [show (a.add j).add 0 = a.add j from rfl] at h5
          exact h5
      obtain ⟨z0, _, hc0⟩ := hcell 0 h0
      have e0 : a.add 0 = a := rfl
      rw [e0] at hc0
      have hsp : a.spot = none := by
        unfold World.cell? at hc0
        split at hc0
        · split at hc0
          · simp at hc0
          · rename_i hs
            cases hq : a.spot with
            | none => rfl
            | some x => rw [hq] at hs; simp at hs
        · simp at hc0
      have hbl : a.block < W.heap.size := by
        unfold World.cell? at hc0
        split at hc0
        · rename_i hg
          exact (Array.getElem?_eq_some_iff.1 hg).1
        · simp at hc0
      obtain ⟨b, off, s⟩ := a
      simp only at hsp hbl
      subst hsp
      have hlB : len ≤ B := by
        have h1 : (((List.range len).map DD).length + _) * P.bytesOf e ≤ B := hwt _ (by
          rw [hxe]
          simp only [DataW.weights, ht]
          exact List.mem_cons_self ..)
        rw [List.length_map, List.length_range] at h1
        exact Nat.le_trans (Nat.le_trans (Nat.le_add_right _ _) (Nat.le_mul_of_pos_right _ hb)) h1
      refine ⟨len, fun j => match W.cell? ⟨b, off + j, none⟩ with | some (.int _ z) => z.toNat | _ => 0, .inr ⟨b, off, cap, rfl, h0, hl, hcap, hlB, hbl, fun j hj => ?_⟩⟩
      obtain ⟨z, hz, hc⟩ := hcell j hj
      have e1 : (⟨b, off, none⟩ : Addr).add j = ⟨b, off + j, none⟩ := by
        unfold Addr.add
        split
        · rename_i h0; rw [h0, Nat.add_zero]
        · rfl
      rw [e1] at hc
      simp only [hc]
      exact ⟨by omega, by congr 1⟩
end
/-- a law's argument of such rows. -/
def OpenA (W : World) (B : Nat) (v : Value) : Prop :=
  v = .slice none 0 0 ∨ ∃ (V : Nat → Value) (len cap b off : Nat) (nl : Nat → Nat) (q : Nat → Nat → Nat), v = .slice (some ⟨b, off, none⟩) len cap ∧ len ≤ cap ∧ cap ≤ maxLen ∧ len ≤ B ∧ b < W.heap.size ∧
    (∀ j, j < len * 5 → W.cell? ⟨b, off + j, none⟩ = some (V j)) ∧
    ∀ i, i < len → HasK 5 (V (i * 5)) ∧ HasK 1 (V (i * 5 + 1)) ∧ HasK 1 (V (i * 5 + 2)) ∧ HasK 1 (V (i * 5 + 3)) ∧ SzV B (V (i * 5 + 1)) ∧ SzV B (V (i * 5 + 2)) ∧ SzV B (V (i * 5 + 3)) ∧ SubS W B (V (i * 5 + 4)) (nl i) (q i)
section
variable {P : Program}
theorem ask_open {H : Type} {enc : TypeId × Value → H} {t e eL : TypeId} {f0 f1 f2 f3 : Field} {D B : Nat} (ht : P.underlying t = some (.slice e)) (he : P.underlying e = some (.struct #[f0, f1, f2, f3])) (o0 : f0.offset = 0) (o1 : f1.offset = 1) (o2 : f2.offset = 2) (o3 : f3.offset = 4)
    (c0 : P.cellsOf f0.type = 1) (c1 : P.cellsOf f1.type = 1) (c2 : P.cellsOf f2.type = 2) (c3 : P.cellsOf f3.type = 1) (ce : P.cellsOf e = 5) (k0 : kindsT P D f0.type = some [5]) (k1 : kindsT P D f1.type = some [1]) (k2 : kindsT P D f2.type = some [1, 1])
    (h3 : P.underlying f3.type = some (.slice eL)) (hL : kindsT P D eL = some [8]) (cL : P.cellsOf eL = 1) (bL : 0 < P.bytesOf eL) (hb : 0 < P.bytesOf e)
    {r : Reach} {W : World} {base : Nat} {v : Value} {d : DataW H} {ps : List MemPlace} (hval : Value.okWide P W r base t v) (h : DataW.Trod enc P W 0 (fun _ => true) true t v d ps) (hwt : ∀ n ∈ d.weights P t, n ≤ B) : OpenA W B v := by
  obtain ⟨a0, len0, cap0, rfl⟩ := okWide_slice ht hval
  obtain ⟨fuel, hf⟩ := h
  rcases Go.Deep.open_slice ht hf with ⟨hcs, _⟩ | ⟨a, len, cap, m, n, DD, Pl, hcs, _, hl, hcap, hm, hxe, hx⟩
  · simp [Value.cells] at hcs
    obtain ⟨rfl, rfl, rfl⟩ := hcs
    exact .inl rfl
  · simp [Value.cells] at hcs
    obtain ⟨rfl, rfl, rfl⟩ := hcs
    simp only [if_true] at hm
    have hhas : W.has P r base a e cap0 := by
      simp only [Value.okWide, ht, Cell.okWide, Cell.ok] at hval
      exact hval.2.2
    obtain ⟨_, hspot, row, cells, hsh, _⟩ := hhas
    have hblk : a.block < W.heap.size := by
      unfold World.shape? at hsh
      split at hsh
      · rename_i hb
        exact (Array.getElem?_eq_some_iff.1 hb).1
      · simp at hsh
    obtain ⟨b, off, sp⟩ := a
    simp only at hspot; subst hspot
    let V : Nat → Value := fun j => (W.cell? ⟨b, off + j, none⟩).getD undef
    simp only [Prod.mk.injEq] at hxe
    have hDD : ∀ i, i < len0 → ∀ q ∈ (DD i).weights P e, q ≤ B := by
      intro i hi q hq
      refine hwt q ?_
      rw [hxe.1]
      simp only [DataW.weights, ht]
      refine List.mem_cons_of_mem _ (List.mem_append_left _ (weights_mem_all ?_ hq))
      exact List.mem_map.2 ⟨i, List.mem_range.2 hi, rfl⟩
    have hlB : len0 ≤ B := by
      have h1 : (((List.range len0).map DD).length + _) * P.bytesOf e ≤ B := hwt _ (by
        rw [hxe.1]
        simp only [DataW.weights, ht]
        exact List.mem_cons_self ..)
      rw [List.length_map, List.length_range] at h1
      exact Nat.le_trans (Nat.le_trans (Nat.le_add_right _ _) (Nat.le_mul_of_pos_right _ hb)) h1
    have hcells : ∀ i, i < len0 → ∃ x0 x1 x2 x3 x4 : Value, (∀ j, j < 5 → W.cell? ⟨b, off + (i * 5 + j), none⟩ = [x0, x1, x2, x3, x4][j]?) ∧ HasK 5 x0 ∧ HasK 1 x1 ∧ HasK 1 x2 ∧ HasK 1 x3 ∧ SzV B x1 ∧ SzV B x2 ∧ SzV B x3 ∧ ∃ n q, SubS W B x4 n q := by
      intro i hi
      obtain ⟨cs, h1, h2⟩ := hx i (by omega)
      rw [ce] at h1
      obtain ⟨_, hlen, h4⟩ := World.cells?_some h1
      have hD := hDD i hi
      obtain ⟨xs, m', _, hxx, _, hxl, hfld⟩ := DataW.trod_struct he h2
      have hxs : xs.length = 4 := hxl
      have hw : ∀ (j : Nat) (y : DataW H × List MemPlace) (f : Field), (#[f0, f1, f2, f3] : Array Field)[j]? = some f → xs[j]? = some y → ∀ q ∈ y.1.weights P f.type, q ≤ B := by
        intro j y f hj hy q hq
        refine hD q ?_
        simp only [Prod.mk.injEq] at hxx
        rw [hxx.1]
        simp only [DataW.weights, he]
        refine DataW.weights_mem_each (j := j) (t := f.type) (d := y.1) ?_ ?_ q hq
        · rw [List.getElem?_map]
          have : (#[f0, f1, f2, f3] : Array Field).toList[j]? = some f := by simpa using hj
          rw [this]; rfl
        · rw [List.getElem?_map, hy]; rfl
      match cs, hlen with
      | [x0, x1, x2, x3, x4], _ =>
        match xs, hxs with
        | [y0, y1, y2, y3], _ =>
          have g0 := hfld 0 f0 rfl
          have g1 := hfld 1 f1 rfl
          have g2 := hfld 2 f2 rfl
          have g3 := hfld 3 f3 rfl
          rw [o0, c0] at g0
          rw [o1, c1] at g1
          rw [o2, c2] at g2
          rw [o3, c3] at g3
          have t0 := trod_kinds D _ _ k0 _ _ _ g0 rfl
          have t1 := trod_kinds D _ _ k1 _ _ _ g1 rfl
          have t2 := trod_kinds D _ _ k2 _ _ _ g2 rfl
          have w1 := trod_kindsW (B := B) D _ _ k1 _ _ _ g1 rfl (hw 1 y1 f1 rfl rfl)
          have w2 := trod_kindsW (B := B) D _ _ k2 _ _ _ g2 rfl (hw 2 y2 f2 rfl rfl)
          obtain ⟨n, q, hs⟩ := sub_open (B := B) h3 hL cL bL g3 (hw 3 y3 f3 rfl rfl)
          refine ⟨x0, x1, x2, x3, x4, fun j hj => ?_, t0.1, t1.1, t2.1, t2.2.1, w1 _ (by simp), w2 _ (by simp), w2 _ (by simp), n, q, hs⟩
          rw [← h4 j hj, Go.Deep.add_add]
          congr 1
          unfold Addr.add
          split
          · rename_i h0; rw [h0, Nat.add_zero]
          · rfl
    have hV : ∀ j, j < len0 * 5 → W.cell? ⟨b, off + j, none⟩ = some (V j) := by
      intro j hj
      obtain ⟨x0, x1, x2, x3, x4, hc, _⟩ := hcells (j / 5) (by omega)
      have := hc (j % 5) (by omega)
      rw [show j / 5 * 5 + j % 5 = j by omega] at this
      simp only [V]
      have h5 : j % 5 < ([x0, x1, x2, x3, x4] : List Value).length := by simp; omega
      rw [this, List.getElem?_eq_getElem h5]
      rfl
    have hsub : ∀ i, ∃ p : Nat × (Nat → Nat), i < len0 → SubS W B (V (i * 5 + 4)) p.1 p.2 := by
      intro i
      by_cases hi : i < len0
      · obtain ⟨x0, x1, x2, x3, x4, hc, _, _, _, _, _, _, _, n, q, hs⟩ := hcells i hi
        refine ⟨(n, q), fun _ => ?_⟩
        have h4 := hc 4 (by omega)
        have : V (i * 5 + 4) = x4 := by simp only [V]; rw [h4]; rfl
        rw [this]; exact hs
      · exact ⟨(0, fun _ => 0), fun h => absurd h hi⟩
    refine .inr ⟨V, len0, cap0, b, off, fun i => (Classical.choose (hsub i)).1, fun i => (Classical.choose (hsub i)).2, rfl, hl, hcap, hlB, hblk, hV, fun i hi => ?_⟩
    obtain ⟨x0, x1, x2, x3, x4, hc, a0, a1, a2, a3, b1, b2, b3, _⟩ := hcells i hi
    have e0 : V (i * 5) = x0 := by simp only [V]; rw [show i * 5 = i * 5 + 0 from rfl, hc 0 (by omega)]; rfl
    have e1 : V (i * 5 + 1) = x1 := by simp only [V]; rw [hc 1 (by omega)]; rfl
    have e2 : V (i * 5 + 2) = x2 := by simp only [V]; rw [hc 2 (by omega)]; rfl
    have e3 : V (i * 5 + 3) = x3 := by simp only [V]; rw [hc 3 (by omega)]; rfl
    rw [e0, e1, e2, e3]
    exact ⟨a0, a1, a2, a3, b1, b2, b3, Classical.choose_spec (hsub i) hi⟩
end
end Go.Ev

namespace Go.Ev
open Go Go.RowKit
/-- a row of a number, three strings, and a slice. -/
def rowX (c : Cells) (x : Atom) (p : Nat) : List Piece := [.a (.i (zA c p)), .a (.v (.string (sA c (p + 1)))), .a (.v (.string (sA c (p + 2)))), .a (.v (.string (sA c (p + 3)))), .a x]
def rowsX (c : Cells) (xs : Nat → Atom) : Nat → Nat → List Piece
  | 0, _ => []
  | m + 1, i => rowX c (xs i) (i * 5) ++ rowsX c xs m (i + 1)
def blkX (c : Cells) (xs : Nat → Atom) (m : Nat) (e : TypeId) : Blk := ⟨rowsX c xs m 0, e, true, true, 0⟩
theorem rowX_len (c : Cells) (x : Atom) (p : Nat) (φ : Loc) : (concs φ (rowX c x p)).length = 5 := by simp [rowX, concs, Piece.conc]
theorem rowsX_len (c : Cells) (xs : Nat → Atom) (φ : Loc) : ∀ m i, (concs φ (rowsX c xs m i)).length = m * 5
  | 0, _ => by simp [rowsX, concs]
  | m + 1, i => by simp only [rowsX, concs_append, List.length_append, rowX_len, rowsX_len c xs φ m, Nat.succ_mul]; omega
theorem rowsX_drop (c : Cells) (xs : Nat → Atom) (φ : Loc) : ∀ (m i k : Nat), k < m → ∃ r, (concs φ (rowsX c xs m i)).drop (k * 5) = concs φ (rowX c (xs (i + k)) ((i + k) * 5)) ++ r
  | 0, _, _, h => absurd h (Nat.not_lt_zero _)
  | m + 1, i, 0, _ => ⟨concs φ (rowsX c xs m (i + 1)), by simp [rowsX, concs_append]⟩
  | m + 1, i, k + 1, h => by
    obtain ⟨r, hr⟩ := rowsX_drop c xs φ m (i + 1) k (by omega)
    refine ⟨r, ?_⟩
    simp only [rowsX, concs_append]
    rw [List.drop_append, rowX_len, List.drop_eq_nil_of_le (by rw [rowX_len]; omega), List.nil_append, show (k + 1) * 5 - 5 = k * 5 by omega, hr, show i + 1 + k = i + (k + 1) by omega]
theorem rowsX_get (c : Cells) (xs : Nat → Atom) (φ : Loc) {m i j : Nat} (h : i < m) (hj : j < 5) : (concs φ (rowsX c xs m 0))[i * 5 + j]? = (concs φ (rowX c (xs i) (i * 5)))[j]? := by
  obtain ⟨r, hr⟩ := rowsX_drop c xs φ m 0 i h
  rw [← List.getElem?_drop, hr, List.getElem?_append_left (by rw [rowX_len]; exact hj), Nat.zero_add]
theorem ptrX {f : Nat → Bool} {ps qs : List Piece} (h : allPtr f ps = true) (h' : allPtr f qs = true) : allPtr f (ps ++ qs) = true := allPtr_app f ps qs h h'
theorem rowsX_ptr (c : Cells) (xs : Nat → Atom) (f : Nat → Bool) : ∀ m i, (∀ k, k < m → allPtr f [.a (xs (i + k))] = true) → allPtr f (rowsX c xs m i) = true
  | 0, _, _ => rfl
  | m + 1, i, h => by
    refine allPtr_app f _ _ ?_ (rowsX_ptr c xs f m (i + 1) fun k hk => by have := h (k + 1) (by omega); rwa [show i + (k + 1) = i + 1 + k by omega] at this)
    exact h 0 (by omega)
theorem V1.conc_okF {f : Nat → Bool} {φ φ' : Loc} (h' : ∀ b, f b = true → φ' b = φ b) (x : V1) (hx : x.okP f = true) : x.conc φ' = x.conc φ := by
  rcases x with x | x
  · cases x with
    | ptr b off => simp only [V1.okP] at hx; simp [V1.conc, Atom.conc, h' _ hx]
    | sl b off n c => simp only [V1.okP] at hx; simp [V1.conc, Atom.conc, h' _ hx]
    | sx b n => simp only [V1.okP] at hx; simp [V1.conc, Atom.conc, h' _ hx]
    | v x => rfl
    | u k x => rfl
    | i x => rfl
  · simp only [V1.okP] at hx
    simp only [V1.conc, concs_okP h' x hx]
theorem AV.conc_okF {f : Nat → Bool} {φ φ' : Loc} (h : ∀ b, f b = true → φ' b = φ b) (x : AV) (hx : x.okP f = true) : x.conc φ' = x.conc φ := by
  cases x with
  | val x => rw [okP_val] at hx; exact V1.conc_okF h x hx
  | tup xs =>
    rw [okP_tup] at hx
    simp only [AV.conc]
    congr 2
    refine List.map_congr_left fun v hv => V1.conc_okF h v ?_
    exact List.all_eq_true.1 hx v hv
  | junk => rfl
def okZ0 (x : AV) : Bool := x.okP (fun b => Nat.beq b 0)
theorem allPtr_monoF {f g : Nat → Bool} (h : ∀ b, f b = true → g b = true) : ∀ ps : List Piece, allPtr f ps = true → allPtr g ps = true
  | [], _ => rfl
  | .num _ _ :: ps, hp => by simp only [allPtr] at hp ⊢; exact allPtr_monoF h ps hp
  | .arr _ _ :: ps, hp => by simp only [allPtr] at hp ⊢; exact allPtr_monoF h ps hp
  | .a x :: ps, hp => by
    cases x <;> simp only [allPtr, Bool.and_eq_true] at hp ⊢ <;> first | exact ⟨h _ hp.1, allPtr_monoF h ps hp.2⟩ | exact allPtr_monoF h ps hp
theorem V1.okP_wf {n : Nat} (hn : 0 < n) (x : V1) (h : x.okP (fun b => Nat.beq b 0) = true) : x.wf n = true := by
  have h0 : ∀ b, Nat.beq b 0 = true → Nat.blt b n = true := by
    intro b hb
    have := Nat.eq_of_beq_eq_true hb
    subst this
    rw [Nat.blt]; exact Nat.ble_eq_true_of_le hn
  rcases x with x | x
  · cases x with
    | ptr b off => simp only [V1.okP] at h; exact h0 _ h
    | sl b off n c => simp only [V1.okP] at h; exact h0 _ h
    | sx b n => simp only [V1.okP] at h; exact h0 _ h
    | v x => rfl
    | u k x => rfl
    | i x => rfl
  · simp only [V1.okP] at h
    exact allPtr_monoF h0 x h
theorem okZ0_wf {n : Nat} (hn : 0 < n) (x : AV) (h : okZ0 x = true) : x.wf n = true := by
  cases x with
  | val x => unfold okZ0 at h; rw [okP_val] at h; exact V1.okP_wf hn x h
  | tup xs =>
    unfold okZ0 at h
    rw [okP_tup] at h
    exact List.all_eq_true.2 fun v hv => V1.okP_wf hn v (List.all_eq_true.1 h v hv)
  | junk => rfl
/-- what a row's part loads as. -/
theorem loadsX {P : Program} {c : Cells} {xs : Nat → Atom} {m i j : Nat} {t : TypeId} {x : V1} (h : i < m) (hj : j < 5)
    (hx : match x with | .one y => isAggA P t = some false ∧ ∀ φ, (concs φ (rowX c (xs i) (i * 5)))[j]? = some (y.conc φ) | .agg r => isAggA P t = some true ∧ ∃ n, sizeA P t = some n ∧ (∀ φ, (concs φ r).length = n ∧ concs φ r = ((concs φ (rowX c (xs i) (i * 5))).drop j).take n) ∧ j + n ≤ 5) : LoadsAs P t (rowsX c xs m 0) (0 + i * 5 + j) x := by
  intro φ
  cases x with
  | one y => exact ⟨hx.1, by rw [Nat.zero_add, rowsX_get c xs φ h hj]; exact hx.2 φ⟩
  | agg r =>
    obtain ⟨h1, n, h2, h3, h4⟩ := hx
    refine ⟨h1, n, h2, ?_, (h3 φ).1⟩
    obtain ⟨r', hr⟩ := rowsX_drop c xs φ m 0 i h
    rw [Nat.zero_add, ← List.drop_drop, hr, (h3 φ).2, Nat.zero_add, List.drop_append_of_le_length (by rw [rowX_len]; omega), List.take_append_of_le_length (by rw [List.length_drop, rowX_len]; omega)]
/-! the memory of such a law: the rows, and the numbers of the first four. -/
def numC (q : Nat → Nat) : Cells := ⟨fun _ => false, fun _ => ByteArray.empty, fun _ => 0, q⟩
def emB (e : TypeId) : Blk := ⟨[], e, true, true, 0⟩
def nmB (lv : Bool) (q : Nat → Nat) (n : Nat) (e : TypeId) : Blk := bif lv then rowB (numC q) [.u32] n e else emB e
def subX (lv : Bool) (J n k : Nat) (v : Value) : Atom := bif lv then .sl J 0 n k else .v v
structure SubsR where
  lv : Nat → Bool
  n : Nat → Nat
  k : Nat → Nat
  q : Nat → Nat → Nat
  v : Nat → Value
def SubsR.ok (s : SubsR) (B : Nat) (i : Nat) : Prop := (s.lv i = true ∧ 1 ≤ s.n i ∧ s.n i ≤ s.k i ∧ s.k i ≤ maxLen ∧ s.n i ≤ B ∧ ∀ j, j < s.n i → s.q i j < 4294967296) ∨ (s.lv i = false ∧ s.n i = 0 ∧ ∃ o cap, s.v i = .slice o 0 cap)
def xsA0 (s : SubsR) : Nat → Atom := fun i => bif Nat.blt i 4 then subX (s.lv i) (i + 1) (s.n i) (s.k i) (s.v i) else .v (s.v i)
def MS5 (c : Cells) (s : SubsR) (m : Nat) (e eL : TypeId) : List Blk := [blkX c (xsA0 s) m e, nmB (s.lv 0) (s.q 0) (s.n 0) eL, nmB (s.lv 1) (s.q 1) (s.n 1) eL, nmB (s.lv 2) (s.q 2) (s.n 2) eL, nmB (s.lv 3) (s.q 3) (s.n 3) eL]
/-- the rows, seen with the numbers of row i. -/
def xsV (i : Nat) (x : Atom) (l : Nat → Value) : Nat → Atom := fun j => bif Nat.beq j i then x else .v (l j)
def MSV (c : Cells) (m : Nat) (e : TypeId) (i : Nat) (x : Atom) (l : Nat → Value) (b : Blk) : List Blk := [blkX c (xsV i x l) m e, b]
theorem nmB_ro (lv : Bool) (q : Nat → Nat) (n : Nat) (e : TypeId) : (nmB lv q n e).ro = true := by cases lv <;> rfl
theorem nmB_live (lv : Bool) (q : Nat → Nat) (n : Nat) (e : TypeId) : (nmB lv q n e).live = true := by cases lv <;> rfl
theorem nmB_free (lv : Bool) (q : Nat → Nat) (n : Nat) (e : TypeId) (f : Nat → Bool) : allPtr f (nmB lv q n e).ps = true := by
  cases lv
  · rfl
  · exact rowB_fr _ _ _ _ _
theorem MS5_at {c : Cells} {s : SubsR} {m : Nat} {e eL : TypeId} : ∀ (i : Nat) (b : Blk), (MS5 c s m e eL)[i]? = some b → (i = 0 ∧ b = blkX c (xsA0 s) m e) ∨ ∃ j, j < 4 ∧ i = j + 1 ∧ b = nmB (s.lv j) (s.q j) (s.n j) eL := by
  intro i b h
  match i, h with
  | 0, h => simp only [MS5, List.getElem?_cons_zero, Option.some.injEq] at h; exact .inl ⟨rfl, h.symm⟩
  | 1, h => simp only [MS5, List.getElem?_cons_succ, List.getElem?_cons_zero, Option.some.injEq] at h; exact .inr ⟨0, by omega, rfl, h.symm⟩
  | 2, h => simp only [MS5, List.getElem?_cons_succ, List.getElem?_cons_zero, Option.some.injEq] at h; exact .inr ⟨1, by omega, rfl, h.symm⟩
  | 3, h => simp only [MS5, List.getElem?_cons_succ, List.getElem?_cons_zero, Option.some.injEq] at h; exact .inr ⟨2, by omega, rfl, h.symm⟩
  | 4, h => simp only [MS5, List.getElem?_cons_succ, List.getElem?_cons_zero, Option.some.injEq] at h; exact .inr ⟨3, by omega, rfl, h.symm⟩
  | i + 5, h => simp [MS5] at h
theorem MS5_ro {c : Cells} {s : SubsR} {m : Nat} {e eL : TypeId} (i : Nat) (b : Blk) (h : (MS5 c s m e eL)[i]? = some b) : b.ro = true ∧ b.live = true := by
  rcases MS5_at i b h with ⟨_, rfl⟩ | ⟨j, _, _, rfl⟩
  · exact ⟨rfl, rfl⟩
  · exact ⟨nmB_ro _ _ _ _, nmB_live _ _ _ _⟩
/-- memory that is only read. -/
theorem MRel.ofRo {W w : World} {φ : Loc} {M : List Blk} (hb : Below W.heap.size W w) (hro : ∀ (i : Nat) (b : Blk), M[i]? = some b → b.ro = true) (hold : ∀ (i : Nat) (b : Blk), M[i]? = some b → (φ i).1 < W.heap.size ∧ ∀ j v, (concs φ b.ps)[j]? = some v → W.cell? ⟨(φ i).1, (φ i).2.1 + j, none⟩ = some v) (hw : memWf M.length M = true) : MRel W φ M w := by
  refine ⟨hb, ?_, ?_, ?_, ?_, fun i b h => memWf_mem hw i b h⟩
  · intro i j b1 b2 hb1 _ _ _ hr _ _
    rw [hro i b1 hb1] at hr; cases hr
  · intro i b1 hb1 _ hr
    rw [hro i b1 hb1] at hr; cases hr
  · intro i b1 hb1 _ _
    exact hold i b1 hb1
  · intro i b1 hb1 _ hr
    rw [hro i b1 hb1] at hr; cases hr
/-- the view of one row's numbers. -/
theorem Goes.view {P : Program} {y : Code} {ex : Ex} {T T' : List AV} {c : Cells} {s : SubsR} {m : Nat} {e eL : TypeId} {i : Nat} (hi : i < 4)
    (h : ∀ l, Goes P y ex T (MSV c m e i (subX (s.lv i) 1 (s.n i) (s.k i) (s.v i)) l (nmB (s.lv i) (s.q i) (s.n i) eL)) T' (MSV c m e i (subX (s.lv i) 1 (s.n i) (s.k i) (s.v i)) l (nmB (s.lv i) (s.q i) (s.n i) eL)))
    (hT : T.all okZ0 = true) (hT' : T'.all okZ0 = true) (hw5 : wfS T' (MS5 c s m e eL) = true) : Goes P y ex T (MS5 c s m e eL) T' (MS5 c s m e eL) := by
  intro w0 φ a w hr Q hQ
  let φ' : Loc := fun b => if b = 0 then φ 0 else φ (i + 1)
  let l : Nat → Value := fun j => (xsA0 s j).conc φ
  have hat : (MS5 c s m e eL)[i + 1]? = some (nmB (s.lv i) (s.q i) (s.n i) eL) := by
    have : i = 0 ∨ i = 1 ∨ i = 2 ∨ i = 3 := by omega
    rcases this with rfl | rfl | rfl | rfl <;> rfl
  have hc0 : concs φ' (rowsX c (xsV i (subX (s.lv i) 1 (s.n i) (s.k i) (s.v i)) l) m 0) = concs φ (rowsX c (xsA0 s) m 0) := by
    have key : ∀ m j, concs φ' (rowsX c (xsV i (subX (s.lv i) 1 (s.n i) (s.k i) (s.v i)) l) m j) = concs φ (rowsX c (xsA0 s) m j) := by
      intro m
      induction m with
      | zero => intro j; rfl
      | succ m ih =>
        intro j
        simp only [rowsX, concs_append, ih (j + 1)]
        congr 1
        have ex : (xsV i (subX (s.lv i) 1 (s.n i) (s.k i) (s.v i)) l j).conc φ' = (xsA0 s j).conc φ := by
          unfold xsV
          cases e : Nat.beq j i with
          | false => rfl
          | true =>
            have := Nat.eq_of_beq_eq_true e
            subst this
            have h4 : Nat.blt j 4 = true := by rw [Nat.blt]; exact Nat.ble_eq_true_of_le hi
            simp only [xsA0, h4, cond_true]
            unfold subX
            cases s.lv j with
            | false => rfl
            | true => simp [Atom.conc, φ']
        simp only [rowX, concs, Piece.conc, ex]
        rfl
    exact key m 0
  have hmr : MRel w0 φ' (MSV c m e i (subX (s.lv i) 1 (s.n i) (s.k i) (s.v i)) l (nmB (s.lv i) (s.q i) (s.n i) eL)) w := by
    refine MRel.ofRo hr.mrel.below ?_ ?_ ?_
    · intro j b hb
      match j, hb with
      | 0, hb => simp only [MSV, List.getElem?_cons_zero, Option.some.injEq] at hb; subst hb; rfl
      | 1, hb => simp only [MSV, List.getElem?_cons_succ, List.getElem?_cons_zero, Option.some.injEq] at hb; subst hb; exact nmB_ro _ _ _ _
      | j + 2, hb => simp [MSV] at hb
    · intro j b hb
      match j, hb with
      | 0, hb =>
        simp only [MSV, List.getElem?_cons_zero, Option.some.injEq] at hb; subst hb
        have := hr.mrel.old 0 _ rfl rfl rfl
        show (φ 0).1 < _ ∧ _
        refine ⟨this.1, fun j v hv => this.2 j v ?_⟩
        have hv : (concs φ' (rowsX c (xsV i (subX (s.lv i) 1 (s.n i) (s.k i) (s.v i)) l) m 0))[j]? = some v := hv
        rw [hc0] at hv; exact hv
      | 1, hb =>
        simp only [MSV, List.getElem?_cons_succ, List.getElem?_cons_zero, Option.some.injEq] at hb; subst hb
        have := hr.mrel.old (i + 1) _ hat (nmB_live _ _ _ _) (nmB_ro _ _ _ _)
        show (φ (i + 1)).1 < _ ∧ _
        refine ⟨this.1, fun j v hv => this.2 j v ?_⟩
        rw [concs_okP (f := fun _ => false) (φ := φ') (fun _ h => by simp at h) _ (nmB_free _ _ _ _ _)]
        exact hv
      | j + 2, hb => simp [MSV] at hb
    · simp only [MSV, memWf, Bool.and_true, Bool.and_eq_true]
      refine ⟨?_, nmB_free _ _ _ _ _⟩
      refine rowsX_ptr _ _ _ _ _ fun k _ => ?_
      unfold xsV
      cases Nat.beq (0 + k) i with
      | false => rfl
      | true =>
        unfold subX
        cases s.lv i <;> rfl
  have e0 : ∀ b, Nat.beq b 0 = true → φ' b = φ b := by
    intro b hb
    have := Nat.eq_of_beq_eq_true hb
    subst this; rfl
  have hrel : Rel w0 φ' T (MSV c m e i (subX (s.lv i) 1 (s.n i) (s.k i) (s.v i)) l (nmB (s.lv i) (s.q i) (s.n i) eL)) a w := by
    refine ⟨⟨hr.tmps.size, fun t x hx hj => ?_⟩, hr.defs, ?_, hmr⟩
    · rw [AV.conc_okF e0 x (List.all_eq_true.1 hT x (List.mem_of_getElem? hx))]
      exact hr.tmps.get t x hx hj
    · intro x hx
      exact okZ0_wf (by simp [MSV]) x (List.all_eq_true.1 hT x hx)
  refine h l w0 φ' a w hrel Q ?_
  intro φ2 a2 w2 hag hr2
  refine hQ φ a2 w2 (Agree.refl _ _) ?_
  simp only [wfS, Bool.and_eq_true] at hw5
  have e2 : φ2 0 = φ 0 := (hag 0 (by simp [MSV])).trans rfl
  refine ⟨⟨hr2.tmps.size, fun t x hx hj => ?_⟩, hr2.defs, tmsWf_mem hw5.1, MRel.ofRo hr2.mrel.below (fun i b h => (MS5_ro i b h).1) (fun i b h => hr.mrel.old i b h (MS5_ro i b h).2 (MS5_ro i b h).1) hw5.2⟩
  rw [hr2.tmps.get t x hx hj]
  congr 1
  exact AV.conc_okF (f := fun b => Nat.beq b 0) (fun b hb => by have := Nat.eq_of_beq_eq_true hb; subst this; exact e2.symm) x (List.all_eq_true.1 hT' x (List.mem_of_getElem? hx)) |>.symm
end Go.Ev

