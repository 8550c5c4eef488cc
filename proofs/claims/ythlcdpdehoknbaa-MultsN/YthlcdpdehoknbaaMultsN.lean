/- The law MultsN holds of every argument, without a condition -/
import Derived.Test.YthlcdpdehoknbaaField
import Derived.JoinedOf
namespace Go.Ev
open Go Go.Proofs Go.RowKit

def obM (s : Asks) (k len i : Nat) : List Prop :=
  let A := redN (s.a i) k
  let B := redN (s.b i) k
  let m := modN k
  let K := 0 ≤ (k : Int) ∧ (k : Int) < 4
  [decide ((i : Int) < (len : Int)) = true, 0 ≤ (i : Int) ∧ (i : Int) < (len : Int), K, s.a i < 4294967296 ^ 8, 0 ≤ (i : Int) ∧ (i : Int) < (len : Int), K, s.b i < 4294967296 ^ 8, K, A < m, B < m, A < 4294967296 ^ 8, B < 4294967296 ^ 8, A < 4294967296 ^ 8, B < 4294967296 ^ 8,
    mulN A B < 4294967296 ^ 16, 0 < m, m < 4294967296 ^ 8, K, A < m, A < 4294967296 ^ 8, K, negM m A < m, B < m, negM m A < 4294967296 ^ 8, B < 4294967296 ^ 8, K, mulM m A B < m, mulM m (negM m A) B < m, mulM m A B < 4294967296 ^ 8, mulM m (negM m A) B < 4294967296 ^ 8,
    (!(decide (mulM m A B % 4294967296 ^ 8 = remN (mulN A B) m % 4294967296 ^ 8) && true)) = false, (!isZ (addM m (mulM m A B) (mulM m (negM m A) B))) = false, inI ((i : Int) + 1)]
theorem neg_sum {m A B : Nat} (hA : A < m) : (A * B % m + (0 + m - A) % m * B % m) % m = 0 := by
  rw [← Nat.add_mod, Nat.zero_add]
  by_cases h : A = 0
  · subst h; simp
  · rw [Nat.mod_eq_of_lt (show m - A < m by omega), ← Nat.add_mul, show A + (m - A) = m by omega, Nat.mul_mod_right]
theorem obM_ok {s : Asks} {k len i m : Nat} (hk : k < 4) (hi : i < len) (hm : i < m) (hm4 : m ≤ 4) (hs : s.ok m) : All (obM s k len i) := by
  have hK : 0 ≤ (k : Int) ∧ (k : Int) < 4 := by omega
  have hI : 0 ≤ (i : Int) ∧ (i : Int) < (len : Int) := by omega
  obtain ⟨ha, hb⟩ := hs i hm
  have hmp := modN_pos k
  have hml := modN_lt k
  have hA : redN (s.a i) k < modN k := Nat.mod_lt _ hmp
  have hB : redN (s.b i) k < modN k := Nat.mod_lt _ hmp
  have hA2 : redN (s.a i) k < 4294967296 ^ 8 := Nat.lt_trans hA hml
  have hB2 : redN (s.b i) k < 4294967296 ^ 8 := Nat.lt_trans hB hml
  have hn : negM (modN k) (redN (s.a i) k) < modN k := Nat.mod_lt _ hmp
  have h1 : mulM (modN k) (redN (s.a i) k) (redN (s.b i) k) < modN k := Nat.mod_lt _ hmp
  have h2 : mulM (modN k) (negM (modN k) (redN (s.a i) k)) (redN (s.b i) k) < modN k := Nat.mod_lt _ hmp
  have h3 : addM (modN k) (mulM (modN k) (redN (s.a i) k) (redN (s.b i) k)) (mulM (modN k) (negM (modN k) (redN (s.a i) k)) (redN (s.b i) k)) = 0 := neg_sum hA
  refine ⟨decide_eq_true hI.2, hI, hK, ha, hI, hK, hb, hK, hA, hB, hA2, hB2, hA2, hB2, mulN_lt hA2 hB2, hmp, hml, hK, hA, hA2, hK, hn, hB, Nat.lt_trans hn hml, hB2, hK, h1, h2, Nat.lt_trans h1 hml, Nat.lt_trans h2 hml, ?_, ?_, ?_, trivial⟩
  · unfold mulM remN mulN; simp
  · rw [h3]; rfl
  · unfold inI; omega
theorem tTM (k len cap : Nat) (i : Int) : tmsWf 2 (TM k len cap i) = true := by kernel_rfl
theorem wfTM (k len cap : Nat) (i : Int) {B : Blk} (hB : Free B) : wfS (TM k len cap i) [B, bM k] = true := wfS_of (by
  intro b hb
  simp only [List.mem_cons, List.not_mem_nil, or_false] at hb
  rcases hb with rfl | rfl
  · exact hB
  · exact b8_free _) (tTM k len cap i)

theorem run17_1_0 (s : Asks) (k len cap : Nat) : runTo EM 1000 (EM.S 17) (bodyOf Try.prog 17 3) (TM k len cap ((0 : Nat) : Int)) [askB s 1, bM k] [true, false, false] (TM k len cap ((0 + 1 : Nat) : Int)) 2 =
    some (obM s k len 0, .normal, TM k len cap ((0 + 1 : Nat) : Int), [askB s 1, bM k]) := by kernel_rfl
theorem run17_2_0 (s : Asks) (k len cap : Nat) : runTo EM 1000 (EM.S 17) (bodyOf Try.prog 17 3) (TM k len cap ((0 : Nat) : Int)) [askB s 2, bM k] [true, false, false] (TM k len cap ((0 + 1 : Nat) : Int)) 2 =
    some (obM s k len 0, .normal, TM k len cap ((0 + 1 : Nat) : Int), [askB s 2, bM k]) := by kernel_rfl
theorem run17_2_1 (s : Asks) (k len cap : Nat) : runTo EM 1000 (EM.S 17) (bodyOf Try.prog 17 3) (TM k len cap ((1 : Nat) : Int)) [askB s 2, bM k] [true, false, false] (TM k len cap ((1 + 1 : Nat) : Int)) 2 =
    some (obM s k len 1, .normal, TM k len cap ((1 + 1 : Nat) : Int), [askB s 2, bM k]) := by kernel_rfl
theorem run17_3_0 (s : Asks) (k len cap : Nat) : runTo EM 1000 (EM.S 17) (bodyOf Try.prog 17 3) (TM k len cap ((0 : Nat) : Int)) [askB s 3, bM k] [true, false, false] (TM k len cap ((0 + 1 : Nat) : Int)) 2 =
    some (obM s k len 0, .normal, TM k len cap ((0 + 1 : Nat) : Int), [askB s 3, bM k]) := by kernel_rfl
theorem run17_3_1 (s : Asks) (k len cap : Nat) : runTo EM 1000 (EM.S 17) (bodyOf Try.prog 17 3) (TM k len cap ((1 : Nat) : Int)) [askB s 3, bM k] [true, false, false] (TM k len cap ((1 + 1 : Nat) : Int)) 2 =
    some (obM s k len 1, .normal, TM k len cap ((1 + 1 : Nat) : Int), [askB s 3, bM k]) := by kernel_rfl
theorem run17_3_2 (s : Asks) (k len cap : Nat) : runTo EM 1000 (EM.S 17) (bodyOf Try.prog 17 3) (TM k len cap ((2 : Nat) : Int)) [askB s 3, bM k] [true, false, false] (TM k len cap ((2 + 1 : Nat) : Int)) 2 =
    some (obM s k len 2, .normal, TM k len cap ((2 + 1 : Nat) : Int), [askB s 3, bM k]) := by kernel_rfl
theorem run17_4_0 (s : Asks) (k len cap : Nat) : runTo EM 1000 (EM.S 17) (bodyOf Try.prog 17 3) (TM k len cap ((0 : Nat) : Int)) [askB s 4, bM k] [true, false, false] (TM k len cap ((0 + 1 : Nat) : Int)) 2 =
    some (obM s k len 0, .normal, TM k len cap ((0 + 1 : Nat) : Int), [askB s 4, bM k]) := by kernel_rfl
theorem run17_4_1 (s : Asks) (k len cap : Nat) : runTo EM 1000 (EM.S 17) (bodyOf Try.prog 17 3) (TM k len cap ((1 : Nat) : Int)) [askB s 4, bM k] [true, false, false] (TM k len cap ((1 + 1 : Nat) : Int)) 2 =
    some (obM s k len 1, .normal, TM k len cap ((1 + 1 : Nat) : Int), [askB s 4, bM k]) := by kernel_rfl
theorem run17_4_2 (s : Asks) (k len cap : Nat) : runTo EM 1000 (EM.S 17) (bodyOf Try.prog 17 3) (TM k len cap ((2 : Nat) : Int)) [askB s 4, bM k] [true, false, false] (TM k len cap ((2 + 1 : Nat) : Int)) 2 =
    some (obM s k len 2, .normal, TM k len cap ((2 + 1 : Nat) : Int), [askB s 4, bM k]) := by kernel_rfl
theorem run17_4_3 (s : Asks) (k len cap : Nat) : runTo EM 1000 (EM.S 17) (bodyOf Try.prog 17 3) (TM k len cap ((3 : Nat) : Int)) [askB s 4, bM k] [true, false, false] (TM k len cap ((3 + 1 : Nat) : Int)) 2 =
    some (obM s k len 3, .normal, TM k len cap ((3 + 1 : Nat) : Int), [askB s 4, bM k]) := by kernel_rfl
theorem run17x (B : Blk) (k len cap m : Nat) : runTo EM 1000 (EM.S 17) (bodyOf Try.prog 17 3) (TM k len cap (m : Int)) [B, bM k] [false] (TM k len cap (m : Int)) 2 =
    some ([decide ((m : Int) < (len : Int)) = false], .exit 0, TM k len cap (m : Int), [B, bM k]) := by kernel_rfl
theorem run17y (B : Blk) (k len cap : Nat) : runTo EM 1000 (EM.S 17) (bodyOf Try.prog 17 3) (TM k len cap ((4 : Nat) : Int)) [B, bM k] [true] (TM k len cap ((4 : Nat) : Int)) 2 =
    some ([decide (((4 : Nat) : Int) < (len : Int)) = true], .exit 0, TM k len cap ((4 : Nat) : Int), [B, bM k]) := by kernel_rfl
theorem loop17 (s : Asks) {k m len cap : Nat} (hk : k < 4) (hm : m = min len 4) (hs : s.ok m) : Goes Try.prog (.loop (bodyOf Try.prog 17 3)) (.exit 0) (TM k len cap ((0 : Nat) : Int)) [askB s m, bM k] (TM k len cap (m : Int)) [askB s m, bM k] := by
  refine loop_goes (N := m) (k := 2) (T := fun i => TM k len cap (i : Int)) (M := fun _ => [askB s m, bM k]) (by simp) (fun _ _ => rfl) (fun i hi => ?_) ?_
  · have hob := obM_ok (s := s) (len := len) hk (show i < len by omega) hi (by omega) hs
    have hwf := wfTM k len cap ((i + 1 : Nat) : Int) (askB_free s m)
    have hm4 : m ≤ 4 := by omega
    have : Runs EM 1000 (EM.S 17) (bodyOf Try.prog 17 3) .normal (TM k len cap (i : Int)) [askB s m, bM k] (TM k len cap ((i + 1 : Nat) : Int)) [askB s m, bM k] := by
      match m, i, hi, hm4 with
      | 1, 0, _, _ => exact ⟨[true, false, false], _, run17_1_0 s k len cap, hob, hwf⟩
      | 2, 0, _, _ => exact ⟨[true, false, false], _, run17_2_0 s k len cap, hob, hwf⟩
      | 2, 1, _, _ => exact ⟨[true, false, false], _, run17_2_1 s k len cap, hob, hwf⟩
      | 3, 0, _, _ => exact ⟨[true, false, false], _, run17_3_0 s k len cap, hob, hwf⟩
      | 3, 1, _, _ => exact ⟨[true, false, false], _, run17_3_1 s k len cap, hob, hwf⟩
      | 3, 2, _, _ => exact ⟨[true, false, false], _, run17_3_2 s k len cap, hob, hwf⟩
      | 4, 0, _, _ => exact ⟨[true, false, false], _, run17_4_0 s k len cap, hob, hwf⟩
      | 4, 1, _, _ => exact ⟨[true, false, false], _, run17_4_1 s k len cap, hob, hwf⟩
      | 4, 2, _, _ => exact ⟨[true, false, false], _, run17_4_2 s k len cap, hob, hwf⟩
      | 4, 3, _, _ => exact ⟨[true, false, false], _, run17_4_3 s k len cap, hob, hwf⟩
      | 1, i + 1, h, _ => exact absurd h (by omega)
      | 2, i + 2, h, _ => exact absurd h (by omega)
      | 3, i + 3, h, _ => exact absurd h (by omega)
      | 4, i + 4, h, _ => exact absurd h (by omega)
      | n + 5, _, _, h => exact absurd h (by omega)
    exact this.goes envEM
  · by_cases h : m < len
    · obtain rfl : m = 4 := by omega
      exact Runs.goes envEM ⟨[true], _, run17y _ k len cap, ⟨decide_eq_true (by omega), trivial⟩, wfTM k len cap _ (askB_free s _)⟩
    · exact Runs.goes envEM ⟨[false], _, run17x _ k len cap m, ⟨decide_eq_false (by omega), trivial⟩, wfTM k len cap _ (askB_free s _)⟩
noncomputable def EMX (s : Asks) (k m len cap : Nat) : Env := { EM with lp := fun j => match Nat.beq j 3 with | true => some (bodyOf Try.prog 17 3, sumC (TM k len cap ((0 : Nat) : Int)) [askB s m, bM k] (TM k len cap (m : Int)) [askB s m, bM k] (.exit 0)) | false => none }
theorem envEMX (s : Asks) {k m len cap : Nat} (hk : k < 4) (hm : m = min len 4) (hs : s.ok m) : EnvOK (EMX s k m len cap) := envEL1 envEM (sumC_ok rfl (loop17 s hk hm hs))

theorem run3 (s : Asks) (m len cap : Nat) : callBy (EMX s 0 m len cap) (evalC (EMX s 0 m len cap) 1000) 3 [.one (.sl 0 0 len cap)] [askB s m] [] =
    some ([0 ≤ ((0 : Nat) : Int) ∧ ((0 : Nat) : Int) < 4, bodyOf Try.prog 17 3 = bodyOf Try.prog 17 3, (TM 0 len cap ((0 : Nat) : Int), [askB s m, bM 0]) = (TM 0 len cap ((0 : Nat) : Int), [askB s m, bM 0]), wfS (TM 0 len cap ((0 : Nat) : Int)) [askB s m, bM 0] = true], [], .val (.one (.v (.bool true))), [askB s m, bM 0]) := by kernel_rfl
theorem run3nil : callBy EM (evalC EM 1000) 3 [.one (.v (.slice none 0 0))] [] [false] = some ([0 ≤ ((0 : Nat) : Int) ∧ ((0 : Nat) : Int) < 4, decide (((0 : Nat) : Int) < ((0 : Nat) : Int)) = false], [], .val (.one (.v (.bool true))), [bM 0]) := by kernel_rfl
theorem law3 {H : Type} {enc : TypeId × Value → H} {r : Reach} {W : World} {base : Nat} {v : Value} {d : DataW H} {ps : List MemPlace} (hval : Value.okWide Try.prog W r base 22 v) (h : DataW.Trod enc Try.prog W 0 (fun _ => true) true 22 v d ps) :
    Calls Try.prog 3 #[v] W (Trues W) := by
  refine asks_calls (K := 4) (Q := Trues) (fun w => law_run_nil (E := EM) envEM run3nil ⟨by decide, by decide, trivial⟩ w) ?_ hval h
  intro s m len cap hm _ _ hs w φ hmr
  exact law_run (envEMX s (k := 0) (by decide) hm hs) (run3 s m len cap) ⟨by decide, rfl, rfl, wfTM _ _ _ _ (askB_free s m), trivial⟩ hmr

theorem run4 (s : Asks) (m len cap : Nat) : callBy (EMX s 1 m len cap) (evalC (EMX s 1 m len cap) 1000) 4 [.one (.sl 0 0 len cap)] [askB s m] [] =
    some ([0 ≤ ((1 : Nat) : Int) ∧ ((1 : Nat) : Int) < 4, bodyOf Try.prog 17 3 = bodyOf Try.prog 17 3, (TM 1 len cap ((0 : Nat) : Int), [askB s m, bM 1]) = (TM 1 len cap ((0 : Nat) : Int), [askB s m, bM 1]), wfS (TM 1 len cap ((0 : Nat) : Int)) [askB s m, bM 1] = true], [], .val (.one (.v (.bool true))), [askB s m, bM 1]) := by kernel_rfl
theorem run4nil : callBy EM (evalC EM 1000) 4 [.one (.v (.slice none 0 0))] [] [false] = some ([0 ≤ ((1 : Nat) : Int) ∧ ((1 : Nat) : Int) < 4, decide (((0 : Nat) : Int) < ((0 : Nat) : Int)) = false], [], .val (.one (.v (.bool true))), [bM 1]) := by kernel_rfl
theorem law4 {H : Type} {enc : TypeId × Value → H} {r : Reach} {W : World} {base : Nat} {v : Value} {d : DataW H} {ps : List MemPlace} (hval : Value.okWide Try.prog W r base 22 v) (h : DataW.Trod enc Try.prog W 0 (fun _ => true) true 22 v d ps) :
    Calls Try.prog 4 #[v] W (Trues W) := by
  refine asks_calls (K := 4) (Q := Trues) (fun w => law_run_nil (E := EM) envEM run4nil ⟨by decide, by decide, trivial⟩ w) ?_ hval h
  intro s m len cap hm _ _ hs w φ hmr
  exact law_run (envEMX s (k := 1) (by decide) hm hs) (run4 s m len cap) ⟨by decide, rfl, rfl, wfTM _ _ _ _ (askB_free s m), trivial⟩ hmr

theorem run5 (s : Asks) (m len cap : Nat) : callBy (EMX s 2 m len cap) (evalC (EMX s 2 m len cap) 1000) 5 [.one (.sl 0 0 len cap)] [askB s m] [] =
    some ([0 ≤ ((2 : Nat) : Int) ∧ ((2 : Nat) : Int) < 4, bodyOf Try.prog 17 3 = bodyOf Try.prog 17 3, (TM 2 len cap ((0 : Nat) : Int), [askB s m, bM 2]) = (TM 2 len cap ((0 : Nat) : Int), [askB s m, bM 2]), wfS (TM 2 len cap ((0 : Nat) : Int)) [askB s m, bM 2] = true], [], .val (.one (.v (.bool true))), [askB s m, bM 2]) := by kernel_rfl
theorem run5nil : callBy EM (evalC EM 1000) 5 [.one (.v (.slice none 0 0))] [] [false] = some ([0 ≤ ((2 : Nat) : Int) ∧ ((2 : Nat) : Int) < 4, decide (((0 : Nat) : Int) < ((0 : Nat) : Int)) = false], [], .val (.one (.v (.bool true))), [bM 2]) := by kernel_rfl
theorem law5 {H : Type} {enc : TypeId × Value → H} {r : Reach} {W : World} {base : Nat} {v : Value} {d : DataW H} {ps : List MemPlace} (hval : Value.okWide Try.prog W r base 22 v) (h : DataW.Trod enc Try.prog W 0 (fun _ => true) true 22 v d ps) :
    Calls Try.prog 5 #[v] W (Trues W) := by
  refine asks_calls (K := 4) (Q := Trues) (fun w => law_run_nil (E := EM) envEM run5nil ⟨by decide, by decide, trivial⟩ w) ?_ hval h
  intro s m len cap hm _ _ hs w φ hmr
  exact law_run (envEMX s (k := 2) (by decide) hm hs) (run5 s m len cap) ⟨by decide, rfl, rfl, wfTM _ _ _ _ (askB_free s m), trivial⟩ hmr

theorem run6 (s : Asks) (m len cap : Nat) : callBy (EMX s 3 m len cap) (evalC (EMX s 3 m len cap) 1000) 6 [.one (.sl 0 0 len cap)] [askB s m] [] =
    some ([0 ≤ ((3 : Nat) : Int) ∧ ((3 : Nat) : Int) < 4, bodyOf Try.prog 17 3 = bodyOf Try.prog 17 3, (TM 3 len cap ((0 : Nat) : Int), [askB s m, bM 3]) = (TM 3 len cap ((0 : Nat) : Int), [askB s m, bM 3]), wfS (TM 3 len cap ((0 : Nat) : Int)) [askB s m, bM 3] = true], [], .val (.one (.v (.bool true))), [askB s m, bM 3]) := by kernel_rfl
theorem run6nil : callBy EM (evalC EM 1000) 6 [.one (.v (.slice none 0 0))] [] [false] = some ([0 ≤ ((3 : Nat) : Int) ∧ ((3 : Nat) : Int) < 4, decide (((0 : Nat) : Int) < ((0 : Nat) : Int)) = false], [], .val (.one (.v (.bool true))), [bM 3]) := by kernel_rfl
theorem law6 {H : Type} {enc : TypeId × Value → H} {r : Reach} {W : World} {base : Nat} {v : Value} {d : DataW H} {ps : List MemPlace} (hval : Value.okWide Try.prog W r base 22 v) (h : DataW.Trod enc Try.prog W 0 (fun _ => true) true 22 v d ps) :
    Calls Try.prog 6 #[v] W (Trues W) := by
  refine asks_calls (K := 4) (Q := Trues) (fun w => law_run_nil (E := EM) envEM run6nil ⟨by decide, by decide, trivial⟩ w) ?_ hval h
  intro s m len cap hm _ _ hs w φ hmr
  exact law_run (envEMX s (k := 3) (by decide) hm hs) (run6 s m len cap) ⟨by decide, rfl, rfl, wfTM _ _ _ _ (askB_free s m), trivial⟩ hmr

end Go.Ev
namespace Go.Proofs.Ythlcdpdehoknbaa.Laws
open Go Go.Ev Go.RowKit Go.ChangeShapes Go.WideShapes Go.ChangeAt

set_option maxRecDepth 100000 in
theorem lifted6 (os : Os) (started : os.Started) (H : Type) (enc : TypeId × Value → H) :
    ReturnsInHanded {} Try.checked os 6 .any (Rows.multsNSpec.pre6 enc Try.prog Try.f6 Rows.multsNRow.domain false) (Rows.multsNSpec.post enc Try.prog Try.f6 false true false false) := by
  refine returnsInHanded_of_change (C := Try.checked) own started (by kernel_rfl) Try.func6
    (ChangeSpec.witness6 (enc := enc) (C := Try.checked) false ⟨#[], #[.slice none 0 0], []⟩ 8 (by kernel_rfl) (by kernel_rfl) (by kernel_rfl) (by kernel_rfl)) ?_
  intro W base args ds gs before hval0 hW _ _
  have hval : ∀ (j : Nat) t v, Try.f6.params[j]? = some t → args[j]? = some v → Value.okWide Try.prog W .any base t v := hval0
  have hW' := hW
  obtain ⟨p, q, hA0, hV, hbef, hfz, hnd⟩ := hW
  have hp : Try.f6.params = #[22] := by kernel_rfl
  have hA : DataW.TrodAll enc Try.prog W 0 (fun _ => true) true Try.f6.params.toList args.toList ds p := hA0
  rw [hp] at hA hval
  obtain ⟨v0, d0, rfl, rfl, h0⟩ := trodAll_one hA
  obtain ⟨rfl, rfl⟩ := trodVars_none hV
  refine (law6 (hval 0 22 v0 rfl rfl) h0).mono ?_
  rintro e W' ⟨rfl, hb⟩
  exact ⟨_, rfl, post_true (tb := 4) rfl hp (by kernel_rfl) u4 laid rd22 row22 rfl rfl hW' hb⟩

theorem holds6 : Rows.MultsNSaid :=
  OpenClaim.holds_of_wide 6 Try.f6 rfl rfl rfl rfl rfl rfl rfl ⟨rfl, rfl, rfl, rfl, rfl⟩ rfl rfl rfl rfl rfl (by kernel_rfl) Try.func6 (by kernel_rfl)
    (of_decide_eq_true (by kernel_rfl)) (by unfold Func.isWrapper; first | (rw [if_pos (by decide +kernel)]; kernel_rfl) | (rw [if_neg (by decide +kernel)]; exact ⟨rfl, rfl⟩))
    (fun os started H enc _ => lifted6 os started H enc)

end Go.Proofs.Ythlcdpdehoknbaa.Laws

namespace Go.Proofs.Ythlcdpdehoknbaa
open Go
theorem multsN_holds : Rows.MultsNSaid := Laws.holds6
end Go.Proofs.Ythlcdpdehoknbaa

