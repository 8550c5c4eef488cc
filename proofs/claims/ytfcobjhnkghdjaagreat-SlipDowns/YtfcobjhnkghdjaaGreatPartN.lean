/- Roots, and points of the curve: what the functions on them come to; SHA-512: the program and the page come to one sum -/
import Derived.Test.YtfcobjhnkghdjaaGreatPartM
namespace Go.Ev
open Go Go.Proofs Go.RowKit

theorem tb_min : ∀ n, n < 256 → tb n = 0 ∨ 2 ^ (tb n - 1) ≤ n := by decide +kernel
theorem tb_zero : ∀ n, n < 256 → (tb n = 0 ↔ n = 0) := by decide +kernel
theorem min_shift {x q c : Nat} (h : q = 0 ∨ 2 ^ (q - 1) ≤ x / 2 ^ c) (h0 : q = 0 → x / 2 ^ c = 0) (hx : 0 < x / 2 ^ c) : 2 ^ (c + q - 1) ≤ x := by
  rcases h with h | h
  · have := h0 h; omega
  · have hq : 0 < q := by
      rcases Nat.eq_zero_or_pos q with h' | h'
      · have := h0 h'; omega
      · exact h'
    rw [show c + q - 1 = (q - 1) + c by omega, Nat.pow_add]
    exact Nat.le_trans (Nat.mul_le_mul_right _ h) (Nat.div_mul_le_self _ _)
theorem len32_min {x : Nat} (hx : x < 4294967296) : len32 x = 0 ∨ 2 ^ (len32 x - 1) ≤ x := by
  by_cases h1 : 65536 ≤ x
  · by_cases h2 : 256 ≤ x / 65536
    · have hl : len32 x = 24 + tb (x / 65536 / 256 % 256) := by simp only [len32, decide_eq_true h1, decide_eq_true h2, cond_true]
      have hn : x / 65536 / 256 % 256 < 256 := by omega
      have he : x / 65536 / 256 % 256 = x / 2 ^ 24 := by omega
      right; rw [hl]
      exact min_shift (by have := tb_min _ hn; rwa [he] at this ⊢) (by intro h; have := (tb_zero _ hn).1 h; omega) (by omega)
    · have hl : len32 x = 16 + tb (x / 65536 % 256) := by simp only [len32, decide_eq_true h1, decide_eq_false h2, cond_true, cond_false]
      have hn : x / 65536 % 256 < 256 := by omega
      have he : x / 65536 % 256 = x / 2 ^ 16 := by omega
      right; rw [hl]
      exact min_shift (by have := tb_min _ hn; rwa [he] at this ⊢) (by intro h; have := (tb_zero _ hn).1 h; omega) (by omega)
  · by_cases h2 : 256 ≤ x
    · have hl : len32 x = 8 + tb (x / 256 % 256) := by simp only [len32, decide_eq_false h1, decide_eq_true h2, cond_true, cond_false]
      have hn : x / 256 % 256 < 256 := by omega
      have he : x / 256 % 256 = x / 2 ^ 8 := by omega
      right; rw [hl]
      exact min_shift (by have := tb_min _ hn; rwa [he] at this ⊢) (by intro h; have := (tb_zero _ hn).1 h; omega) (by omega)
    · have hl : len32 x = tb (x % 256) := by simp only [len32, decide_eq_false h1, decide_eq_false h2, cond_false]
      have hn : x % 256 < 256 := by omega
      have := tb_min _ hn
      rw [hl]
      rw [show x % 256 = x by omega] at *
      exact this
theorem len32_zero {x : Nat} (hx : x < 4294967296) (h : len32 x = 0) : x = 0 := by
  have := (spec91 x hx).2.1
  rw [h] at this; omega
theorem lenU_min {a : Nat → Nat} (ha : ∀ i, a i < 4294967296) : ∀ n, lenU a n = 0 ∨ 2 ^ (lenU a n - 1) ≤ valU n 0 a
  | 0 => .inl rfl
  | j + 1 => by
    simp only [lenU]
    rw [valU_snoc, Nat.zero_add]
    split
    · rename_i h; have := of_decide_eq_true h; rw [this, Nat.mul_zero, Nat.add_zero]; exact lenU_min ha j
    · rename_i h
      have h0 := of_decide_eq_false h
      right
      rcases len32_min (ha j) with h1 | h1
      · exact absurd (len32_zero (ha j) h1) h0
      · have hp : 0 < len32 (a j) := by
          rcases Nat.eq_zero_or_pos (len32 (a j)) with h2 | h2
          · exact absurd (len32_zero (ha j) h2) h0
          · exact h2
        rw [show 32 * j + len32 (a j) - 1 = 32 * j + (len32 (a j) - 1) by omega, Nat.pow_add, two_pow_mul]
        exact Nat.le_trans (Nat.mul_le_mul_left _ h1) (Nat.le_add_left _ _)
theorem lenQ_min (a : Nat) : ∀ n, lenQ a n = 0 ∨ 2 ^ (lenQ a n - 1) ≤ a
  | 0 => .inl rfl
  | n + 1 => by
    rw [lenQ]
    cases hb : bitB a n with
    | true =>
      right
      have h0 : bitN a n = 1 := of_decide_eq_true hb
      unfold bitN at h0
      show 2 ^ (n + 1 - 1) ≤ a
      rw [Nat.add_sub_cancel]
      apply Nat.le_of_not_lt
      intro h
      rw [Nat.div_eq_of_lt h] at h0
      exact absurd h0 (by decide)
    | false => exact lenQ_min a n
theorem len_uniq {a L M : Nat} (h1 : a < 2 ^ L) (h2 : L = 0 ∨ 2 ^ (L - 1) ≤ a) (h3 : a < 2 ^ M) (h4 : M = 0 ∨ 2 ^ (M - 1) ≤ a) : L = M := by
  have key : ∀ {L M : Nat}, (L = 0 ∨ 2 ^ (L - 1) ≤ a) → a < 2 ^ M → L ≤ M := by
    intro L M h2 h3
    rcases h2 with h2 | h2
    · omega
    · have := (Nat.pow_lt_pow_iff_right (a := 2) (by decide)).1 (Nat.lt_of_le_of_lt h2 h3)
      omega
  exact Nat.le_antisymm (key h2 h3) (key h4 h1)
theorem lenQ_N {a : Nat} (ha : a < 4294967296 ^ 8) : lenQ a 256 = lenN a := by
  have h1 := lenQ_spec a 256 (by rw [show (2 : Nat) ^ 256 = 4294967296 ^ 8 by decide]; exact ha)
  have h2 := lenU_min (limb_lt a) 8
  rw [valU_num a 8 ha] at h2
  exact len_uniq h1.1 (lenQ_min a 256) (lenN_spec ha).1 h2
end Go.Ev

namespace Go.Ev
open Go Go.Proofs Go.RowKit

theorem subM_add {m a b : Nat} (hb : b < m) : (subM m a b + b) % m = a % m := by
  unfold subM
  rw [Nat.mod_add_mod, Nat.sub_add_cancel (by omega), Nat.add_mod_right]
theorem add_inj {m r s y : Nat} (hr : r < m) (hs : s < m) (h : (r + y) % m = (s + y) % m) : r = s := by
  have h1 : ∀ {r s : Nat}, r < m → s < m → r ≤ s → (r + y) % m = (s + y) % m → r = s := by
    intro r s _ hs hle h
    have h2 : (s + y - (r + y)) % m = 0 := Nat.sub_mod_eq_zero_of_mod_eq h.symm
    rw [show s + y - (r + y) = s - r by omega, Nat.mod_eq_of_lt (by omega)] at h2
    omega
  rcases Nat.le_total r s with hle | hle
  · exact h1 hr hs hle h
  · exact (h1 hs hr hle h.symm).symm
theorem in_mod (m a : Nat) : inN m (a % m) = inN m a := by rw [in_eq, in_eq, Nat.mod_mul_mod]
theorem in_add {m : Nat} (a b : Nat) : addM m (inN m a) (inN m b) = inN m (addM m a b) := by
  unfold addM
  rw [in_mod, in_eq, in_eq, in_eq, ← Nat.add_mod, Nat.add_mul]
theorem in_sub {m : Nat} (hm : 0 < m) {a b : Nat} (hb : b < m) : subM m (inN m a) (inN m b) = inN m (subM m a b) := by
  refine add_inj (y := inN m b) (subM_lt hm) (inN_lt hm) ?_
  rw [subM_add (inN_lt hm)]
  have h := in_add (m := m) (subM m a b) b
  unfold addM at h
  rw [h, subM_add hb, in_mod, Nat.mod_eq_of_lt (inN_lt hm)]
theorem in_mul {k : Nat} (hk : k < 4) (x y : Nat) : mmN (modN k) (inN (modN k) x) (inN (modN k) y) = inN (modN k) (mulM (modN k) x y) := mm_in (modN_lt k) (good_fac hk)
theorem facN_lt32 (k : Nat) : facN k < 4294967296 := by unfold facN facF; omega
theorem facR_lt32 (u : Nat) : facR u < 4294967296 := by unfold facR; omega
theorem r2N_lt {k : Nat} (hk : k < 4) : r2N (modN k) < modN k := (okR_K hk).2.2.1
def cV (v : AV) : List V1 → Option (List Prop × AV) := fun vs => match vs with | [] => some ([], v) | _ => none
theorem ctV {f : FuncId} {v : AV} (h : Spec f [] v) : CTok ⟨f, cV v⟩ := by
  intro vs ob r hv ho
  simp only [cV] at hv
  split at hv
  · simp only [Option.some.injEq, Prod.mk.injEq] at hv
    obtain ⟨rfl, rfl⟩ := hv
    exact h
  · simp at hv
def aN : Arg := .s [.n8]
def aLaw : Arg := .s [.n8, .u32, .n8]
end Go.Ev

namespace Go.Ev.H5
open Go Go.Proofs Go.RowKit
structure W8 where
  (a b c d e f g h : Nat)
def W8.cells (x : W8) : List Piece := [.a (.u .u64 x.a), .a (.u .u64 x.b), .a (.u .u64 x.c), .a (.u .u64 x.d), .a (.u .u64 x.e), .a (.u .u64 x.f), .a (.u .u64 x.g), .a (.u .u64 x.h)]
def aV (x : W8) : V1 := .agg x.cells
noncomputable def E125L (s : ByteArray) : Env := withL E125 2 (bodyOf Tryz.prog 119 2) (sumC (T125 s ((0 : Nat) : Int)) [cB zW] (T125 s ((80 : Nat) : Int)) [cB (schW s)] (.exit 0))
noncomputable def schedV (s : ByteArray) : V1 := .agg (cells64 80 0 (schW s))
theorem r125 (s : ByteArray) : callR (E125L s) 1000 119 [sS s] [] =
    some ([bodyOf Tryz.prog 119 2 = bodyOf Tryz.prog 119 2, (T125 s ((0 : Nat) : Int), [cB zW]) = (T125 s ((0 : Nat) : Int), [cB zW]), wfS (T125 s ((0 : Nat) : Int)) [cB zW] = true], .val (schedV s)) := by kernel_rfl
theorem envE125L (s : ByteArray) (hs : 128 ≤ s.size) (hl : s.size ≤ 4611686018427387904) : EnvOK (E125L s) := envWithL envE125 (sumC_ok (by simp only [List.length_cons]) (sch_loop s hs hl))
theorem spec125 (s : ByteArray) (hs : 128 ≤ s.size) (hl : s.size ≤ 4611686018427387904) : Spec 119 [sS s] (.val (schedV s)) :=
  spec_run (envE125L s hs hl) rfl (r125 s) ⟨rfl, rfl, wfC125 _ _ _, trivial⟩ rfl rfl
noncomputable def fnSch (vs : List V1) : Option (List Prop × AV) :=
  match vs with
  | [.one (.v (.string s))] => some ([128 ≤ s.size ∧ s.size ≤ 4611686018427387904], .val (schedV s))
  | _ => none
theorem ct125 : CTok ⟨119, fnSch⟩ := by
  intro vs ob r h ho
  simp only [fnSch] at h
  split at h
  · simp only [Option.some.injEq, Prod.mk.injEq] at h
    obtain ⟨rfl, rfl⟩ := h
    exact spec125 _ ho.1.1 ho.1.2
  · simp at h
def shaL : List Nat := [4794697086780616226, 8158064640168781261, 13096744586834688815, 16840607885511220156, 4131703408338449720, 6480981068601479193, 10538285296894168987, 12329834152419229976, 15566598209576043074, 1334009975649890238, 2608012711638119052, 6128411473006802146, 8268148722764581231, 9286055187155687089, 11230858885718282805, 13951009754708518548, 16472876342353939154, 17275323862435702243, 1135362057144423861, 2597628984639134821, 3308224258029322869, 5365058923640841347, 6679025012923562964, 8573033837759648693, 10970295158949994411, 12119686244451234320, 12683024718118986047, 13788192230050041572, 14330467153632333762, 15395433587784984357, 489312712824947311, 1452737877330783856, 2861767655752347644, 3322285676063803686, 5560940570517711597, 5996557281743188959, 7280758554555802590, 8532644243296465576, 9350256976987008742, 10552545826968843579, 11727347734174303076, 12113106623233404929, 14000437183269869457, 14369950271660146224, 15101387698204529176, 15463397548674623760, 17586052441742319658, 1182934255886127544, 1847814050463011016, 2177327727835720531, 2830643537854262169, 3796741975233480872, 4115178125766777443, 5681478168544905931, 6601373596472566643, 7507060721942968483, 8399075790359081724, 8693463985226723168, 9568029438360202098, 10144078919501101548, 10430055236837252648, 11840083180663258601, 13761210420658862357, 14299343276471374635, 14566680578165727644, 15097957966210449927, 16922976911328602910, 17689382322260857208, 500013540394364858, 748580250866718886, 1242879168328830382, 1977374033974150939, 2944078676154940804, 3659926193048069267, 4368137639120453308, 4836135668995329356, 5532061633213252278, 6448918945643986474, 6902733635092675308, 7801388544844847127]
def shaK (i : Nat) : Nat := shaL.getD i 0
def shaV : V1 := .agg (cells64 80 0 shaK)
theorem r126 : callR E0 1000 120 [] [] = some ([], .val shaV) := by kernel_rfl
def rnd (v : W8) (k w : Nat) : W8 :=
  let one := add64 (add64 (add64 (add64 v.h (xor64 (xor64 (rot v.e 14) (rot v.e 18)) (rot v.e 41))) (xor64 (and64 v.e v.f) (and64 (not64 v.e) v.g))) k) w
  let two := add64 (xor64 (xor64 (rot v.a 28) (rot v.a 34)) (rot v.a 39)) (xor64 (xor64 (and64 v.a v.b) (and64 v.a v.c)) (and64 v.b v.c))
  ⟨add64 one two, v.a, v.b, v.c, add64 v.d one, v.e, v.f, v.g⟩
def addW (x y : W8) : W8 := ⟨add64 x.a y.a, add64 x.b y.b, add64 x.c y.c, add64 x.d y.d, add64 x.e y.e, add64 x.f y.f, add64 x.g y.g, add64 x.h y.h⟩
def hB (x : W8) : Blk := ⟨x.cells, 104, true, false, 0⟩
def z8W : W8 := ⟨0, 0, 0, 0, 0, 0, 0, 0⟩
noncomputable def ldW (p q : Nat) (u : Nat → Nat) : CT := ⟨3000103, fun vs => match vs with
  | [.one (.ptr b off)] => match Nat.beq b p with
    | true => some ([False], .val (u64 (u off)))
    | false => match Nat.beq b q with
      | true => some ([False], .val (u64 (shaK off)))
      | false => none
  | _ => none⟩
theorem ldW_ok (p q : Nat) (u : Nat → Nat) : CTok (ldW p q u) := by
  intro vs ob r h ho
  simp only [ldW] at h
  split at h
  · split at h
    · simp only [Option.some.injEq, Prod.mk.injEq] at h
      obtain ⟨rfl, _⟩ := h
      exact ho.1.elim
    · split at h
      · simp only [Option.some.injEq, Prod.mk.injEq] at h
        obtain ⟨rfl, _⟩ := h
        exact ho.1.elim
      · simp at h
  · simp at h
theorem ct126 : CTok ⟨120, cV (.val shaV)⟩ := ctV (spec_run envE0 rfl r126 trivial rfl rfl)
noncomputable def L96 (u : Nat → Nat) : List CT := ldW 2 3 u :: ⟨119, fnSch⟩ :: ⟨120, cV (.val shaV)⟩ :: L125
theorem L96_ok (u : Nat → Nat) : AllCT (L96 u) := ⟨ldW_ok _ _ _, ct125, ct126, L125_ok⟩
noncomputable def S96 : FuncId → Nat → Bool := fun f t => match f with | 89 => memN t [19, 48, 2000049, 52, 2000053, 97] | 81 => memN t [73, 104, 2000105, 108, 2000109, 75] | _ => false
noncomputable def E96 (u : Nat → Nat) : Env := mkE (L96 u) S96
def T96 (i : Int) : List AV := slots 111 [(2, pV 0), (4, pV 1), (5, pV 2), (6, pV 3), (7, pV 4), (18, iV i)]
def M96 (h v : W8) (u : Nat → Nat) : List Blk := [hB h, hB z8W, cB u, cB shaK, hB v]
end Go.Ev.H5

namespace Go.Ev.H5
open Go Go.Proofs Go.RowKit
def iT (i : Nat) : Nat := 0 + (i : Int).toNat * 1
theorem iT_eq (i : Nat) : iT i = i := by unfold iT; omega
theorem r96a (h v : W8) (u : Nat → Nat) (i : Nat) : runTo (E96 u) 1000 ((E96 u).S 89) (bodyOf Tryz.prog 89 3) (T96 (i : Int)) (M96 h v u) [true] (T96 ((i : Int) + 1)) 5 =
    some ([decide ((i : Int) < 80) = true, (0 : Int) ≤ (i : Int) ∧ (i : Int) < ((80 : Nat) : Int), LoadsAs Tryz.prog 103 (cells64 80 0 shaK) (iT i) (.one (.u .u64 (shaK (iT i)))), (0 : Int) ≤ (i : Int) ∧ (i : Int) < ((80 : Nat) : Int), LoadsAs Tryz.prog 103 (cells64 80 0 u) (iT i) (.one (.u .u64 (u (iT i)))), inI ((i : Int) + 1)], .normal, T96 ((i : Int) + 1), M96 h (rnd v (shaK (iT i)) (u (iT i))) u) := by kernel_rfl
theorem r96x (h v : W8) (u : Nat → Nat) (i : Nat) : runTo (E96 u) 1000 ((E96 u).S 89) (bodyOf Tryz.prog 89 3) (T96 (i : Int)) (M96 h v u) [false] (T96 (i : Int)) 5 =
    some ([decide ((i : Int) < 80) = false], .exit 0, T96 (i : Int), M96 h v u) := by kernel_rfl
theorem agg74 : isAggA Tryz.prog 103 = some false := by kernel_rfl
theorem ld64 (u : Nat → Nat) (n off : Nat) (h : off < n) : LoadsAs Tryz.prog 103 (cells64 n 0 u) off (.one (.u .u64 (u off))) := by
  intro φ
  refine ⟨agg74, ?_⟩
  rw [cells64_conc, List.getElem?_map, List.getElem?_range' h]
  simp [V1.conc, Atom.conc]
def vR (u : Nat → Nat) (v : W8) : Nat → W8
  | 0 => v
  | i + 1 => rnd (vR u v i) (shaK i) (u i)
theorem hB_free (x : W8) : Free (hB x) := fun _ => rfl
theorem M96_free (h v : W8) (u : Nat → Nat) : ∀ b ∈ M96 h v u, Free b := by
  intro b hb
  simp only [M96, List.mem_cons, List.not_mem_nil, or_false] at hb
  rcases hb with rfl | rfl | rfl | rfl | rfl
  · exact hB_free _
  · exact hB_free _
  · exact cB_free _
  · exact cB_free _
  · exact hB_free _
theorem M96_len (h v : W8) (u : Nat → Nat) : (M96 h v u).length = 5 := by simp only [M96, List.length_cons, List.length_nil]
theorem wf96 (h v : W8) (u : Nat → Nat) (i : Int) : wfS (T96 i) (M96 h v u) = true := wfS_of (M96_free h v u) (by rw [M96_len]; kernel_rfl)
theorem envE96 (u : Nat → Nat) : EnvOK (E96 u) := envMk (L96_ok u) _
theorem step96 (h v : W8) (u : Nat → Nat) (i : Nat) (hi : i < 80) : Goes Tryz.prog (bodyOf Tryz.prog 89 3) .normal (T96 (i : Int)) (M96 h v u) (T96 ((i : Int) + 1)) (M96 h (rnd v (shaK i) (u i)) u) := by
  have hr := r96a h v u i
  rw [iT_eq] at hr
  exact Runs.goes (envE96 u) ⟨_, _, hr, ⟨decide_eq_true (by omega), by omega, ld64 _ _ _ hi, by omega, ld64 _ _ _ hi, by unfold inI; omega, trivial⟩, wf96 _ _ _ _⟩
theorem loop96 (h : W8) (u : Nat → Nat) (n : Nat) (hn : n = 80) (V : Nat → W8) (hV : ∀ i, V (i + 1) = rnd (V i) (shaK i) (u i)) :
    Goes Tryz.prog (.loop (bodyOf Tryz.prog 89 3)) (.exit 0) (T96 ((0 : Nat) : Int)) (M96 h (V 0) u) (T96 (n : Int)) (M96 h (V n) u) := by
  refine loop_goes (N := n) (k := 5) (T := fun i => T96 (i : Int)) (M := fun i => M96 h (V i) u) (by simp) (fun _ _ => M96_len _ _ _) (fun i hi => ?_) ?_
  · have := step96 h (V i) u i (by omega)
    rw [← hV i] at this
    exact this
  · exact Runs.goes (envE96 u) ⟨_, _, r96x h (V n) u n, ⟨decide_eq_false (by omega), trivial⟩, wf96 _ _ _ _⟩
noncomputable def vE (u : Nat → Nat) (h : W8) : W8 := vR u h 80
theorem rounds96 (h : W8) (u : Nat → Nat) : Goes Tryz.prog (.loop (bodyOf Tryz.prog 89 3)) (.exit 0) (T96 ((0 : Nat) : Int)) (M96 h h u) (T96 ((80 : Nat) : Int)) (M96 h (vE u h) u) := loop96 h u 80 rfl (vR u h) (fun _ => rfl)
noncomputable def E96L (h : W8) (u : Nat → Nat) : Env := withL (E96 u) 3 (bodyOf Tryz.prog 89 3) (sumC (T96 ((0 : Nat) : Int)) (M96 h h u) (T96 ((80 : Nat) : Int)) (M96 h (vE u h) u) (.exit 0))
theorem envE96L (h : W8) (u : Nat → Nat) : EnvOK (E96L h u) := envWithL (envE96 u) (sumC_ok (by rw [M96_len, M96_len]) (rounds96 h u))
noncomputable def blk5 (h : W8) (s : ByteArray) : W8 := addW h (vE (schW s) h)
theorem r96 (h : W8) (s : ByteArray) : callR (E96L h (schW s)) 1000 89 [aV h, sS s] [] =
    some ([128 ≤ s.size ∧ s.size ≤ 4611686018427387904, bodyOf Tryz.prog 89 3 = bodyOf Tryz.prog 89 3, (T96 ((0 : Nat) : Int), M96 h h (schW s)) = (T96 ((0 : Nat) : Int), M96 h h (schW s)), wfS (T96 ((0 : Nat) : Int)) (M96 h h (schW s)) = true], .val (aV (blk5 h s))) := by kernel_rfl
theorem spec96 (h : W8) (s : ByteArray) (h1 : 128 ≤ s.size) (h2 : s.size ≤ 4611686018427387904) : Spec 89 [aV h, sS s] (.val (aV (blk5 h s))) :=
  spec_run (envE96L h (schW s)) rfl (r96 h s) ⟨⟨h1, h2⟩, rfl, rfl, wf96 _ _ _ _, trivial⟩ rfl rfl
noncomputable def fnBlk (vs : List V1) : Option (List Prop × AV) :=
  match vs with
  | [.agg [.a (.u .u64 a), .a (.u .u64 b), .a (.u .u64 c), .a (.u .u64 d), .a (.u .u64 e), .a (.u .u64 f), .a (.u .u64 g), .a (.u .u64 h)], .one (.v (.string s))] => some ([128 ≤ s.size ∧ s.size ≤ 4611686018427387904], .val (aV (blk5 ⟨a, b, c, d, e, f, g, h⟩ s)))
  | _ => none
theorem ct96 : CTok ⟨89, fnBlk⟩ := by
  intro vs ob r h ho
  simp only [fnBlk] at h
  split at h
  · simp only [Option.some.injEq, Prod.mk.injEq] at h
    obtain ⟨rfl, rfl⟩ := h
    exact spec96 _ _ ho.1.1 ho.1.2
  · simp at h
end Go.Ev.H5

namespace Go.Ev.H5
open Go Go.Proofs Go.RowKit
def tB (e : TypeId) : Blk := ⟨cells64 80 0 shaK, e, true, true, 0⟩
noncomputable def S65 : FuncId → Nat → Bool := fun f t => match f with | 81 => memN t [19, 23, 27, 29, 30, 31, 33, 4000033, 35, 36, 2000037, 39, 40, 2000041, 44, 45, 2000046, 48, 49, 2000050, 70, 4000070, 21, 73, 104, 2000105, 108, 2000109, 75] | _ => false
noncomputable def E65 (u : Nat → Nat) : Env := mkE (ldW 3 0 u :: L125) S65
theorem envE65 (u : Nat → Nat) : EnvOK (E65 u) := envMk (show AllCT (ldW 3 0 u :: L125) from ⟨ldW_ok _ _ _, L125_ok⟩) _
def T65a (s : ByteArray) (c : Nat) (i : Int) : List AV := slots 167 [(1, .val (sS s)), (2, .val (.one (.sl 0 0 80 c))), (3, pV 1), (6, pV 2), (7, pV 3), (8, iV i)]
def M65a (e : TypeId) (h : W8) (w : Blk) : List Blk := [tB e, hB h, hB z8W, w]
def T65b (c : Nat) (i : Int) : List AV := slots 167 [(2, .val (.one (.sl 0 0 80 c))), (3, pV 1), (6, pV 2), (7, pV 3), (11, pV 4), (12, iV i)]
def M65b (e : TypeId) (h v : W8) (u : Nat → Nat) : List Blk := [tB e, hB h, hB z8W, cB u, hB v]
end Go.Ev.H5

namespace Go.Ev
open Go Go.Proofs Go.RowKit
def dropM : Option (List Prop × List Bool × AV × List Blk) → Option (List Prop × AV)
  | some (o, _, r, _) => some (o, r)
  | none => none
theorem dropM_some {x : Option (List Prop × List Bool × AV × List Blk)} {o : List Prop} {r : AV} (h : dropM x = some (o, r)) : ∃ c m, x = some (o, c, r, m) := by
  unfold dropM at h
  split at h
  · rename_i o' c r' m
    simp only [Option.some.injEq, Prod.mk.injEq] at h
    obtain ⟨rfl, rfl⟩ := h
    exact ⟨c, m, rfl⟩
  · simp at h
end Go.Ev

namespace Go.Ev.H5
open Go Go.Proofs Go.RowKit
theorem r65a (e : TypeId) (h : W8) (c : Nat) (s : ByteArray) (l : List Nat) (i : Nat) : runTo (E65 zW) 1000 (Env.S (E65 zW) 81) (bodyOf Tryz.prog 81 3) (T65a s c (↑i : Int)) (M65a e h (wB l)) [true, true] (T65a s c ((↑i : Int) + (1 : Int))) 4 =
    some ([decide ((↑i : Int) < (80 : Int)) = true, decide ((↑i : Int) < (16 : Int)) = true, inI ((8 : Int) * (↑i : Int)), inI ((8 : Int) * (↑i : Int)), inI ((8 : Int) * (↑i : Int) + (8 : Int)), (0 : Int) ≤ (8 : Int) * (↑i : Int) + (8 : Int) ∧ (8 : Int) * (↑i : Int) + (8 : Int) ≤ (↑(ByteArray.size s) : Int), (0 : Int) ≤ (8 : Int) * (↑i : Int) ∧ (8 : Int) * (↑i : Int) ≤ (↑(Int.toNat ((8 : Int) * (↑i : Int) + (8 : Int))) : Int), 8 ≤ ByteArray.size (ByteArray.extract s (Int.toNat ((8 : Int) * (↑i : Int))) (Int.toNat ((8 : Int) * (↑i : Int) + (8 : Int)))), (0 : Int) ≤ (↑i : Int) ∧ (↑i : Int) < ((80 : Nat) : Int), 0 + i * 1 < List.length l, inI ((↑i : Int) + (1 : Int))], .normal, T65a s c ((i : Int) + 1), M65a e h (wB (l.set (iT i) (word8 (s.extract (8 * i) (8 * i + 8)) 0)))) := by kernel_rfl
theorem r65b (e : TypeId) (h : W8) (c : Nat) (s : ByteArray) (l : List Nat) (i : Nat) : runTo (E65 zW) 1000 (Env.S (E65 zW) 81) (bodyOf Tryz.prog 81 3) (T65a s c (↑i : Int)) (M65a e h (wB l)) [true, false] (T65a s c ((↑i : Int) + (1 : Int))) 4 =
    some ([decide ((↑i : Int) < (80 : Int)) = true, decide ((↑i : Int) < (16 : Int)) = false, inI ((↑i : Int) - (15 : Int)), (0 : Int) ≤ (↑i : Int) - (15 : Int) ∧ (↑i : Int) - (15 : Int) < ((80 : Nat) : Int), 0 + Int.toNat ((↑i : Int) - (15 : Int)) * 1 < List.length l, inI ((↑i : Int) - (2 : Int)), (0 : Int) ≤ (↑i : Int) - (2 : Int) ∧ (↑i : Int) - (2 : Int) < ((80 : Nat) : Int), 0 + Int.toNat ((↑i : Int) - (2 : Int)) * 1 < List.length l, inI ((↑i : Int) - (16 : Int)), (0 : Int) ≤ (↑i : Int) - (16 : Int) ∧ (↑i : Int) - (16 : Int) < ((80 : Nat) : Int), 0 + Int.toNat ((↑i : Int) - (16 : Int)) * 1 < List.length l, inI ((↑i : Int) - (7 : Int)), (0 : Int) ≤ (↑i : Int) - (7 : Int) ∧ (↑i : Int) - (7 : Int) < ((80 : Nat) : Int), 0 + Int.toNat ((↑i : Int) - (7 : Int)) * 1 < List.length l, (0 : Int) ≤ (↑i : Int) ∧ (↑i : Int) < ((80 : Nat) : Int), 0 + i * 1 < List.length l, inI ((↑i : Int) + (1 : Int))], .normal, T65a s c ((i : Int) + 1), M65a e h (wB (l.set (iT i) (schQ l i)))) := by kernel_rfl
theorem r65x (e : TypeId) (h : W8) (c : Nat) (s : ByteArray) (l : List Nat) (i : Nat) : runTo (E65 zW) 1000 (Env.S (E65 zW) 81) (bodyOf Tryz.prog 81 3) (T65a s c (↑i : Int)) (M65a e h (wB l)) [false] (T65a s c (↑i : Int)) 4 =
    some ([decide ((↑i : Int) < (80 : Int)) = false], (.exit 0), T65a s c (i : Int), M65a e h (wB l)) := by kernel_rfl
theorem r65c (e : TypeId) (h v : W8) (u : Nat → Nat) (c i : Nat) : runTo (E65 u) 1000 (Env.S (E65 u) 81) (bodyOf Tryz.prog 81 11) (T65b c (i : Int)) (M65b e h v u) [true] (T65b c ((i : Int) + 1)) 5 =
    some ([decide ((i : Int) < 80) = true, (0 : Int) ≤ (i : Int) ∧ (i : Int) < ((80 : Nat) : Int), LoadsAs Tryz.prog 103 (cells64 80 0 shaK) (iT i) (.one (.u .u64 (shaK (iT i)))), (0 : Int) ≤ (i : Int) ∧ (i : Int) < ((80 : Nat) : Int), LoadsAs Tryz.prog 103 (cells64 80 0 u) (iT i) (.one (.u .u64 (u (iT i)))), inI ((i : Int) + 1)], .normal, T65b c ((i : Int) + 1), M65b e h (rnd v (shaK (iT i)) (u (iT i))) u) := by kernel_rfl
theorem r65y (e : TypeId) (h : W8) (v : W8) (u : Nat → Nat) (c : Nat) (i : Nat) : runTo (E65 u) 1000 (Env.S (E65 u) 81) (bodyOf Tryz.prog 81 11) (T65b c (↑i : Int)) (M65b e h v u) [false] (T65b c (↑i : Int)) 5 =
    some ([decide ((↑i : Int) < (80 : Int)) = false], (.exit 2), T65b c (i : Int), M65b e h v u) := by kernel_rfl
theorem M65a_free (e : TypeId) (h : W8) (w : Blk) (hw : Free w) : ∀ b ∈ M65a e h w, Free b := by
  intro b hb
  simp only [M65a, List.mem_cons, List.not_mem_nil, or_false] at hb
  rcases hb with rfl | rfl | rfl | rfl
  · exact fun f => cells64_free _ f _ _
  · exact hB_free _
  · exact hB_free _
  · exact hw
theorem M65a_len (e : TypeId) (h : W8) (w : Blk) : (M65a e h w).length = 4 := by simp only [M65a, List.length_cons, List.length_nil]
theorem wf65a (e : TypeId) (h : W8) (w : Blk) (hw : Free w) (s : ByteArray) (c : Nat) (i : Int) : wfS (T65a s c i) (M65a e h w) = true := wfS_of (M65a_free e h w hw) (by rw [M65a_len]; kernel_rfl)
theorem M65b_free (e : TypeId) (h v : W8) (u : Nat → Nat) : ∀ b ∈ M65b e h v u, Free b := by
  intro b hb
  simp only [M65b, List.mem_cons, List.not_mem_nil, or_false] at hb
  rcases hb with rfl | rfl | rfl | rfl | rfl
  · exact fun f => cells64_free _ f _ _
  · exact hB_free _
  · exact hB_free _
  · exact cB_free _
  · exact hB_free _
theorem M65b_len (e : TypeId) (h v : W8) (u : Nat → Nat) : (M65b e h v u).length = 5 := by simp only [M65b, List.length_cons, List.length_nil]
theorem wf65b (e : TypeId) (h v : W8) (u : Nat → Nat) (c : Nat) (i : Int) : wfS (T65b c i) (M65b e h v u) = true := wfS_of (M65b_free e h v u) (by rw [M65b_len]; kernel_rfl)
theorem step65a (e : TypeId) (h : W8) (c : Nat) (s : ByteArray) (hs : 128 ≤ s.size) (hl : s.size ≤ 4611686018427387904) (i : Nat) (hi : i < 80) (l : List Nat) (hlen : l.length = 80) :
    Goes Tryz.prog (bodyOf Tryz.prog 81 3) .normal (T65a s c (i : Int)) (M65a e h (wB l)) (T65a s c ((i : Int) + 1)) (M65a e h (wB (l.set i (bif decide (i < 16) then word8 s (8 * i) else schP l i)))) := by
  by_cases h16 : i < 16
  · have hr := r65a e h c s l i
    rw [show (Int.toNat ((8 : Int) * (i : Int))) = 8 * i by omega, show (Int.toNat ((8 : Int) * (i : Int) + 8)) = 8 * i + 8 by omega, word8_cut s (8 * i) (8 * i + 8) (by omega) (by omega), iT_eq] at hr
    rw [decide_eq_true h16, cond_true]
    exact Runs.goes (envE65 zW) ⟨_, _, hr, ⟨decide_eq_true (by omega), decide_eq_true (by omega), by unfold inI; omega, by unfold inI; omega, by unfold inI; omega, by omega, by omega, by rw [cut_size _ _ _ (by omega)]; omega, by omega, by omega, by unfold inI; omega, trivial⟩, wf65a _ _ _ (wB_free _) _ _ _⟩
  · have hr := r65b e h c s l i
    rw [iT_eq, schQ_eq] at hr
    rw [decide_eq_false h16, cond_false]
    exact Runs.goes (envE65 zW) ⟨_, _, hr, ⟨decide_eq_true (by omega), decide_eq_false (by omega), by unfold inI; omega, by omega, by omega, by unfold inI; omega, by omega, by omega, by unfold inI; omega, by omega, by omega, by unfold inI; omega, by omega, by omega, by omega, by omega, by unfold inI; omega, trivial⟩, wf65a _ _ _ (wB_free _) _ _ _⟩
theorem loop65a (e : TypeId) (h0 : W8) (c : Nat) (s : ByteArray) (hs : 128 ≤ s.size) (hl : s.size ≤ 4611686018427387904) (n : Nat) (hn : n = 80) (L : Nat → List Nat) (hL : ∀ i, (L i).length = 80) (h : ∀ i, L (i + 1) = (L i).set i (bif decide (i < 16) then word8 s (8 * i) else schP (L i) i)) :
    Goes Tryz.prog (.loop (bodyOf Tryz.prog 81 3)) (.exit 0) (T65a s c ((0 : Nat) : Int)) (M65a e h0 (wB (L 0))) (T65a s c (n : Int)) (M65a e h0 (wB (L n))) := by
  refine loop_goes (N := n) (k := 4) (T := fun i => T65a s c (i : Int)) (M := fun i => M65a e h0 (wB (L i))) (by simp) (fun _ _ => M65a_len _ _ _) (fun i hi => ?_) ?_
  · have := step65a e h0 c s hs hl i (by omega) (L i) (hL i)
    rw [← h i] at this
    exact this
  · exact Runs.goes (envE65 zW) ⟨_, _, r65x e h0 c s (L n) n, ⟨decide_eq_false (by omega), trivial⟩, wf65a _ _ _ (wB_free _) _ _ _⟩
theorem sch65 (e : TypeId) (h : W8) (c : Nat) (s : ByteArray) (hs : 128 ≤ s.size) (hl : s.size ≤ 4611686018427387904) :
    Goes Tryz.prog (.loop (bodyOf Tryz.prog 81 3)) (.exit 0) (T65a s c ((0 : Nat) : Int)) (M65a e h (cB zW)) (T65a s c ((80 : Nat) : Int)) (M65a e h (cB (schW s))) := by
  refine Goes.before (Goes.after (loop65a e h c s hs hl 80 rfl (schL s) (schL_len s) (fun _ => rfl)) (sameT_refl _) ⟨⟨rfl, rfl, rfl, rfl, fun φ => rfl⟩, ⟨rfl, rfl, rfl, rfl, fun φ => rfl⟩, ⟨rfl, rfl, rfl, rfl, fun φ => rfl⟩, ⟨rfl, rfl, rfl, rfl, fun φ => ?_⟩, trivial⟩ (wf65a _ _ _ (cB_free _) _ _ _))
    (sameT_refl _) ⟨⟨rfl, rfl, rfl, rfl, fun φ => rfl⟩, ⟨rfl, rfl, rfl, rfl, fun φ => rfl⟩, ⟨rfl, rfl, rfl, rfl, fun φ => rfl⟩, ⟨rfl, rfl, rfl, rfl, fun φ => ?_⟩, trivial⟩ (wf65a _ _ _ (wB_free _) _ _ _)
  · exact arr64_conc φ (schL s 80) 80 (schL_len s 80)
  · exact (arr64_conc φ (List.replicate 80 0) 80 List.length_replicate).symm
theorem step65b (e : TypeId) (h v : W8) (u : Nat → Nat) (c i : Nat) (hi : i < 80) : Goes Tryz.prog (bodyOf Tryz.prog 81 11) .normal (T65b c (i : Int)) (M65b e h v u) (T65b c ((i : Int) + 1)) (M65b e h (rnd v (shaK i) (u i)) u) := by
  have hr := r65c e h v u c i
  rw [iT_eq] at hr
  exact Runs.goes (envE65 u) ⟨_, _, hr, ⟨decide_eq_true (by omega), by omega, ld64 _ _ _ hi, by omega, ld64 _ _ _ hi, by unfold inI; omega, trivial⟩, wf65b _ _ _ _ _ _⟩
theorem loop65b (e : TypeId) (h : W8) (u : Nat → Nat) (c n : Nat) (hn : n = 80) (V : Nat → W8) (hV : ∀ i, V (i + 1) = rnd (V i) (shaK i) (u i)) :
    Goes Tryz.prog (.loop (bodyOf Tryz.prog 81 11)) (.exit 2) (T65b c ((0 : Nat) : Int)) (M65b e h (V 0) u) (T65b c (n : Int)) (M65b e h (V n) u) := by
  refine loop_goes (N := n) (k := 5) (T := fun i => T65b c (i : Int)) (M := fun i => M65b e h (V i) u) (by simp) (fun _ _ => M65b_len _ _ _ _) (fun i hi => ?_) ?_
  · have := step65b e h (V i) u c i (by omega)
    rw [← hV i] at this
    exact this
  · exact Runs.goes (envE65 u) ⟨_, _, r65y e h (V n) u c n, ⟨decide_eq_false (by omega), trivial⟩, wf65b _ _ _ _ _ _⟩
theorem rounds65 (e : TypeId) (h : W8) (u : Nat → Nat) (c : Nat) : Goes Tryz.prog (.loop (bodyOf Tryz.prog 81 11)) (.exit 2) (T65b c ((0 : Nat) : Int)) (M65b e h h u) (T65b c ((80 : Nat) : Int)) (M65b e h (vE u h) u) := loop65b e h u c 80 rfl (vR u h) (fun _ => rfl)
noncomputable def E65L (e : TypeId) (h : W8) (s : ByteArray) (c : Nat) : Env := withL (E65 (schW s)) 3 (bodyOf Tryz.prog 81 3) (sumC (T65a s c ((0 : Nat) : Int)) (M65a e h (cB zW)) (T65a s c ((80 : Nat) : Int)) (M65a e h (cB (schW s))) (.exit 0))
noncomputable def addLp (E : Env) (k : Nat) (y : Code) (f : List AV → List Blk → List Bool → CoR) : Env := { E with lp := fun j => match Nat.beq j k with | true => some (y, f) | false => E.lp j }
theorem envAddLp {E : Env} (hE : EnvOK E) {k : Nat} {y : Code} {f : List AV → List Blk → List Bool → CoR} (h : SumOK E.P (.loop y) f) : EnvOK (addLp E k y f) := by
  refine ⟨hE.mixed, hE.fns, hE.fms, ?_, hE.fbs⟩
  intro j y' f' hj
  simp only [addLp] at hj
  split at hj
  · simp only [Option.some.injEq, Prod.mk.injEq] at hj
    obtain ⟨rfl, rfl⟩ := hj
    exact h
  · exact hE.lps j y' f' hj
noncomputable def E65M (e : TypeId) (h : W8) (s : ByteArray) (c : Nat) : Env := addLp (E65L e h s c) 11 (bodyOf Tryz.prog 81 11) (sumC (T65b c ((0 : Nat) : Int)) (M65b e h h (schW s)) (T65b c ((80 : Nat) : Int)) (M65b e h (vE (schW s) h) (schW s)) (.exit 2))
theorem envE65L (e : TypeId) (h : W8) (s : ByteArray) (c : Nat) (hs : 128 ≤ s.size) (hl : s.size ≤ 4611686018427387904) : EnvOK (E65L e h s c) := envWithL (envE65 _) (sumC_ok (by rw [M65a_len, M65a_len]) (sch65 e h c s hs hl))
theorem envE65M (e : TypeId) (h : W8) (s : ByteArray) (c : Nat) (hs : 128 ≤ s.size) (hl : s.size ≤ 4611686018427387904) : EnvOK (E65M e h s c) := envAddLp (envE65L e h s c hs hl) (sumC_ok (by rw [M65b_len, M65b_len]) (rounds65 e h (schW s) c))
def slK (c : Nat) : V1 := .one (.sl 0 0 80 c)
theorem r65 (e : TypeId) (h : W8) (s : ByteArray) (c : Nat) : dropM (callBy (E65M e h s c) (evalC (E65M e h s c) 1000) 81 [aV h, sS s, slK c] [tB e] []) =
    some ([bodyOf Tryz.prog 81 3 = bodyOf Tryz.prog 81 3, (T65a s c ((0 : Nat) : Int), M65a e h (cB zW)) = (T65a s c ((0 : Nat) : Int), M65a e h (cB zW)), wfS (T65a s c ((0 : Nat) : Int)) (M65a e h (cB zW)) = true,
      bodyOf Tryz.prog 81 11 = bodyOf Tryz.prog 81 11, (T65b c ((0 : Nat) : Int), M65b e h h (schW s)) = (T65b c ((0 : Nat) : Int), M65b e h h (schW s)), wfS (T65b c ((0 : Nat) : Int)) (M65b e h h (schW s)) = true], .val (aV (blk5 h s))) := by kernel_rfl
end Go.Ev.H5

