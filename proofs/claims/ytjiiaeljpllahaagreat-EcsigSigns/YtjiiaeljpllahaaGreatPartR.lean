/- Keyed sums, nodes, and the law, of every input; Bytes of numbers and of points -/
import Derived.Test.YtjiiaeljpllahaaGreatPartQ
import Derived.Test.YtjiiaeljpllahaaGreatPartP
import Derived.Test.YtjiiaeljpllahaaGreatPartJ
import Derived.Test.YtjiiaeljpllahaaGreatPartN
namespace Go.Ev.H5
open Go Go.Proofs Go.RowKit
def M32 : Nat := 4294967296
def rot2 (x n : Nat) : Nat := x * 2 ^ (32 - n) % M32 % M32 ||| x / 2 ^ n % M32
def rot2' (x n : Nat) : Nat := x / 2 ^ n % M32 ||| x * 2 ^ (32 - n) % M32 % M32
theorem rot2'_eq (x n : Nat) : rot2' x n = rot2 x n := Nat.or_comm _ _
def turns2 : List Nat := [2, 6, 7, 11, 13, 17, 18, 19, 22, 25]
theorem run134 (x : Nat) : ∀ n, n ∈ turns2 → callR E0 1000 134 [u32 x, .one (.i (n : Int))] [] = some ([], .val (u32 (rot2 x n))) := by
  intro n h
  simp only [turns2, List.mem_cons, List.not_mem_nil, or_false] at h
  rcases h with rfl | rfl | rfl | rfl | rfl | rfl | rfl | rfl | rfl | rfl <;> kernel_rfl
theorem run156 (x : Nat) : ∀ n, n ∈ turns2 → callR E0 1000 156 [u32 x, .one (.i (n : Int))] [] = some ([], .val (u32 (rot2' x n))) := by
  intro n h
  simp only [turns2, List.mem_cons, List.not_mem_nil, or_false] at h
  rcases h with rfl | rfl | rfl | rfl | rfl | rfl | rfl | rfl | rfl | rfl <;> kernel_rfl
def fnRot2 (vs : List V1) : Option (List Prop × AV) :=
  match vs with
  | [.one (.u .u32 x), .one (.i (.ofNat n))] => match memN n turns2 with
    | true => some ([], .val (u32 (rot2 x n)))
    | false => none
  | _ => none
theorem memN_mem {n : Nat} : ∀ {l : List Nat}, memN n l = true → n ∈ l
  | [], h => by simp [memN] at h
  | a :: l, h => by
    simp only [memN, Bool.or_eq_true] at h
    rcases h with h | h
    · rw [Nat.eq_of_beq_eq_true h]; exact List.mem_cons_self
    · exact List.mem_cons_of_mem _ (memN_mem h)
theorem ct134 : CTok ⟨134, fnRot2⟩ := by
  intro vs ob r h _
  simp only [fnRot2] at h
  split at h
  · split at h
    · rename_i hn
      simp only [Option.some.injEq, Prod.mk.injEq] at h
      obtain ⟨_, rfl⟩ := h
      exact spec_run envE0 rfl (run134 _ _ (memN_mem hn)) trivial rfl rfl
    · simp at h
  · simp at h
theorem ct156 : CTok ⟨156, fnRot2⟩ := by
  intro vs ob r h _
  simp only [fnRot2] at h
  split at h
  · rename_i x n
    split at h
    · rename_i hn
      simp only [Option.some.injEq, Prod.mk.injEq] at h
      obtain ⟨_, rfl⟩ := h
      have := spec_run envE0 rfl (run156 x n (memN_mem hn)) trivial rfl rfl
      rw [rot2'_eq] at this
      exact this
    · simp at h
  · simp at h
def xor32 (x y : Nat) : Nat := x % M32 ^^^ y % M32
def and32 (x y : Nat) : Nat := x % M32 &&& y % M32
def or32 (x y : Nat) : Nat := x % M32 ||| y % M32
def add32 (x y : Nat) : Nat := (x + y) % M32
def not32 (x : Nat) : Nat := M32 - 1 - x % M32
def sg0 (x : Nat) : Nat := xor32 (xor32 (rot2 x 7) (rot2 x 18)) (x / 2 ^ 3)
def sg1 (y : Nat) : Nat := xor32 (xor32 (rot2 y 17) (rot2 y 19)) (y / 2 ^ 10)
def scP (l : List Nat) (i : Nat) : Nat := add32 (add32 (add32 (l.getD (ixD i 16) 0) (sg0 (l.getD (ixD i 15) 0))) (l.getD (ixD i 7) 0)) (sg1 (l.getD (ixD i 2) 0))
def scQ (l : List Nat) (i : Nat) : Nat := add32 (add32 (add32 (l.getD (ixD i 16) 0) (l.getD (ixD i 7) 0)) (sg0 (l.getD (ixD i 15) 0))) (sg1 (l.getD (ixD i 2) 0))
theorem add32_swap (a b c : Nat) : add32 (add32 a b) c = add32 (add32 a c) b := by
  unfold add32
  rw [Nat.mod_add_mod, Nat.mod_add_mod]
  congr 1; omega
theorem scQ_eq (l : List Nat) (i : Nat) : scQ l i = scP l i := by unfold scQ scP; rw [add32_swap (l.getD (ixD i 16) 0)]
def wB2 (l : List Nat) : Blk := ⟨[.arr .u32 l], 159, true, false, 0⟩
noncomputable def L132 : List CT := [⟨134, fnRot2⟩, ⟨156, fnRot2⟩]
theorem L132_ok : AllCT L132 := ⟨ct134, ct156, trivial⟩
noncomputable def S132 : FuncId → Nat → Bool := fun f t => match f with
  | 132 => memN t [9, 12, 16, 17, 22, 23, 24, 30, 31, 32, 38, 39, 40, 43, 4000043, 45, 46, 2000047, 49, 50, 2000051, 70, 71, 2000072, 76, 77, 2000078, 82, 4000082, 83]
  | 94 => memN t [19, 23, 27, 28, 33, 34, 35, 41, 42, 43, 49, 50, 51, 54, 4000054, 56, 57, 2000058, 60, 61, 2000062, 65, 66, 2000067, 69, 70, 2000071, 91, 4000091, 21, 94, 125, 2000126, 131, 2000132, 96]
  | _ => false
def T132 (s : ByteArray) (i : Int) : List AV := slots 85 [(0, .val (sS s)), (2, pV 0), (8, iV i)]
noncomputable def E132 : Env := mkE L132 S132
end Go.Ev.H5

namespace Go.Ev.H5
open Go Go.Proofs Go.RowKit
def sh4 (b n : Nat) : Nat := b % M32 * 2 ^ n % M32
def wd4 (s : ByteArray) (a b c d : Nat) : Nat := or32 (or32 (or32 (sh4 (byteAt s a) 24) (sh4 (byteAt s b) 16)) (sh4 (byteAt s c) 8)) (byteAt s d % M32)
def inB4 (s : ByteArray) (z : Int) : Prop := 0 ≤ z ∧ z < (s.size : Int)
def ob4 (s : ByteArray) (i : Nat) : List Prop := [inI (4 * (i : Int)), inB4 s (4 * (i : Int)), inI (4 * (i : Int)), inI (4 * (i : Int) + 1), inB4 s (4 * (i : Int) + 1), inI (4 * (i : Int)), inI (4 * (i : Int) + 2), inB4 s (4 * (i : Int) + 2), inI (4 * (i : Int)), inI (4 * (i : Int) + 3), inB4 s (4 * (i : Int) + 3)]
def wdi (s : ByteArray) (i : Nat) : Nat := wd4 s (4 * (i : Int)).toNat (4 * (i : Int) + 1).toNat (4 * (i : Int) + 2).toNat (4 * (i : Int) + 3).toNat
def in64 (i : Nat) : Prop := (0 : Int) ≤ (i : Int) ∧ (i : Int) < ((64 : Nat) : Int)
def obS (d : Nat) (l : List Nat) (i : Nat) : List Prop := [inI ((i : Int) - (d : Int)), (0 : Int) ≤ (i : Int) - (d : Int) ∧ (i : Int) - (d : Int) < ((64 : Nat) : Int), ixD i d < l.length]
theorem a132 (s : ByteArray) (l : List Nat) (i : Nat) : runTo E132 1000 (Env.S E132 132) (bodyOf Tryz.prog 132 2) (T132 s (i : Int)) [wB2 l] [true, true] (T132 s ((i : Int) + 1)) 1 =
    some ((decide ((i : Int) < 64) = true) :: (decide ((i : Int) < 16) = true) :: (ob4 s i ++ [in64 i, iT i < l.length, inI ((i : Int) + 1)]), .normal, T132 s ((i : Int) + 1), [wB2 (l.set (iT i) (wdi s i))]) := by kernel_rfl
theorem b132 (s : ByteArray) (l : List Nat) (i : Nat) : runTo E132 1000 (Env.S E132 132) (bodyOf Tryz.prog 132 2) (T132 s (i : Int)) [wB2 l] [true, false] (T132 s ((i : Int) + 1)) 1 =
    some ((decide ((i : Int) < 64) = true) :: (decide ((i : Int) < 16) = false) :: (obS 15 l i ++ obS 2 l i ++ obS 16 l i ++ obS 7 l i ++ [in64 i, iT i < l.length, inI ((i : Int) + 1)]), .normal, T132 s ((i : Int) + 1), [wB2 (l.set (iT i) (scP l i))]) := by kernel_rfl
theorem x132 (s : ByteArray) (l : List Nat) (i : Nat) : runTo E132 1000 (Env.S E132 132) (bodyOf Tryz.prog 132 2) (T132 s (i : Int)) [wB2 l] [false] (T132 s (i : Int)) 1 =
    some ([decide ((i : Int) < 64) = false], .exit 0, T132 s (i : Int), [wB2 l]) := by kernel_rfl
end Go.Ev.H5

namespace Go.Ev.H5
open Go Go.Proofs Go.RowKit
def word4 (s : ByteArray) (i : Nat) : Nat := wd4 s i (i + 1) (i + 2) (i + 3)
theorem wdi_eq (s : ByteArray) (i : Nat) : wdi s i = word4 s (4 * i) := by
  unfold wdi word4
  rw [show (4 * (i : Int)).toNat = 4 * i by omega, show (4 * (i : Int) + 1).toNat = 4 * i + 1 by omega, show (4 * (i : Int) + 2).toNat = 4 * i + 2 by omega, show (4 * (i : Int) + 3).toNat = 4 * i + 3 by omega]
def nxt2 (s : ByteArray) (l : List Nat) (i : Nat) : Nat := bif decide (i < 16) then word4 s (4 * i) else scP l i
def scL (s : ByteArray) : Nat → List Nat
  | 0 => List.replicate 64 0
  | i + 1 => (scL s i).set i (nxt2 s (scL s i) i)
theorem scL_len (s : ByteArray) : ∀ i, (scL s i).length = 64
  | 0 => List.length_replicate
  | i + 1 => by rw [scL, List.length_set]; exact scL_len s i
theorem wB2_free (l : List Nat) : Free (wB2 l) := fun _ => rfl
theorem free1 {b : Blk} (h : Free b) : ∀ c ∈ [b], Free c := by
  intro c hc
  rw [List.mem_singleton] at hc
  subst hc; exact h
theorem wf132 (s : ByteArray) (w : Blk) (hw : Free w) (i : Int) : wfS (T132 s i) [w] = true := wfS_of (free1 hw) (by show tmsWf 1 _ = true; kernel_rfl)
theorem envE132 : EnvOK E132 := envMk L132_ok _
theorem ob4_ok {s : ByteArray} (hs : 64 ≤ s.size) {i : Nat} (h : i < 16) : All (ob4 s i) := by
  have a : ∀ z : Int, 0 ≤ z → z < 64 → inI z := fun z h1 h2 => by unfold inI; omega
  have b : ∀ z : Int, 0 ≤ z → z < 64 → inB4 s z := fun z h1 h2 => by unfold inB4; omega
  exact ⟨a _ (by omega) (by omega), b _ (by omega) (by omega), a _ (by omega) (by omega), a _ (by omega) (by omega), b _ (by omega) (by omega), a _ (by omega) (by omega), a _ (by omega) (by omega), b _ (by omega) (by omega), a _ (by omega) (by omega), a _ (by omega) (by omega), b _ (by omega) (by omega), trivial⟩
theorem obS_ok {d i : Nat} {l : List Nat} (hl : l.length = 64) (h1 : d ≤ i) (h2 : i < 64) (h3 : 0 < d) : inI ((i : Int) - (d : Int)) ∧ ((0 : Int) ≤ (i : Int) - (d : Int) ∧ (i : Int) - (d : Int) < ((64 : Nat) : Int)) ∧ ixD i d < l.length := by
  refine ⟨by unfold inI; omega, by omega, ?_⟩
  unfold ixD; omega
theorem tail_ok {i : Nat} {l : List Nat} (hl : l.length = 64) (h : i < 64) : All [in64 i, iT i < l.length, inI ((i : Int) + 1)] :=
  ⟨by unfold in64; omega, by rw [iT_eq]; omega, by unfold inI; omega, trivial⟩
theorem All_app : ∀ {a b : List Prop}, All a → All b → All (a ++ b)
  | [], _, _, hb => hb
  | _ :: _, _, ha, hb => ⟨ha.1, All_app ha.2 hb⟩
theorem obA_ok {s : ByteArray} (hs : 64 ≤ s.size) {i : Nat} {l : List Nat} (hl : l.length = 64) (h : i < 16) : All ((decide ((i : Int) < 64) = true) :: (decide ((i : Int) < 16) = true) :: (ob4 s i ++ [in64 i, iT i < l.length, inI ((i : Int) + 1)])) :=
  ⟨decide_eq_true (by omega), decide_eq_true (by omega), All_app (ob4_ok hs h) (tail_ok hl (by omega))⟩
def obSs (l : List Nat) (i : Nat) : List Prop := obS 15 l i ++ obS 2 l i ++ obS 16 l i ++ obS 7 l i ++ [in64 i, iT i < l.length, inI ((i : Int) + 1)]
theorem obB_ok {i : Nat} {l : List Nat} (hl : l.length = 64) (h1 : 16 ≤ i) (h2 : i < 64) : All ((decide ((i : Int) < 64) = true) :: (decide ((i : Int) < 16) = false) :: obSs l i) := by
  have g : ∀ d, 0 < d → d ≤ 16 → All (obS d l i) := fun d h3 h4 => by
    obtain ⟨a, b, c⟩ := obS_ok (d := d) hl (by omega) h2 h3
    exact ⟨a, b, c, trivial⟩
  exact ⟨decide_eq_true (by omega), decide_eq_false (by omega), All_app (All_app (All_app (All_app (g 15 (by omega) (by omega)) (g 2 (by omega) (by omega))) (g 16 (by omega) (by omega))) (g 7 (by omega) (by omega))) (tail_ok hl h2)⟩
theorem step132 (s : ByteArray) (hs : 64 ≤ s.size) (i : Nat) (hi : i < 64) (l : List Nat) (hlen : l.length = 64) :
    Goes Tryz.prog (bodyOf Tryz.prog 132 2) .normal (T132 s (i : Int)) [wB2 l] (T132 s ((i : Int) + 1)) [wB2 (l.set i (nxt2 s l i))] := by
  unfold nxt2
  by_cases h16 : i < 16
  · have hr := a132 s l i
    rw [wdi_eq] at hr
    have ho := obA_ok hs hlen h16
    rw [iT_eq] at hr ho
    rw [decide_eq_true h16, cond_true]
    exact Runs.goes envE132 ⟨_, _, hr, ho, wf132 _ _ (wB2_free _) _⟩
  · have hr := b132 s l i
    have ho := obB_ok hlen (by omega) hi
    unfold obSs at ho
    rw [iT_eq] at hr ho
    rw [decide_eq_false h16, cond_false]
    exact Runs.goes envE132 ⟨_, _, hr, ho, wf132 _ _ (wB2_free _) _⟩
theorem cellsU_conc (φ : Loc) (u : Nat → Nat) : ∀ n j, concs φ (cellsU n j u) = (List.range' j n).map fun i => Value.int .u32 ((u i : Nat) : Int)
  | 0, _ => rfl
  | n + 1, j => by
    rw [List.range'_succ, List.map_cons, ← cellsU_conc φ u n (j + 1)]
    rfl
theorem arr32_conc (φ : Loc) (l : List Nat) (n : Nat) (h : l.length = n) : concs φ [.arr .u32 l] = concs φ (cellsU n 0 fun j => l.getD j 0) := by
  rw [cellsU_conc, arr_conc]
  subst h
  apply List.ext_getElem (by simp)
  intro i h1 h2
  simp only [List.getElem_map, List.getElem_range']
  rw [List.length_map] at h1
  simp [List.getD_eq_getElem?_getD, List.getElem?_eq_getElem h1]
noncomputable def scW (s : ByteArray) (j : Nat) : Nat := (scL s 64).getD j 0
def cB2 (u : Nat → Nat) : Blk := ⟨cellsU 64 0 u, 159, true, false, 0⟩
theorem cB2_free (u : Nat → Nat) : Free (cB2 u) := fun f => cellsU_free u f 64 0
theorem sc_loop (s : ByteArray) (hs : 64 ≤ s.size) : Goes Tryz.prog (.loop (bodyOf Tryz.prog 132 2)) (.exit 0) (T132 s ((0 : Nat) : Int)) [cB2 zW] (T132 s ((64 : Nat) : Int)) [cB2 (scW s)] := by
  have h : Goes Tryz.prog (.loop (bodyOf Tryz.prog 132 2)) (.exit 0) (T132 s ((0 : Nat) : Int)) [wB2 (scL s 0)] (T132 s ((64 : Nat) : Int)) [wB2 (scL s 64)] := by
    refine loop_goes (N := 64) (k := 1) (T := fun i => T132 s (i : Int)) (M := fun i => [wB2 (scL s i)]) (by simp) (fun _ _ => rfl) (fun i hi => step132 s hs i hi (scL s i) (scL_len s i)) ?_
    exact Runs.goes envE132 ⟨_, _, x132 s (scL s 64) 64, ⟨by decide, trivial⟩, wf132 _ _ (wB2_free _) _⟩
  refine Goes.before (Goes.after h (sameT_refl _) ⟨⟨rfl, rfl, rfl, rfl, fun φ => ?_⟩, trivial⟩ (wf132 _ _ (cB2_free _) _)) (sameT_refl _) ⟨⟨rfl, rfl, rfl, rfl, fun φ => ?_⟩, trivial⟩ (wf132 _ _ (wB2_free _) _)
  · exact arr32_conc φ (scL s 64) 64 (scL_len s 64)
  · exact (arr32_conc φ (List.replicate 64 0) 64 List.length_replicate).symm
def W8.c32 (x : W8) : List Piece := [.a (.u .u32 x.a), .a (.u .u32 x.b), .a (.u .u32 x.c), .a (.u .u32 x.d), .a (.u .u32 x.e), .a (.u .u32 x.f), .a (.u .u32 x.g), .a (.u .u32 x.h)]
def aV2 (x : W8) : V1 := .agg x.c32
noncomputable def E132L (s : ByteArray) : Env := withL E132 2 (bodyOf Tryz.prog 132 2) (sumC (T132 s ((0 : Nat) : Int)) [cB2 zW] (T132 s ((64 : Nat) : Int)) [cB2 (scW s)] (.exit 0))
noncomputable def scV (s : ByteArray) : V1 := .agg (cellsU 64 0 (scW s))
theorem r132 (s : ByteArray) : callR (E132L s) 1000 132 [sS s] [] =
    some ([bodyOf Tryz.prog 132 2 = bodyOf Tryz.prog 132 2, (T132 s ((0 : Nat) : Int), [cB2 zW]) = (T132 s ((0 : Nat) : Int), [cB2 zW]), wfS (T132 s ((0 : Nat) : Int)) [cB2 zW] = true], .val (scV s)) := by kernel_rfl
noncomputable def fnSc (vs : List V1) : Option (List Prop × AV) :=
  match vs with
  | [.one (.v (.string s))] => some ([64 ≤ s.size], .val (scV s))
  | _ => none
theorem ct132 : CTok ⟨132, fnSc⟩ := by
  intro vs ob r h ho
  simp only [fnSc] at h
  split at h
  · simp only [Option.some.injEq, Prod.mk.injEq] at h
    obtain ⟨rfl, rfl⟩ := h
    exact spec_run (envWithL envE132 (sumC_ok (by simp only [List.length_cons]) (sc_loop _ ho.1))) rfl (r132 _) ⟨rfl, rfl, wf132 _ _ (cB2_free _) _, trivial⟩ rfl rfl
  · simp at h
end Go.Ev.H5

namespace Go.Ev.H5
open Go Go.Proofs Go.RowKit
def k2 (i : Nat) : Nat := shaK i / 2 ^ 32 % M32
def kV2 : V1 := .agg (cellsU 64 0 k2)
theorem r133 : callR E0 1000 133 [] [] = some ([], .val kV2) := by kernel_rfl
theorem ct133 : CTok ⟨133, cV (.val kV2)⟩ := ctV (spec_run envE0 rfl r133 trivial rfl rfl)
def rnd2 (v : W8) (k w : Nat) : W8 :=
  let one := add32 (add32 (add32 (add32 v.h (xor32 (xor32 (rot2 v.e 6) (rot2 v.e 11)) (rot2 v.e 25))) (xor32 (and32 v.e v.f) (and32 (not32 v.e) v.g))) k) w
  let two := add32 (xor32 (xor32 (rot2 v.a 2) (rot2 v.a 13)) (rot2 v.a 22)) (xor32 (xor32 (and32 v.a v.b) (and32 v.a v.c)) (and32 v.b v.c))
  ⟨add32 one two, v.a, v.b, v.c, add32 v.d one, v.e, v.f, v.g⟩
def addW2 (x y : W8) : W8 := ⟨add32 x.a y.a, add32 x.b y.b, add32 x.c y.c, add32 x.d y.d, add32 x.e y.e, add32 x.f y.f, add32 x.g y.g, add32 x.h y.h⟩
def hB2 (x : W8) : Blk := ⟨x.c32, 31, true, false, 0⟩
noncomputable def ldV (t p : Nat) (g : Nat → V1) : CT := ⟨3000000 + t, fun vs => match vs with
  | [.one (.ptr b off)] => match Nat.beq b p with
    | true => some ([False], .val (g off))
    | false => none
  | _ => none⟩
theorem ldV_ok (t p : Nat) (g : Nat → V1) : CTok (ldV t p g) := by
  intro vs ob r h ho
  simp only [ldV] at h
  split at h
  · split at h
    · simp only [Option.some.injEq, Prod.mk.injEq] at h
      obtain ⟨rfl, _⟩ := h
      exact ho.1.elim
    · simp at h
  · simp at h
noncomputable def ldU2 (p q : Nat) (u : Nat → Nat) : CT := ⟨3000024, fun vs => match vs with
  | [.one (.ptr b off)] => match Nat.beq b p with
    | true => some ([False], .val (u32 (u off)))
    | false => match Nat.beq b q with
      | true => some ([False], .val (u32 (k2 off)))
      | false => none
  | _ => none⟩
theorem ldU2_ok (p q : Nat) (u : Nat → Nat) : CTok (ldU2 p q u) := by
  intro vs ob r h ho
  simp only [ldU2] at h
  split at h
  · split at h
    · simp only [Option.some.injEq, Prod.mk.injEq] at h
      obtain ⟨rfl, _⟩ := h
      exact ho.1.elim
    · split at h
      · simp only [Option.some.injEq, Prod.mk.injEq] at h
        obtain ⟨rfl, _⟩ := h
        exact ho.1.elim
      · simp at h
  · simp at h
noncomputable def L74 (u : Nat → Nat) : List CT := ldU2 2 3 u :: ⟨132, fnSc⟩ :: ⟨133, cV (.val kV2)⟩ :: L132
theorem L74_ok (u : Nat → Nat) : AllCT (L74 u) := ⟨ldU2_ok _ _ _, ct132, ct133, L132_ok⟩
noncomputable def S74 : FuncId → Nat → Bool := fun f t => match f with | 74 => memN t [19, 48, 2000049, 52, 2000053, 97] | _ => false
noncomputable def E74 (u : Nat → Nat) : Env := mkE (L74 u) S74
def T74 (i : Int) : List AV := slots 111 [(2, pV 0), (4, pV 1), (5, pV 2), (6, pV 3), (7, pV 4), (18, iV i)]
def M74 (h v : W8) (u : Nat → Nat) : List Blk := [hB2 h, hB2 z8W, cB2 u, cB2 k2, hB2 v]
noncomputable def obRd (u : Nat → Nat) (i : Nat) : List Prop := [decide ((i : Int) < 64) = true, in64 i, LoadsAs Tryz.prog 24 (cellsU 64 0 k2) (iT i) (u32 (k2 (iT i))), in64 i, LoadsAs Tryz.prog 24 (cellsU 64 0 u) (iT i) (u32 (u (iT i))), inI ((i : Int) + 1)]
theorem r74a (h v : W8) (u : Nat → Nat) (i : Nat) : runTo (E74 u) 1000 ((E74 u).S 74) (bodyOf Tryz.prog 74 3) (T74 (i : Int)) (M74 h v u) [true] (T74 ((i : Int) + 1)) 5 =
    some (obRd u i, .normal, T74 ((i : Int) + 1), M74 h (rnd2 v (k2 (iT i)) (u (iT i))) u) := by kernel_rfl
theorem r74x (h v : W8) (u : Nat → Nat) (i : Nat) : runTo (E74 u) 1000 ((E74 u).S 74) (bodyOf Tryz.prog 74 3) (T74 (i : Int)) (M74 h v u) [false] (T74 (i : Int)) 5 =
    some ([decide ((i : Int) < 64) = false], .exit 0, T74 (i : Int), M74 h v u) := by kernel_rfl
theorem agg24 : isAggA Tryz.prog 24 = some false := by kernel_rfl
theorem ld32 (u : Nat → Nat) (n off : Nat) (h : off < n) : LoadsAs Tryz.prog 24 (cellsU n 0 u) off (u32 (u off)) := by
  intro φ
  refine ⟨agg24, ?_⟩
  rw [cellsU_conc, List.getElem?_map, List.getElem?_range' h]
  simp [Atom.conc]
theorem obR_ok {u : Nat → Nat} {i : Nat} (hi : i < 64) : All (obRd u i) := by
  have hj : iT i < 64 := by rw [iT_eq]; exact hi
  exact ⟨decide_eq_true (by omega), by unfold in64; omega, ld32 _ _ _ hj, by unfold in64; omega, ld32 _ _ _ hj, by unfold inI; omega, trivial⟩
def vR2 (u : Nat → Nat) (v : W8) : Nat → W8
  | 0 => v
  | i + 1 => rnd2 (vR2 u v i) (k2 i) (u i)
theorem hB2_free (x : W8) : Free (hB2 x) := fun _ => rfl
theorem M74_free (h v : W8) (u : Nat → Nat) : ∀ b ∈ M74 h v u, Free b := by
  intro b hb
  simp only [M74, List.mem_cons, List.not_mem_nil, or_false] at hb
  rcases hb with rfl | rfl | rfl | rfl | rfl
  · exact hB2_free _
  · exact hB2_free _
  · exact cB2_free _
  · exact cB2_free _
  · exact hB2_free _
theorem M74_len (h v : W8) (u : Nat → Nat) : (M74 h v u).length = 5 := by simp only [M74, List.length_cons, List.length_nil]
theorem wf74 (h v : W8) (u : Nat → Nat) (i : Int) : wfS (T74 i) (M74 h v u) = true := wfS_of (M74_free h v u) (by rw [M74_len]; kernel_rfl)
theorem envE74 (u : Nat → Nat) : EnvOK (E74 u) := envMk (L74_ok u) _
noncomputable def vE2 (u : Nat → Nat) (h : W8) : W8 := vR2 u h 64
theorem loop74 (h : W8) (u : Nat → Nat) (n : Nat) (hn : n = 64) (V : Nat → W8) (hV : ∀ i, V (i + 1) = rnd2 (V i) (k2 i) (u i)) :
    Goes Tryz.prog (.loop (bodyOf Tryz.prog 74 3)) (.exit 0) (T74 ((0 : Nat) : Int)) (M74 h (V 0) u) (T74 (n : Int)) (M74 h (V n) u) := by
  refine loop_goes (N := n) (k := 5) (T := fun i => T74 (i : Int)) (M := fun i => M74 h (V i) u) (by simp) (fun _ _ => M74_len _ _ _) (fun i hi => ?_) ?_
  · have hr := r74a h (V i) u i
    rw [iT_eq, ← hV i] at hr
    exact Runs.goes (envE74 u) ⟨_, _, hr, obR_ok (by omega), wf74 _ _ _ _⟩
  · exact Runs.goes (envE74 u) ⟨_, _, r74x h (V n) u n, ⟨decide_eq_false (by omega), trivial⟩, wf74 _ _ _ _⟩
theorem rounds74 (h : W8) (u : Nat → Nat) : Goes Tryz.prog (.loop (bodyOf Tryz.prog 74 3)) (.exit 0) (T74 ((0 : Nat) : Int)) (M74 h h u) (T74 ((64 : Nat) : Int)) (M74 h (vE2 u h) u) := loop74 h u 64 rfl (vR2 u h) (fun _ => rfl)
noncomputable def E74L (h : W8) (u : Nat → Nat) : Env := withL (E74 u) 3 (bodyOf Tryz.prog 74 3) (sumC (T74 ((0 : Nat) : Int)) (M74 h h u) (T74 ((64 : Nat) : Int)) (M74 h (vE2 u h) u) (.exit 0))
theorem envE74L (h : W8) (u : Nat → Nat) : EnvOK (E74L h u) := envWithL (envE74 u) (sumC_ok (by rw [M74_len, M74_len]) (rounds74 h u))
noncomputable def blk2 (h : W8) (s : ByteArray) : W8 := addW2 h (vE2 (scW s) h)
theorem r74 (h : W8) (s : ByteArray) : callR (E74L h (scW s)) 1000 74 [aV2 h, sS s] [] =
    some ([64 ≤ s.size, bodyOf Tryz.prog 74 3 = bodyOf Tryz.prog 74 3, (T74 ((0 : Nat) : Int), M74 h h (scW s)) = (T74 ((0 : Nat) : Int), M74 h h (scW s)), wfS (T74 ((0 : Nat) : Int)) (M74 h h (scW s)) = true], .val (aV2 (blk2 h s))) := by kernel_rfl
theorem spec74 (h : W8) (s : ByteArray) (hs : 64 ≤ s.size) : Spec 74 [aV2 h, sS s] (.val (aV2 (blk2 h s))) :=
  spec_run (envE74L h (scW s)) rfl (r74 h s) ⟨hs, rfl, rfl, wf74 _ _ _ _, trivial⟩ rfl rfl
noncomputable def fnBl2 (vs : List V1) : Option (List Prop × AV) :=
  match vs with
  | [.agg [.a (.u .u32 a), .a (.u .u32 b), .a (.u .u32 c), .a (.u .u32 d), .a (.u .u32 e), .a (.u .u32 f), .a (.u .u32 g), .a (.u .u32 h)], .one (.v (.string s))] => some ([64 ≤ s.size], .val (aV2 (blk2 ⟨a, b, c, d, e, f, g, h⟩ s)))
  | _ => none
theorem ct74 : CTok ⟨74, fnBl2⟩ := by
  intro vs ob r h ho
  simp only [fnBl2] at h
  split at h
  · simp only [Option.some.injEq, Prod.mk.injEq] at h
    obtain ⟨rfl, rfl⟩ := h
    exact spec74 _ _ ho.1
  · simp at h
end Go.Ev.H5

namespace Go.Ev.H5
open Go Go.Proofs Go.RowKit
noncomputable def L94 (u : Nat → Nat) : List CT := ldV 24 3 (fun off => u32 (u off)) :: ldV 50 0 (fun off => u64 (shaK off)) :: L132
theorem L94_ok (u : Nat → Nat) : AllCT (L94 u) := ⟨ldV_ok _ _ _, ldV_ok _ _ _, L132_ok⟩
noncomputable def E94 (u : Nat → Nat) : Env := mkE (L94 u) S132
theorem envE94 (u : Nat → Nat) : EnvOK (E94 u) := envMk (L94_ok u) _
def T94a (s : ByteArray) (c : Nat) (i : Int) : List AV := slots 190 [(1, .val (sS s)), (2, .val (.one (.sl 0 0 80 c))), (3, pV 1), (6, pV 2), (7, pV 3), (8, iV i)]
def M94a (e : TypeId) (h : W8) (w : Blk) : List Blk := [tB e, hB2 h, hB2 z8W, w]
def T94b (c : Nat) (i : Int) : List AV := slots 190 [(2, .val (.one (.sl 0 0 80 c))), (3, pV 1), (6, pV 2), (7, pV 3), (11, pV 4), (12, iV i)]
def M94b (e : TypeId) (h v : W8) (u : Nat → Nat) : List Blk := [tB e, hB2 h, hB2 z8W, cB2 u, hB2 v]
theorem a94 (e : TypeId) (h : W8) (c : Nat) (s : ByteArray) (l : List Nat) (i : Nat) : runTo (E94 zW) 1000 (Env.S (E94 zW) 94) (bodyOf Tryz.prog 94 3) (T94a s c (i : Int)) (M94a e h (wB2 l)) [true, true] (T94a s c ((i : Int) + 1)) 4 =
    some ((decide ((i : Int) < 64) = true) :: (decide ((i : Int) < 16) = true) :: (ob4 s i ++ [in64 i, iT i < l.length, inI ((i : Int) + 1)]), .normal, T94a s c ((i : Int) + 1), M94a e h (wB2 (l.set (iT i) (wdi s i)))) := by kernel_rfl
theorem b94 (e : TypeId) (h : W8) (c : Nat) (s : ByteArray) (l : List Nat) (i : Nat) : runTo (E94 zW) 1000 (Env.S (E94 zW) 94) (bodyOf Tryz.prog 94 3) (T94a s c (i : Int)) (M94a e h (wB2 l)) [true, false] (T94a s c ((i : Int) + 1)) 4 =
    some ((decide ((i : Int) < 64) = true) :: (decide ((i : Int) < 16) = false) :: obSs l i, .normal, T94a s c ((i : Int) + 1), M94a e h (wB2 (l.set (iT i) (scQ l i)))) := by kernel_rfl
theorem x94 (e : TypeId) (h : W8) (c : Nat) (s : ByteArray) (l : List Nat) (i : Nat) : runTo (E94 zW) 1000 (Env.S (E94 zW) 94) (bodyOf Tryz.prog 94 3) (T94a s c (i : Int)) (M94a e h (wB2 l)) [false] (T94a s c (i : Int)) 4 =
    some ([decide ((i : Int) < 64) = false], .exit 0, T94a s c (i : Int), M94a e h (wB2 l)) := by kernel_rfl
noncomputable def obR4 (u : Nat → Nat) (i : Nat) : List Prop := [decide ((i : Int) < 64) = true, (0 : Int) ≤ (i : Int) ∧ (i : Int) < ((80 : Nat) : Int), LoadsAs Tryz.prog 50 (cells64 80 0 shaK) (iT i) (u64 (shaK (iT i))), in64 i, LoadsAs Tryz.prog 24 (cellsU 64 0 u) (iT i) (u32 (u (iT i))), inI ((i : Int) + 1)]
theorem c94 (e : TypeId) (h v : W8) (u : Nat → Nat) (c i : Nat) : runTo (E94 u) 1000 (Env.S (E94 u) 94) (bodyOf Tryz.prog 94 11) (T94b c (i : Int)) (M94b e h v u) [true] (T94b c ((i : Int) + 1)) 5 =
    some (obR4 u i, .normal, T94b c ((i : Int) + 1), M94b e h (rnd2 v (k2 (iT i)) (u (iT i))) u) := by kernel_rfl
theorem y94 (e : TypeId) (h v : W8) (u : Nat → Nat) (c i : Nat) : runTo (E94 u) 1000 (Env.S (E94 u) 94) (bodyOf Tryz.prog 94 11) (T94b c (i : Int)) (M94b e h v u) [false] (T94b c (i : Int)) 5 =
    some ([decide ((i : Int) < 64) = false], .exit 2, T94b c (i : Int), M94b e h v u) := by kernel_rfl
theorem M94a_free (e : TypeId) (h : W8) (w : Blk) (hw : Free w) : ∀ b ∈ M94a e h w, Free b := by
  intro b hb
  simp only [M94a, List.mem_cons, List.not_mem_nil, or_false] at hb
  rcases hb with rfl | rfl | rfl | rfl
  · exact fun f => cells64_free _ f _ _
  · exact hB2_free _
  · exact hB2_free _
  · exact hw
theorem M94a_len (e : TypeId) (h : W8) (w : Blk) : (M94a e h w).length = 4 := by simp only [M94a, List.length_cons, List.length_nil]
theorem wf94a (e : TypeId) (h : W8) (w : Blk) (hw : Free w) (s : ByteArray) (c : Nat) (i : Int) : wfS (T94a s c i) (M94a e h w) = true := wfS_of (M94a_free e h w hw) (by rw [M94a_len]; kernel_rfl)
theorem M94b_free (e : TypeId) (h v : W8) (u : Nat → Nat) : ∀ b ∈ M94b e h v u, Free b := by
  intro b hb
  simp only [M94b, List.mem_cons, List.not_mem_nil, or_false] at hb
  rcases hb with rfl | rfl | rfl | rfl | rfl
  · exact fun f => cells64_free _ f _ _
  · exact hB2_free _
  · exact hB2_free _
  · exact cB2_free _
  · exact hB2_free _
theorem M94b_len (e : TypeId) (h v : W8) (u : Nat → Nat) : (M94b e h v u).length = 5 := by simp only [M94b, List.length_cons, List.length_nil]
theorem wf94b (e : TypeId) (h v : W8) (u : Nat → Nat) (c : Nat) (i : Int) : wfS (T94b c i) (M94b e h v u) = true := wfS_of (M94b_free e h v u) (by rw [M94b_len]; kernel_rfl)
theorem step94 (e : TypeId) (h : W8) (c : Nat) (s : ByteArray) (hs : 64 ≤ s.size) (i : Nat) (hi : i < 64) (l : List Nat) (hlen : l.length = 64) :
    Goes Tryz.prog (bodyOf Tryz.prog 94 3) .normal (T94a s c (i : Int)) (M94a e h (wB2 l)) (T94a s c ((i : Int) + 1)) (M94a e h (wB2 (l.set i (nxt2 s l i)))) := by
  unfold nxt2
  by_cases h16 : i < 16
  · have hr := a94 e h c s l i
    rw [wdi_eq] at hr
    have ho := obA_ok hs hlen h16
    rw [iT_eq] at hr ho
    rw [decide_eq_true h16, cond_true]
    exact Runs.goes (envE94 zW) ⟨_, _, hr, ho, wf94a _ _ _ (wB2_free _) _ _ _⟩
  · have hr := b94 e h c s l i
    have ho := obB_ok hlen (by omega) hi
    rw [scQ_eq, iT_eq] at hr
    rw [decide_eq_false h16, cond_false]
    exact Runs.goes (envE94 zW) ⟨_, _, hr, ho, wf94a _ _ _ (wB2_free _) _ _ _⟩
theorem sch94 (e : TypeId) (h : W8) (c : Nat) (s : ByteArray) (hs : 64 ≤ s.size) :
    Goes Tryz.prog (.loop (bodyOf Tryz.prog 94 3)) (.exit 0) (T94a s c ((0 : Nat) : Int)) (M94a e h (cB2 zW)) (T94a s c ((64 : Nat) : Int)) (M94a e h (cB2 (scW s))) := by
  have hg : Goes Tryz.prog (.loop (bodyOf Tryz.prog 94 3)) (.exit 0) (T94a s c ((0 : Nat) : Int)) (M94a e h (wB2 (scL s 0))) (T94a s c ((64 : Nat) : Int)) (M94a e h (wB2 (scL s 64))) := by
    refine loop_goes (N := 64) (k := 4) (T := fun i => T94a s c (i : Int)) (M := fun i => M94a e h (wB2 (scL s i))) (by simp) (fun _ _ => M94a_len _ _ _) (fun i hi => step94 e h c s hs i hi (scL s i) (scL_len s i)) ?_
    exact Runs.goes (envE94 zW) ⟨_, _, x94 e h c s (scL s 64) 64, ⟨by decide, trivial⟩, wf94a _ _ _ (wB2_free _) _ _ _⟩
  refine Goes.before (Goes.after hg (sameT_refl _) ⟨⟨rfl, rfl, rfl, rfl, fun φ => rfl⟩, ⟨rfl, rfl, rfl, rfl, fun φ => rfl⟩, ⟨rfl, rfl, rfl, rfl, fun φ => rfl⟩, ⟨rfl, rfl, rfl, rfl, fun φ => ?_⟩, trivial⟩ (wf94a _ _ _ (cB2_free _) _ _ _))
    (sameT_refl _) ⟨⟨rfl, rfl, rfl, rfl, fun φ => rfl⟩, ⟨rfl, rfl, rfl, rfl, fun φ => rfl⟩, ⟨rfl, rfl, rfl, rfl, fun φ => rfl⟩, ⟨rfl, rfl, rfl, rfl, fun φ => ?_⟩, trivial⟩ (wf94a _ _ _ (wB2_free _) _ _ _)
  · exact arr32_conc φ (scL s 64) 64 (scL_len s 64)
  · exact (arr32_conc φ (List.replicate 64 0) 64 List.length_replicate).symm
theorem agg50 : isAggA Tryz.prog 50 = some false := by kernel_rfl
theorem ld50 (u : Nat → Nat) (n off : Nat) (h : off < n) : LoadsAs Tryz.prog 50 (cells64 n 0 u) off (u64 (u off)) := by
  intro φ
  refine ⟨agg50, ?_⟩
  rw [cells64_conc, List.getElem?_map, List.getElem?_range' h]
  simp [Atom.conc]
theorem loop94b (e : TypeId) (h : W8) (u : Nat → Nat) (c n : Nat) (hn : n = 64) (V : Nat → W8) (hV : ∀ i, V (i + 1) = rnd2 (V i) (k2 i) (u i)) :
    Goes Tryz.prog (.loop (bodyOf Tryz.prog 94 11)) (.exit 2) (T94b c ((0 : Nat) : Int)) (M94b e h (V 0) u) (T94b c (n : Int)) (M94b e h (V n) u) := by
  refine loop_goes (N := n) (k := 5) (T := fun i => T94b c (i : Int)) (M := fun i => M94b e h (V i) u) (by simp) (fun _ _ => M94b_len _ _ _ _) (fun i hi => ?_) ?_
  · have hr := c94 e h (V i) u c i
    have hj : iT i < 64 := by rw [iT_eq]; omega
    have ho : All (obR4 u i) := ⟨decide_eq_true (by omega), by omega, ld50 _ _ _ (by omega), by unfold in64; omega, ld32 _ _ _ hj, by unfold inI; omega, trivial⟩
    rw [iT_eq, ← hV i] at hr
    exact Runs.goes (envE94 u) ⟨_, _, hr, ho, wf94b _ _ _ _ _ _⟩
  · exact Runs.goes (envE94 u) ⟨_, _, y94 e h (V n) u c n, ⟨decide_eq_false (by omega), trivial⟩, wf94b _ _ _ _ _ _⟩
theorem rounds94 (e : TypeId) (h : W8) (u : Nat → Nat) (c : Nat) : Goes Tryz.prog (.loop (bodyOf Tryz.prog 94 11)) (.exit 2) (T94b c ((0 : Nat) : Int)) (M94b e h h u) (T94b c ((64 : Nat) : Int)) (M94b e h (vE2 u h) u) := loop94b e h u c 64 rfl (vR2 u h) (fun _ => rfl)
noncomputable def E94M (e : TypeId) (h : W8) (s : ByteArray) (c : Nat) : Env := addLp (withL (E94 (scW s)) 3 (bodyOf Tryz.prog 94 3) (sumC (T94a s c ((0 : Nat) : Int)) (M94a e h (cB2 zW)) (T94a s c ((64 : Nat) : Int)) (M94a e h (cB2 (scW s))) (.exit 0))) 11 (bodyOf Tryz.prog 94 11) (sumC (T94b c ((0 : Nat) : Int)) (M94b e h h (scW s)) (T94b c ((64 : Nat) : Int)) (M94b e h (vE2 (scW s) h) (scW s)) (.exit 2))
theorem envE94M (e : TypeId) (h : W8) (s : ByteArray) (c : Nat) (hs : 64 ≤ s.size) : EnvOK (E94M e h s c) := envAddLp (envWithL (envE94 _) (sumC_ok (by rw [M94a_len, M94a_len]) (sch94 e h c s hs))) (sumC_ok (by rw [M94b_len, M94b_len]) (rounds94 e h (scW s) c))
theorem r94p (e : TypeId) (h : W8) (s : ByteArray) (c : Nat) : dropM (callBy (E94M e h s c) (evalC (E94M e h s c) 1000) 94 [aV2 h, sS s, slK c] [tB e] []) =
    some ([bodyOf Tryz.prog 94 3 = bodyOf Tryz.prog 94 3, (T94a s c ((0 : Nat) : Int), M94a e h (cB2 zW)) = (T94a s c ((0 : Nat) : Int), M94a e h (cB2 zW)), wfS (T94a s c ((0 : Nat) : Int)) (M94a e h (cB2 zW)) = true,
      bodyOf Tryz.prog 94 11 = bodyOf Tryz.prog 94 11, (T94b c ((0 : Nat) : Int), M94b e h h (scW s)) = (T94b c ((0 : Nat) : Int), M94b e h h (scW s)), wfS (T94b c ((0 : Nat) : Int)) (M94b e h h (scW s)) = true], .val (aV2 (blk2 h s))) := by kernel_rfl
theorem calls94 (e : TypeId) (h : W8) (s : ByteArray) (c : Nat) (hs : 64 ≤ s.size) {w : World} {φ : Loc} (hm : MRel w φ [tB e] w) :
    Calls Tryz.prog 94 (([aV2 h, sS s, slK c] : List V1).map (V1.conc φ)).toArray w fun x w' => x = .returned ((AV.val (aV2 (blk2 h s))).conc φ) ∧ Below w.heap.size w w' := by
  obtain ⟨c', m', h'⟩ := dropM_some (r94p e h s c)
  refine calls_of_run (envE94M e h s c hs) rfl h' ⟨rfl, rfl, wf94a _ _ _ (cB2_free _) _ _ _, rfl, rfl, wf94b _ _ _ _ _ _, trivial⟩ rfl hm ?_
  intro v hv
  simp only [List.mem_cons, List.not_mem_nil, or_false] at hv
  rcases hv with rfl | rfl | rfl <;> rfl
noncomputable def fm94 (vs : List V1) (bs : List (Option Blk)) : Option (List Prop × AV) :=
  match vs, bs with
  | [.agg [.a (.u .u32 a), .a (.u .u32 b), .a (.u .u32 c), .a (.u .u32 d), .a (.u .u32 e), .a (.u .u32 f), .a (.u .u32 g), .a (.u .u32 h)], .one (.v (.string s)), .one (.sl _ 0 80 _)], [_, _, some k] =>
    some ([k.ps = cells64 80 0 shaK, 64 ≤ s.size], .val (aV2 (blk2 ⟨a, b, c, d, e, f, g, h⟩ s)))
  | _, _ => none
theorem fm94_ok {vs : List V1} {mem : List Blk} {ob : List Prop} {r : AV} (h : fm94 vs (blks mem vs) = some (ob, r)) (ho : All ob) (w0 : World) (φ : Loc) (w : World) (hm : MRel w0 φ mem w) :
    Calls Tryz.prog 94 (vs.map (V1.conc φ)).toArray w fun e w' => e = .returned (r.conc φ) ∧ Below w.heap.size w w' := by
  unfold fm94 at h
  split at h
  · rename_i a b c d e f g h8 s bl cp y1 y2 k hbs
    simp only [Option.some.injEq, Prod.mk.injEq] at h
    obtain ⟨rfl, rfl⟩ := h
    simp only [blks, List.cons.injEq, and_true] at hbs
    obtain ⟨_, _, hb⟩ := hbs
    replace hb : (match mem[bl]? with | some k => (match k.live with | true => some k | false => none) | none => none) = some k := hb
    split at hb
    · rename_i k' hk
      split at hb
      · rename_i hl
        simp only [Option.some.injEq] at hb
        subst hb
        obtain ⟨hps, h1, _⟩ := ho
        have hw := hm.window hk hl (fun f => by rw [hps]; exact cells64_free _ f _ _)
        rw [hps] at hw
        have := calls94 k'.elem ⟨a, b, c, d, e, f, g, h8⟩ s cp h1 hw
        simpa [aV2, W8.c32, sS, slK, V1.conc, Atom.conc, AV.conc, concs, Piece.conc] using this
      · simp at hb
    · simp at hb
  · simp at h
noncomputable def fmB2 : FuncId → List V1 → List (Option Blk) → Option (List Prop × AV) := fun f vs bs => match f with | 94 => fm94 vs bs | _ => none
theorem fmB2_ok : ∀ f vs mem ob r, fmB2 f vs (blks mem vs) = some (ob, r) → All ob → ∀ w0 φ w, MRel w0 φ mem w → Calls Tryz.prog f (vs.map (V1.conc φ)).toArray w fun e w' => e = .returned (r.conc φ) ∧ Below w.heap.size w w' := by
  intro f vs mem ob r h ho w0 φ w hm
  unfold fmB2 at h
  split at h
  · exact fm94_ok h ho w0 φ w hm
  · simp at h
end Go.Ev.H5

namespace Go.Ev.H5
open Go Go.Proofs Go.RowKit
def h02 : W8 := ⟨1779033703, 3144134277, 1013904242, 2773480762, 1359893119, 2600822924, 528734635, 1541459225⟩
theorem r72h : callR E0 1000 72 [] [] = some ([], .val (aV2 h02)) := by kernel_rfl
theorem r93h : callR E0 1000 93 [] [] = some ([], .val (aV2 h02)) := by kernel_rfl
theorem ct72h : CTok ⟨72, cV (.val (aV2 h02))⟩ := ctV (spec_run envE0 rfl r72h trivial rfl rfl)
theorem ct93h : CTok ⟨93, cV (.val (aV2 h02))⟩ := ctV (spec_run envE0 rfl r93h trivial rfl rfl)
def b4w (x : Nat) : List Nat := [x / 2 ^ 24 % 256, x / 2 ^ 16 % 256, x / 2 ^ 8 % 256, x % 256]
def fourS (x : Nat) : ByteArray := strOf (b4w x)
theorem r95f (x : Nat) : callR E0 1000 95 [u32 x] [] = some ([], .val (sS (fourS x))) := by kernel_rfl
def fnFour (vs : List V1) : Option (List Prop × AV) := match vs with | [.one (.u .u32 x)] => some ([], .val (sS (fourS x))) | _ => none
theorem ct95f : CTok ⟨95, fnFour⟩ := by
  intro vs ob r h _
  simp only [fnFour] at h
  split at h
  · simp only [Option.some.injEq, Prod.mk.injEq] at h
    obtain ⟨_, rfl⟩ := h
    exact spec_run envE0 rfl (r95f _) trivial rfl rfl
  · simp at h
noncomputable def L46 : List CT := [⟨7, fnZs⟩, ⟨23, fn63e⟩, ⟨72, cV (.val (aV2 h02))⟩, ⟨93, cV (.val (aV2 h02))⟩, ⟨95, fnFour⟩]
theorem L46_ok : AllCT L46 := ⟨ct21z, ct63e, ct72h, ct93h, ct95f, trivial⟩
noncomputable def S46 : FuncId → Nat → Bool := fun f t => match f with | 46 => memN t [13, 16, 19, 24, 29, 36, 37, 31, 49] | _ => false
noncomputable def E46 : Env := mkF L46 fmB2 S46
theorem envE46 : EnvOK E46 := envMkF L46_ok fmB2_ok S46
def T46 (F : ByteArray) (i : Int) : List AV := slots 51 [(0, .val (sS F)), (3, .val (.one (.sl 0 0 80 80))), (5, pV 1), (6, iV i)]
def M46 (h : W8) : List Blk := [kB, hB2 h]
theorem r46a (h : W8) (F : ByteArray) (i : Nat) : runTo E46 1000 (Env.S E46 46) (bodyOf Tryz.prog 46 6) (T46 F (i : Int)) (M46 h) [true] (T46 F ((i : Int) + 64)) 2 =
    some ([decide ((i : Int) < (F.size : Int)) = true, inI ((i : Int) + 64), (0 : Int) ≤ (i : Int) + 64 ∧ (i : Int) + 64 ≤ (F.size : Int), (0 : Int) ≤ (i : Int) ∧ (i : Int) ≤ (((i : Int) + 64).toNat : Int), kB.ps = kB.ps, 64 ≤ (F.extract i ((i : Int) + 64).toNat).size, inI ((i : Int) + 64)], .normal, T46 F ((i : Int) + 64), M46 (blk2 h (F.extract i (i + 64)))) := by kernel_rfl
theorem r46x (h : W8) (F : ByteArray) (i : Nat) : runTo E46 1000 (Env.S E46 46) (bodyOf Tryz.prog 46 6) (T46 F (i : Int)) (M46 h) [false] (T46 F (i : Int)) 2 =
    some ([decide ((i : Int) < (F.size : Int)) = false], .exit 0, T46 F (i : Int), M46 h) := by kernel_rfl
def pad2 (n : Nat) : Int := Int.tmod (119 - Int.tmod (n : Int) 64) 64
noncomputable def fil2 (s : ByteArray) : ByteArray := ((s ++ x80) ++ zs (pad2 s.size).toNat) ++ eightS (lenW s.size)
noncomputable def outQ2 (h : W8) : ByteArray := (((((((⟨#[]⟩ ++ fourS h.a) ++ fourS h.b) ++ fourS h.c) ++ fourS h.d) ++ fourS h.e) ++ fourS h.f) ++ fourS h.g) ++ fourS h.h
noncomputable def E46L (s : ByteArray) (n : Int) (h : W8) : Env := addLp E46 6 (bodyOf Tryz.prog 46 6) (sumC (T46 (fil2 s) ((0 : Nat) : Int)) (M46 h02) (T46 (fil2 s) n) (M46 h) (.exit 0))
def mx (a b : ByteArray) : Prop := a.size + b.size ≤ 9223372036854775807
theorem r46p (s : ByteArray) (n : Int) (h : W8) : callR (E46L s n h) 1000 46 [sS s] [] =
    some ([mx s x80, inI (119 - Int.tmod (s.size : Int) 64), 0 ≤ pad2 s.size ∧ pad2 s.size ≤ 1000000, mx (s ++ x80) (zs (pad2 s.size).toNat), mx ((s ++ x80) ++ zs (pad2 s.size).toNat) (eightS (lenW s.size)),
      bodyOf Tryz.prog 46 6 = bodyOf Tryz.prog 46 6, (T46 (fil2 s) ((0 : Nat) : Int), M46 h02) = (T46 (fil2 s) ((0 : Nat) : Int), M46 h02), wfS (T46 (fil2 s) ((0 : Nat) : Int)) (M46 h02) = true,
      mx ⟨#[]⟩ (fourS h.a), mx (⟨#[]⟩ ++ fourS h.a) (fourS h.b), mx ((⟨#[]⟩ ++ fourS h.a) ++ fourS h.b) (fourS h.c), mx (((⟨#[]⟩ ++ fourS h.a) ++ fourS h.b) ++ fourS h.c) (fourS h.d), mx ((((⟨#[]⟩ ++ fourS h.a) ++ fourS h.b) ++ fourS h.c) ++ fourS h.d) (fourS h.e),
      mx (((((⟨#[]⟩ ++ fourS h.a) ++ fourS h.b) ++ fourS h.c) ++ fourS h.d) ++ fourS h.e) (fourS h.f), mx ((((((⟨#[]⟩ ++ fourS h.a) ++ fourS h.b) ++ fourS h.c) ++ fourS h.d) ++ fourS h.e) ++ fourS h.f) (fourS h.g),
      mx (((((((⟨#[]⟩ ++ fourS h.a) ++ fourS h.b) ++ fourS h.c) ++ fourS h.d) ++ fourS h.e) ++ fourS h.f) ++ fourS h.g) (fourS h.h)], .val (sS (outQ2 h))) := by kernel_rfl
theorem fourS_size (x : Nat) : (fourS x).size = 4 := by unfold fourS; rw [strOf_size]; rfl
theorem pad2_eq (n : Nat) : pad2 n = (((119 - n % 64) % 64 : Nat) : Int) := by
  unfold pad2
  have e1 : Int.tmod (n : Int) 64 = ((n % 64 : Nat) : Int) := by
    rw [Int.tmod_eq_emod_of_nonneg (by omega)]; omega
  rw [e1, Int.tmod_eq_emod_of_nonneg (by omega)]; omega
def nB2 (n : Nat) : Nat := (n + 72) / 64
theorem fil2_size (s : ByteArray) : (fil2 s).size = 64 * nB2 s.size := by
  unfold fil2 nB2
  simp only [ByteArray.size_append, eightS_size, zs_size, x80_size, pad2_eq, Int.toNat_natCast]
  omega
noncomputable def hst2 (F : ByteArray) : Nat → W8
  | 0 => h02
  | j + 1 => blk2 (hst2 F j) (F.extract (64 * j) (64 * j + 64))
noncomputable def sum2 (s : ByteArray) : ByteArray := outQ2 (hst2 (fil2 s) (nB2 s.size))
theorem M46_free (h : W8) : ∀ b ∈ M46 h, Free b := by
  intro b hb
  simp only [M46, List.mem_cons, List.not_mem_nil, or_false] at hb
  rcases hb with rfl | rfl
  · exact fun f => cells64_free _ f _ _
  · exact hB2_free _
theorem M46_len (h : W8) : (M46 h).length = 2 := by simp only [M46, List.length_cons, List.length_nil]
theorem wf46 (F : ByteArray) (h : W8) (i : Int) : wfS (T46 F i) (M46 h) = true := wfS_of (M46_free h) (by rw [M46_len]; kernel_rfl)
theorem loop46 (F : ByteArray) (n : Nat) (hn : F.size = 64 * n) (h2 : F.size ≤ 1000000000000000) (V : Nat → W8) (hV : ∀ j, V (j + 1) = blk2 (V j) (F.extract (64 * j) (64 * j + 64))) :
    Goes Tryz.prog (.loop (bodyOf Tryz.prog 46 6)) (.exit 0) (T46 F ((64 * 0 : Nat) : Int)) (M46 (V 0)) (T46 F ((64 * n : Nat) : Int)) (M46 (V n)) := by
  refine loop_goes (N := n) (k := 2) (T := fun j => T46 F ((64 * j : Nat) : Int)) (M := fun j => M46 (V j)) (by simp) (fun _ _ => M46_len _) (fun j hj => ?_) ?_
  · have hr := r46a (V j) F (64 * j)
    rw [show Int.toNat (((64 * j : Nat) : Int) + 64) = 64 * j + 64 by omega, ← hV j] at hr
    rw [show ((64 * (j + 1) : Nat) : Int) = ((64 * j : Nat) : Int) + 64 by omega]
    have hz := cut_size F (64 * j) (64 * j + 64) (by omega)
    exact Runs.goes envE46 ⟨_, _, hr, ⟨decide_eq_true (by omega), by unfold inI; omega, by omega, by omega, rfl, by omega, by unfold inI; omega, trivial⟩, wf46 _ _ _⟩
  · exact Runs.goes envE46 ⟨_, _, r46x (V n) F (64 * n), ⟨decide_eq_false (by omega), trivial⟩, wf46 _ _ _⟩
theorem goes46 (s : ByteArray) (h2 : s.size ≤ 100000000000000) : Goes Tryz.prog (.loop (bodyOf Tryz.prog 46 6)) (.exit 0) (T46 (fil2 s) ((0 : Nat) : Int)) (M46 h02) (T46 (fil2 s) ((64 * nB2 s.size : Nat) : Int)) (M46 (hst2 (fil2 s) (nB2 s.size))) :=
  loop46 (fil2 s) (nB2 s.size) (fil2_size s) (by rw [fil2_size]; unfold nB2; omega) (hst2 (fil2 s)) (fun _ => rfl)
theorem spec46s (s : ByteArray) (h2 : s.size ≤ 100000000000000) : Spec 46 [sS s] (.val (sS (sum2 s))) := by
  have hz := pad2_eq s.size
  refine spec_run (envAddLp envE46 (sumC_ok (by rw [M46_len, M46_len]) (goes46 s h2))) rfl (r46p s _ _) ⟨?_, ?_, ?_, ?_, ?_, rfl, rfl, wf46 _ _ _, ?_, ?_, ?_, ?_, ?_, ?_, ?_, ?_, trivial⟩ rfl rfl
  · unfold mx; rw [x80_size]; omega
  · rw [Int.tmod_eq_emod_of_nonneg (by omega)]; unfold inI; omega
  · omega
  all_goals (unfold mx; simp only [ByteArray.size_append, eightS_size, fourS_size, zs_size, x80_size, e0_size]; omega)
noncomputable def fnS2 (vs : List V1) : Option (List Prop × AV) :=
  match vs with
  | [.one (.v (.string s))] => some ([s.size ≤ 100000000000000], .val (sS (sum2 s)))
  | _ => none
theorem ct46 : CTok ⟨46, fnS2⟩ := by
  intro vs ob r h ho
  simp only [fnS2] at h
  split at h
  · simp only [Option.some.injEq, Prod.mk.injEq] at h
    obtain ⟨rfl, rfl⟩ := h
    exact spec46s _ ho.1
  · simp at h
theorem outQ2_size (h : W8) : (outQ2 h).size = 32 := by
  unfold outQ2
  simp only [ByteArray.size_append, fourS_size, e0_size]
theorem sum2_size (s : ByteArray) : (sum2 s).size = 32 := outQ2_size _
end Go.Ev.H5

namespace Go.Ev.H5
open Go Go.Proofs Go.RowKit
def T73 (s : ByteArray) (b n : Nat) : List AV := slots 35 [(0, .val (sS s)), (3, slX b n)]
noncomputable def S73 : FuncId → Nat → Bool := fun f t => match f with | 73 => memN t [2000007, 2000009, 13, 2000016, 2000032, 2000034, 9000000] | _ => false
noncomputable def E73 : Env := { E0 with S := S73 }
theorem envE73 : EnvOK E73 := ⟨mixed, envE0.fns, envE0.fms, envE0.lps, envE0.fbs⟩
theorem r73a (s : ByteArray) (l : List Nat) (n : Nat) : runTo E73 1000 (Env.S E73 73) (bodyOf Tryz.prog 73 2) (T73 s 2 n) [dB (numsB s), oB 128, aB l] [true] (T73 s 4 (n + 1)) 5 =
    some ([(!decide (Int.ofNat (n % 64) = (56 : Int))) = true, n = List.length l ∧ 0 < 1 ∧ (n + 1) * 1 ≤ 140737488355328 ∧ n + 1 ≤ 140737488355328], .normal, T73 s 4 (n + 1), [dB (numsB s), oB 128, dB l, oB 0, aB (l ++ [0])]) := by kernel_rfl
theorem r73x (s : ByteArray) (l : List Nat) (n : Nat) : runTo E73 1000 (Env.S E73 73) (bodyOf Tryz.prog 73 2) (T73 s 2 n) [dB (numsB s), oB 128, aB l] [false] (T73 s 2 n) 3 =
    some ([(!decide (Int.ofNat (n % 64) = (56 : Int))) = false], .exit 0, T73 s 2 n, [dB (numsB s), oB 128, aB l]) := by kernel_rfl
theorem dec_ne2 {n : Nat} (h : n % 64 ≠ 56) : (!decide (Int.ofNat (n % 64) = (56 : Int))) = true := by
  have : Int.ofNat (n % 64) ≠ (56 : Int) := by simp only [Int.ofNat_eq_natCast]; omega
  rw [decide_eq_false this]; rfl
theorem dec_eq2 {n : Nat} (h : n % 64 = 56) : (!decide (Int.ofNat (n % 64) = (56 : Int))) = false := by
  have : Int.ofNat (n % 64) = (56 : Int) := by simp only [Int.ofNat_eq_natCast]; omega
  rw [decide_eq_true this]; rfl
theorem wf73_3 (s : ByteArray) (l : List Nat) (n : Nat) : wfS (T73 s 2 n) [dB (numsB s), oB 128, aB l] = true := wfS_of (free3 s l) (by show tmsWf 3 _ = true; kernel_rfl)
theorem wf73_5 (s : ByteArray) (l : List Nat) (n : Nat) : wfS (T73 s 4 n) [dB (numsB s), oB 128, dB l, oB 0, aB (l ++ [0])] = true := wfS_of (free5 s l) (by show tmsWf 5 _ = true; kernel_rfl)
theorem wf73_4 (s : ByteArray) (l : List Nat) (n : Nat) : wfS (T73 s 3 n) [dB (numsB s), oB 128, dB [], aB l] = true := wfS_of (free4 s l) (by show tmsWf 4 _ = true; kernel_rfl)
theorem mv73 (s : ByteArray) (b b' n : Nat) : mvT 2 b b' (T73 s b n) (T73 s b' n) := by
  show mvT 2 b b' [_, .junk, .junk, _, .junk, .junk, .junk, .junk, .junk, .junk, .junk, .junk, .junk, .junk, .junk, .junk, .junk, .junk, .junk, .junk, .junk, .junk, .junk, .junk, .junk, .junk, .junk, .junk, .junk, .junk, .junk, .junk, .junk, .junk, .junk] [_, .junk, .junk, _, .junk, .junk, .junk, .junk, .junk, .junk, .junk, .junk, .junk, .junk, .junk, .junk, .junk, .junk, .junk, .junk, .junk, .junk, .junk, .junk, .junk, .junk, .junk, .junk, .junk, .junk, .junk, .junk, .junk, .junk, .junk]
  simp only [mvT, and_true, true_or, true_and]
  exact ⟨.inr (.inl rfl), .inr (.inr ⟨n, rfl, rfl⟩)⟩
set_option maxRecDepth 100000 in
theorem step73 (s : ByteArray) (l : List Nat) (n : Nat) (hn : n = l.length) (h : n % 64 ≠ 56) (hb : n + 1 ≤ 140737488355328) :
    GoesK Tryz.prog 2 (bodyOf Tryz.prog 73 2) .normal (T73 s 2 n) [dB (numsB s), oB 128, aB l] (T73 s 2 (n + 1)) [dB (numsB s), oB 128, aB (l ++ [0])] := by
  have h1 : Goes Tryz.prog (bodyOf Tryz.prog 73 2) .normal (T73 s 2 n) [dB (numsB s), oB 128, aB l] (T73 s 4 (n + 1)) [dB (numsB s), oB 128, dB l, oB 0, aB (l ++ [0])] := Runs.goes envE73 ⟨_, _, r73a s l n, ⟨dec_ne2 h, ⟨hn, by decide, by omega, hb⟩, trivial⟩, wf73_5 _ _ _⟩
  refine (h1.toK (K := 2) (by simp only [List.length_cons, List.length_nil]; omega)).move (b := 4) (b' := 2) (mv73 s 4 2 (n + 1)) (by omega) (by omega) ?_ (wf73_3 _ _ _)
  intro i k hk hl
  match i, hk with
  | 0, hk => simp only [List.getElem?_cons_zero, Option.some.injEq] at hk; subst hk; exact absurd hl (by simp [dB])
  | 1, hk => simp only [List.getElem?_cons_succ, List.getElem?_cons_zero, Option.some.injEq] at hk; subst hk; exact ⟨fun _ => rfl, .inl ⟨by omega, rfl⟩⟩
  | 2, hk => simp only [List.getElem?_cons_succ, List.getElem?_cons_zero, Option.some.injEq] at hk; subst hk; exact ⟨fun _ => rfl, .inr ⟨rfl, by omega, rfl⟩⟩
  | i + 3, hk => simp at hk
set_option maxRecDepth 100000 in
theorem loop73 (s : ByteArray) (l : List Nat) (z : Nat) (hz : ∀ j, j < z → (l.length + j) % 64 ≠ 56) (h : (l.length + z) % 64 = 56) (hb : l.length + z ≤ 140737488355328) :
    Goes Tryz.prog (.loop (bodyOf Tryz.prog 73 2)) (.exit 0) (T73 s 2 l.length) [dB (numsB s), oB 128, aB l] (T73 s 3 (l.length + z)) [dB (numsB s), oB 128, dB [], aB (l ++ List.replicate z 0)] := by
  have hK : GoesK Tryz.prog 2 (.loop (bodyOf Tryz.prog 73 2)) (.exit 0) (T73 s 2 (l.length + 0)) [dB (numsB s), oB 128, aB (l ++ List.replicate 0 0)] (T73 s 2 (l.length + z)) [dB (numsB s), oB 128, aB (l ++ List.replicate z 0)] := by
    refine loop_goesK (N := z) (T := fun j => T73 s 2 (l.length + j)) (M := fun j => [dB (numsB s), oB 128, aB (l ++ List.replicate j 0)]) (by simp) (fun j hj => ?_) ?_
    · have := step73 s (l ++ List.replicate j 0) (l.length + j) (by simp) (hz j hj) (by omega)
      rw [List.append_assoc, ← List.replicate_succ'] at this
      exact this
    · have h2 : Goes Tryz.prog (bodyOf Tryz.prog 73 2) (.exit 0) (T73 s 2 (l.length + z)) [dB (numsB s), oB 128, aB (l ++ List.replicate z 0)] (T73 s 2 (l.length + z)) [dB (numsB s), oB 128, aB (l ++ List.replicate z 0)] := Runs.goes envE73 ⟨_, _, r73x s (l ++ List.replicate z 0) (l.length + z), ⟨dec_eq2 h, trivial⟩, wf73_3 _ _ _⟩
      exact h2.toK (by simp only [List.length_cons, List.length_nil]; omega)
  rw [List.replicate_zero, List.append_nil, Nat.add_zero] at hK
  refine GoesK.goes (K := 3) (hK.move (b := 2) (b' := 3) (mv73 s 2 3 (l.length + z)) (by omega) (by omega) ?_ (wf73_4 _ _ _)) (by simp only [List.length_cons, List.length_nil])
  intro i k hk hl
  match i, hk with
  | 0, hk => simp only [List.getElem?_cons_zero, Option.some.injEq] at hk; subst hk; exact absurd hl (by simp [dB])
  | 1, hk => simp only [List.getElem?_cons_succ, List.getElem?_cons_zero, Option.some.injEq] at hk; subst hk; exact ⟨fun _ => rfl, .inl ⟨by omega, rfl⟩⟩
  | 2, hk => simp only [List.getElem?_cons_succ, List.getElem?_cons_zero, Option.some.injEq] at hk; subst hk; exact absurd hl (by simp [dB])
  | 3, hk => simp only [List.getElem?_cons_succ, List.getElem?_cons_zero, Option.some.injEq] at hk; subst hk; exact ⟨fun _ => rfl, .inr ⟨rfl, by omega, rfl⟩⟩
  | i + 4, hk => simp at hk
noncomputable def E73L (s : ByteArray) (n m : Nat) (l l' : List Nat) : Env := addLp E73 1002 (bodyOf Tryz.prog 73 2) (sumG (T73 s 2 n) [dB (numsB s), oB 128, aB l] (T73 s 3 m) [dB (numsB s), oB 128, dB [], aB l'] (.exit 0))
def len8 (n : Nat) : Nat := lenU64 n * 8 % M64
end Go.Ev.H5

namespace Go.Ev.H5
open Go Go.Proofs Go.RowKit
def ap8 (l : List Nat) (x : Nat) : Nat → List Nat
  | 0 => l
  | k + 1 => ap8 l x k ++ [x / 2 ^ (8 * (7 - k)) % 256]
theorem ap8_len (l : List Nat) (x : Nat) : ∀ k, (ap8 l x k).length = l.length + k
  | 0 => rfl
  | k + 1 => by rw [ap8, List.length_append, ap8_len l x k]; rfl
def apO (m : Nat) (l : List Nat) (x k : Nat) : Prop := m + k = (ap8 l x k).length ∧ 0 < 1 ∧ (m + k + 1) * 1 ≤ 140737488355328 ∧ m + k + 1 ≤ 140737488355328
set_option maxRecDepth 100000 in
theorem r73p (s : ByteArray) (m : Nat) (l' : List Nat) : callR (E73L s (s.size + 1) m (numsB s ++ [128]) l') 1000 73 [sS s] [] =
    some ([s.size ≤ 140737488355328, s.size = (numsB s).length ∧ 0 < 1 ∧ (s.size + 1) * 1 ≤ 140737488355328 ∧ s.size + 1 ≤ 140737488355328, bodyOf Tryz.prog 73 2 = bodyOf Tryz.prog 73 2,
      (T73 s 2 (s.size + 1), [dB (numsB s), oB 128, aB (numsB s ++ [128])]) = (T73 s 2 (s.size + 1), [dB (numsB s), oB 128, aB (numsB s ++ [128])]), wfS (T73 s 2 (s.size + 1)) [dB (numsB s), oB 128, aB (numsB s ++ [128])] = true,
      apO m l' (len8 s.size) 0, apO m l' (len8 s.size) 1, apO m l' (len8 s.size) 2, apO m l' (len8 s.size) 3, apO m l' (len8 s.size) 4, apO m l' (len8 s.size) 5, apO m l' (len8 s.size) 6, apO m l' (len8 s.size) 7,
      0 = 0 ∧ m + 8 = (ap8 l' (len8 s.size) 8).length], .val (sS (strOf (ap8 l' (len8 s.size) 8)))) := by kernel_rfl
theorem ap8_eq (l : List Nat) (x : Nat) : ap8 l x 8 = l ++ bytesW x := by simp [ap8, bytesW]
theorem len8_eq (n : Nat) : len8 n = lenW n := by unfold len8 lenW; show lenU64 n * 8 % M64 = 8 * lenU64 n % M64; rw [Nat.mul_comm]
theorem fil2_eq (s : ByteArray) : strOf (ap8 ((numsB s ++ [128]) ++ List.replicate (pad2 s.size).toNat 0) (len8 s.size) 8) = fil2 s := by
  rw [ap8_eq, len8_eq]
  unfold fil2
  rw [strOf_append, strOf_append, strOf_append, strOf_numsB]
  rfl
theorem apO_ok {m k x : Nat} {l : List Nat} (hl : l.length = m) (hm : m + k + 1 ≤ 140737488355328) : apO m l x k := ⟨by rw [ap8_len, hl], by decide, by omega, hm⟩
theorem spec73 (s : ByteArray) (h : s.size ≤ 100000000000000) : Spec 73 [sS s] (.val (sS (fil2 s))) := by
  rw [← fil2_eq s]
  have hl : (numsB s ++ [128]).length = s.size + 1 := by rw [List.length_append, numsB_len]; rfl
  have hp := pad2_eq s.size
  have hg := loop73 s (numsB s ++ [128]) (pad2 s.size).toNat (by rw [hl]; intro j hj; omega) (by rw [hl]; omega) (by rw [hl]; omega)
  rw [hl] at hg
  have hlen : ((numsB s ++ [128]) ++ List.replicate (pad2 s.size).toNat 0).length = s.size + 1 + (pad2 s.size).toNat := by rw [List.length_append, hl, List.length_replicate]
  have ho := fun k (hk : k < 8) => apO_ok (k := k) (x := len8 s.size) hlen (by omega)
  exact spec_run (envAddLp envE73 (sumG_ok (by simp only [List.length_cons, List.length_nil]; omega) hg)) rfl (r73p s _ _) ⟨by omega, ⟨(numsB_len s).symm, by decide, by omega, by omega⟩, rfl, rfl, wf73_3 _ _ _, ho 0 (by omega), ho 1 (by omega), ho 2 (by omega), ho 3 (by omega), ho 4 (by omega), ho 5 (by omega), ho 6 (by omega), ho 7 (by omega), ⟨rfl, by rw [ap8_len, hlen]⟩, trivial⟩ rfl rfl
noncomputable def fn73 (vs : List V1) : Option (List Prop × AV) :=
  match vs with
  | [.one (.v (.string s))] => some ([s.size ≤ 100000000000000], .val (sS (fil2 s)))
  | _ => none
theorem ct73 : CTok ⟨73, fn73⟩ := by
  intro vs ob r h ho
  simp only [fn73] at h
  split at h
  · simp only [Option.some.injEq, Prod.mk.injEq] at h
    obtain ⟨rfl, rfl⟩ := h
    exact spec73 _ ho.1
  · simp at h
noncomputable def L33 : List CT := [⟨72, cV (.val (aV2 h02))⟩, ⟨73, fn73⟩, ⟨74, fnBl2⟩]
theorem L33_ok : AllCT L33 := ⟨ct72h, ct73, ct74, trivial⟩
noncomputable def S33 : FuncId → Nat → Bool := fun f t => match f with | 33 => memN t [11, 13, 16, 9000000] | _ => false
noncomputable def E33 : Env := mkE L33 S33
theorem envE33 : EnvOK E33 := envMk L33_ok _
def T33 (F : ByteArray) : List AV := slots 39 [(0, .val (sS F)), (3, pV 0)]
theorem r33a (h : W8) (F : ByteArray) : runTo E33 1000 (Env.S E33 33) (bodyOf Tryz.prog 33 3) (T33 F) [hB2 h] [true] (T33 (F.extract 64 F.size)) 1 =
    some ([(!F.toList == (⟨#[]⟩ : ByteArray).toList) = true, (0 : Int) ≤ 64 ∧ (64 : Int) ≤ (F.size : Int), 64 ≤ (F.extract 0 64).size, (0 : Int) ≤ 64 ∧ (64 : Int) ≤ (F.size : Int)], .normal, T33 (F.extract 64 F.size), [hB2 (blk2 h (F.extract 0 64))]) := by kernel_rfl
theorem r33x (h : W8) (F : ByteArray) : runTo E33 1000 (Env.S E33 33) (bodyOf Tryz.prog 33 3) (T33 F) [hB2 h] [false] (T33 F) 1 =
    some ([(!F.toList == (⟨#[]⟩ : ByteArray).toList) = false], .exit 0, T33 F, [hB2 h]) := by kernel_rfl
def outP2 (h : W8) : ByteArray := strOf (b4w h.a ++ b4w h.b ++ b4w h.c ++ b4w h.d ++ b4w h.e ++ b4w h.f ++ b4w h.g ++ b4w h.h)
noncomputable def E33L (s G : ByteArray) (h : W8) : Env := addLp E33 1003 (bodyOf Tryz.prog 33 3) (sumC (T33 (fil2 s)) [hB2 h02] (T33 G) [hB2 h] (.exit 0))
theorem r33p (s G : ByteArray) (h : W8) : callR (E33L s G h) 1000 33 [sS s] [] =
    some ([s.size ≤ 100000000000000, bodyOf Tryz.prog 33 3 = bodyOf Tryz.prog 33 3, (T33 (fil2 s), [hB2 h02]) = (T33 (fil2 s), [hB2 h02]), wfS (T33 (fil2 s)) [hB2 h02] = true], .val (sS (outP2 h))) := by kernel_rfl
theorem wf33 (F : ByteArray) (h : W8) : wfS (T33 F) [hB2 h] = true := wfS_of (free1 (hB2_free h)) (by show tmsWf 1 _ = true; kernel_rfl)
theorem loop33 (F : ByteArray) (n : Nat) (hn : F.size = 64 * n) (h2 : F.size ≤ 1000000000000000) (V : Nat → W8) (hV : ∀ j, V (j + 1) = blk2 (V j) (F.extract (64 * j) (64 * j + 64))) :
    Goes Tryz.prog (.loop (bodyOf Tryz.prog 33 3)) (.exit 0) (T33 (F.extract (64 * 0) F.size)) [hB2 (V 0)] (T33 (F.extract (64 * n) F.size)) [hB2 (V n)] := by
  refine loop_goes (N := n) (k := 1) (T := fun j => T33 (F.extract (64 * j) F.size)) (M := fun j => [hB2 (V j)]) (by simp) (fun _ _ => by simp only [List.length_cons, List.length_nil]) (fun j hj => ?_) ?_
  · have hr := r33a (V j) (F.extract (64 * j) F.size)
    have hz := cut_size F (64 * j) F.size (Nat.le_refl _)
    have hz2 : (F.extract (64 * j) (64 * j + 64)).size = 64 := by rw [cut_size F (64 * j) (64 * j + 64) (by omega)]; omega
    rw [hz, cut_cut F _ _ _ (by omega), cut_cut F _ _ _ (by omega), show 64 * j + (F.size - 64 * j) = F.size by omega, show 64 * j + 0 = 64 * j by omega, ← hV j, show 64 * j + 64 = 64 * (j + 1) by omega] at hr
    rw [show 64 * j + 64 = 64 * (j + 1) by omega] at hz2
    exact Runs.goes envE33 ⟨_, _, hr, ⟨ne_empty (by rw [hz]; omega), by omega, by rw [hz2]; omega, by omega, trivial⟩, wf33 _ _⟩
  · exact Runs.goes envE33 ⟨_, _, r33x (V n) _, ⟨is_empty (by rw [cut_size F _ _ (Nat.le_refl _)]; omega), trivial⟩, wf33 _ _⟩
theorem goes33 (s : ByteArray) (h2 : s.size ≤ 100000000000000) : Goes Tryz.prog (.loop (bodyOf Tryz.prog 33 3)) (.exit 0) (T33 (fil2 s)) [hB2 h02] (T33 ((fil2 s).extract (64 * nB2 s.size) (fil2 s).size)) [hB2 (hst2 (fil2 s) (nB2 s.size))] := by
  have h := loop33 (fil2 s) (nB2 s.size) (fil2_size s) (by rw [fil2_size]; unfold nB2; omega) (hst2 (fil2 s)) (fun _ => rfl)
  rw [Nat.mul_zero, cut_all] at h
  exact h
theorem outP2_eq (h : W8) : outP2 h = outQ2 h := by
  unfold outP2 outQ2 fourS
  rw [e0_append]
  simp only [strOf_append]
theorem spec33 (s : ByteArray) (h2 : s.size ≤ 100000000000000) : Spec 33 [sS s] (.val (sS (sum2 s))) := by
  have h := spec_run (envAddLp envE33 (sumC_ok (by simp only [List.length_cons, List.length_nil]) (goes33 s h2))) rfl (r33p s _ _) ⟨h2, rfl, rfl, wf33 _ _, trivial⟩ rfl rfl
  rw [outP2_eq] at h
  exact h
theorem ct33 : CTok ⟨33, fnS2⟩ := by
  intro vs ob r h ho
  simp only [fnS2] at h
  split at h
  · simp only [Option.some.injEq, Prod.mk.injEq] at h
    obtain ⟨rfl, rfl⟩ := h
    exact spec33 _ ho.1
  · simp at h
end Go.Ev.H5

namespace Go.Ev.H5
open Go Go.Proofs Go.RowKit
set_option maxRecDepth 100000
def bB (l : List Nat) : Blk := ⟨[.arr .u8 l], 5, true, false, 0⟩
def u8V (x : Nat) : AV := .val (.one (.u .u8 x))
def slV (n : Nat) : AV := .val (.one (.sl 0 0 n n))
noncomputable def S86 : FuncId → Nat → Bool := fun f t => match f with | 213 => memN t [2000010, 2000013, 2000022, 4000025, 2000028, 21, 25, 17, 26] | 107 => memN t [2000010, 13, 19, 21, 24, 25, 4000025, 30, 2000031, 34, 4000034, 15, 2000036] | _ => false
noncomputable def E86 : Env := { E0 with S := S86 }
theorem envE86 : EnvOK E86 := ⟨mixed, envE0.fns, envE0.fms, envE0.lps, envE0.fbs⟩
def T86 (x : Nat) (i : Int) : List AV := slots 29 [(2, u8V x), (7, slV 64), (15, iV 64), (16, iV i)]
def T52 (k : ByteArray) (x : Nat) (i : Int) : List AV := slots 37 [(0, .val (sS k)), (1, iV 64), (2, u8V x), (7, slV 64), (8, iV i)]
def xr (a x : Nat) : Nat := a % 256 ^^^ x % 256
theorem t86 (x i : Nat) (l : List Nat) : runTo E86 1000 (E86.S 213) (bodyOf Tryz.prog 213 4) (T86 x (i : Int)) [bB l] [true] (T86 x ((i : Int) + 1)) 1 =
    some ([decide ((i : Int) < 64) = true, (0 : Int) ≤ (i : Int) ∧ (i : Int) < ((64 : Nat) : Int), 0 + i * 1 < l.length, (0 : Int) ≤ (i : Int) ∧ (i : Int) < ((64 : Nat) : Int), 0 + i * 1 < l.length, inI ((i : Int) + 1)], .normal, T86 x ((i : Int) + 1), [bB (l.set (0 + i * 1) (xr (l.getD (0 + i * 1) 0) x))]) := by kernel_rfl
theorem x86 (x i : Nat) (l : List Nat) : runTo E86 1000 (E86.S 213) (bodyOf Tryz.prog 213 4) (T86 x (i : Int)) [bB l] [false] (T86 x (i : Int)) 1 =
    some ([decide ((i : Int) < 64) = false], .exit 0, T86 x (i : Int), [bB l]) := by kernel_rfl
def kb (k : ByteArray) (j : Nat) : Nat := (k.data.getD j 0).toNat
theorem t52a (k : ByteArray) (x i : Nat) (l : List Nat) : runTo E86 1000 (E86.S 107) (bodyOf Tryz.prog 107 3) (T52 k x (i : Int)) [bB l] [true, true] (T52 k x ((i : Int) + 1)) 1 =
    some ([decide ((i : Int) < 64) = true, decide ((i : Int) < (k.size : Int)) = true, (0 : Int) ≤ (i : Int) ∧ (i : Int) < (k.size : Int), (0 : Int) ≤ (i : Int) ∧ (i : Int) < ((64 : Nat) : Int), 0 + i * 1 < l.length, (0 : Int) ≤ (i : Int) ∧ (i : Int) < ((64 : Nat) : Int), 0 + i * 1 < (l.set (0 + i * 1) (kb k i)).length, (0 : Int) ≤ (i : Int) ∧ (i : Int) < ((64 : Nat) : Int), 0 + i * 1 < (l.set (0 + i * 1) (kb k i)).length, inI ((i : Int) + 1)], .normal, T52 k x ((i : Int) + 1), [bB ((l.set (0 + i * 1) (kb k i)).set (0 + i * 1) (xr ((l.set (0 + i * 1) (kb k i)).getD (0 + i * 1) 0) x))]) := by kernel_rfl
theorem t52b (k : ByteArray) (x i : Nat) (l : List Nat) : runTo E86 1000 (E86.S 107) (bodyOf Tryz.prog 107 3) (T52 k x (i : Int)) [bB l] [true, false] (T52 k x ((i : Int) + 1)) 1 =
    some ([decide ((i : Int) < 64) = true, decide ((i : Int) < (k.size : Int)) = false, (0 : Int) ≤ (i : Int) ∧ (i : Int) < ((64 : Nat) : Int), 0 + i * 1 < l.length, (0 : Int) ≤ (i : Int) ∧ (i : Int) < ((64 : Nat) : Int), 0 + i * 1 < l.length, inI ((i : Int) + 1)], .normal, T52 k x ((i : Int) + 1), [bB (l.set (0 + i * 1) (xr (l.getD (0 + i * 1) 0) x))]) := by kernel_rfl
theorem x52 (k : ByteArray) (x i : Nat) (l : List Nat) : runTo E86 1000 (E86.S 107) (bodyOf Tryz.prog 107 3) (T52 k x (i : Int)) [bB l] [false] (T52 k x (i : Int)) 1 =
    some ([decide ((i : Int) < 64) = false], .exit 0, T52 k x (i : Int), [bB l]) := by kernel_rfl
noncomputable def E86L (x : Nat) (l0 l1 : List Nat) : Env := addLp E86 4 (bodyOf Tryz.prog 213 4) (sumC (T86 x 0) [bB l0] (T86 x 64) [bB l1] (.exit 0))
noncomputable def E52L (k : ByteArray) (x : Nat) (l0 l1 : List Nat) : Env := addLp E86 3 (bodyOf Tryz.prog 107 3) (sumC (T52 k x 0) [bB l0] (T52 k x 64) [bB l1] (.exit 0))
def rep0 : List Nat := List.replicate 64 0
theorem r86 (x : Nat) (k : ByteArray) (l0 l1 : List Nat) : callR (E86L x l0 l1) 1000 213 [sS k, .one (.i 64), .one (.u .u8 x)] [] =
    some ([(0 : Int) ≤ 64 ∧ (64 : Int) = 64 ∧ (64 : Int) ≤ 140737488355328, 0 = 0 ∧ 64 = rep0.length ∧ k.size ≤ 64, bodyOf Tryz.prog 213 4 = bodyOf Tryz.prog 213 4, (T86 x 0, [bB (numsB k ++ List.drop k.size rep0)]) = (T86 x 0, [bB l0]), wfS (T86 x 0) [bB l0] = true, 0 = 0 ∧ 64 = l1.length], .val (sS (strOf l1))) := by kernel_rfl
theorem r52 (x : Nat) (k : ByteArray) (l0 l1 : List Nat) : callR (E52L k x l0 l1) 1000 107 [sS k, .one (.i 64), .one (.u .u8 x)] [] =
    some ([(0 : Int) ≤ 64 ∧ (64 : Int) = 64 ∧ (64 : Int) ≤ 140737488355328, bodyOf Tryz.prog 107 3 = bodyOf Tryz.prog 107 3, (T52 k x 0, [bB rep0]) = (T52 k x 0, [bB l0]), wfS (T52 k x 0) [bB l0] = true, 0 = 0 ∧ 64 = l1.length], .val (sS (strOf l1))) := by kernel_rfl
def tab (f : Nat → Nat) : List Nat := (List.range 64).map f
theorem tab_len (f : Nat → Nat) : (tab f).length = 64 := by simp [tab]
theorem tab_get (f : Nat → Nat) {i : Nat} (h : i < 64) : (tab f).getD i 0 = f i := by
  unfold tab
  rw [List.getD_eq_getElem?_getD, List.getElem?_map, List.getElem?_range h]; rfl
theorem tab_ext {f g : Nat → Nat} (h : ∀ i, i < 64 → f i = g i) : tab f = tab g := List.map_congr_left fun i hi => h i (List.mem_range.1 hi)
theorem tab_set (f : Nat → Nat) (i v : Nat) : (tab f).set i v = tab fun j => if j = i then v else f j := by
  apply List.ext_getElem?
  intro j
  unfold tab
  rw [List.getElem?_set]
  by_cases hj : j < 64
  · rw [List.getElem?_map, List.getElem?_map, List.getElem?_range hj]
    by_cases e : i = j
    · subst e; simp [hj]
    · simp [e, Ne.symm e]
  · rw [List.getElem?_eq_none (by simp; omega), List.getElem?_eq_none (by simp; omega)]
    split
    · split
      · rename_i h1 h2; rw [List.length_map, List.length_range] at h2; omega
      · rfl
    · rfl
theorem tab_of {l : List Nat} {f : Nat → Nat} (hl : l.length = 64) (h : ∀ i, i < 64 → l.getD i 0 = f i) : l = tab f := by
  apply List.ext_getElem?
  intro j
  unfold tab
  by_cases hj : j < 64
  · rw [List.getElem?_map, List.getElem?_range hj, Option.map_some, ← h j hj, List.getD_eq_getElem?_getD, List.getElem?_eq_getElem (by omega)]; rfl
  · rw [List.getElem?_eq_none (by omega), List.getElem?_eq_none (by simp; omega)]
def padS (k : ByteArray) (x : Nat) : ByteArray := strOf (tab fun j => xr (kb k j) x)
theorem padS_size (k : ByteArray) (x : Nat) : (padS k x).size = 64 := by unfold padS; rw [strOf_size, tab_len]
theorem kb_out {k : ByteArray} {j : Nat} (h : k.size ≤ j) : kb k j = 0 := by
  unfold kb
  rw [Array.getD, dif_neg (by show ¬ j < k.size; omega)]; rfl
theorem numsB_get (k : ByteArray) (j : Nat) : (numsB k).getD j 0 = kb k j := by
  unfold numsB kb
  rw [List.getD_eq_getElem?_getD, List.getElem?_map]
  by_cases h : j < k.data.size
  · rw [Array.getElem?_toList, Array.getElem?_eq_getElem h]; simp only [Array.getD, dif_pos h]; rfl
  · rw [Array.getElem?_toList, Array.getElem?_eq_none (by omega)]; simp only [Array.getD, dif_neg h]; rfl
theorem init86 {k : ByteArray} (h : k.size ≤ 64) : numsB k ++ List.drop k.size rep0 = tab (kb k) := by
  have hn : (numsB k).length = k.size := numsB_len k
  have hr : rep0.length = 64 := List.length_replicate
  refine tab_of (by rw [List.length_append, hn, List.length_drop, hr]; omega) fun i hi => ?_
  rw [List.getD_eq_getElem?_getD]
  by_cases hj : i < k.size
  · rw [List.getElem?_append_left (by omega), ← List.getD_eq_getElem?_getD, numsB_get]
  · rw [List.getElem?_append_right (by omega), hn, kb_out (by omega), List.getElem?_drop]
    unfold rep0
    rw [List.getElem?_replicate]
    split <;> rfl
theorem init52 : rep0 = tab fun _ => 0 := by
  refine tab_of List.length_replicate fun i hi => ?_
  unfold rep0
  rw [List.getD_eq_getElem?_getD, List.getElem?_replicate, if_pos hi]; rfl
theorem bB_free (l : List Nat) : ∀ b ∈ [bB l], Free b := by
  intro b hb
  simp only [List.mem_cons, List.not_mem_nil, or_false] at hb
  subst hb; exact fun _ => rfl
theorem wf86 (x : Nat) (i : Int) (l : List Nat) : wfS (T86 x i) [bB l] = true := wfS_of (bB_free l) (by show tmsWf 1 _ = true; kernel_rfl)
theorem wf52 (k : ByteArray) (x : Nat) (i : Int) (l : List Nat) : wfS (T52 k x i) [bB l] = true := wfS_of (bB_free l) (by show tmsWf 1 _ = true; kernel_rfl)
theorem step86 (x i : Nat) (l : List Nat) (hl : l.length = 64) (hi : i < 64) : Goes Tryz.prog (bodyOf Tryz.prog 213 4) .normal (T86 x (i : Int)) [bB l] (T86 x ((i : Int) + 1)) [bB (l.set (0 + i * 1) (xr (l.getD (0 + i * 1) 0) x))] :=
  Runs.goes envE86 ⟨_, _, t86 x i l, ⟨decide_eq_true (by omega), by omega, by omega, by omega, by omega, by unfold inI; omega, trivial⟩, wf86 _ _ _⟩
theorem out86 (x : Nat) (l : List Nat) : Goes Tryz.prog (bodyOf Tryz.prog 213 4) (.exit 0) (T86 x ((64 : Nat) : Int)) [bB l] (T86 x ((64 : Nat) : Int)) [bB l] :=
  Runs.goes envE86 ⟨_, _, x86 x 64 l, ⟨by decide, trivial⟩, wf86 _ _ _⟩
theorem step52a (k : ByteArray) (x i : Nat) (l : List Nat) (hl : l.length = 64) (hi : i < 64) (hk : i < k.size) : Goes Tryz.prog (bodyOf Tryz.prog 107 3) .normal (T52 k x (i : Int)) [bB l] (T52 k x ((i : Int) + 1)) [bB ((l.set (0 + i * 1) (kb k i)).set (0 + i * 1) (xr ((l.set (0 + i * 1) (kb k i)).getD (0 + i * 1) 0) x))] :=
  Runs.goes envE86 ⟨_, _, t52a k x i l, ⟨decide_eq_true (by omega), decide_eq_true (by omega), by omega, by omega, by omega, by omega, by rw [List.length_set]; omega, by omega, by rw [List.length_set]; omega, by unfold inI; omega, trivial⟩, wf52 _ _ _ _⟩
theorem step52b (k : ByteArray) (x i : Nat) (l : List Nat) (hl : l.length = 64) (hi : i < 64) (hk : k.size ≤ i) : Goes Tryz.prog (bodyOf Tryz.prog 107 3) .normal (T52 k x (i : Int)) [bB l] (T52 k x ((i : Int) + 1)) [bB (l.set (0 + i * 1) (xr (l.getD (0 + i * 1) 0) x))] :=
  Runs.goes envE86 ⟨_, _, t52b k x i l, ⟨decide_eq_true (by omega), decide_eq_false (by omega), by omega, by omega, by omega, by omega, by unfold inI; omega, trivial⟩, wf52 _ _ _ _⟩
theorem out52 (k : ByteArray) (x : Nat) (l : List Nat) : Goes Tryz.prog (bodyOf Tryz.prog 107 3) (.exit 0) (T52 k x ((64 : Nat) : Int)) [bB l] (T52 k x ((64 : Nat) : Int)) [bB l] :=
  Runs.goes envE86 ⟨_, _, x52 k x 64 l, ⟨by decide, trivial⟩, wf52 _ _ _ _⟩
theorem loop86 (k : ByteArray) (x : Nat) : Goes Tryz.prog (.loop (bodyOf Tryz.prog 213 4)) (.exit 0) (T86 x ((0 : Nat) : Int)) [bB (tab (kb k))] (T86 x ((64 : Nat) : Int)) [bB (tab fun j => xr (kb k j) x)] := by
  have e0 : tab (kb k) = tab fun j => if j < 0 then xr (kb k j) x else kb k j := tab_ext fun i _ => by simp
  have e1 : (tab fun j => xr (kb k j) x) = tab fun j => if j < 64 then xr (kb k j) x else kb k j := tab_ext fun i hi => by simp [hi]
  rw [e0, e1]
  refine loop_goes (N := 64) (k := 1) (T := fun i => T86 x (i : Int)) (M := fun i => [bB (tab fun j => if j < i then xr (kb k j) x else kb k j)]) (by simp) (fun _ _ => rfl) (fun i hi => ?_) ?_
  · have h := step86 x i (tab fun j => if j < i then xr (kb k j) x else kb k j) (tab_len _) hi
    rw [show 0 + i * 1 = i by omega, tab_get _ hi, tab_set, if_neg (Nat.lt_irrefl i)] at h
    have e : (tab fun j => if j = i then xr (kb k i) x else if j < i then xr (kb k j) x else kb k j) = tab fun j => if j < i + 1 then xr (kb k j) x else kb k j := tab_ext fun j _ => by
      by_cases h1 : j = i
      · subst h1; simp
      · by_cases h2 : j < i
        · simp [h1, h2, show j < i + 1 by omega]
        · simp [h1, h2, show ¬ j < i + 1 by omega]
    rw [e] at h
    exact h
  · exact out86 x _
theorem loop52 (k : ByteArray) (x : Nat) : Goes Tryz.prog (.loop (bodyOf Tryz.prog 107 3)) (.exit 0) (T52 k x ((0 : Nat) : Int)) [bB rep0] (T52 k x ((64 : Nat) : Int)) [bB (tab fun j => xr (kb k j) x)] := by
  have e0 : rep0 = tab fun j => if j < 0 then xr (kb k j) x else 0 := by rw [init52]; exact tab_ext fun i _ => by simp
  have e1 : (tab fun j => xr (kb k j) x) = tab fun j => if j < 64 then xr (kb k j) x else 0 := tab_ext fun i hi => by simp [hi]
  rw [e0, e1]
  refine loop_goes (N := 64) (k := 1) (T := fun i => T52 k x (i : Int)) (M := fun i => [bB (tab fun j => if j < i then xr (kb k j) x else 0)]) (by simp) (fun _ _ => rfl) (fun i hi => ?_) ?_
  · have e : (tab fun j => if j = i then xr (kb k i) x else if j < i then xr (kb k j) x else 0) = tab fun j => if j < i + 1 then xr (kb k j) x else 0 := tab_ext fun j _ => by
      by_cases h1 : j = i
      · subst h1; simp
      · by_cases h2 : j < i
        · simp [h1, h2, show j < i + 1 by omega]
        · simp [h1, h2, show ¬ j < i + 1 by omega]
    by_cases hk : i < k.size
    · have h := step52a k x i (tab fun j => if j < i then xr (kb k j) x else 0) (tab_len _) hi hk
      rw [show 0 + i * 1 = i by omega, tab_set, tab_set, tab_get _ hi, if_pos rfl] at h
      have e2 : (tab fun j => if j = i then xr (kb k i) x else if j = i then kb k i else if j < i then xr (kb k j) x else 0) = tab fun j => if j = i then xr (kb k i) x else if j < i then xr (kb k j) x else 0 := tab_ext fun j _ => by
        by_cases h1 : j = i <;> simp [h1]
      rw [e2, e] at h
      exact h
    · have h := step52b k x i (tab fun j => if j < i then xr (kb k j) x else 0) (tab_len _) hi (by omega)
      rw [show 0 + i * 1 = i by omega, tab_get _ hi, tab_set, if_neg (Nat.lt_irrefl i)] at h
      have e3 : xr 0 x = xr (kb k i) x := by rw [kb_out (by omega)]
      rw [e3, e] at h
      exact h
  · exact out52 k x _
theorem spec86 (k : ByteArray) (x : Nat) (h : k.size ≤ 64) : Spec 213 [sS k, .one (.i 64), .one (.u .u8 x)] (.val (sS (padS k x))) := by
  have hE : EnvOK (E86L x (tab (kb k)) (tab fun j => xr (kb k j) x)) := envAddLp envE86 (sumC_ok rfl (loop86 k x))
  exact spec_run hE rfl (r86 x k _ _) ⟨by omega, ⟨rfl, List.length_replicate.symm, h⟩, rfl, by rw [init86 h], wf86 _ _ _, ⟨rfl, (tab_len _).symm⟩, trivial⟩ rfl rfl
theorem spec52 (k : ByteArray) (x : Nat) : Spec 107 [sS k, .one (.i 64), .one (.u .u8 x)] (.val (sS (padS k x))) := by
  have hE : EnvOK (E52L k x rep0 (tab fun j => xr (kb k j) x)) := envAddLp envE86 (sumC_ok rfl (loop52 k x))
  exact spec_run hE rfl (r52 x k _ _) ⟨by omega, rfl, rfl, wf52 _ _ _ _, ⟨rfl, (tab_len _).symm⟩, trivial⟩ rfl rfl
def fnPad (vs : List V1) : Option (List Prop × AV) := match vs with | [.one (.v (.string k)), .one (.i z), .one (.u .u8 x)] => some ([z = 64, k.size ≤ 64], .val (sS (padS k x))) | _ => none
theorem ct213 : CTok ⟨213, fnPad⟩ := by
  intro vs ob r h ho
  simp only [fnPad] at h
  split at h
  · simp only [Option.some.injEq, Prod.mk.injEq] at h
    obtain ⟨rfl, rfl⟩ := h
    obtain ⟨rfl, h2, _⟩ := ho
    exact spec86 _ _ h2
  · simp at h
theorem ct107 : CTok ⟨107, fnPad⟩ := by
  intro vs ob r h ho
  simp only [fnPad] at h
  split at h
  · simp only [Option.some.injEq, Prod.mk.injEq] at h
    obtain ⟨rfl, rfl⟩ := h
    obtain ⟨rfl, _, _⟩ := ho
    exact spec52 _ _
  · simp at h
noncomputable def hmac2 (k s : ByteArray) : ByteArray := sum2 (padS k 92 ++ sum2 (padS k 54 ++ s))
noncomputable def LHm : List CT := [⟨213, fnPad⟩, ⟨107, fnPad⟩, ⟨33, fnS2⟩, ⟨46, fnS2⟩]
theorem LHm_ok : AllCT LHm := ⟨ct213, ct107, ct33, ct46, trivial⟩
noncomputable def SHm : FuncId → Nat → Bool := fun f t => match f with | 188 => memN t [12, 25, 27] | 157 => memN t [7, 15, 17] | _ => false
theorem r39 (k s : ByteArray) : callR (mkE LHm SHm) 1000 131 [sS k, sS s] [false] =
    some ([decide ((64 : Int) < (k.size : Int)) = false, (64 : Int) = 64, k.size ≤ 64, (64 : Int) = 64, k.size ≤ 64, (padS k 54).size + s.size ≤ 9223372036854775807, (padS k 54 ++ s).size ≤ 100000000000000, (padS k 92).size + (sum2 (padS k 54 ++ s)).size ≤ 9223372036854775807, (padS k 92 ++ sum2 (padS k 54 ++ s)).size ≤ 100000000000000], .val (sS (hmac2 k s))) := by kernel_rfl
theorem r31 (k s : ByteArray) : callR (mkE LHm SHm) 1000 157 [sS k, sS s] [false] =
    some ([decide ((64 : Int) < (k.size : Int)) = false, (64 : Int) = 64, k.size ≤ 64, (64 : Int) = 64, k.size ≤ 64, (padS k 54).size + s.size ≤ 9223372036854775807, (padS k 54 ++ s).size ≤ 100000000000000, (padS k 92).size + (sum2 (padS k 54 ++ s)).size ≤ 9223372036854775807, (padS k 92 ++ sum2 (padS k 54 ++ s)).size ≤ 100000000000000], .val (sS (hmac2 k s))) := by kernel_rfl
theorem hmac2_size (k s : ByteArray) : (hmac2 k s).size = 32 := sum2_size _
theorem hm_ob {k s : ByteArray} (hk : k.size ≤ 64) (hs : s.size ≤ 10000000000000) : All [decide ((64 : Int) < (k.size : Int)) = false, (64 : Int) = 64, k.size ≤ 64, (64 : Int) = 64, k.size ≤ 64, (padS k 54).size + s.size ≤ 9223372036854775807, (padS k 54 ++ s).size ≤ 100000000000000, (padS k 92).size + (sum2 (padS k 54 ++ s)).size ≤ 9223372036854775807, (padS k 92 ++ sum2 (padS k 54 ++ s)).size ≤ 100000000000000] := by
  have e1 := padS_size k 54
  have e2 := padS_size k 92
  have e3 := sum2_size (padS k 54 ++ s)
  have e4 : (padS k 54 ++ s).size = 64 + s.size := by rw [ByteArray.size_append, e1]
  have e5 : (padS k 92 ++ sum2 (padS k 54 ++ s)).size = 96 := by rw [ByteArray.size_append, e2, e3]
  exact ⟨decide_eq_false (by omega), rfl, hk, rfl, hk, by omega, by omega, by omega, by omega, trivial⟩
noncomputable def fnHm2 (vs : List V1) : Option (List Prop × AV) := match vs with | [.one (.v (.string k)), .one (.v (.string s))] => some ([k.size ≤ 64, s.size ≤ 10000000000000], .val (sS (hmac2 k s))) | _ => none
theorem ct131 : CTok ⟨131, fnHm2⟩ := by
  intro vs ob r h ho
  simp only [fnHm2] at h
  split at h
  · simp only [Option.some.injEq, Prod.mk.injEq] at h
    obtain ⟨rfl, rfl⟩ := h
    obtain ⟨h1, h2, _⟩ := ho
    exact spec_run (envMk LHm_ok SHm) rfl (r39 _ _) (hm_ob h1 h2) rfl rfl
  · simp at h
theorem ct157 : CTok ⟨157, fnHm2⟩ := by
  intro vs ob r h ho
  simp only [fnHm2] at h
  split at h
  · simp only [Option.some.injEq, Prod.mk.injEq] at h
    obtain ⟨rfl, rfl⟩ := h
    obtain ⟨h1, h2, _⟩ := ho
    exact spec_run (envMk LHm_ok SHm) rfl (r31 _ _) (hm_ob h1 h2) rfl rfl
  · simp at h
end Go.Ev.H5

namespace Go.Ev
open Go Go.Proofs Go.RowKit
def fBg : List V1 → Option (List Prop × AV) := fn1 fun a => .val (sS (bgS a))
theorem ct59b : CTok ⟨40, fBg⟩ := fun _ _ _ h ho => fn1_ok (fun a h => spec59s a h) h ho
theorem ct60b : CTok ⟨8, fBg⟩ := fun _ _ _ h ho => fn1_ok (fun a _ => spec60s a) h ho
noncomputable def LBx : List CT := ⟨40, fBg⟩ :: ⟨8, fBg⟩ :: L3a
theorem LBx_ok : AllCT LBx := ⟨ct59b, ct60b, L3a_ok⟩
noncomputable def SPk : FuncId → Nat → Bool := fun f t => match f with | 29 => memN t [14, 2000010] | 43 => memN t [14, 2000010] | _ => false
def packW (x y : Nat) : ByteArray := strOf [2 + y % 2] ++ bgS x
def hdA (y : Nat) : Nat := (2 + (y % 4294967296 % 4294967296 &&& 1 % 4294967296) % 256) % 256
def hdB (y : Nat) : Nat := (2 + (y % 4294967296 % 4294967296 &&& 1 % 4294967296)) % 4294967296 % 256
theorem and1W (x : Nat) : x % 4294967296 % 4294967296 &&& 1 % 4294967296 = x % 2 := by
  rw [show (1 % 4294967296 : Nat) = 2 ^ 1 - 1 from rfl, Nat.and_two_pow_sub_one_eq_mod]; omega
theorem hdA_eq (y : Nat) : hdA y = 2 + y % 2 := by unfold hdA; rw [and1W]; omega
theorem hdB_eq (y : Nat) : hdB y = 2 + y % 2 := by unfold hdB; rw [and1W]; omega
theorem r58 (x y : Nat) (i : Bool) : callR (mkE LBx SPk) 1000 29 [P3 x y i] [] = some ([x < 4294967296 ^ 8, (strOf [hdA y]).size + (bgS x).size ≤ 9223372036854775807], .val (sS (strOf [hdA y] ++ bgS x))) := by kernel_rfl
theorem r32 (x y : Nat) (i : Bool) : callR (mkE LBx SPk) 1000 43 [P3 x y i] [] = some ([x < 4294967296 ^ 8, (strOf [hdB y]).size + (bgS x).size ≤ 9223372036854775807], .val (sS (strOf [hdB y] ++ bgS x))) := by kernel_rfl
theorem bgS_size (x : Nat) : (bgS x).size = 32 := by unfold bgS; rw [revS_size, leB_size]
theorem one_size (n : Nat) : (strOf [n]).size = 1 := by rw [strOf_size]; rfl
theorem spec58s (x y : Nat) (i : Bool) (hx : x < 4294967296 ^ 8) : Spec 29 [P3 x y i] (.val (sS (packW x y))) := by
  have := spec_run (envMk LBx_ok SPk) rfl (r58 x y i) ⟨hx, by rw [one_size, bgS_size]; decide, trivial⟩ rfl rfl
  rw [hdA_eq] at this
  exact this
theorem spec32s (x y : Nat) (i : Bool) (hx : x < 4294967296 ^ 8) : Spec 43 [P3 x y i] (.val (sS (packW x y))) := by
  have := spec_run (envMk LBx_ok SPk) rfl (r32 x y i) ⟨hx, by rw [one_size, bgS_size]; decide, trivial⟩ rfl rfl
  rw [hdB_eq] at this
  exact this
def gOf58 : List Val → Option (List Prop × AV)
  | [.n x, .n y, .b i] => some ([], .val (sS (packW x y)))
  | _ => none
theorem ct58s : CTok ⟨29, fnS [aSp] gOf58⟩ := ctS (by
  intro xs ob r hb h ho
  unfold gOf58 at h
  split at h
  · simp only [Option.some.injEq, Prod.mk.injEq] at h
    obtain ⟨rfl, rfl⟩ := h
    obtain ⟨⟨h1, h2, _⟩, _⟩ := hb
    exact spec58s _ _ _ h1
  · simp at h)
theorem ct32s : CTok ⟨43, fnS [aSp] gOf58⟩ := ctS (by
  intro xs ob r hb h ho
  unfold gOf58 at h
  split at h
  · simp only [Option.some.injEq, Prod.mk.injEq] at h
    obtain ⟨rfl, rfl⟩ := h
    obtain ⟨⟨h1, h2, _⟩, _⟩ := hb
    exact spec32s _ _ _ h1
  · simp at h)
end Go.Ev

namespace Go.Ev
open Go Go.Proofs Go.RowKit
end Go.Ev

namespace Go.Ev
open Go Go.Proofs Go.RowKit
end Go.Ev

namespace Go.Ev
open Go Go.Proofs Go.RowKit
def fBe61 (vs : List V1) : Option (List Prop × AV) := match vs with | [.one (.v (.string s))] => some ([s.size = 32], .tup [N8 (beS s), .one (.i 0)]) | _ => none
theorem ct61b : CTok ⟨64, fBe61⟩ := by
  intro vs ob r h ho
  simp only [fBe61] at h
  split at h
  · simp only [Option.some.injEq, Prod.mk.injEq] at h
    obtain ⟨rfl, rfl⟩ := h
    exact spec61s _ ho.1
  · simp at h
def fBe64 (vs : List V1) : Option (List Prop × AV) := match vs with | [.one (.v (.string s))] => some ([s.size = 32], .val (N8 (beS s))) | _ => none
theorem ct64b : CTok ⟨41, fBe64⟩ := by
  intro vs ob r h ho
  simp only [fBe64] at h
  split at h
  · simp only [Option.some.injEq, Prod.mk.injEq] at h
    obtain ⟨rfl, rfl⟩ := h
    exact spec64s _ ho.1
  · simp at h
end Go.Ev

namespace Go.Ev.H5
open Go Go.Proofs Go.RowKit
set_option maxRecDepth 100000
def fnRem (vs : List V1) : Option (List Prop × AV) :=
  match vs with
  | [x, y] => match numP 16 x, numP 8 y with
    | some (o, a), some (o', b) => some ((0 < b) :: (o ++ o'), .tup [N8 (remN a b), .one (.i 0)])
    | _, _ => none
  | _ => none
theorem ctRem : CTok ⟨136, fnRem⟩ := by
  intro vs ob r h ho
  simp only [fnRem] at h
  split at h
  · split at h
    · rename_i o a o' b hx hy
      simp only [Option.some.injEq, Prod.mk.injEq] at h
      obtain ⟨rfl, rfl⟩ := h
      obtain ⟨h0, ho⟩ := ho
      rw [All_append] at ho
      obtain ⟨h1, h2⟩ := numP_spec hx ho.1
      obtain ⟨h3, h4⟩ := numP_spec hy ho.2
      exact (spec48 a b h1 h3 h0).congr (fun φ => by simp only [List.map_cons, List.map_nil]; rw [← h2 φ, ← h4 φ]; rfl) (fun _ => rfl)
    · simp at h
  · simp at h
noncomputable def LNn : List CT := ⟨136, fnRem⟩ :: ⟨184, fn2 fun a b => .val (N16 (a * b))⟩ :: ⟨137, fn2 fun a b => .val (N16 (joinN a b))⟩ :: ⟨76, fn1 fun a => .val (N16 (joinN a 0))⟩ :: ⟨77, fnS [.z, .s [.n8]] gFis⟩ :: ⟨33, fnS2⟩ :: ⟨46, fnS2⟩ :: ⟨64, fBe61⟩ :: ⟨41, fBe64⟩ :: ⟨40, fBg⟩ :: ⟨8, fBg⟩ :: ⟨7, fnZs⟩ :: L0
theorem LNn_ok : AllCT LNn := ⟨ctRem, fun _ _ _ h ho => fn2_ok spec92 h ho, fun _ _ _ h ho => fn2_ok spec77 h ho, fun _ _ _ h ho => fn1_ok Go.Ev.spec73 h ho, ct85, ct33, ct46, ct61b, ct64b, ct59b, ct60b, ct21z, L0_ok⟩
def SNn : FuncId → Nat → Bool := fun f t => match f with | 39 => memN t [5] | 42 => memN t [5] | 88 => memN t [7, 21] | 82 => memN t [13, 18] | 35 => memN t [11, 16] | _ => false
noncomputable def od (a : Nat) : Nat := remN (joinN a 0) (modN 3)
noncomputable def ivN (a : Nat) : Nat := outN (modN 3) (minvN (modN 3) (inN (modN 3) a))
theorem od_lt (a : Nat) : od a < modN 3 := remN_lt (modN_pos 3)
theorem ivN_lt (a : Nat) : ivN a < modN 3 := outN_lt (modN_pos 3)
theorem join0 {a : Nat} (h : a < 4294967296 ^ 8) : joinN a 0 < 4294967296 ^ 16 := joinN_lt0 h
theorem r75 (a : Nat) : callR (mkE LNn SNn) 1000 75 [zV 3, N16 a] [] = some ([0 < modN 3, a < 4294967296 ^ 16, modN 3 < 4294967296 ^ 8], .tup [N8 (remN a (modN 3)), .one (.i 0)]) := by kernel_rfl
theorem r34o (a : Nat) : callR (mkE LNn SNn) 1000 34 [N8 a] [] = some ([a < 4294967296 ^ 8, 0 < modN 3, joinN a 0 < 4294967296 ^ 16, modN 3 < 4294967296 ^ 8], .val (N8 (od a))) := by kernel_rfl
theorem r49o (a : Nat) : callR (mkE LNn SNn) 1000 49 [N8 a] [] = some ([a < 4294967296 ^ 8, 0 < 4294967296, 0 < 4294967296, 0 < 4294967296, 0 < 4294967296, 0 < 4294967296, 0 < 4294967296, 0 < 4294967296, 0 < 4294967296, (0 : Int) ≤ 3 ∧ (3 : Int) < 4, joinN a 0 < 4294967296 ^ 16], .val (N8 (od a))) := by kernel_rfl
theorem spec34o (a : Nat) (h : a < 4294967296 ^ 8) : Spec 34 [N8 a] (.val (N8 (od a))) := spec_run (envMk LNn_ok SNn) rfl (r34o a) ⟨h, modN_pos 3, join0 h, modN_lt 3, trivial⟩ rfl rfl
theorem spec49o (a : Nat) (h : a < 4294967296 ^ 8) : Spec 49 [N8 a] (.val (N8 (od a))) := by
  have z : (0 : Nat) < 4294967296 := by decide
  exact spec_run (envMk LNn_ok SNn) rfl (r49o a) ⟨h, z, z, z, z, z, z, z, z, by omega, join0 h, trivial⟩ rfl rfl
def fn75 (vs : List V1) : Option (List Prop × AV) :=
  match vs with
  | [.one (.i z), x] => match numP 16 x with
    | some (o, a) => some ((z = 3) :: o, .tup [N8 (remN a (modN 3)), .one (.i 0)])
    | none => none
  | _ => none
theorem ct75 : CTok ⟨75, fn75⟩ := by
  intro vs ob r h ho
  simp only [fn75] at h
  split at h
  · split at h
    · rename_i o a hx
      simp only [Option.some.injEq, Prod.mk.injEq] at h
      obtain ⟨rfl, rfl⟩ := h
      obtain ⟨rfl, ho⟩ := ho
      obtain ⟨h1, h2⟩ := numP_spec hx ho
      exact (spec_run (envMk LNn_ok SNn) rfl (r75 a) ⟨modN_pos 3, h1, modN_lt 3, trivial⟩ rfl rfl).congr (fun φ => by simp only [List.map_cons, List.map_nil]; rw [← h2 φ]; rfl) (fun _ => rfl)
    · simp at h
  · simp at h
theorem r83 (m q a b : Nat) : callR (mkE LNn SNn) 1000 83 [rV0 m q, N8 a, N8 b] [] =
    some ([a < 4294967296 ^ 8, b < 4294967296 ^ 8, 0 < m, a * b < 4294967296 ^ 16, m < 4294967296 ^ 8], .val (N8 (remN (a * b) m))) := by kernel_rfl
theorem mul16 {a b : Nat} (ha : a < 4294967296 ^ 8) (hb : b < 4294967296 ^ 8) : a * b < 4294967296 ^ 16 := by
  have := Nat.mul_lt_mul'' ha hb
  rwa [← Nat.pow_add] at this
def fn83 (vs : List V1) : Option (List Prop × AV) :=
  match vs with
  | [.agg [.num 8 m, .a (.u .u32 _)], x, y] => match numP 8 x, numP 8 y with
    | some (o, a), some (o', b) => some ((0 < m) :: (m < 4294967296 ^ 8) :: (o ++ o'), .val (N8 (remN (a * b) m)))
    | _, _ => none
  | _ => none
theorem ct83 : CTok ⟨83, fn83⟩ := by
  intro vs ob r h ho
  simp only [fn83] at h
  split at h
  · rename_i m q x y
    split at h
    · rename_i o a o' b hx hy
      simp only [Option.some.injEq, Prod.mk.injEq] at h
      obtain ⟨rfl, rfl⟩ := h
      obtain ⟨h0, hm, ho⟩ := ho
      rw [All_append] at ho
      obtain ⟨h1, h2⟩ := numP_spec hx ho.1
      obtain ⟨h3, h4⟩ := numP_spec hy ho.2
      exact (spec_run (envMk LNn_ok SNn) rfl (r83 m q a b) ⟨h1, h3, h0, mul16 h1 h3, hm, trivial⟩ rfl rfl).congr (fun φ => by simp only [List.map_cons, List.map_nil]; rw [← h2 φ, ← h4 φ]; rfl) (fun _ => rfl)
    · simp at h
  · simp at h
noncomputable def LFn : List CT := ⟨75, fn75⟩ :: ⟨83, fn83⟩ :: ⟨34, fn1 fun a => .val (N8 (od a))⟩ :: ⟨49, fn1 fun a => .val (N8 (od a))⟩ :: LNn
theorem LFn_ok : AllCT LFn := ⟨ct75, ct83, fun _ _ _ h ho => fn1_ok spec34o h ho, fun _ _ _ h ho => fn1_ok spec49o h ho, LNn_ok⟩
theorem r36 (a b : Nat) : callR (mkE LFn SNn) 1000 36 [zV 3, N8 a, N8 b] [false, false] =
    some ([a < 4294967296 ^ 8, (!ok1 3 a) = false, b < 4294967296 ^ 8, (!ok1 3 b) = false, (0 : Int) ≤ 3 ∧ (3 : Int) < 4, 0 < modN 3, modN 3 < 4294967296 ^ 8, a < 4294967296 ^ 8, b < 4294967296 ^ 8], .tup [N8 (mulM (modN 3) a b), .one (.i 0)]) := by kernel_rfl
theorem r37 (a b : Nat) : callR (mkE LFn SNn) 1000 37 [zV 3, N8 a, N8 b] [false, false] =
    some ([a < 4294967296 ^ 8, (!ok1 3 a) = false, b < 4294967296 ^ 8, (!ok1 3 b) = false, (0 : Int) ≤ 3 ∧ (3 : Int) < 4, modN 3 < 4294967296 ^ 8, a < modN 3, b < modN 3, a < 4294967296 ^ 8, b < 4294967296 ^ 8], .tup [N8 (addM (modN 3) a b), .one (.i 0)]) := by kernel_rfl
theorem r35 (a : Nat) : callR (mkE LFn SNn) 1000 35 [zV 3, N8 a] [false, false] =
    some ([a < 4294967296 ^ 8, (!ok1 3 a) = false, isZ a = false, (0 : Int) ≤ 3 ∧ (3 : Int) < 4, modN 3 < 4294967296 ^ 8, 0 < modN 3, a < 4294967296 ^ 8, modN 3 < 4294967296 ^ 8, inN (modN 3) a < modN 3, goodF (modN 3) (facN 3), inN (modN 3) a < 4294967296 ^ 8, modN 3 < 4294967296 ^ 8, minvN (modN 3) (inN (modN 3) a) < modN 3, goodF (modN 3) (facN 3), minvN (modN 3) (inN (modN 3) a) < 4294967296 ^ 8], .tup [N8 (ivN a), .one (.i 0)]) := by kernel_rfl
theorem r53 (a : Nat) : callR (mkE LFn SNn) 1000 53 [zV 3, N8 a] [] =
    some ([(0 : Int) ≤ 3 ∧ (3 : Int) < 4, 2 < 4294967296, modN 3 < 4294967296 ^ 8, 2 < 4294967296 ^ 8, (0 : Int) ≤ 3 ∧ (3 : Int) < 4, okR (modN 3) (facR (limb (modN 3) 0)) (r2N (modN 3)), a < modN 3, a < 4294967296 ^ 8, okR (modN 3) (facR (limb (modN 3) 0)) (r2N (modN 3)), 1 < modN 3, inN (modN 3) a < modN 3, inN (modN 3) a < 4294967296 ^ 8, subN (modN 3) 2 < 4294967296 ^ 8, okR (modN 3) (facR (limb (modN 3) 0)) (r2N (modN 3)), minvN (modN 3) (inN (modN 3) a) < modN 3, minvN (modN 3) (inN (modN 3) a) < 4294967296 ^ 8], .val (N8 (ivN a))) := by kernel_rfl
theorem ok13 {x : Nat} : ok1 3 x = decide (x < modN 3) := by unfold ok1 lessB; rfl
theorem ok13' {a : Nat} (h : a < modN 3) : (!ok1 3 a) = false := by rw [ok13, decide_eq_true h]; rfl
def fnZ3 (g : Nat → Nat → Nat) (vs : List V1) : Option (List Prop × AV) :=
  match vs with
  | [.one (.i z), x, y] => match numP 8 x, numP 8 y with
    | some (o, a), some (o', b) => some ((z = 3) :: (a < modN 3) :: (b < modN 3) :: (o ++ o'), .tup [N8 (g a b), .one (.i 0)])
    | _, _ => none
  | _ => none
theorem fnZ3_ok {f : FuncId} {g : Nat → Nat → Nat} (hg : ∀ a b, a < modN 3 → b < modN 3 → Spec f [zV 3, N8 a, N8 b] (.tup [N8 (g a b), .one (.i 0)])) : CTok ⟨f, fnZ3 g⟩ := by
  intro vs ob r h ho
  simp only [fnZ3] at h
  split at h
  · split at h
    · rename_i o a o' b hx hy
      simp only [Option.some.injEq, Prod.mk.injEq] at h
      obtain ⟨rfl, rfl⟩ := h
      obtain ⟨rfl, ha, hb, ho⟩ := ho
      rw [All_append] at ho
      obtain ⟨h1, h2⟩ := numP_spec hx ho.1
      obtain ⟨h3, h4⟩ := numP_spec hy ho.2
      exact (hg a b ha hb).congr (fun φ => by simp only [List.map_cons, List.map_nil]; rw [← h2 φ, ← h4 φ]; rfl) (fun _ => rfl)
    · simp at h
  · simp at h
theorem ct36n : CTok ⟨36, fnZ3 (mulM (modN 3))⟩ := fnZ3_ok fun a b ha hb => spec_run (envMk LFn_ok SNn) rfl (r36 a b) ⟨L8 ha, ok13' ha, L8 hb, ok13' hb, by decide, modN_pos 3, modN_lt 3, L8 ha, L8 hb, trivial⟩ rfl rfl
theorem ct37n : CTok ⟨37, fnZ3 (addM (modN 3))⟩ := fnZ3_ok fun a b ha hb => spec_run (envMk LFn_ok SNn) rfl (r37 a b) ⟨L8 ha, ok13' ha, L8 hb, ok13' hb, by decide, modN_lt 3, ha, hb, L8 ha, L8 hb, trivial⟩ rfl rfl
noncomputable def fnIv (t : Bool) (vs : List V1) : Option (List Prop × AV) :=
  match vs with
  | [.one (.i z), x] => match numP 8 x with
    | some (o, a) => some ((z = 3) :: (a < modN 3) :: (isZ a = false) :: o, bif t then .tup [N8 (ivN a), .one (.i 0)] else .val (N8 (ivN a)))
    | none => none
  | _ => none
theorem minv3 (a : Nat) : minvN (modN 3) (inN (modN 3) a) < modN 3 := minvN_lt (modN_pos 3)
theorem in3 (a : Nat) : inN (modN 3) a < modN 3 := inN_lt (modN_pos 3)
theorem ct35n : CTok ⟨35, fnIv true⟩ := by
  intro vs ob r h ho
  simp only [fnIv] at h
  split at h
  · split at h
    · rename_i o a hx
      simp only [Option.some.injEq, Prod.mk.injEq, cond_true] at h
      obtain ⟨rfl, rfl⟩ := h
      obtain ⟨rfl, ha, hz, ho⟩ := ho
      obtain ⟨h1, h2⟩ := numP_spec hx ho
      exact (spec_run (envMk LFn_ok SNn) rfl (r35 a) ⟨h1, ok13' ha, hz, by decide, modN_lt 3, modN_pos 3, h1, modN_lt 3, in3 a, good_fac (by decide), L8 (in3 a), modN_lt 3, minv3 a, good_fac (by decide), L8 (minv3 a), trivial⟩ rfl rfl).congr (fun φ => by simp only [List.map_cons, List.map_nil]; rw [← h2 φ]; rfl) (fun _ => rfl)
    · simp at h
  · simp at h
theorem ct53n : CTok ⟨53, fnIv false⟩ := by
  intro vs ob r h ho
  simp only [fnIv] at h
  split at h
  · split at h
    · rename_i o a hx
      simp only [Option.some.injEq, Prod.mk.injEq, cond_false] at h
      obtain ⟨rfl, rfl⟩ := h
      obtain ⟨rfl, ha, hz, ho⟩ := ho
      obtain ⟨h1, h2⟩ := numP_spec hx ho
      exact (spec_run (envMk LFn_ok SNn) rfl (r53 a) ⟨by decide, by decide, modN_lt 3, by decide, by decide, okR_K (by decide), ha, h1, okR_K (by decide), modN_one 3, in3 a, L8 (in3 a), subN_lt _ _, okR_K (by decide), minv3 a, L8 (minv3 a), trivial⟩ rfl rfl).congr (fun φ => by simp only [List.map_cons, List.map_nil]; rw [← h2 φ]; rfl) (fun _ => rfl)
    · simp at h
  · simp at h
end Go.Ev.H5

namespace Go.Ev.H5
open Go Go.Proofs Go.RowKit
set_option maxRecDepth 100000
noncomputable def LKy : List CT := ⟨36, fnZ3 (mulM (modN 3))⟩ :: ⟨37, fnZ3 (addM (modN 3))⟩ :: ⟨35, fnIv true⟩ :: ⟨53, fnIv false⟩ :: LFn
theorem LKy_ok : AllCT LKy := ⟨ct36n, ct37n, ct35n, ct53n, LFn_ok⟩
noncomputable def SKy : FuncId → Nat → Bool := fun f t => match f with
  | 39 => memN t [5] | 42 => memN t [5] | 82 => memN t [12, 17] | 88 => memN t [7, 21] | _ => false
def gd (a : Nat) : Bool := !isZ a && decide (a < modN 3)
theorem r72z (a : Nat) : callR (mkE LKy SKy) 1000 39 [N8 a] [false] = some ([(!isZ a) = false], bV false) := by kernel_rfl
theorem r72n (a : Nat) : callR (mkE LKy SKy) 1000 39 [N8 a] [true] = some ([(!isZ a) = true, a < 4294967296 ^ 8], bV (decide (a < modN 3))) := by kernel_rfl
theorem r47z (a : Nat) : callR (mkE LKy SKy) 1000 42 [N8 a] [false] = some ([(!isZ a) = false], bV false) := by kernel_rfl
theorem r47n (a : Nat) : callR (mkE LKy SKy) 1000 42 [N8 a] [true, true, true] = some ([(!isZ a) = true, modB 3 = true, (0 : Int) ≤ 3 ∧ (3 : Int) < 4, decide (a < modN 3) = true, a < 4294967296 ^ 8, modN 3 < 4294967296 ^ 8], bV true) := by kernel_rfl
theorem r47f (a : Nat) : callR (mkE LKy SKy) 1000 42 [N8 a] [true, true, false] = some ([(!isZ a) = true, modB 3 = true, (0 : Int) ≤ 3 ∧ (3 : Int) < 4, decide (a < modN 3) = false, a < 4294967296 ^ 8, modN 3 < 4294967296 ^ 8], bV false) := by kernel_rfl
theorem spec72 (a : Nat) (h : a < 4294967296 ^ 8) : Spec 39 [N8 a] (bV (gd a)) := by
  unfold gd
  cases hz : isZ a with
  | true => exact spec_run (envMk LKy_ok SKy) rfl (r72z a) ⟨by rw [hz]; rfl, trivial⟩ rfl rfl
  | false => exact spec_run (envMk LKy_ok SKy) rfl (r72n a) ⟨by rw [hz]; rfl, h, trivial⟩ rfl rfl
theorem spec47k (a : Nat) (h : a < 4294967296 ^ 8) : Spec 42 [N8 a] (bV (gd a)) := by
  unfold gd
  cases hz : isZ a with
  | true => exact spec_run (envMk LKy_ok SKy) rfl (r47z a) ⟨by rw [hz]; rfl, trivial⟩ rfl rfl
  | false =>
    cases hd : decide (a < modN 3) with
    | true => exact spec_run (envMk LKy_ok SKy) rfl (r47n a) ⟨by rw [hz]; rfl, by decide, by omega, hd, h, modN_lt 3, trivial⟩ rfl rfl
    | false => exact spec_run (envMk LKy_ok SKy) rfl (r47f a) ⟨by rw [hz]; rfl, by decide, by omega, hd, h, modN_lt 3, trivial⟩ rfl rfl
noncomputable def gGd : List V1 → Option (List Prop × AV) := fn1 fun a => bV (gd a)
noncomputable def LKz : List CT := ⟨39, gGd⟩ :: ⟨42, gGd⟩ :: LKy
theorem LKz_ok : AllCT LKz := ⟨fun _ _ _ h ho => fn1_ok spec72 h ho, fun _ _ _ h ho => fn1_ok spec47k h ho, LKy_ok⟩
noncomputable def SKz : FuncId → Nat → Bool := fun f t => match f with
  | 12 => memN t [7] | 58 => memN t [4, 7] | 18 => memN t [4, 7] | 55 => memN t [19, 25, 29] | 82 => memN t [12, 17] | _ => false
def zK : V1 := .agg [.a (.u .u32 0), .a (.u .u32 0), .a (.u .u32 0), .a (.u .u32 0), .a (.u .u32 0), .a (.u .u32 0), .a (.u .u32 0), .a (.u .u32 0)]
theorem r43 (s : ByteArray) : callR (mkE LKz SKz) 1000 28 [sS s] [] = some ([s.size = 32, beS s < 4294967296 ^ 8], .tup [N8 (beS s), .one (.v (.bool (gd (beS s))))]) := by kernel_rfl
theorem r28 (s : ByteArray) : callR (mkE LKz SKz) 1000 12 [sS s] [false] = some ([(!decide ((s.size : Int) = 32)) = false, s.size = 32, beS s < 4294967296 ^ 8], .tup [N8 (beS s), .one (.v (.bool (gd (beS s))))]) := by kernel_rfl
theorem r28n (s : ByteArray) : callR (mkE LKz SKz) 1000 12 [sS s] [true] = some ([(!decide ((s.size : Int) = 32)) = true], .tup [zK, .one (.v (.bool false))]) := by kernel_rfl
theorem beS_lt {s : ByteArray} (h : s.size = 32) : beS s < 4294967296 ^ 8 := by
  have := leS_lt (revS s)
  rw [revS_size, h] at this
  exact Nat.lt_of_lt_of_le this (by decide)
theorem dec32 {n : Nat} (h : n = 32) : (!decide ((n : Int) = 32)) = false := by subst h; rfl
theorem dec32n {n : Nat} (h : n ≠ 32) : (!decide ((n : Int) = 32)) = true := by
  have : ¬ ((n : Int) = 32) := by omega
  rw [decide_eq_false this]; rfl
def kyB (s : ByteArray) : Bool := decide (s.size = 32) && gd (beS s)
def fnKy (vs : List V1) : Option (List Prop × AV) := match vs with | [.one (.v (.string s))] => some ([s.size = 32], .tup [N8 (beS s), .one (.v (.bool (gd (beS s))))]) | _ => none
theorem ct43 : CTok ⟨28, fnKy⟩ := by
  intro vs ob r h ho
  simp only [fnKy] at h
  split at h
  · simp only [Option.some.injEq, Prod.mk.injEq] at h
    obtain ⟨rfl, rfl⟩ := h
    obtain ⟨h1, _⟩ := ho
    exact spec_run (envMk LKz_ok SKz) rfl (r43 _) ⟨h1, beS_lt h1, trivial⟩ rfl rfl
  · simp at h
theorem ct28 : CTok ⟨12, fnKy⟩ := by
  intro vs ob r h ho
  simp only [fnKy] at h
  split at h
  · simp only [Option.some.injEq, Prod.mk.injEq] at h
    obtain ⟨rfl, rfl⟩ := h
    obtain ⟨h1, _⟩ := ho
    exact spec_run (envMk LKz_ok SKz) rfl (r28 _) ⟨dec32 h1, h1, beS_lt h1, trivial⟩ rfl rfl
  · simp at h
noncomputable def LPb : List CT := ⟨12, fnKy⟩ :: ⟨28, fnKy⟩ :: ⟨30, fnS [aN, aSp] gMulP⟩ :: ⟨44, fnS [aN, aSp] gMulQ⟩ :: ⟨29, fnS [aSp] gOf58⟩ :: ⟨43, fnS [aSp] gOf58⟩ :: ⟨31, cV (.val (P3 wXN wYN false))⟩ :: ⟨45, cV (.val (P3 wXN wYN false))⟩ :: []
theorem LPb_ok : AllCT LPb := ⟨ct28, ct43, ct39q, ct15q, ct58s, ct32s, ctV spec19w, ctV spec28w, trivial⟩
def SPb : FuncId → Nat → Bool := fun f t => match f with | 10 => memN t [12] | _ => false
noncomputable def gBas (k : Nat) : Sp := gmul (Sp.mk wXN wYN false) k
theorem gBas_on (k : Nat) : (gBas k).on := gmul_on (s := Sp.mk wXN wYN false) on_base k
theorem gBas_lt (k : Nat) : (gBas k).x < 4294967296 ^ 8 ∧ (gBas k).y < 4294967296 ^ 8 := ⟨L8 (gBas_on k).lx, L8 (gBas_on k).ly⟩
noncomputable def pubS (s : ByteArray) : ByteArray := packW (gBas (beS s)).x (gBas (beS s)).y
theorem r41 (s : ByteArray) : callR (mkE LPb SPb) 1000 10 [sS s] [false] =
    some ([s.size = 32, (!gd (beS s)) = false, beS s < 4294967296 ^ 8, wXN < 4294967296 ^ 8, wYN < 4294967296 ^ 8, onS wXN wYN false = true, (gBas (beS s)).x < 4294967296 ^ 8, (gBas (beS s)).y < 4294967296 ^ 8], .tup [sS (pubS s), .one (.i 0)]) := by kernel_rfl
theorem r30 (s : ByteArray) : callR (mkE LPb SPb) 1000 13 [sS s] [] =
    some ([s.size = 32, beS s < 4294967296 ^ 8, wXN < 4294967296 ^ 8, wYN < 4294967296 ^ 8, onS wXN wYN false = true, (gBas (beS s)).x < 4294967296 ^ 8, (gBas (beS s)).y < 4294967296 ^ 8], .val (sS (pubS s))) := by kernel_rfl
noncomputable def fnPb (vs : List V1) : Option (List Prop × AV) := match vs with | [.one (.v (.string s))] => some ([s.size = 32, gd (beS s) = true], .tup [sS (pubS s), .one (.i 0)]) | _ => none
noncomputable def fnPc (vs : List V1) : Option (List Prop × AV) := match vs with | [.one (.v (.string s))] => some ([s.size = 32], .val (sS (pubS s))) | _ => none
theorem ct41 : CTok ⟨10, fnPb⟩ := by
  intro vs ob r h ho
  simp only [fnPb] at h
  split at h
  · simp only [Option.some.injEq, Prod.mk.injEq] at h
    obtain ⟨rfl, rfl⟩ := h
    obtain ⟨h1, h2, _⟩ := ho
    exact spec_run (envMk LPb_ok SPb) rfl (r41 _) ⟨h1, by rw [h2]; rfl, beS_lt h1, L8 wXN_lt, L8 wYN_lt, on_base, (gBas_lt _).1, (gBas_lt _).2, trivial⟩ rfl rfl
  · simp at h
theorem ct30 : CTok ⟨13, fnPc⟩ := by
  intro vs ob r h ho
  simp only [fnPc] at h
  split at h
  · simp only [Option.some.injEq, Prod.mk.injEq] at h
    obtain ⟨rfl, rfl⟩ := h
    obtain ⟨h1, _⟩ := ho
    exact spec_run (envMk LPb_ok SPb) rfl (r30 _) ⟨h1, beS_lt h1, L8 wXN_lt, L8 wYN_lt, on_base, (gBas_lt _).1, (gBas_lt _).2, trivial⟩ rfl rfl
  · simp at h
end Go.Ev.H5

namespace Go.Ev.H5
open Go Go.Proofs Go.RowKit
set_option maxRecDepth 100000
def S85 : FuncId → Nat → Bool := fun f t => match f with | 85 => memN t [2000005, 2000009] | 146 => memN t [6, 9, 20, 2000021, 24, 2000025, 26, 4000026, 27, 4000027, 11, 13] | _ => false
noncomputable def E85 : Env := { E0 with S := S85 }
theorem envE85 : EnvOK E85 := ⟨mixed, envE0.fns, envE0.fms, envE0.lps, envE0.fbs⟩
def T146 (n : Nat) (i j : Int) : List AV := slots 28 [(0, slX 0 n), (2, iV i), (3, iV j)]
def swp (l : List Nat) (i : Nat) (j : Int) : List Nat := (l.set (iT i) (l.getD (0 + j.toNat * 1) 0)).set (0 + j.toNat * 1) (l.getD (iT i) 0)
def at146 (n : Nat) (z : Int) : Prop := 0 ≤ z ∧ z < (n : Int)
theorem s146 (n i : Nat) (j : Int) (l : List Nat) : runTo E85 1000 (Env.S E85 146) (bodyOf Tryz.prog 146 1) (T146 n (i : Int) j) [aB l] [true] (T146 n ((i : Int) + 1) (j - 1)) 1 =
    some ([decide ((i : Int) < j) = true, at146 n j, 0 + j.toNat * 1 < l.length, at146 n (i : Int), iT i < l.length, at146 n (i : Int), iT i < l.length, at146 n j, 0 + j.toNat * 1 < (l.set (iT i) (l.getD (0 + j.toNat * 1) 0)).length, inI ((i : Int) + 1), inI (j - 1)], .normal, T146 n ((i : Int) + 1) (j - 1), [aB (swp l i j)]) := by kernel_rfl
theorem x146 (n i : Nat) (j : Int) (l : List Nat) : runTo E85 1000 (Env.S E85 146) (bodyOf Tryz.prog 146 1) (T146 n (i : Int) j) [aB l] [false] (T146 n (i : Int) j) 1 =
    some ([decide ((i : Int) < j) = false], .exit 0, T146 n (i : Int) j, [aB l]) := by kernel_rfl
def rvL (l : List Nat) (n : Nat) : Nat → List Nat
  | 0 => l
  | i + 1 => swp (rvL l n i) i ((n : Int) - 1 - (i : Int))
theorem rvL_len (l : List Nat) (n : Nat) : ∀ i, (rvL l n i).length = l.length
  | 0 => rfl
  | i + 1 => by rw [rvL, swp, List.length_set, List.length_set]; exact rvL_len l n i
theorem aB_free (l : List Nat) : Free (aB l) := fun _ => rfl
theorem wf146 (n : Nat) (i j : Int) (l : List Nat) : wfS (T146 n i j) [aB l] = true := wfS_of (free1 (aB_free l)) (by show tmsWf 1 _ = true; kernel_rfl)
theorem loop146 (l : List Nat) (n : Nat) (hl : l.length = n) (hn : n ≤ 1000000) : Goes Tryz.prog (.loop (bodyOf Tryz.prog 146 1)) (.exit 0) (T146 n ((0 : Nat) : Int) ((n : Int) - 1 - ((0 : Nat) : Int))) [aB (rvL l n 0)] (T146 n ((n / 2 : Nat) : Int) ((n : Int) - 1 - ((n / 2 : Nat) : Int))) [aB (rvL l n (n / 2))] := by
  refine loop_goes (N := n / 2) (k := 1) (T := fun i => T146 n (i : Int) ((n : Int) - 1 - (i : Int))) (M := fun i => [aB (rvL l n i)]) (by simp) (fun _ _ => rfl) (fun i hi => ?_) ?_
  · have hL := rvL_len l n i
    have hr := s146 n i ((n : Int) - 1 - (i : Int)) (rvL l n i)
    rw [show (n : Int) - 1 - (i : Int) - 1 = (n : Int) - 1 - ((i : Int) + 1) by omega] at hr
    have h2 : 0 + ((n : Int) - 1 - (i : Int)).toNat * 1 < (rvL l n i).length := by rw [hL, hl]; omega
    exact Runs.goes envE85 ⟨_, _, hr, ⟨decide_eq_true (by omega), by unfold at146; omega, h2, by unfold at146; omega, by rw [iT_eq, hL, hl]; omega, by unfold at146; omega, by rw [iT_eq, hL, hl]; omega, by unfold at146; omega, by rw [List.length_set]; exact h2, by unfold inI; omega, by unfold inI; omega, trivial⟩, wf146 _ _ _ _⟩
  · exact Runs.goes envE85 ⟨_, _, x146 n (n / 2) _ _, ⟨decide_eq_false (by omega), trivial⟩, wf146 _ _ _ _⟩
noncomputable def E85L (s : ByteArray) (T : List AV) (l : List Nat) : Env := addLp E85 1 (bodyOf Tryz.prog 146 1) (sumC (T146 s.size 0 ((s.size : Int) - 1)) [aB (numsB s)] T [aB l] (.exit 0))
theorem r85a (s : ByteArray) (i j : Int) (l : List Nat) : callR (E85L s (T146 s.size i j) l) 1000 85 [sS s] [] =
    some ([s.size ≤ 140737488355328, inI ((s.size : Int) - 1), bodyOf Tryz.prog 146 1 = bodyOf Tryz.prog 146 1, (T146 s.size 0 ((s.size : Int) - 1), [aB (numsB s)]) = (T146 s.size 0 ((s.size : Int) - 1), [aB (numsB s)]), wfS (T146 s.size 0 ((s.size : Int) - 1)) [aB (numsB s)] = true, 0 = 0 ∧ s.size = l.length], .val (sS (strOf l))) := by kernel_rfl
noncomputable def rvS (s : ByteArray) : ByteArray := strOf (rvL (numsB s) s.size (s.size / 2))
theorem rvS_size (s : ByteArray) : (rvS s).size = s.size := by unfold rvS; rw [strOf_size, rvL_len, numsB_len]
theorem spec85a (s : ByteArray) (h : s.size ≤ 1000000) : Spec 85 [sS s] (.val (sS (rvS s))) := by
  have hg := loop146 (numsB s) s.size (numsB_len s) h
  rw [show (s.size : Int) - 1 - ((0 : Nat) : Int) = (s.size : Int) - 1 by omega] at hg
  have hE : EnvOK (E85L s (T146 s.size ((s.size / 2 : Nat) : Int) ((s.size : Int) - 1 - ((s.size / 2 : Nat) : Int))) (rvL (numsB s) s.size (s.size / 2))) := envAddLp envE85 (sumC_ok rfl hg)
  exact spec_run hE rfl (r85a s _ _ _) ⟨by omega, by unfold inI; omega, rfl, rfl, wf146 _ _ _ _, ⟨rfl, by rw [rvL_len, numsB_len]⟩, trivial⟩ rfl rfl
noncomputable def fnRv (vs : List V1) : Option (List Prop × AV) := match vs with | [.one (.v (.string s))] => some ([s.size ≤ 1000000], .val (sS (rvS s))) | _ => none
theorem ct85a : CTok ⟨85, fnRv⟩ := by
  intro vs ob r h ho
  simp only [fnRv] at h
  split at h
  · simp only [Option.some.injEq, Prod.mk.injEq] at h
    obtain ⟨rfl, rfl⟩ := h
    exact spec85a _ ho.1
  · simp at h
noncomputable def LKw : List CT := ⟨85, fnRv⟩ :: []
theorem LKw_ok : AllCT LKw := ⟨ct85a, trivial⟩
def SKw : FuncId → Nat → Bool := fun f t => match f with | 114 => memN t [7] | _ => false
theorem r28w (s : ByteArray) : callR (mkE LKw SKw) 1000 28 [sS s] [true] = some ([s.size ≤ 1000000, (!decide (((rvS s).size : Int) = 32)) = true], .tup [zK, .one (.v (.bool false))]) := by kernel_rfl
noncomputable def kNu (s : ByteArray) : Nat := bif decide (s.size = 32) then beS s else 0
noncomputable def fnKx (vs : List V1) : Option (List Prop × AV) := match vs with | [.one (.v (.string s))] => some ([s.size ≤ 1000000], .tup [N8 (kNu s), .one (.v (.bool (kyB s)))]) | _ => none
theorem zK_conc (φ : Loc) : zK.conc φ = (N8 0).conc φ := by kernel_rfl
theorem spec28x (s : ByteArray) (h : s.size ≤ 1000000) : Spec 28 [sS s] (.tup [N8 (kNu s), .one (.v (.bool (kyB s)))]) := by
  unfold kNu kyB
  by_cases hz : s.size = 32
  · rw [decide_eq_true hz, cond_true, Bool.true_and]
    exact spec_run (envMk LKz_ok SKz) rfl (r43 s) ⟨hz, beS_lt hz, trivial⟩ rfl rfl
  · rw [decide_eq_false hz, cond_false, Bool.false_and]
    exact (spec_run (envMk LKw_ok SKw) rfl (r28w s) ⟨h, by rw [rvS_size]; exact dec32n hz, trivial⟩ rfl rfl).congr (fun _ => rfl) (fun φ => by simp only [AV.conc, List.map_cons, zK_conc φ])
theorem spec12x (s : ByteArray) : Spec 12 [sS s] (.tup [N8 (kNu s), .one (.v (.bool (kyB s)))]) := by
  unfold kNu kyB
  by_cases hz : s.size = 32
  · rw [decide_eq_true hz, cond_true, Bool.true_and]
    exact spec_run (envMk LKz_ok SKz) rfl (r28 s) ⟨dec32 hz, hz, beS_lt hz, trivial⟩ rfl rfl
  · rw [decide_eq_false hz, cond_false, Bool.false_and]
    exact (spec_run (envMk LKz_ok SKz) rfl (r28n s) ⟨dec32n hz, trivial⟩ rfl rfl).congr (fun _ => rfl) (fun φ => by simp only [AV.conc, List.map_cons, zK_conc φ])
theorem ct28x : CTok ⟨28, fnKx⟩ := by
  intro vs ob r h ho
  simp only [fnKx] at h
  split at h
  · simp only [Option.some.injEq, Prod.mk.injEq] at h
    obtain ⟨rfl, rfl⟩ := h
    exact spec28x _ ho.1
  · simp at h
theorem ct12x : CTok ⟨12, fnKx⟩ := by
  intro vs ob r h ho
  simp only [fnKx] at h
  split at h
  · simp only [Option.some.injEq, Prod.mk.injEq] at h
    obtain ⟨rfl, rfl⟩ := h
    exact spec12x _
  · simp at h
end Go.Ev.H5

