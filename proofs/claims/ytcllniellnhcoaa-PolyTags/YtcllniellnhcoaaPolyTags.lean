/- The law PolyTags holds of every argument, without a condition -/
import Derived.Test.YtcllniellnhcoaaPolC
import Derived.JoinedOf
import Derived.SizedLaws
namespace Go.Ev
open Go Go.Proofs Go.RowKit
/-! what is taken off, all told -/
def clB (s : ByteArray) : ByteArray := bif decide (s.size = 16) then clampB s else ⟨#[]⟩
def clE (s : ByteArray) : Int := bif decide (s.size = 16) then 0 else 1
def fn32 (vs : List V1) : Option (List Prop × AV) :=
  match vs with
  | [.one (.v (.string s))] => some ([], .tup [strV (clB s), .one (.i (clE s))])
  | _ => none
noncomputable def EC32 : Env := mkE [⟨49, fnS1 (fun s => [s.size = 16]) fun s => .val (sS (clampB s))⟩] (fun f t => match f with | 32 => memN t [6] | _ => false)
theorem envEC32 : EnvOK EC32 := envMk (L := [⟨49, fnS1 (fun s => [s.size = 16]) fun s => .val (sS (clampB s))⟩]) ⟨ct49, trivial⟩ _
theorem run32a (s : ByteArray) : callR EC32 1000 32 [sS s] [true] = some ([(!decide ((s.size : Int) = 16)) = true], .tup [strV ⟨#[]⟩, .one (.i 1)]) := by kernel_rfl
theorem run32b (s : ByteArray) : callR EC32 1000 32 [sS s] [false] = some ([(!decide ((s.size : Int) = 16)) = false, s.size = 16], .tup [strV (clampB s), .one (.i 0)]) := by kernel_rfl
theorem ct32 : CTok ⟨32, fn32⟩ := by
  intro vs ob r h ho
  simp only [fn32] at h
  split at h
  · rename_i s
    simp only [Option.some.injEq, Prod.mk.injEq] at h
    obtain ⟨rfl, rfl⟩ := h
    unfold clB clE
    by_cases hs : s.size = 16
    · rw [decide_eq_true hs, cond_true, cond_true]
      exact spec_run envEC32 rfl (run32b s) ⟨by rw [hs]; rfl, hs, trivial⟩ rfl rfl
    · rw [decide_eq_false hs, cond_false, cond_false]
      exact spec_run envEC32 rfl (run32a s) ⟨by simp; omega, trivial⟩ rfl rfl
  · simp at h
/-! rows of strings that the law builds -/
def sPs (l : List ByteArray) : List Piece := l.map fun s => .a (.v (.string s))
def bS (l : List ByteArray) : Blk := ⟨sPs l, 9, true, false, 0⟩
theorem bS_free (l : List ByteArray) : Free (bS l) := by
  intro f
  unfold bS sPs
  simp only
  induction l with
  | nil => rfl
  | cons x l ih => exact ih
def gS (l : List ByteArray) (j : Nat) : ByteArray := l.getD j ⟨#[]⟩
theorem ldS {l : List ByteArray} {j : Nat} (h : j < l.length) : LoadsAs Try.prog 9 (sPs l) (0 + j * 1) (strV (gS l j)) := by
  intro φ
  refine ⟨ag9, ?_⟩
  have e : ∀ l : List ByteArray, concs φ (sPs l) = l.map fun s => Value.string s := by
    intro l
    induction l with
    | nil => rfl
    | cons x l ih =>
      show (Value.string x) :: concs φ (sPs l) = _
      rw [ih]; rfl
  rw [e, show 0 + j * 1 = j by omega, List.getElem?_map, List.getElem?_eq_getElem h]
  unfold gS
  rw [List.getD_eq_getElem?_getD, List.getElem?_eq_getElem h]
  rfl
/-- an oracle for loads of strings: of the rows of asks, and of the two rows that the law builds. -/
def ldK (c : Cells) (kb tb : List ByteArray) : CT := ⟨3000009, fun vs => match vs with
  | [.one (.ptr 0 off)] => some ([False], .val (strV (sA c off)))
  | [.one (.ptr 2 off)] => some ([False], .val (strV (gS kb off)))
  | [.one (.ptr 3 off)] => some ([False], .val (strV (gS tb off)))
  | _ => none⟩
theorem ldK_ok (c : Cells) (kb tb : List ByteArray) : CTok (ldK c kb tb) := by
  intro vs ob r h ho
  simp only [ldK] at h
  split at h
  · simp only [Option.some.injEq, Prod.mk.injEq] at h
    obtain ⟨rfl, _⟩ := h
    exact ho.1.elim
  · simp only [Option.some.injEq, Prod.mk.injEq] at h
    obtain ⟨rfl, _⟩ := h
    exact ho.1.elim
  · simp only [Option.some.injEq, Prod.mk.injEq] at h
    obtain ⟨rfl, _⟩ := h
    exact ho.1.elim
  · simp at h
def l5 (f : Nat → ByteArray) : List ByteArray := [f 0, f 1, f 2, f 3, f 4]
theorem l5_get (f : Nat → ByteArray) {j : Nat} (h : j < 5) : gS (l5 f) (0 + j * 1) = f j := by
  rw [show 0 + j * 1 = j by omega]
  match j, h with
  | 0, _ => rfl
  | 1, _ => rfl
  | 2, _ => rfl
  | 3, _ => rfl
  | 4, _ => rfl
theorem ld5 (f : Nat → ByteArray) {j : Nat} (h : j < 5) : LoadsAs Try.prog 9 (sPs (l5 f)) (0 + j * 1) (strV (gS (l5 f) (0 + j * 1))) := by
  have := ldS (l := l5 f) (j := j) h
  rw [show gS (l5 f) (0 + j * 1) = gS (l5 f) j by rw [show 0 + j * 1 = j by omega]]
  exact this
noncomputable def LT (c : Cells) (kb tb : List ByteArray) : List CT := ldK c kb tb :: ⟨32, fn32⟩ :: LP c
theorem LT_ok (c : Cells) (kb tb : List ByteArray) : AllCT (LT c kb tb) := ⟨ldK_ok _ _ _, ct32, LP_ok c⟩
noncomputable def S10 : FuncId → Nat → Bool := fun f t => match f with | 10 => memN t [22, 24, 26, 30, 33, 36, 39, 2000040, 44, 2000046, 52, 53, 55, 57, 58, 63, 65, 68, 2000070, 74, 2000076, 77, 79, 81, 134, 2000135, 142, 2000143, 145, 146, 152, 2000153, 155, 158, 163, 2000164, 166, 170, 173, 177, 182, 2000183, 185, 186, 188, 86, 88, 92, 2000093, 96, 2000097, 103, 2000104, 106, 109, 2000110, 112, 115, 2000116, 119, 2000120, 125, 129] | 17 => memN t [47] | _ => false
noncomputable def E10k (c : Cells) (kf tf : Nat → ByteArray) : Env := mkE (LT c (l5 kf) (l5 tf)) S10
theorem envE10k (c : Cells) (kf tf : Nat → ByteArray) : EnvOK (E10k c kf tf) := envMk (LT_ok c _ _) _
def bX (x : Nat → ByteArray) (n : Nat → Nat) : Blk := ⟨[.a (.v (.string (x 0))), .a (.v (.string (x 1))), .a (.v (.string (x 2))), .a (.v (.string (x 3))), .a (.u .u32 (n 0)), .a (.u .u32 (n 1)), .a (.u .u32 (n 2)), .a (.u .u32 (n 3)), .a (.u .u32 (n 4))], 38, true, false, 0⟩
theorem bX_free (x : Nat → ByteArray) (n : Nat → Nat) : Free (bX x n) := fun _ => rfl
def T6 (F : ByteArray) (len cap : Nat) (i k j : Int) : List AV := slots 191 [(0, sV' len cap), (2, bV false), (3, .val (strV F)), (5, iV i), (7, .val (.one (.sl 2 0 5 5))), (8, iV k), (9, .val (.one (.sl 3 0 5 5))), (10, iV j)]
def M6 (c : Cells) (m : Nat) (x : Nat → ByteArray) (n : Nat → Nat) (kf tf : Nat → ByteArray) : List Blk := [rowB c shC m 38, bX x n, bS (l5 kf), bS (l5 tf)]
theorem tT6 (F : ByteArray) (len cap : Nat) (i k j : Int) : tmsWf 4 (T6 F len cap i k j) = true := by kernel_rfl
theorem wfT6 (c : Cells) (m : Nat) (x : Nat → ByteArray) (n : Nat → Nat) (kf tf : Nat → ByteArray) (F : ByteArray) (len cap : Nat) (i k j : Int) : wfS (T6 F len cap i k j) (M6 c m x n kf tf) = true := wfS_of (by
  intro b hb
  simp only [M6, List.mem_cons, List.not_mem_nil, or_false] at hb
  rcases hb with rfl | rfl | rfl | rfl
  · exact rowB_free _ _ _ _
  · exact bX_free _ _
  · exact bS_free _
  · exact bS_free _) (tT6 F len cap i k j)
theorem s6a (c : Cells) (m len cap k j : Nat) (i : Int) (F : ByteArray) (x : Nat → ByteArray) (n : Nat → Nat) (kf tf : Nat → ByteArray) : runTo (E10k c kf tf) 1000 ((E10k c kf tf).S 10) (bodyOf Try.prog 10 18) (T6 F len cap i (k : Int) (j : Int)) (M6 c m x n kf tf) [true, false, false, false] (T6 F len cap i (k : Int) ((j : Int) + 1)) 4 =
  some ([decide ((j : Int) < ((5 : Nat) : Int)) = true, (0 : Int) ≤ (k : Int) ∧ (k : Int) < ((5 : Nat) : Int), LoadsAs Try.prog 9 (sPs (l5 kf)) (0 + k * 1) (strV (gS (l5 kf) (0 + k * 1))), (0 : Int) ≤ (j : Int) ∧ (j : Int) < ((5 : Nat) : Int), LoadsAs Try.prog 9 (sPs (l5 tf)) (0 + j * 1) (strV (gS (l5 tf) (0 + j * 1))), (0 : Int) ≤ (k : Int) ∧ (k : Int) < ((5 : Nat) : Int), LoadsAs Try.prog 9 (sPs (l5 kf)) (0 + k * 1) (strV (gS (l5 kf) (0 + k * 1))), decide (((gS (l5 kf) (0 + k * 1)).size : Int) = 32) = false, (!decide (tgE (gS (l5 kf) (0 + k * 1)) (gS (l5 tf) (0 + j * 1)) = 1)) = false, (!((tgB (gS (l5 kf) (0 + k * 1)) (gS (l5 tf) (0 + j * 1))).toList == (⟨#[]⟩ : ByteArray).toList)) = false, inI ((j : Int) + 1)], .normal, T6 F len cap i (k : Int) ((j : Int) + 1), M6 c m x n kf tf) := by kernel_rfl
theorem s6b (c : Cells) (m len cap k j : Nat) (i : Int) (F : ByteArray) (x : Nat → ByteArray) (n : Nat → Nat) (kf tf : Nat → ByteArray) : runTo (E10k c kf tf) 1000 ((E10k c kf tf).S 10) (bodyOf Try.prog 10 18) (T6 F len cap i (k : Int) (j : Int)) (M6 c m x n kf tf) [true, true, true, false, false] (T6 F len cap i (k : Int) ((j : Int) + 1)) 4 =
  some ([decide ((j : Int) < ((5 : Nat) : Int)) = true, (0 : Int) ≤ (k : Int) ∧ (k : Int) < ((5 : Nat) : Int), LoadsAs Try.prog 9 (sPs (l5 kf)) (0 + k * 1) (strV (gS (l5 kf) (0 + k * 1))), (0 : Int) ≤ (j : Int) ∧ (j : Int) < ((5 : Nat) : Int), LoadsAs Try.prog 9 (sPs (l5 tf)) (0 + j * 1) (strV (gS (l5 tf) (0 + j * 1))), (0 : Int) ≤ (k : Int) ∧ (k : Int) < ((5 : Nat) : Int), LoadsAs Try.prog 9 (sPs (l5 kf)) (0 + k * 1) (strV (gS (l5 kf) (0 + k * 1))), decide (((gS (l5 kf) (0 + k * 1)).size : Int) = 32) = true, (0 : Int) ≤ (j : Int) ∧ (j : Int) < ((5 : Nat) : Int), LoadsAs Try.prog 9 (sPs (l5 tf)) (0 + j * 1) (strV (gS (l5 tf) (0 + j * 1))), decide (((gS (l5 tf) (0 + j * 1)).size : Int) ≤ 8256) = true, (0 : Int) ≤ (k : Int) ∧ (k : Int) < ((5 : Nat) : Int), LoadsAs Try.prog 9 (sPs (l5 kf)) (0 + k * 1) (strV (gS (l5 kf) (0 + k * 1))), (0 : Int) ≤ (j : Int) ∧ (j : Int) < ((5 : Nat) : Int), LoadsAs Try.prog 9 (sPs (l5 tf)) (0 + j * 1) (strV (gS (l5 tf) (0 + j * 1))), (gS (l5 kf) (0 + k * 1)).size = 32, (!decide (tgE (gS (l5 kf) (0 + k * 1)) (gS (l5 tf) (0 + j * 1)) = 0)) = false, (!((tgB (gS (l5 kf) (0 + k * 1)) (gS (l5 tf) (0 + j * 1))).toList == (tagB (gS (l5 kf) (0 + k * 1)) (gS (l5 tf) (0 + j * 1))).toList)) = false, inI ((j : Int) + 1)], .normal, T6 F len cap i (k : Int) ((j : Int) + 1), M6 c m x n kf tf) := by kernel_rfl
theorem s6c (c : Cells) (m len cap k j : Nat) (i : Int) (F : ByteArray) (x : Nat → ByteArray) (n : Nat → Nat) (kf tf : Nat → ByteArray) : runTo (E10k c kf tf) 1000 ((E10k c kf tf).S 10) (bodyOf Try.prog 10 18) (T6 F len cap i (k : Int) (j : Int)) (M6 c m x n kf tf) [true, true, false, false, false] (T6 F len cap i (k : Int) ((j : Int) + 1)) 4 =
  some ([decide ((j : Int) < ((5 : Nat) : Int)) = true, (0 : Int) ≤ (k : Int) ∧ (k : Int) < ((5 : Nat) : Int), LoadsAs Try.prog 9 (sPs (l5 kf)) (0 + k * 1) (strV (gS (l5 kf) (0 + k * 1))), (0 : Int) ≤ (j : Int) ∧ (j : Int) < ((5 : Nat) : Int), LoadsAs Try.prog 9 (sPs (l5 tf)) (0 + j * 1) (strV (gS (l5 tf) (0 + j * 1))), (0 : Int) ≤ (k : Int) ∧ (k : Int) < ((5 : Nat) : Int), LoadsAs Try.prog 9 (sPs (l5 kf)) (0 + k * 1) (strV (gS (l5 kf) (0 + k * 1))), decide (((gS (l5 kf) (0 + k * 1)).size : Int) = 32) = true, (0 : Int) ≤ (j : Int) ∧ (j : Int) < ((5 : Nat) : Int), LoadsAs Try.prog 9 (sPs (l5 tf)) (0 + j * 1) (strV (gS (l5 tf) (0 + j * 1))), decide (((gS (l5 tf) (0 + j * 1)).size : Int) ≤ 8256) = false, (!decide (tgE (gS (l5 kf) (0 + k * 1)) (gS (l5 tf) (0 + j * 1)) = 2)) = false, (!((tgB (gS (l5 kf) (0 + k * 1)) (gS (l5 tf) (0 + j * 1))).toList == (⟨#[]⟩ : ByteArray).toList)) = false, inI ((j : Int) + 1)], .normal, T6 F len cap i (k : Int) ((j : Int) + 1), M6 c m x n kf tf) := by kernel_rfl
theorem s6x (c : Cells) (m len cap k j : Nat) (i : Int) (F : ByteArray) (x : Nat → ByteArray) (n : Nat → Nat) (kf tf : Nat → ByteArray) : runTo (E10k c kf tf) 1000 ((E10k c kf tf).S 10) (bodyOf Try.prog 10 18) (T6 F len cap i (k : Int) (j : Int)) (M6 c m x n kf tf) [false] (T6 F len cap i (k : Int) (j : Int)) 4 =
  some ([decide ((j : Int) < ((5 : Nat) : Int)) = false], .exit 6, T6 F len cap i (k : Int) (j : Int), M6 c m x n kf tf) := by kernel_rfl
theorem tg_f {k s : ByteArray} (hk : k.size ≠ 32) : (!decide (tgE k s = 1)) = false ∧ (!((tgB k s).toList == (⟨#[]⟩ : ByteArray).toList)) = false := by
  unfold tgE tgB; rw [decide_eq_false hk]; exact ⟨rfl, by rw [cond_false]; simp⟩
theorem tg_l {k s : ByteArray} (hk : k.size = 32) (hs : ¬ s.size ≤ 8256) : (!decide (tgE k s = 2)) = false ∧ (!((tgB k s).toList == (⟨#[]⟩ : ByteArray).toList)) = false := by
  unfold tgE tgB; rw [decide_eq_true hk, decide_eq_false hs]; exact ⟨rfl, by rw [cond_true, cond_false]; simp⟩
theorem l6loop (c : Cells) (m len cap k : Nat) (i : Int) (F : ByteArray) (x : Nat → ByteArray) (n : Nat → Nat) (kf tf : Nat → ByteArray) (hk : k < 5) : Goes Try.prog (.loop (bodyOf Try.prog 10 18)) (.exit 6) (T6 F len cap i (k : Int) ((0 : Nat) : Int)) (M6 c m x n kf tf) (T6 F len cap i (k : Int) ((5 : Nat) : Int)) (M6 c m x n kf tf) := by
  refine loop_goes (N := 5) (k := 4) (T := fun j => T6 F len cap i (k : Int) (j : Int)) (M := fun _ => M6 c m x n kf tf) (by simp) (fun _ _ => rfl) (fun j hj => ?_) ?_
  · have o1 : decide ((j : Int) < ((5 : Nat) : Int)) = true := decide_eq_true (by omega)
    have o2 : (0 : Int) ≤ (k : Int) ∧ (k : Int) < ((5 : Nat) : Int) := by omega
    have o3 : (0 : Int) ≤ (j : Int) ∧ (j : Int) < ((5 : Nat) : Int) := by omega
    have o4 := ld5 kf hk
    have o5 := ld5 tf hj
    have o6 : inI ((j : Int) + 1) := by unfold inI; omega
    by_cases h1 : (gS (l5 kf) (0 + k * 1)).size = 32
    · have d1 : decide (((gS (l5 kf) (0 + k * 1)).size : Int) = 32) = true := decide_eq_true (by omega)
      by_cases h2 : (gS (l5 tf) (0 + j * 1)).size ≤ 8256
      · exact Runs.goes (envE10k c kf tf) ⟨_, _, s6b c m len cap k j i F x n kf tf, ⟨o1, o2, o4, o3, o5, o2, o4, d1, o3, o5, decide_eq_true (by omega), o2, o4, o3, o5, h1, tg_e h1 h2, tg_b h1 h2, o6, trivial⟩, wfT6 _ _ _ _ _ _ _ _ _ _ _ _⟩
      · exact Runs.goes (envE10k c kf tf) ⟨_, _, s6c c m len cap k j i F x n kf tf, ⟨o1, o2, o4, o3, o5, o2, o4, d1, o3, o5, decide_eq_false (by omega), (tg_l h1 h2).1, (tg_l h1 h2).2, o6, trivial⟩, wfT6 _ _ _ _ _ _ _ _ _ _ _ _⟩
    · exact Runs.goes (envE10k c kf tf) ⟨_, _, s6a c m len cap k j i F x n kf tf, ⟨o1, o2, o4, o3, o5, o2, o4, decide_eq_false (by omega), (tg_f h1).1, (tg_f h1).2, o6, trivial⟩, wfT6 _ _ _ _ _ _ _ _ _ _ _ _⟩
  · exact Runs.goes (envE10k c kf tf) ⟨_, _, s6x c m len cap k 5 i F x n kf tf, ⟨decide_eq_false (by omega), trivial⟩, wfT6 _ _ _ _ _ _ _ _ _ _ _ _⟩
end Go.Ev

namespace Go.Ev
open Go Go.Proofs Go.RowKit
/-! a key's turn -/
def tx (S F : ByteArray) : Nat → ByteArray
  | 0 => S
  | 1 => F ++ S
  | 2 => F.extract 0 16
  | 3 => F.extract 0 15
  | _ => ⟨#[]⟩
def T4 (F : ByteArray) (len cap : Nat) (i k : Int) : List AV := slots 191 [(0, sV' len cap), (2, bV false), (3, .val (strV F)), (5, iV i), (7, .val (.one (.sl 2 0 5 5))), (8, iV k)]
def M4 (c : Cells) (m : Nat) (x : Nat → ByteArray) (n : Nat → Nat) (kf : Nat → ByteArray) : List Blk := [rowB c shC m 38, bX x n, bS (l5 kf)]
theorem tT4 (F : ByteArray) (len cap : Nat) (i k : Int) : tmsWf 3 (T4 F len cap i k) = true := by kernel_rfl
theorem wfT4 (c : Cells) (m : Nat) (x : Nat → ByteArray) (n : Nat → Nat) (kf : Nat → ByteArray) (F : ByteArray) (len cap : Nat) (i k : Int) : wfS (T4 F len cap i k) (M4 c m x n kf) = true := wfS_of (by
  intro b hb
  simp only [M4, List.mem_cons, List.not_mem_nil, or_false] at hb
  rcases hb with rfl | rfl | rfl
  · exact rowB_free _ _ _ _
  · exact bX_free _ _
  · exact bS_free _) (tT4 F len cap i k)
noncomputable def E4 (c : Cells) (len cap k i : Nat) (F : ByteArray) (x : Nat → ByteArray) (n : Nat → Nat) (kf : Nat → ByteArray) : Env := addL (E10k c kf (tx (sA c (0 + i * 9 + 3)) F)) 18 (bodyOf Try.prog 10 18) (sumC (T6 F len cap (i : Int) (k : Int) ((0 : Nat) : Int)) (M6 c len x n kf (tx (sA c (0 + i * 9 + 3)) F)) (T6 F len cap (i : Int) (k : Int) ((5 : Nat) : Int)) (M6 c len x n kf (tx (sA c (0 + i * 9 + 3)) F)) (.exit 6))
theorem envE4 (c : Cells) (len cap : Nat) {k : Nat} (i : Nat) (F : ByteArray) (x : Nat → ByteArray) (n : Nat → Nat) (kf : Nat → ByteArray) (hk : k < 5) : EnvOK (E4 c len cap k i F x n kf) := envAddL (envE10k c kf (tx (sA c (0 + i * 9 + 3)) F)) (sumC_ok rfl (l6loop c len len cap k (i : Int) F x n kf (tx (sA c (0 + i * 9 + 3)) F) hk))
theorem s4y (c : Cells) (len cap k i : Nat) (F : ByteArray) (x : Nat → ByteArray) (n : Nat → Nat) (kf : Nat → ByteArray) : runTo (E4 c len cap k i F x n kf) 1000 ((E4 c len cap k i F x n kf).S 10) (bodyOf Try.prog 10 14) (T4 F len cap (i : Int) (k : Int)) (M4 c len x n kf) [true, true, false, false, false, false] (T4 F len cap (i : Int) ((k : Int) + 1)) 3 =
  some ([decide ((k : Int) < ((5 : Nat) : Int)) = true, (0 : Int) ≤ (i : Int) ∧ (i : Int) < (len : Int), LoadsAs Try.prog 9 (rowPs c shC len 0) (0 + i * 9 + 3) (strV (sA c (0 + i * 9 + 3))), (0 : Int) ≤ (i : Int) ∧ (i : Int) < (len : Int), LoadsAs Try.prog 9 (rowPs c shC len 0) (0 + i * 9 + 3) (strV (sA c (0 + i * 9 + 3))), F.size + (sA c (0 + i * 9 + 3)).size ≤ 9223372036854775807, (0 : Int) ≤ 16 ∧ (16 : Int) ≤ (F.size : Int), (0 : Int) ≤ 15 ∧ (15 : Int) ≤ (F.size : Int), bodyOf Try.prog 10 18 = bodyOf Try.prog 10 18, ((T6 F len cap (i : Int) (k : Int) ((0 : Nat) : Int)), (M6 c len x n kf (tx (sA c (0 + i * 9 + 3)) F))) = ((T6 F len cap (i : Int) (k : Int) ((0 : Nat) : Int)), (M6 c len x n kf (tx (sA c (0 + i * 9 + 3)) F))), wfS (T6 F len cap (i : Int) (k : Int) ((0 : Nat) : Int)) (M6 c len x n kf (tx (sA c (0 + i * 9 + 3)) F)) = true, (0 : Int) ≤ (k : Int) ∧ (k : Int) < ((5 : Nat) : Int), LoadsAs Try.prog 9 (sPs (l5 kf)) (0 + k * 1) (strV (gS (l5 kf) (0 + k * 1))), (0 : Int) ≤ (k : Int) ∧ (k : Int) < ((5 : Nat) : Int), LoadsAs Try.prog 9 (sPs (l5 kf)) (0 + k * 1) (strV (gS (l5 kf) (0 + k * 1))), (gS (l5 kf) (0 + k * 1)).size + F.size ≤ 9223372036854775807, (0 : Int) ≤ 16 ∧ (16 : Int) ≤ (((gS (l5 kf) (0 + k * 1)) ++ F).size : Int), (0 : Int) ≤ (k : Int) ∧ (k : Int) < ((5 : Nat) : Int), LoadsAs Try.prog 9 (sPs (l5 kf)) (0 + k * 1) (strV (gS (l5 kf) (0 + k * 1))), decide (((gS (l5 kf) (0 + k * 1)).size : Int) = 16) = true, (!decide (clE (gS (l5 kf) (0 + k * 1)) = 0)) = false, (0 : Int) ≤ (k : Int) ∧ (k : Int) < ((5 : Nat) : Int), LoadsAs Try.prog 9 (sPs (l5 kf)) (0 + k * 1) (strV (gS (l5 kf) (0 + k * 1))), (gS (l5 kf) (0 + k * 1)).size = 16, (!((clB (gS (l5 kf) (0 + k * 1))).toList == (clampB (gS (l5 kf) (0 + k * 1))).toList)) = false, (!decide (clE (((gS (l5 kf) (0 + k * 1)) ++ F).extract 0 16) = 0)) = false, (0 : Int) ≤ (k : Int) ∧ (k : Int) < ((5 : Nat) : Int), LoadsAs Try.prog 9 (sPs (l5 kf)) (0 + k * 1) (strV (gS (l5 kf) (0 + k * 1))), (gS (l5 kf) (0 + k * 1)).size + F.size ≤ 9223372036854775807, (0 : Int) ≤ 16 ∧ (16 : Int) ≤ (((gS (l5 kf) (0 + k * 1)) ++ F).size : Int), (((gS (l5 kf) (0 + k * 1)) ++ F).extract 0 16).size = 16, (!((clB (((gS (l5 kf) (0 + k * 1)) ++ F).extract 0 16)).toList == (clampB (((gS (l5 kf) (0 + k * 1)) ++ F).extract 0 16)).toList)) = false, inI ((k : Int) + 1)], .normal, T4 F len cap (i : Int) ((k : Int) + 1), M4 c len x n kf) := by kernel_rfl
theorem s4n (c : Cells) (len cap k i : Nat) (F : ByteArray) (x : Nat → ByteArray) (n : Nat → Nat) (kf : Nat → ByteArray) : runTo (E4 c len cap k i F x n kf) 1000 ((E4 c len cap k i F x n kf).S 10) (bodyOf Try.prog 10 14) (T4 F len cap (i : Int) (k : Int)) (M4 c len x n kf) [true, false, false, false, false, false] (T4 F len cap (i : Int) ((k : Int) + 1)) 3 =
  some ([decide ((k : Int) < ((5 : Nat) : Int)) = true, (0 : Int) ≤ (i : Int) ∧ (i : Int) < (len : Int), LoadsAs Try.prog 9 (rowPs c shC len 0) (0 + i * 9 + 3) (strV (sA c (0 + i * 9 + 3))), (0 : Int) ≤ (i : Int) ∧ (i : Int) < (len : Int), LoadsAs Try.prog 9 (rowPs c shC len 0) (0 + i * 9 + 3) (strV (sA c (0 + i * 9 + 3))), F.size + (sA c (0 + i * 9 + 3)).size ≤ 9223372036854775807, (0 : Int) ≤ 16 ∧ (16 : Int) ≤ (F.size : Int), (0 : Int) ≤ 15 ∧ (15 : Int) ≤ (F.size : Int), bodyOf Try.prog 10 18 = bodyOf Try.prog 10 18, ((T6 F len cap (i : Int) (k : Int) ((0 : Nat) : Int)), (M6 c len x n kf (tx (sA c (0 + i * 9 + 3)) F))) = ((T6 F len cap (i : Int) (k : Int) ((0 : Nat) : Int)), (M6 c len x n kf (tx (sA c (0 + i * 9 + 3)) F))), wfS (T6 F len cap (i : Int) (k : Int) ((0 : Nat) : Int)) (M6 c len x n kf (tx (sA c (0 + i * 9 + 3)) F)) = true, (0 : Int) ≤ (k : Int) ∧ (k : Int) < ((5 : Nat) : Int), LoadsAs Try.prog 9 (sPs (l5 kf)) (0 + k * 1) (strV (gS (l5 kf) (0 + k * 1))), (0 : Int) ≤ (k : Int) ∧ (k : Int) < ((5 : Nat) : Int), LoadsAs Try.prog 9 (sPs (l5 kf)) (0 + k * 1) (strV (gS (l5 kf) (0 + k * 1))), (gS (l5 kf) (0 + k * 1)).size + F.size ≤ 9223372036854775807, (0 : Int) ≤ 16 ∧ (16 : Int) ≤ (((gS (l5 kf) (0 + k * 1)) ++ F).size : Int), (0 : Int) ≤ (k : Int) ∧ (k : Int) < ((5 : Nat) : Int), LoadsAs Try.prog 9 (sPs (l5 kf)) (0 + k * 1) (strV (gS (l5 kf) (0 + k * 1))), decide (((gS (l5 kf) (0 + k * 1)).size : Int) = 16) = false, (!decide (clE (gS (l5 kf) (0 + k * 1)) = 1)) = false, (!((clB (gS (l5 kf) (0 + k * 1))).toList == (⟨#[]⟩ : ByteArray).toList)) = false, (!decide (clE (((gS (l5 kf) (0 + k * 1)) ++ F).extract 0 16) = 0)) = false, (0 : Int) ≤ (k : Int) ∧ (k : Int) < ((5 : Nat) : Int), LoadsAs Try.prog 9 (sPs (l5 kf)) (0 + k * 1) (strV (gS (l5 kf) (0 + k * 1))), (gS (l5 kf) (0 + k * 1)).size + F.size ≤ 9223372036854775807, (0 : Int) ≤ 16 ∧ (16 : Int) ≤ (((gS (l5 kf) (0 + k * 1)) ++ F).size : Int), (((gS (l5 kf) (0 + k * 1)) ++ F).extract 0 16).size = 16, (!((clB (((gS (l5 kf) (0 + k * 1)) ++ F).extract 0 16)).toList == (clampB (((gS (l5 kf) (0 + k * 1)) ++ F).extract 0 16)).toList)) = false, inI ((k : Int) + 1)], .normal, T4 F len cap (i : Int) ((k : Int) + 1), M4 c len x n kf) := by kernel_rfl
theorem s4xx (c : Cells) (len cap k q i : Nat) (F : ByteArray) (x : Nat → ByteArray) (n : Nat → Nat) (kf : Nat → ByteArray) : runTo (E4 c len cap k i F x n kf) 1000 ((E4 c len cap k i F x n kf).S 10) (bodyOf Try.prog 10 14) (T4 F len cap (i : Int) (q : Int)) (M4 c len x n kf) [false] (T4 F len cap (i : Int) (q : Int)) 3 =
  some ([decide ((q : Int) < ((5 : Nat) : Int)) = false], .exit 4, T4 F len cap (i : Int) (q : Int), M4 c len x n kf) := by kernel_rfl
theorem cl_y {s : ByteArray} (h : s.size = 16) : (!decide (clE s = 0)) = false ∧ (!((clB s).toList == (clampB s).toList)) = false := by
  unfold clE clB; rw [decide_eq_true h]; exact ⟨rfl, by rw [cond_true]; simp⟩
theorem cl_n {s : ByteArray} (h : s.size ≠ 16) : (!decide (clE s = 1)) = false ∧ (!((clB s).toList == (⟨#[]⟩ : ByteArray).toList)) = false := by
  unfold clE clB; rw [decide_eq_false h]; exact ⟨rfl, by rw [cond_false]; simp⟩
theorem l4loop (c : Cells) (len cap i : Nat) (F : ByteArray) (x : Nat → ByteArray) (n : Nat → Nat) (kf : Nat → ByteArray) (hF : F.size = 32) (hi : i < len) (hx : (sA c (0 + i * 9 + 3)).size ≤ 1000000) (hkf : ∀ j, j < 5 → (kf j).size ≤ 1000000) :
    Goes Try.prog (.loop (bodyOf Try.prog 10 14)) (.exit 4) (T4 F len cap (i : Int) ((0 : Nat) : Int)) (M4 c len x n kf) (T4 F len cap (i : Int) ((5 : Nat) : Int)) (M4 c len x n kf) := by
  refine loop_goes (N := 5) (k := 3) (T := fun k => T4 F len cap (i : Int) (k : Int)) (M := fun _ => M4 c len x n kf) (by simp) (fun _ _ => rfl) (fun k hk => ?_) ?_
  · have o1 : decide ((k : Int) < ((5 : Nat) : Int)) = true := decide_eq_true (by omega)
    have o2 : (0 : Int) ≤ (i : Int) ∧ (i : Int) < (len : Int) := by omega
    have o3 : LoadsAs Try.prog 9 (rowPs c shC len 0) (0 + i * 9 + 3) (strV (sA c (0 + i * 9 + 3))) := ld9 3 (by omega) hi
    have o4 : F.size + (sA c (0 + i * 9 + 3)).size ≤ 9223372036854775807 := by omega
    have o5 : (0 : Int) ≤ 16 ∧ (16 : Int) ≤ (F.size : Int) := by omega
    have o6 : (0 : Int) ≤ 15 ∧ (15 : Int) ≤ (F.size : Int) := by omega
    have o7 : (0 : Int) ≤ (k : Int) ∧ (k : Int) < ((5 : Nat) : Int) := by omega
    have o8 := ld5 kf hk
    have hkk := hkf k hk
    rw [← l5_get kf hk] at hkk
    have o9 : (gS (l5 kf) (0 + k * 1)).size + F.size ≤ 9223372036854775807 := by omega
    have o10 : (0 : Int) ≤ 16 ∧ (16 : Int) ≤ (((gS (l5 kf) (0 + k * 1)) ++ F).size : Int) := by rw [ByteArray.size_append]; omega
    have o11 : (((gS (l5 kf) (0 + k * 1)) ++ F).extract 0 16).size = 16 := by rw [ByteArray.size_extract, ByteArray.size_append]; omega
    have o12 : inI ((k : Int) + 1) := by unfold inI; omega
    by_cases h1 : (gS (l5 kf) (0 + k * 1)).size = 16
    · exact Runs.goes (envE4 c len cap i F x n kf hk) ⟨_, _, s4y c len cap k i F x n kf, ⟨o1, o2, o3, o2, o3, o4, o5, o6, rfl, rfl, wfT6 _ _ _ _ _ _ _ _ _ _ _ _, o7, o8, o7, o8, o9, o10, o7, o8, decide_eq_true (by omega), (cl_y h1).1, o7, o8, h1, (cl_y h1).2, (cl_y o11).1, o7, o8, o9, o10, o11, (cl_y o11).2, o12, trivial⟩, wfT4 _ _ _ _ _ _ _ _ _ _⟩
    · exact Runs.goes (envE4 c len cap i F x n kf hk) ⟨_, _, s4n c len cap k i F x n kf, ⟨o1, o2, o3, o2, o3, o4, o5, o6, rfl, rfl, wfT6 _ _ _ _ _ _ _ _ _ _ _ _, o7, o8, o7, o8, o9, o10, o7, o8, decide_eq_false (by omega), (cl_n h1).1, (cl_n h1).2, (cl_y o11).1, o7, o8, o9, o10, o11, (cl_y o11).2, o12, trivial⟩, wfT4 _ _ _ _ _ _ _ _ _ _⟩
  · exact Runs.goes (envE4 c len cap (k := 4) i F x n kf (by omega)) ⟨_, _, s4xx c len cap 4 5 i F x n kf, ⟨decide_eq_false (by omega), trivial⟩, wfT4 _ _ _ _ _ _ _ _ _ _⟩
end Go.Ev

namespace Go.Ev
open Go Go.Proofs Go.RowKit
/-! an ask's turn -/
def xA (c : Cells) (i : Nat) : Nat → ByteArray
  | 0 => kfit (sA c (0 + i * 9))
  | 1 => tfit (sA c (0 + i * 9 + 1))
  | 2 => sA c (0 + i * 9 + 1 + 1)
  | _ => sA c (0 + i * 9 + 1 + 1 + 1)
def nB (c : Cells) (i : Nat) : Nat → Nat := fun j => nU c (0 + i * 9 + 4 + j)
def two1 : ByteArray := ⟨#[2]⟩
def kx (c : Cells) (i : Nat) (F : ByteArray) : Nat → ByteArray
  | 0 => sA c (0 + i * 9 + 0)
  | 1 => kfit (sA c (0 + i * 9))
  | 2 => F
  | 3 => zs 16 ++ F.extract 0 16
  | _ => (two1 ++ zs 15) ++ F.extract 0 16
noncomputable def E10 (c : Cells) : Env := E10k c (fun _ => two1) (fun _ => two1)
theorem envE10 (c : Cells) : EnvOK (E10 c) := envE10k c _ _
def T10 (F : ByteArray) (len cap : Nat) (i : Int) : List AV := slots 191 [(0, sV' len cap), (2, bV false), (3, .val (strV F)), (5, iV i)]
def T10f (len cap : Nat) (s : ByteArray) (i : Int) : List AV := slots 191 [(0, sV' len cap), (2, bV false), (3, .val (strV s)), (4, iV i)]
theorem wfT10 (c : Cells) (F : ByteArray) (m len cap : Nat) (i : Int) : wfS (T10 F len cap i) (MC c m) = true := wfC c m (by kernel_rfl)
theorem wfT10f (c : Cells) (s : ByteArray) (m len cap : Nat) (i : Int) : wfS (T10f len cap s i) (MC c m) = true := wfC c m (by kernel_rfl)
noncomputable def E2t (c : Cells) (len cap i : Nat) (F : ByteArray) : Env := addL (E10k c (kx c i F) (fun _ => two1)) 14 (bodyOf Try.prog 10 14) (sumC (T4 F len cap (i : Int) ((0 : Nat) : Int)) (M4 c len (xA c i) (nB c i) (kx c i F)) (T4 F len cap (i : Int) ((5 : Nat) : Int)) (M4 c len (xA c i) (nB c i) (kx c i F)) (.exit 4))
theorem s10a (c : Cells) (len cap i : Nat) (F : ByteArray) : runTo (E2t c len cap i F) 1000 ((E2t c len cap i F).S 10) (bodyOf Try.prog 10 9) (T10 F len cap (i : Int)) (MC c len) [true, true] (T10 F len cap ((i : Int) + 1)) 1 =
  some ([decide ((i : Int) < (len : Int)) = true, decide ((i : Int) < 8) = true, (0 : Int) ≤ (i : Int) ∧ (i : Int) < (len : Int), LoadsAs Try.prog 38 (rowPs c shC len 0) (0 + i * 9) (.agg (fldPs c shC (0 + i * 9))), (sA c (0 + i * 9)).size ≤ 1000000, (sA c (0 + i * 9 + 1)).size ≤ 1000000, (0 : Int) ≤ (i : Int) ∧ (i : Int) < (len : Int), LoadsAs Try.prog 9 (rowPs c shC len 0) (0 + i * 9 + 0) (strV (sA c (0 + i * 9 + 0))), 16 ≤ 1000000, (0 : Int) ≤ 16 ∧ (16 : Int) ≤ (F.size : Int), (zs 16).size + (F.extract 0 16).size ≤ 9223372036854775807, 15 ≤ 1000000, two1.size + (zs 15).size ≤ 9223372036854775807, (0 : Int) ≤ 16 ∧ (16 : Int) ≤ (F.size : Int), (two1 ++ zs 15).size + (F.extract 0 16).size ≤ 9223372036854775807, bodyOf Try.prog 10 14 = bodyOf Try.prog 10 14, ((T4 F len cap (i : Int) ((0 : Nat) : Int)), (M4 c len (xA c i) (nB c i) (kx c i F))) = ((T4 F len cap (i : Int) ((0 : Nat) : Int)), (M4 c len (xA c i) (nB c i) (kx c i F))), wfS (T4 F len cap (i : Int) ((0 : Nat) : Int)) (M4 c len (xA c i) (nB c i) (kx c i F)) = true, inI ((i : Int) + 1)], .normal, T10 F len cap ((i : Int) + 1), MC c len) := by kernel_rfl
theorem s10o (c : Cells) (len cap i : Nat) (F : ByteArray) : runTo (E10 c) 1000 ((E10 c).S 10) (bodyOf Try.prog 10 9) (T10 F len cap (i : Int)) (MC c len) [false] (T10 F len cap (i : Int)) 1 = some ([decide ((i : Int) < (len : Int)) = false], .exit 2, T10 F len cap (i : Int), MC c len) := by kernel_rfl
theorem s10p (c : Cells) (len cap i : Nat) (F : ByteArray) : runTo (E10 c) 1000 ((E10 c).S 10) (bodyOf Try.prog 10 9) (T10 F len cap (i : Int)) (MC c len) [true, false] (T10 F len cap (i : Int)) 1 = some ([decide ((i : Int) < (len : Int)) = true, decide ((i : Int) < 8) = false], .exit 2, T10 F len cap (i : Int), MC c len) := by kernel_rfl
theorem s10f (c : Cells) (m len cap i : Nat) (s : ByteArray) : runTo (E10 c) 1000 ((E10 c).S 10) (bodyOf Try.prog 10 5) (T10f len cap s (i : Int)) (MC c m) [true] (T10f len cap (s ++ ⟨#[255]⟩) ((i : Int) + 1)) 1 =
    some ([decide ((i : Int) < 32) = true, s.size + 1 ≤ 9223372036854775807, inI ((i : Int) + 1)], .normal, T10f len cap (s ++ ⟨#[255]⟩) ((i : Int) + 1), MC c m) := by kernel_rfl
theorem s10g (c : Cells) (m len cap i : Nat) (s : ByteArray) : runTo (E10 c) 1000 ((E10 c).S 10) (bodyOf Try.prog 10 5) (T10f len cap s (i : Int)) (MC c m) [false] (T10f len cap s (i : Int)) 1 =
    some ([decide ((i : Int) < 32) = false], .exit 0, T10f len cap s (i : Int), MC c m) := by kernel_rfl
theorem l10s (c : Cells) {len cap i : Nat} {F : ByteArray} (hF : F.size = 32) (hi : i < len) (h8' : i < 8) (hk : (sA c (0 + i * 9)).size ≤ 9000) (hn : (sA c (0 + i * 9 + 1)).size ≤ 9000) (hx : (sA c (0 + i * 9 + 3)).size ≤ 9000) : Goes Try.prog (bodyOf Try.prog 10 9) .normal (T10 F len cap (i : Int)) (MC c len) (T10 F len cap ((i : Int) + 1)) (MC c len) := by
  have b1 : (0 : Int) ≤ (i : Int) ∧ (i : Int) < (len : Int) := by omega
  have b2 : (0 : Int) ≤ 16 ∧ (16 : Int) ≤ (F.size : Int) := by omega
  have b3 : (F.extract 0 16).size = 16 := by rw [ByteArray.size_extract]; omega
  have b4 : two1.size = 1 := rfl
  have hkf : ∀ j, j < 5 → ((kx c i F) j).size ≤ 1000000 := by
    intro j hj
    match j, hj with
    | 0, _ => show (sA c (0 + i * 9)).size ≤ _; omega
    | 1, _ => show (kfit (sA c (0 + i * 9))).size ≤ _; rw [kfit_size]; omega
    | 2, _ => show F.size ≤ _; omega
    | 3, _ => show (zs 16 ++ F.extract 0 16).size ≤ _; rw [ByteArray.size_append, zs_size]; omega
    | 4, _ => show ((two1 ++ zs 15) ++ F.extract 0 16).size ≤ _; rw [ByteArray.size_append, ByteArray.size_append, zs_size]; omega
  have hL := l4loop c len cap i F (xA c i) (nB c i) (kx c i F) hF hi (by omega) hkf
  have hE : EnvOK (E2t c len cap i F) := envAddL (envE10k c (kx c i F) _) (sumC_ok rfl hL)
  exact Runs.goes hE ⟨_, _, s10a c len cap i F, ⟨decide_eq_true (by omega), decide_eq_true (by omega), b1, ld38 hi, by omega, by omega, b1, ld9 0 (by omega) hi, by omega, b2, by rw [zs_size]; omega, by omega, by rw [zs_size]; omega, b2, by rw [ByteArray.size_append, zs_size]; omega, rfl, rfl, wfT4 _ _ _ _ _ _ _ _ _ _, by unfold inI; omega, trivial⟩, wfT10 _ _ _ _ _ _⟩
theorem l10loop (c : Cells) (len cap : Nat) (F : ByteArray) (hF : F.size = 32) (hs : ∀ j, j < len → (sA c (0 + j * 9 + 0)).size ≤ 9000 ∧ (sA c (0 + j * 9 + 1)).size ≤ 9000 ∧ (sA c (0 + j * 9 + 3)).size ≤ 9000) : Goes Try.prog (.loop (bodyOf Try.prog 10 9)) (.exit 2) (T10 F len cap ((0 : Nat) : Int)) (MC c len) (T10 F len cap ((min len 8 : Nat) : Int)) (MC c len) := by
  refine loop_goes (N := min len 8) (k := 1) (T := fun i => T10 F len cap (i : Int)) (M := fun _ => MC c len) (by simp) (fun _ _ => rfl) (fun i hi => ?_) ?_
  · obtain ⟨h1, h2, h3⟩ := hs i (by omega)
    exact l10s c hF (by omega) (by omega) h1 h2 h3
  · by_cases h : len ≤ 8
    · rw [show min len 8 = len by omega]
      exact Runs.goes (envE10 c) ⟨_, _, s10o c len cap len F, ⟨decide_eq_false (by omega), trivial⟩, wfT10 _ _ _ _ _ _⟩
    · rw [show min len 8 = 8 by omega]
      exact Runs.goes (envE10 c) ⟨_, _, s10p c len cap 8 F, ⟨decide_eq_true (by omega), decide_eq_false (by omega), trivial⟩, wfT10 _ _ _ _ _ _⟩
theorem l10f (c : Cells) (m len cap : Nat) : Goes Try.prog (.loop (bodyOf Try.prog 10 5)) (.exit 0) (T10f len cap (ffs 0) ((0 : Nat) : Int)) (MC c m) (T10f len cap (ffs 32) ((32 : Nat) : Int)) (MC c m) := by
  refine loop_goes (N := 32) (k := 1) (T := fun i => T10f len cap (ffs i) (i : Int)) (M := fun _ => MC c m) (by simp) (fun _ _ => rfl) (fun i hi => ?_) ?_
  · have hz := ffs_size i
    exact Runs.goes (envE10 c) ⟨_, _, s10f c m len cap i (ffs i), ⟨decide_eq_true (by omega), by omega, by unfold inI; omega, trivial⟩, wfT10f _ _ _ _ _ _⟩
  · exact Runs.goes (envE10 c) ⟨_, _, s10g c m len cap 32 (ffs 32), ⟨decide_eq_false (by omega), trivial⟩, wfT10f _ _ _ _ _ _⟩
end Go.Ev

namespace Go.Ev
open Go Go.Proofs Go.RowKit

noncomputable def EH10 (c : Cells) (len cap : Nat) : Env := addL (E10 c) 3 (bodyOf Try.prog 17 3) (sumH c len cap)
theorem envEH10 (c : Cells) (len cap : Nat) (hB : ∀ j, j < len * 9 → (sA c j).size ≤ BB) (hl : len ≤ maxLen) : EnvOK (EH10 c len cap) := envAddL (envE10 c) (sumH_ok c len cap hB hl)
noncomputable def EE10 (c : Cells) (len cap : Nat) : Env := addL (addL (EH10 c len cap) 5 (bodyOf Try.prog 10 5) (sumC (T10f len cap (ffs 0) ((0 : Nat) : Int)) (MC c len) (T10f len cap (ffs 32) ((32 : Nat) : Int)) (MC c len) (.exit 0))) 9 (bodyOf Try.prog 10 9) (sumC (T10 (ffs 32) len cap ((0 : Nat) : Int)) (MC c len) (T10 (ffs 32) len cap ((min len 8 : Nat) : Int)) (MC c len) (.exit 2))
theorem envEE10 (c : Cells) (len cap : Nat) (hB : ∀ j, j < len * 9 → (sA c j).size ≤ BB) (hl : len ≤ maxLen) (hs : ∀ j, j < len → (sA c (0 + j * 9 + 0)).size ≤ 9000 ∧ (sA c (0 + j * 9 + 1)).size ≤ 9000 ∧ (sA c (0 + j * 9 + 3)).size ≤ 9000) : EnvOK (EE10 c len cap) := envAddL (envAddL (envEH10 c len cap hB hl) (sumC_ok rfl (l10f c len len cap))) (sumC_ok rfl (l10loop c len cap (ffs 32) (ffs_size 32) hs))
theorem l10hv (c : Cells) (len : Nat) (cap : Nat) : dropM (callBy (EH10 c len cap) (evalC (EH10 c len cap) 1000) 10 [V1.one (Atom.sl 0 0 len cap)] [rowB c shC len 38] [true]) =
    some ([bodyOf Try.prog 17 3 = bodyOf Try.prog 17 3, (TH len cap (len : Int) ((0 : Nat) : Int), MC c len) = (TH len cap (len : Int) ((0 : Nat) : Int), MC c len), wfS (TH len cap (len : Int) ((0 : Nat) : Int)) (MC c len) = true, decide ((9000 : Int) < hv c len 0 (len : Int)) = true], bV true) := by kernel_rfl
theorem l10ok (c : Cells) (len : Nat) (cap : Nat) : dropM (callBy (EE10 c len cap) (evalC (EE10 c len cap) 1000) 10 [V1.one (Atom.sl 0 0 len cap)] [rowB c shC len 38] [false]) =
    some ([bodyOf Try.prog 17 3 = bodyOf Try.prog 17 3, (TH len cap (len : Int) ((0 : Nat) : Int), MC c len) = (TH len cap (len : Int) ((0 : Nat) : Int), MC c len), wfS (TH len cap (len : Int) ((0 : Nat) : Int)) (MC c len) = true, decide ((9000 : Int) < hv c len 0 (len : Int)) = false, bodyOf Try.prog 10 5 = bodyOf Try.prog 10 5, ((T10f len cap (ffs 0) ((0 : Nat) : Int)), MC c len) = ((T10f len cap (ffs 0) ((0 : Nat) : Int)), MC c len), wfS (T10f len cap (ffs 0) ((0 : Nat) : Int)) (MC c len) = true, bodyOf Try.prog 10 9 = bodyOf Try.prog 10 9, ((T10 (ffs 32) len cap ((0 : Nat) : Int)), MC c len) = ((T10 (ffs 32) len cap ((0 : Nat) : Int)), MC c len), wfS (T10 (ffs 32) len cap ((0 : Nat) : Int)) (MC c len) = true], bV true) := by kernel_rfl
def T10fn (s : ByteArray) (i : Int) : List AV := slots 191 [(0, .val (.one (.v (.slice none 0 0)))), (2, bV false), (3, .val (strV s)), (4, iV i)]
theorem s10fn (c : Cells) (i : Nat) (s : ByteArray) : runTo (E10 c) 1000 (Env.S (E10 c) 10) (bodyOf Try.prog 10 5) (T10fn s (↑i : Int)) [] [true] (T10fn (s ++ ByteArray.mk #[(255 : UInt8)]) ((↑i : Int) + (1 : Int))) 0 =
    some ([decide ((↑i : Int) < (32 : Int)) = true, ByteArray.size s + 1 ≤ 9223372036854775807, inI ((↑i : Int) + (1 : Int))], .normal, T10fn (s ++ ⟨#[255]⟩) ((i : Int) + 1), []) := by kernel_rfl
theorem s10gn (c : Cells) (i : Nat) (s : ByteArray) : runTo (E10 c) 1000 (Env.S (E10 c) 10) (bodyOf Try.prog 10 5) (T10fn s (↑i : Int)) [] [false] (T10fn s (↑i : Int)) 0 =
    some ([decide ((↑i : Int) < (32 : Int)) = false], .exit 0, T10fn s (i : Int), []) := by kernel_rfl
theorem wfT10fn (s : ByteArray) (i : Int) : wfS (T10fn s i) [] = true := by kernel_rfl
theorem l10fn (c : Cells) : Goes Try.prog (.loop (bodyOf Try.prog 10 5)) (.exit 0) (T10fn (ffs 0) ((0 : Nat) : Int)) [] (T10fn (ffs 32) ((32 : Nat) : Int)) [] := by
  refine loop_goes (N := 32) (k := 0) (T := fun i => T10fn (ffs i) (i : Int)) (M := fun _ => []) (by simp) (fun _ _ => rfl) (fun i hi => ?_) ?_
  · have hz := ffs_size i
    exact Runs.goes (envE10 c) ⟨_, _, s10fn c i (ffs i), ⟨decide_eq_true (by omega), by omega, by unfold inI; omega, trivial⟩, wfT10fn _ _⟩
  · exact Runs.goes (envE10 c) ⟨_, _, s10gn c 32 (ffs 32), ⟨decide_eq_false (by omega), trivial⟩, wfT10fn _ _⟩
noncomputable def EN10 (c : Cells) : Env := addL (E10 c) 5 (bodyOf Try.prog 10 5) (sumC (T10fn (ffs 0) ((0 : Nat) : Int)) [] (T10fn (ffs 32) ((32 : Nat) : Int)) [] (.exit 0))
theorem l10nil (c : Cells) : dropM (callBy (EN10 c) (evalC (EN10 c) 1000) 10 [V1.one (Atom.v (Value.slice none 0 0))] [] [false, false]) =
    some ([decide ((9000 : Int) < ((0 : Nat) : Int)) = false, bodyOf Try.prog 10 5 = bodyOf Try.prog 10 5, ((T10fn (ffs 0) ((0 : Nat) : Int)), ([] : List Blk)) = ((T10fn (ffs 0) ((0 : Nat) : Int)), []), wfS (T10fn (ffs 0) ((0 : Nat) : Int)) [] = true, decide ((0 : Int) < ((0 : Nat) : Int)) = false], bV true) := by kernel_rfl
theorem l10nilc (w : World) : Calls Try.prog 10 #[.slice none 0 0] w (Trues w) :=
  law_nilD (E := EN10 c0) (envAddL (envE10 c0) (sumC_ok rfl (l10fn c0))) (l10nil c0) ⟨by decide, rfl, rfl, wfT10fn _ _, by decide, trivial⟩ w
set_option maxRecDepth 100000 in
theorem law10 {H : Type} {enc : TypeId × Value → H} {r : Reach} {W : World} {base : Nat} {v : Value} {d : DataW H} {ps : List MemPlace} (hval : Value.okWide Try.prog W r base 23 v) (h : DataW.Trod enc Try.prog W 0 (fun _ => true) true 23 v d ps) (hwt : ∀ n ∈ d.weights Try.prog 23, n ≤ BB) :
    Calls Try.prog 10 #[v] W (Trues W) := by
  refine rows_calls_sized shC (B := BB) (Q := Trues) u23 k38 s38 l10nilc ?_ hval h hwt
  intro c len cap hlc hcap ho hB w φ hmr
  have hl : len ≤ maxLen := by omega
  have hB' : ∀ j, j < len * 9 → (sA c j).size ≤ BB := hB
  by_cases hh : 9000 < hv c len 0 (len : Int)
  · exact law_runD (envEH10 c len cap hB' hl) (l10hv c len cap) ⟨rfl, rfl, wfTH _ _ _ _ _ _, decide_eq_true hh, trivial⟩ hmr
  · have hs := (hv_small c len 0 (len : Int) (by omega) (by omega)).2
    refine law_runD (envEE10 c len cap hB' hl ?_) (l10ok c len cap) ⟨rfl, rfl, wfTH _ _ _ _ _ _, decide_eq_false hh, rfl, rfl, wfT10f _ _ _ _ _ _, rfl, rfl, wfT10 _ _ _ _ _ _, trivial⟩ hmr
    intro j hj
    obtain ⟨h1, h2, h3, h4⟩ := hs j (Nat.zero_le _) (by omega)
    exact ⟨h1, h2, h4⟩
end Go.Ev

namespace Go.Proofs.Ytcllniellnhcoaa.Laws
open Go Go.Ev Go.RowKit Go.ChangeShapes Go.WideShapes Go.ChangeAt

set_option maxRecDepth 100000 in
theorem lifted10 (os : Os) (started : os.Started) (H : Type) (enc : TypeId × Value → H) :
    ReturnsInHanded {} Try.checked os 10 .any (Rows.polyTagsSpec.pre6 enc Try.prog Try.f10 Rows.polyTagsRow.domain false) (Rows.polyTagsSpec.post enc Try.prog Try.f10 false true false false) := by
  refine returnsInHanded_of_change_sized (C := Try.checked) own started (by kernel_rfl) Try.func10
    (ChangeSpec.witness6 (enc := enc) (C := Try.checked) false ⟨#[], #[.slice none 0 0], []⟩ 8 (by kernel_rfl) (by kernel_rfl) (by kernel_rfl) (by kernel_rfl)) ?_
  intro W base args ds gs before hval0 hW _ hsz0 _
  have hsz : (DataW.weightsEach Try.prog (Try.f10.params.toList ++ Rows.polyTagsSpec.plain.varTypes Try.prog) (ds ++ gs)).all (· ≤ reachBytes) = true := hsz0
  clear hsz0
  have hval : ∀ (j : Nat) t v, Try.f10.params[j]? = some t → args[j]? = some v → Value.okWide Try.prog W .any base t v := hval0
  have hW' := hW
  obtain ⟨p, q, hA0, hV, hbef, hfz, hnd⟩ := hW
  have hp : Try.f10.params = #[23] := by kernel_rfl
  have hA : DataW.TrodAll enc Try.prog W 0 (fun _ => true) true Try.f10.params.toList args.toList ds p := hA0
  rw [hp] at hA hval
  obtain ⟨v0, d0, rfl, rfl, h0⟩ := trodAll_one hA
  obtain ⟨rfl, rfl⟩ := trodVars_none hV
  refine (law10 (hval 0 23 v0 rfl rfl) h0 (fun n hn => by simpa using List.all_eq_true.1 hsz n (DataW.weights_mem_each (j := 0) (t := 23) (by rw [hp]; rfl) rfl n hn))).mono ?_
  rintro e W' ⟨rfl, hb⟩
  exact ⟨_, rfl, post_true (tb := 4) rfl hp (by kernel_rfl) u4 laid rd23 row23 rfl rfl hW' hb⟩

theorem holds10 : Rows.PolyTagsSaid :=
  OpenClaim.holds_of_wide 10 Try.f10 rfl rfl rfl rfl rfl rfl rfl ⟨rfl, rfl, rfl, rfl, rfl⟩ rfl rfl rfl rfl rfl (by kernel_rfl) Try.func10 (by kernel_rfl)
    (of_decide_eq_true (by kernel_rfl)) (by unfold Func.isWrapper; first | (rw [if_pos (by decide +kernel)]; kernel_rfl) | (rw [if_neg (by decide +kernel)]; exact ⟨rfl, rfl⟩))
    (fun os started H enc _ => lifted10 os started H enc)

end Go.Proofs.Ytcllniellnhcoaa.Laws

namespace Go.Proofs.Ytcllniellnhcoaa
open Go
theorem polyTags_holds : Rows.PolyTagsSaid := Laws.holds10
end Go.Proofs.Ytcllniellnhcoaa

