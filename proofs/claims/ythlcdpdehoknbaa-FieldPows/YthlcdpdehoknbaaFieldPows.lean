/- The law FieldPows holds of every argument, without a condition -/
import Derived.Test.YthlcdpdehoknbaaRing
import Derived.Test.YthlcdpdehoknbaaField
import Derived.JoinedOf
namespace Go.Ev
open Go Go.Proofs Go.RowKit

noncomputable def E16 (g u zr : Bool) : Env := { E0 with
  fn := fun f vs => match f with
    | 19 => fn19 g vs
    | 20 => fn20 vs
    | 21 => fnK g21 vs
    | 23 => fnK1 (fun k a => .val (N8 (redN a k))) vs
    | 30 => fn30 u vs
    | 31 => fn31k u zr vs
    | 33 => fn33 vs
    | 34 => fn34 vs
    | 57 => fn2 gLess vs
    | 27 => (match vs with | [] => some ([], bV true) | _ => none)
    | _ => none
  S := fun f t => match f with
    | 32 => memN t [21]
    | 16 => memN t [18, 24, 26, 28, 31, 42, 62, 91, 100, 120, 125]
    | _ => false }
theorem envE16 (g u zr : Bool) : EnvOK (E16 g u zr) := by
  refine ⟨mixed, ?_, fun _ _ _ _ _ h => by simp [E16, E0] at h, fun _ _ _ h => by simp [E16, E0] at h⟩
  intro f vs ob r h ho
  simp only [E16] at h
  split at h
  · exact fn19_ok h ho
  · exact fn20_ok h ho
  · exact fnK_ok spec21 h ho
  · exact fnK1_ok spec23 h ho
  · exact fn30_ok h ho
  · exact fn31k_ok h ho
  · exact fn33_ok h ho
  · exact fn34_ok h ho
  · exact fn2_ok spec57 h ho
  · split at h
    · simp only [Option.some.injEq, Prod.mk.injEq] at h
      obtain ⟨rfl, rfl⟩ := h
      exact spec27
    · simp at h
  · simp at h
def slV (b len cap : Nat) : AV := .val (.one (.sl b 0 len cap))
def sxV (b len : Nat) : AV := .val (.one (.sx b len))
def TKg (len cap : Nat) (i z : Int) (k : Int) : List AV := slots 128 [(0, sV len cap), (2, bV false), (3, iV i), (4, iV z), (5, sxV 3 3), (6, iV k)]
def TKb (len cap : Nat) (i z : Int) (k : Int) : List AV := slots 128 [(0, sV len cap), (2, bV false), (3, iV i), (4, iV z), (5, slV 1 2 2), (6, iV k)]
def b1S (a : Nat) : Blk := ⟨.num 8 a :: cellsU 8 0 zF, 27, true, false, 0⟩
def b2S (r : Nat) : Blk := ⟨[.num 8 r], 27, true, false, 0⟩
def b3S (a r : Nat) : Blk := ⟨.num 8 a :: (cellsU 8 0 zF ++ [.num 8 r]), 27, true, false, 8⟩
def MG (s : Asks) (m i k : Nat) : List Blk := [askB s m, b1S (s.a i), b2S (redN (s.a i) k), b3S (s.a i) (redN (s.a i) k)]
def MBd (s : Asks) (m i : Nat) : List Blk := [askB s m, b1S (s.a i)]
end Go.Ev

namespace Go.Ev
open Go Go.Proofs Go.RowKit

def iy (len i : Nat) : Prop := 0 ≤ (i : Int) ∧ (i : Int) < (len : Int)
def zr0 : Prop := (!isZ 0) = false
def psame (z : Int) (a n : Nat) : Prop := (!(decide (powM (modN z.toNat) a n % 4294967296 ^ 8 = powM (modN z.toNat) a n % 4294967296 ^ 8) && true)) = false
def isame (z : Int) (a : Nat) : Prop := (!(decide (invM (modN z.toNat) a % 4294967296 ^ 8 = invM (modN z.toNat) a % 4294967296 ^ 8) && true)) = false
def obTT (len i : Nat) (z : Int) (a n : Nat) (L : List Prop) (tz : Prop) (zr : Bool) (tail : List Prop) : List Prop :=
  iy len i :: (ok1 z a = true) :: (L ++ ((n < 4294967296 ^ 8) :: (ok1 z a = true) :: (true = true → decide (a = 0) = zr) :: (L ++ ((modB z = true) :: (0 ≤ z ∧ z < 4) :: (lessB z a = true) :: (L ++ ((modN z.toNat < 4294967296 ^ 8) :: iy len i :: (0 ≤ z ∧ z < 4) :: (a < modN z.toNat) :: (L ++ ((n < 4294967296 ^ 8) :: tz :: tail))))))))
def tailN (z : Int) (a n : Nat) (L : List Prop) : List Prop := (0 ≤ z ∧ z < 4) :: (a < modN z.toNat) :: (L ++ [psame z a n, isame z a])
def tailZ (z : Int) (a n : Nat) : List Prop := [psame z a n, zr0]
def obU (len i : Nat) (z : Int) (a n : Nat) (L : List Prop) : List Prop :=
  iy len i :: (ok1 z a = false) :: (L ++ ((n < 4294967296 ^ 8) :: (ok1 z a = false) :: (false = true → decide (a = 0) = true) :: (L ++ ((modB z = true) :: (0 ≤ z ∧ z < 4) :: (lessB z a = false) :: (L ++ [modN z.toNat < 4294967296 ^ 8, zr0, zr0])))))
def obV (len i : Nat) (z : Int) (a n : Nat) (L : List Prop) : List Prop :=
  iy len i :: (ok1 z a = false) :: (L ++ ((n < 4294967296 ^ 8) :: (ok1 z a = false) :: (false = true → decide (a = 0) = true) :: (L ++ [modB z = false, zr0, zr0])))
theorem ps_ok (z : Int) (a n : Nat) : psame z a n := same_refl' _
theorem is_ok (z : Int) (a : Nat) : isame z a := same_refl' _
theorem obTT_ok {len i : Nat} {z : Int} {a n : Nat} {L : List Prop} {tz : Prop} {zr : Bool} {tail : List Prop} (hi : iy len i) (hz : modB z = true) (hl : lessB z a = true) (hL : All L) (hn : n < 4294967296 ^ 8) (h0 : decide (a = 0) = zr) (ht : tz) (hta : All tail) : All (obTT len i z a n L tz zr tail) := by
  have hZ := modB_t hz
  have h1 : ok1 z a = true := by simp [ok1, hz, hl]
  unfold obTT
  simp only [All, All_append]
  exact ⟨hi, h1, hL, hn, h1, fun _ => h0, hL, hz, hZ, hl, hL, modN_lt _, hi, hZ, of_decide_eq_true hl, hL, hn, ht, hta⟩
theorem tailN_ok {z : Int} {a n : Nat} {L : List Prop} (hz : modB z = true) (hl : lessB z a = true) (hL : All L) : All (tailN z a n L) := by
  unfold tailN
  simp only [All, All_append]
  exact ⟨modB_t hz, of_decide_eq_true hl, hL, ps_ok _ _ _, is_ok _ _, trivial⟩
theorem tailZ_ok {z : Int} {a n : Nat} : All (tailZ z a n) := ⟨ps_ok _ _ _, rfl, trivial⟩
theorem obU_ok {len i : Nat} {z : Int} {a n : Nat} {L : List Prop} (hi : iy len i) (hz : modB z = true) (hl : lessB z a = false) (hL : All L) (hn : n < 4294967296 ^ 8) : All (obU len i z a n L) := by
  have h1 : ok1 z a = false := by simp [ok1, hl]
  unfold obU
  simp only [All, All_append]
  exact ⟨hi, h1, hL, hn, h1, (fun h => absurd h (by decide)), hL, hz, modB_t hz, hl, hL, modN_lt _, rfl, rfl, trivial⟩
theorem obV_ok {len i : Nat} {z : Int} {a n : Nat} {L : List Prop} (hi : iy len i) (hz : modB z = false) (hL : All L) (hn : n < 4294967296 ^ 8) : All (obV len i z a n L) := by
  have h1 : ok1 z a = false := by simp [ok1, hz]
  unfold obV
  simp only [All, All_append]
  exact ⟨hi, h1, hL, hn, h1, (fun h => absurd h (by decide)), hL, hz, rfl, rfl, trivial⟩
def aZ : Nat := valU 8 0 zF
theorem aZ_eq : aZ = 0 := valU_zero 8 0
def zCC : Prop := (!(match eqF (cellsU 8 0 zF) (cellsU 8 0 zF) with | some b => b | none => true)) = false
theorem lzF : All (lt8 zF) := lt8_ok (fun _ => by show (0 : Nat) < 4294967296; decide)
theorem tTKg (len cap : Nat) (i z k : Int) : tmsWf 4 (TKg len cap i z k) = true := by kernel_rfl
theorem tTKb (len cap : Nat) (i z k : Int) : tmsWf 2 (TKb len cap i z k) = true := by kernel_rfl
def TI16 (len cap : Nat) (i z : Int) : List AV := slots 128 [(0, sV len cap), (2, bV false), (3, iV i), (4, iV z)]
def TO16 (len cap : Nat) (i : Int) : List AV := slots 128 [(0, sV len cap), (2, bV false), (3, iV i)]
theorem tTI16 (len cap : Nat) (i z : Int) : tmsWf 1 (TI16 len cap i z) = true := by kernel_rfl
theorem tTI4 (len cap : Nat) (i z : Int) : tmsWf 4 (TI16 len cap i z) = true := by kernel_rfl
theorem tTI2 (len cap : Nat) (i z : Int) : tmsWf 2 (TI16 len cap i z) = true := by kernel_rfl
theorem tTO16 (len cap : Nat) (i : Int) : tmsWf 1 (TO16 len cap i) = true := by kernel_rfl
theorem MG_free (s : Asks) (m i k : Nat) : ∀ b ∈ MG s m i k, Free b := by
  intro b hb
  simp only [MG, List.mem_cons, List.not_mem_nil, or_false] at hb
  rcases hb with rfl | rfl | rfl | rfl
  · exact askB_free _ _
  · exact fun f => cellsU_free zF f 8 0
  · exact fun _ => rfl
  · exact fun f => rfl
theorem MBd_free (s : Asks) (m i : Nat) : ∀ b ∈ MBd s m i, Free b := by
  intro b hb
  simp only [MBd, List.mem_cons, List.not_mem_nil, or_false] at hb
  rcases hb with rfl | rfl
  · exact askB_free _ _
  · exact fun f => cellsU_free zF f 8 0
theorem wfTKg (s : Asks) (m i j len cap : Nat) (a z k : Int) : wfS (TKg len cap a z k) (MG s m i j) = true := wfS_of (MG_free s m i j) (tTKg len cap a z k)
theorem wfTKb (s : Asks) (m i len cap : Nat) (a z k : Int) : wfS (TKb len cap a z k) (MBd s m i) = true := wfS_of (MBd_free s m i) (tTKb len cap a z k)
theorem wfTI4 (s : Asks) (m i j len cap : Nat) (a z : Int) : wfS (TI16 len cap a z) (MG s m i j) = true := wfS_of (MG_free s m i j) (tTI4 len cap a z)
theorem wfTI2 (s : Asks) (m i len cap : Nat) (a z : Int) : wfS (TI16 len cap a z) (MBd s m i) = true := wfS_of (MBd_free s m i) (tTI2 len cap a z)
theorem wfTI1 (s : Asks) (m len cap : Nat) (a z : Int) : wfS (TI16 len cap a z) [askB s m] = true := wfS_of (by simp [askB_free]) (tTI16 len cap a z)
theorem wfTO1 (s : Asks) (m len cap : Nat) (a : Int) : wfS (TO16 len cap a) [askB s m] = true := wfS_of (by simp [askB_free]) (tTO16 len cap a)

theorem rN_1_0_0 (s : Asks) (len cap : Nat) (z : Int) : runTo (E16 true true false) 1000 ((E16 true true false).S 16) (bodyOf Try.prog 16 11) (TKg len cap ((0 : Nat) : Int) z ((0 : Nat) : Int)) (MG s 1 0 z.toNat) [true, true, false, false] (TKg len cap ((0 : Nat) : Int) z ((0 + 1 : Nat) : Int)) 4 =
    some (obTT len 0 z (s.a 0) (s.b 0) [s.a 0 < 4294967296 ^ 8] ((!isZ (s.a 0)) = true) false (tailN z (s.a 0) (s.b 0) [s.a 0 < 4294967296 ^ 8]), .normal, TKg len cap ((0 : Nat) : Int) z ((0 + 1 : Nat) : Int), MG s 1 0 z.toNat) := by kernel_rfl
theorem rZ_1_0_0 (s : Asks) (len cap : Nat) (z : Int) : runTo (E16 true true true) 1000 ((E16 true true true).S 16) (bodyOf Try.prog 16 11) (TKg len cap ((0 : Nat) : Int) z ((0 : Nat) : Int)) (MG s 1 0 z.toNat) [true, false, false, false] (TKg len cap ((0 : Nat) : Int) z ((0 + 1 : Nat) : Int)) 4 =
    some (obTT len 0 z (s.a 0) (s.b 0) [s.a 0 < 4294967296 ^ 8] ((!isZ (s.a 0)) = false) true (tailZ z (s.a 0) (s.b 0)), .normal, TKg len cap ((0 : Nat) : Int) z ((0 + 1 : Nat) : Int), MG s 1 0 z.toNat) := by kernel_rfl
theorem rU_1_0_0 (s : Asks) (len cap : Nat) (z : Int) : runTo (E16 true false true) 1000 ((E16 true false true).S 16) (bodyOf Try.prog 16 11) (TKg len cap ((0 : Nat) : Int) z ((0 : Nat) : Int)) (MG s 1 0 z.toNat) [false, false, false] (TKg len cap ((0 : Nat) : Int) z ((0 + 1 : Nat) : Int)) 4 =
    some (obU len 0 z (s.a 0) (s.b 0) [s.a 0 < 4294967296 ^ 8], .normal, TKg len cap ((0 : Nat) : Int) z ((0 + 1 : Nat) : Int), MG s 1 0 z.toNat) := by kernel_rfl
theorem rZ_1_0_1 (s : Asks) (len cap : Nat) (z : Int) : runTo (E16 true true true) 1000 ((E16 true true true).S 16) (bodyOf Try.prog 16 11) (TKg len cap ((0 : Nat) : Int) z ((1 : Nat) : Int)) (MG s 1 0 z.toNat) [true, false, false, false] (TKg len cap ((0 : Nat) : Int) z ((1 + 1 : Nat) : Int)) 4 =
    some (obTT len 0 z aZ (s.b 0) (lt8 zF) zCC true (tailZ z aZ (s.b 0)), .normal, TKg len cap ((0 : Nat) : Int) z ((1 + 1 : Nat) : Int), MG s 1 0 z.toNat) := by kernel_rfl
theorem rN_1_0_2 (s : Asks) (len cap : Nat) (z : Int) : runTo (E16 true true false) 1000 ((E16 true true false).S 16) (bodyOf Try.prog 16 11) (TKg len cap ((0 : Nat) : Int) z ((2 : Nat) : Int)) (MG s 1 0 z.toNat) [true, true, false, false] (TKg len cap ((0 : Nat) : Int) z ((2 + 1 : Nat) : Int)) 4 =
    some (obTT len 0 z (redN (s.a 0) z.toNat) (s.b 0) [redN (s.a 0) z.toNat < 4294967296 ^ 8] ((!isZ (redN (s.a 0) z.toNat)) = true) false (tailN z (redN (s.a 0) z.toNat) (s.b 0) [redN (s.a 0) z.toNat < 4294967296 ^ 8]), .normal, TKg len cap ((0 : Nat) : Int) z ((2 + 1 : Nat) : Int), MG s 1 0 z.toNat) := by kernel_rfl
theorem rZ_1_0_2 (s : Asks) (len cap : Nat) (z : Int) : runTo (E16 true true true) 1000 ((E16 true true true).S 16) (bodyOf Try.prog 16 11) (TKg len cap ((0 : Nat) : Int) z ((2 : Nat) : Int)) (MG s 1 0 z.toNat) [true, false, false, false] (TKg len cap ((0 : Nat) : Int) z ((2 + 1 : Nat) : Int)) 4 =
    some (obTT len 0 z (redN (s.a 0) z.toNat) (s.b 0) [redN (s.a 0) z.toNat < 4294967296 ^ 8] ((!isZ (redN (s.a 0) z.toNat)) = false) true (tailZ z (redN (s.a 0) z.toNat) (s.b 0)), .normal, TKg len cap ((0 : Nat) : Int) z ((2 + 1 : Nat) : Int), MG s 1 0 z.toNat) := by kernel_rfl
theorem rV_1_0_0 (s : Asks) (len cap : Nat) (z : Int) : runTo (E16 false false true) 1000 ((E16 false false true).S 16) (bodyOf Try.prog 16 11) (TKb len cap ((0 : Nat) : Int) z ((0 : Nat) : Int)) (MBd s 1 0) [false, false] (TKb len cap ((0 : Nat) : Int) z ((0 + 1 : Nat) : Int)) 2 =
    some (obV len 0 z (s.a 0) (s.b 0) [s.a 0 < 4294967296 ^ 8], .normal, TKb len cap ((0 : Nat) : Int) z ((0 + 1 : Nat) : Int), MBd s 1 0) := by kernel_rfl
theorem rV_1_0_1 (s : Asks) (len cap : Nat) (z : Int) : runTo (E16 false false true) 1000 ((E16 false false true).S 16) (bodyOf Try.prog 16 11) (TKb len cap ((0 : Nat) : Int) z ((1 : Nat) : Int)) (MBd s 1 0) [false, false] (TKb len cap ((0 : Nat) : Int) z ((1 + 1 : Nat) : Int)) 2 =
    some (obV len 0 z aZ (s.b 0) (lt8 zF), .normal, TKb len cap ((0 : Nat) : Int) z ((1 + 1 : Nat) : Int), MBd s 1 0) := by kernel_rfl
theorem rX_1_0 (s : Asks) (len cap : Nat) (z : Int) : runTo E0 1000 (E0.S 16) (bodyOf Try.prog 16 11) (TKg len cap ((0 : Nat) : Int) z ((3 : Nat) : Int)) (MG s 1 0 z.toNat) [] (TI16 len cap ((0 : Nat) : Int) z) 4 =
    some ([], .exit 4, TI16 len cap ((0 : Nat) : Int) z, MG s 1 0 z.toNat) := by kernel_rfl
theorem rY_1_0 (s : Asks) (len cap : Nat) (z : Int) : runTo E0 1000 (E0.S 16) (bodyOf Try.prog 16 11) (TKb len cap ((0 : Nat) : Int) z ((2 : Nat) : Int)) (MBd s 1 0) [] (TI16 len cap ((0 : Nat) : Int) z) 2 =
    some ([], .exit 4, TI16 len cap ((0 : Nat) : Int) z, MBd s 1 0) := by kernel_rfl
theorem stepG_1_0 (s : Asks) (len cap : Nat) (z : Int) (hz : modB z = true) (hl : 0 < len) (hs : s.ok 1) (k : Nat) (hk : k < 3) : Goes Try.prog (bodyOf Try.prog 16 11) .normal (TKg len cap ((0 : Nat) : Int) z (k : Int)) (MG s 1 0 z.toNat) (TKg len cap ((0 : Nat) : Int) z ((k + 1 : Nat) : Int)) (MG s 1 0 z.toNat) := by
  have hI : iy len 0 := by unfold iy; omega
  obtain ⟨ha, hb⟩ := hs 0 (by omega)
  have hwf := wfTKg s 1 0 z.toNat len cap ((0 : Nat) : Int) z ((k + 1 : Nat) : Int)
  have h3 : k = 0 ∨ k = 1 ∨ k = 2 := by omega
  rcases h3 with rfl | rfl | rfl
  · have hL : All [s.a 0 < 4294967296 ^ 8] := ⟨ha, trivial⟩
    cases hla : lessB z (s.a 0) with
    | false => exact Runs.goes (envE16 true false true) ⟨_, _, rU_1_0_0 s len cap z, obU_ok hI hz hla hL hb, hwf⟩
    | true =>
      cases h0 : decide (s.a 0 = 0) with
      | true => exact Runs.goes (envE16 true true true) ⟨_, _, rZ_1_0_0 s len cap z, obTT_ok hI hz hla hL hb h0 (by rw [isZ_eq ha, h0]; rfl) tailZ_ok, hwf⟩
      | false => exact Runs.goes (envE16 true true false) ⟨_, _, rN_1_0_0 s len cap z, obTT_ok hI hz hla hL hb h0 (by rw [isZ_eq ha, h0]; rfl) (tailN_ok hz hla hL), hwf⟩
  · have hla : lessB z aZ = true := by rw [aZ_eq]; exact decide_eq_true (modN_pos _)
    exact Runs.goes (envE16 true true true) ⟨_, _, rZ_1_0_1 s len cap z, obTT_ok hI hz hla lzF hb (by rw [aZ_eq]; rfl) rfl tailZ_ok, hwf⟩
  · have hlt : redN (s.a 0) z.toNat < modN z.toNat := Nat.mod_lt _ (modN_pos _)
    have hla : lessB z (redN (s.a 0) z.toNat) = true := decide_eq_true hlt
    have hr : redN (s.a 0) z.toNat < 4294967296 ^ 8 := Nat.lt_trans hlt (modN_lt _)
    have hL : All [redN (s.a 0) z.toNat < 4294967296 ^ 8] := ⟨hr, trivial⟩
    cases h0 : decide (redN (s.a 0) z.toNat = 0) with
    | true => exact Runs.goes (envE16 true true true) ⟨_, _, rZ_1_0_2 s len cap z, obTT_ok hI hz hla hL hb h0 (by rw [isZ_eq hr, h0]; rfl) tailZ_ok, hwf⟩
    | false => exact Runs.goes (envE16 true true false) ⟨_, _, rN_1_0_2 s len cap z, obTT_ok hI hz hla hL hb h0 (by rw [isZ_eq hr, h0]; rfl) (tailN_ok hz hla hL), hwf⟩
theorem stepB_1_0 (s : Asks) (len cap : Nat) (z : Int) (hz : modB z = false) (hl : 0 < len) (hs : s.ok 1) (k : Nat) (hk : k < 2) : Goes Try.prog (bodyOf Try.prog 16 11) .normal (TKb len cap ((0 : Nat) : Int) z (k : Int)) (MBd s 1 0) (TKb len cap ((0 : Nat) : Int) z ((k + 1 : Nat) : Int)) (MBd s 1 0) := by
  have hI : iy len 0 := by unfold iy; omega
  obtain ⟨ha, hb⟩ := hs 0 (by omega)
  have hwf := wfTKb s 1 0 len cap ((0 : Nat) : Int) z ((k + 1 : Nat) : Int)
  have h3 : k = 0 ∨ k = 1 := by omega
  rcases h3 with rfl | rfl
  · have hL : All [s.a 0 < 4294967296 ^ 8] := ⟨ha, trivial⟩
    exact Runs.goes (envE16 false false true) ⟨_, _, rV_1_0_0 s len cap z, obV_ok hI hz hL hb, hwf⟩
  · exact Runs.goes (envE16 false false true) ⟨_, _, rV_1_0_1 s len cap z, obV_ok hI hz lzF hb, hwf⟩
theorem loopG_1_0 (s : Asks) (len cap : Nat) (z : Int) (hz : modB z = true) (hl : 0 < len) (hs : s.ok 1) : Goes Try.prog (.loop (bodyOf Try.prog 16 11)) (.exit 4) (TKg len cap ((0 : Nat) : Int) z ((0 : Nat) : Int)) (MG s 1 0 z.toNat) (TI16 len cap ((0 : Nat) : Int) z) (MG s 1 0 z.toNat) :=
  loop_goes (N := 3) (k := 4) (T := fun k => TKg len cap ((0 : Nat) : Int) z (k : Int)) (M := fun _ => MG s 1 0 z.toNat) (by simp) (fun _ _ => rfl) (fun k hk => stepG_1_0 s len cap z hz hl hs k hk) (Runs.goes envE0 ⟨[], _, rX_1_0 s len cap z, trivial, wfTI4 _ _ _ _ _ _ _ _⟩)
theorem loopB_1_0 (s : Asks) (len cap : Nat) (z : Int) (hz : modB z = false) (hl : 0 < len) (hs : s.ok 1) : Goes Try.prog (.loop (bodyOf Try.prog 16 11)) (.exit 4) (TKb len cap ((0 : Nat) : Int) z ((0 : Nat) : Int)) (MBd s 1 0) (TI16 len cap ((0 : Nat) : Int) z) (MBd s 1 0) :=
  loop_goes (N := 2) (k := 2) (T := fun k => TKb len cap ((0 : Nat) : Int) z (k : Int)) (M := fun _ => MBd s 1 0) (by simp) (fun _ _ => rfl) (fun k hk => stepB_1_0 s len cap z hz hl hs k hk) (Runs.goes envE0 ⟨[], _, rY_1_0 s len cap z, trivial, wfTI2 _ _ _ _ _ _ _⟩)
theorem rN_2_0_0 (s : Asks) (len cap : Nat) (z : Int) : runTo (E16 true true false) 1000 ((E16 true true false).S 16) (bodyOf Try.prog 16 11) (TKg len cap ((0 : Nat) : Int) z ((0 : Nat) : Int)) (MG s 2 0 z.toNat) [true, true, false, false] (TKg len cap ((0 : Nat) : Int) z ((0 + 1 : Nat) : Int)) 4 =
    some (obTT len 0 z (s.a 0) (s.b 0) [s.a 0 < 4294967296 ^ 8] ((!isZ (s.a 0)) = true) false (tailN z (s.a 0) (s.b 0) [s.a 0 < 4294967296 ^ 8]), .normal, TKg len cap ((0 : Nat) : Int) z ((0 + 1 : Nat) : Int), MG s 2 0 z.toNat) := by kernel_rfl
theorem rZ_2_0_0 (s : Asks) (len cap : Nat) (z : Int) : runTo (E16 true true true) 1000 ((E16 true true true).S 16) (bodyOf Try.prog 16 11) (TKg len cap ((0 : Nat) : Int) z ((0 : Nat) : Int)) (MG s 2 0 z.toNat) [true, false, false, false] (TKg len cap ((0 : Nat) : Int) z ((0 + 1 : Nat) : Int)) 4 =
    some (obTT len 0 z (s.a 0) (s.b 0) [s.a 0 < 4294967296 ^ 8] ((!isZ (s.a 0)) = false) true (tailZ z (s.a 0) (s.b 0)), .normal, TKg len cap ((0 : Nat) : Int) z ((0 + 1 : Nat) : Int), MG s 2 0 z.toNat) := by kernel_rfl
theorem rU_2_0_0 (s : Asks) (len cap : Nat) (z : Int) : runTo (E16 true false true) 1000 ((E16 true false true).S 16) (bodyOf Try.prog 16 11) (TKg len cap ((0 : Nat) : Int) z ((0 : Nat) : Int)) (MG s 2 0 z.toNat) [false, false, false] (TKg len cap ((0 : Nat) : Int) z ((0 + 1 : Nat) : Int)) 4 =
    some (obU len 0 z (s.a 0) (s.b 0) [s.a 0 < 4294967296 ^ 8], .normal, TKg len cap ((0 : Nat) : Int) z ((0 + 1 : Nat) : Int), MG s 2 0 z.toNat) := by kernel_rfl
theorem rZ_2_0_1 (s : Asks) (len cap : Nat) (z : Int) : runTo (E16 true true true) 1000 ((E16 true true true).S 16) (bodyOf Try.prog 16 11) (TKg len cap ((0 : Nat) : Int) z ((1 : Nat) : Int)) (MG s 2 0 z.toNat) [true, false, false, false] (TKg len cap ((0 : Nat) : Int) z ((1 + 1 : Nat) : Int)) 4 =
    some (obTT len 0 z aZ (s.b 0) (lt8 zF) zCC true (tailZ z aZ (s.b 0)), .normal, TKg len cap ((0 : Nat) : Int) z ((1 + 1 : Nat) : Int), MG s 2 0 z.toNat) := by kernel_rfl
theorem rN_2_0_2 (s : Asks) (len cap : Nat) (z : Int) : runTo (E16 true true false) 1000 ((E16 true true false).S 16) (bodyOf Try.prog 16 11) (TKg len cap ((0 : Nat) : Int) z ((2 : Nat) : Int)) (MG s 2 0 z.toNat) [true, true, false, false] (TKg len cap ((0 : Nat) : Int) z ((2 + 1 : Nat) : Int)) 4 =
    some (obTT len 0 z (redN (s.a 0) z.toNat) (s.b 0) [redN (s.a 0) z.toNat < 4294967296 ^ 8] ((!isZ (redN (s.a 0) z.toNat)) = true) false (tailN z (redN (s.a 0) z.toNat) (s.b 0) [redN (s.a 0) z.toNat < 4294967296 ^ 8]), .normal, TKg len cap ((0 : Nat) : Int) z ((2 + 1 : Nat) : Int), MG s 2 0 z.toNat) := by kernel_rfl
theorem rZ_2_0_2 (s : Asks) (len cap : Nat) (z : Int) : runTo (E16 true true true) 1000 ((E16 true true true).S 16) (bodyOf Try.prog 16 11) (TKg len cap ((0 : Nat) : Int) z ((2 : Nat) : Int)) (MG s 2 0 z.toNat) [true, false, false, false] (TKg len cap ((0 : Nat) : Int) z ((2 + 1 : Nat) : Int)) 4 =
    some (obTT len 0 z (redN (s.a 0) z.toNat) (s.b 0) [redN (s.a 0) z.toNat < 4294967296 ^ 8] ((!isZ (redN (s.a 0) z.toNat)) = false) true (tailZ z (redN (s.a 0) z.toNat) (s.b 0)), .normal, TKg len cap ((0 : Nat) : Int) z ((2 + 1 : Nat) : Int), MG s 2 0 z.toNat) := by kernel_rfl
theorem rV_2_0_0 (s : Asks) (len cap : Nat) (z : Int) : runTo (E16 false false true) 1000 ((E16 false false true).S 16) (bodyOf Try.prog 16 11) (TKb len cap ((0 : Nat) : Int) z ((0 : Nat) : Int)) (MBd s 2 0) [false, false] (TKb len cap ((0 : Nat) : Int) z ((0 + 1 : Nat) : Int)) 2 =
    some (obV len 0 z (s.a 0) (s.b 0) [s.a 0 < 4294967296 ^ 8], .normal, TKb len cap ((0 : Nat) : Int) z ((0 + 1 : Nat) : Int), MBd s 2 0) := by kernel_rfl
theorem rV_2_0_1 (s : Asks) (len cap : Nat) (z : Int) : runTo (E16 false false true) 1000 ((E16 false false true).S 16) (bodyOf Try.prog 16 11) (TKb len cap ((0 : Nat) : Int) z ((1 : Nat) : Int)) (MBd s 2 0) [false, false] (TKb len cap ((0 : Nat) : Int) z ((1 + 1 : Nat) : Int)) 2 =
    some (obV len 0 z aZ (s.b 0) (lt8 zF), .normal, TKb len cap ((0 : Nat) : Int) z ((1 + 1 : Nat) : Int), MBd s 2 0) := by kernel_rfl
theorem rX_2_0 (s : Asks) (len cap : Nat) (z : Int) : runTo E0 1000 (E0.S 16) (bodyOf Try.prog 16 11) (TKg len cap ((0 : Nat) : Int) z ((3 : Nat) : Int)) (MG s 2 0 z.toNat) [] (TI16 len cap ((0 : Nat) : Int) z) 4 =
    some ([], .exit 4, TI16 len cap ((0 : Nat) : Int) z, MG s 2 0 z.toNat) := by kernel_rfl
theorem rY_2_0 (s : Asks) (len cap : Nat) (z : Int) : runTo E0 1000 (E0.S 16) (bodyOf Try.prog 16 11) (TKb len cap ((0 : Nat) : Int) z ((2 : Nat) : Int)) (MBd s 2 0) [] (TI16 len cap ((0 : Nat) : Int) z) 2 =
    some ([], .exit 4, TI16 len cap ((0 : Nat) : Int) z, MBd s 2 0) := by kernel_rfl
theorem stepG_2_0 (s : Asks) (len cap : Nat) (z : Int) (hz : modB z = true) (hl : 0 < len) (hs : s.ok 2) (k : Nat) (hk : k < 3) : Goes Try.prog (bodyOf Try.prog 16 11) .normal (TKg len cap ((0 : Nat) : Int) z (k : Int)) (MG s 2 0 z.toNat) (TKg len cap ((0 : Nat) : Int) z ((k + 1 : Nat) : Int)) (MG s 2 0 z.toNat) := by
  have hI : iy len 0 := by unfold iy; omega
  obtain ⟨ha, hb⟩ := hs 0 (by omega)
  have hwf := wfTKg s 2 0 z.toNat len cap ((0 : Nat) : Int) z ((k + 1 : Nat) : Int)
  have h3 : k = 0 ∨ k = 1 ∨ k = 2 := by omega
  rcases h3 with rfl | rfl | rfl
  · have hL : All [s.a 0 < 4294967296 ^ 8] := ⟨ha, trivial⟩
    cases hla : lessB z (s.a 0) with
    | false => exact Runs.goes (envE16 true false true) ⟨_, _, rU_2_0_0 s len cap z, obU_ok hI hz hla hL hb, hwf⟩
    | true =>
      cases h0 : decide (s.a 0 = 0) with
      | true => exact Runs.goes (envE16 true true true) ⟨_, _, rZ_2_0_0 s len cap z, obTT_ok hI hz hla hL hb h0 (by rw [isZ_eq ha, h0]; rfl) tailZ_ok, hwf⟩
      | false => exact Runs.goes (envE16 true true false) ⟨_, _, rN_2_0_0 s len cap z, obTT_ok hI hz hla hL hb h0 (by rw [isZ_eq ha, h0]; rfl) (tailN_ok hz hla hL), hwf⟩
  · have hla : lessB z aZ = true := by rw [aZ_eq]; exact decide_eq_true (modN_pos _)
    exact Runs.goes (envE16 true true true) ⟨_, _, rZ_2_0_1 s len cap z, obTT_ok hI hz hla lzF hb (by rw [aZ_eq]; rfl) rfl tailZ_ok, hwf⟩
  · have hlt : redN (s.a 0) z.toNat < modN z.toNat := Nat.mod_lt _ (modN_pos _)
    have hla : lessB z (redN (s.a 0) z.toNat) = true := decide_eq_true hlt
    have hr : redN (s.a 0) z.toNat < 4294967296 ^ 8 := Nat.lt_trans hlt (modN_lt _)
    have hL : All [redN (s.a 0) z.toNat < 4294967296 ^ 8] := ⟨hr, trivial⟩
    cases h0 : decide (redN (s.a 0) z.toNat = 0) with
    | true => exact Runs.goes (envE16 true true true) ⟨_, _, rZ_2_0_2 s len cap z, obTT_ok hI hz hla hL hb h0 (by rw [isZ_eq hr, h0]; rfl) tailZ_ok, hwf⟩
    | false => exact Runs.goes (envE16 true true false) ⟨_, _, rN_2_0_2 s len cap z, obTT_ok hI hz hla hL hb h0 (by rw [isZ_eq hr, h0]; rfl) (tailN_ok hz hla hL), hwf⟩
theorem stepB_2_0 (s : Asks) (len cap : Nat) (z : Int) (hz : modB z = false) (hl : 0 < len) (hs : s.ok 2) (k : Nat) (hk : k < 2) : Goes Try.prog (bodyOf Try.prog 16 11) .normal (TKb len cap ((0 : Nat) : Int) z (k : Int)) (MBd s 2 0) (TKb len cap ((0 : Nat) : Int) z ((k + 1 : Nat) : Int)) (MBd s 2 0) := by
  have hI : iy len 0 := by unfold iy; omega
  obtain ⟨ha, hb⟩ := hs 0 (by omega)
  have hwf := wfTKb s 2 0 len cap ((0 : Nat) : Int) z ((k + 1 : Nat) : Int)
  have h3 : k = 0 ∨ k = 1 := by omega
  rcases h3 with rfl | rfl
  · have hL : All [s.a 0 < 4294967296 ^ 8] := ⟨ha, trivial⟩
    exact Runs.goes (envE16 false false true) ⟨_, _, rV_2_0_0 s len cap z, obV_ok hI hz hL hb, hwf⟩
  · exact Runs.goes (envE16 false false true) ⟨_, _, rV_2_0_1 s len cap z, obV_ok hI hz lzF hb, hwf⟩
theorem loopG_2_0 (s : Asks) (len cap : Nat) (z : Int) (hz : modB z = true) (hl : 0 < len) (hs : s.ok 2) : Goes Try.prog (.loop (bodyOf Try.prog 16 11)) (.exit 4) (TKg len cap ((0 : Nat) : Int) z ((0 : Nat) : Int)) (MG s 2 0 z.toNat) (TI16 len cap ((0 : Nat) : Int) z) (MG s 2 0 z.toNat) :=
  loop_goes (N := 3) (k := 4) (T := fun k => TKg len cap ((0 : Nat) : Int) z (k : Int)) (M := fun _ => MG s 2 0 z.toNat) (by simp) (fun _ _ => rfl) (fun k hk => stepG_2_0 s len cap z hz hl hs k hk) (Runs.goes envE0 ⟨[], _, rX_2_0 s len cap z, trivial, wfTI4 _ _ _ _ _ _ _ _⟩)
theorem loopB_2_0 (s : Asks) (len cap : Nat) (z : Int) (hz : modB z = false) (hl : 0 < len) (hs : s.ok 2) : Goes Try.prog (.loop (bodyOf Try.prog 16 11)) (.exit 4) (TKb len cap ((0 : Nat) : Int) z ((0 : Nat) : Int)) (MBd s 2 0) (TI16 len cap ((0 : Nat) : Int) z) (MBd s 2 0) :=
  loop_goes (N := 2) (k := 2) (T := fun k => TKb len cap ((0 : Nat) : Int) z (k : Int)) (M := fun _ => MBd s 2 0) (by simp) (fun _ _ => rfl) (fun k hk => stepB_2_0 s len cap z hz hl hs k hk) (Runs.goes envE0 ⟨[], _, rY_2_0 s len cap z, trivial, wfTI2 _ _ _ _ _ _ _⟩)
theorem rN_2_1_0 (s : Asks) (len cap : Nat) (z : Int) : runTo (E16 true true false) 1000 ((E16 true true false).S 16) (bodyOf Try.prog 16 11) (TKg len cap ((1 : Nat) : Int) z ((0 : Nat) : Int)) (MG s 2 1 z.toNat) [true, true, false, false] (TKg len cap ((1 : Nat) : Int) z ((0 + 1 : Nat) : Int)) 4 =
    some (obTT len 1 z (s.a 1) (s.b 1) [s.a 1 < 4294967296 ^ 8] ((!isZ (s.a 1)) = true) false (tailN z (s.a 1) (s.b 1) [s.a 1 < 4294967296 ^ 8]), .normal, TKg len cap ((1 : Nat) : Int) z ((0 + 1 : Nat) : Int), MG s 2 1 z.toNat) := by kernel_rfl
theorem rZ_2_1_0 (s : Asks) (len cap : Nat) (z : Int) : runTo (E16 true true true) 1000 ((E16 true true true).S 16) (bodyOf Try.prog 16 11) (TKg len cap ((1 : Nat) : Int) z ((0 : Nat) : Int)) (MG s 2 1 z.toNat) [true, false, false, false] (TKg len cap ((1 : Nat) : Int) z ((0 + 1 : Nat) : Int)) 4 =
    some (obTT len 1 z (s.a 1) (s.b 1) [s.a 1 < 4294967296 ^ 8] ((!isZ (s.a 1)) = false) true (tailZ z (s.a 1) (s.b 1)), .normal, TKg len cap ((1 : Nat) : Int) z ((0 + 1 : Nat) : Int), MG s 2 1 z.toNat) := by kernel_rfl
theorem rU_2_1_0 (s : Asks) (len cap : Nat) (z : Int) : runTo (E16 true false true) 1000 ((E16 true false true).S 16) (bodyOf Try.prog 16 11) (TKg len cap ((1 : Nat) : Int) z ((0 : Nat) : Int)) (MG s 2 1 z.toNat) [false, false, false] (TKg len cap ((1 : Nat) : Int) z ((0 + 1 : Nat) : Int)) 4 =
    some (obU len 1 z (s.a 1) (s.b 1) [s.a 1 < 4294967296 ^ 8], .normal, TKg len cap ((1 : Nat) : Int) z ((0 + 1 : Nat) : Int), MG s 2 1 z.toNat) := by kernel_rfl
theorem rZ_2_1_1 (s : Asks) (len cap : Nat) (z : Int) : runTo (E16 true true true) 1000 ((E16 true true true).S 16) (bodyOf Try.prog 16 11) (TKg len cap ((1 : Nat) : Int) z ((1 : Nat) : Int)) (MG s 2 1 z.toNat) [true, false, false, false] (TKg len cap ((1 : Nat) : Int) z ((1 + 1 : Nat) : Int)) 4 =
    some (obTT len 1 z aZ (s.b 1) (lt8 zF) zCC true (tailZ z aZ (s.b 1)), .normal, TKg len cap ((1 : Nat) : Int) z ((1 + 1 : Nat) : Int), MG s 2 1 z.toNat) := by kernel_rfl
theorem rN_2_1_2 (s : Asks) (len cap : Nat) (z : Int) : runTo (E16 true true false) 1000 ((E16 true true false).S 16) (bodyOf Try.prog 16 11) (TKg len cap ((1 : Nat) : Int) z ((2 : Nat) : Int)) (MG s 2 1 z.toNat) [true, true, false, false] (TKg len cap ((1 : Nat) : Int) z ((2 + 1 : Nat) : Int)) 4 =
    some (obTT len 1 z (redN (s.a 1) z.toNat) (s.b 1) [redN (s.a 1) z.toNat < 4294967296 ^ 8] ((!isZ (redN (s.a 1) z.toNat)) = true) false (tailN z (redN (s.a 1) z.toNat) (s.b 1) [redN (s.a 1) z.toNat < 4294967296 ^ 8]), .normal, TKg len cap ((1 : Nat) : Int) z ((2 + 1 : Nat) : Int), MG s 2 1 z.toNat) := by kernel_rfl
theorem rZ_2_1_2 (s : Asks) (len cap : Nat) (z : Int) : runTo (E16 true true true) 1000 ((E16 true true true).S 16) (bodyOf Try.prog 16 11) (TKg len cap ((1 : Nat) : Int) z ((2 : Nat) : Int)) (MG s 2 1 z.toNat) [true, false, false, false] (TKg len cap ((1 : Nat) : Int) z ((2 + 1 : Nat) : Int)) 4 =
    some (obTT len 1 z (redN (s.a 1) z.toNat) (s.b 1) [redN (s.a 1) z.toNat < 4294967296 ^ 8] ((!isZ (redN (s.a 1) z.toNat)) = false) true (tailZ z (redN (s.a 1) z.toNat) (s.b 1)), .normal, TKg len cap ((1 : Nat) : Int) z ((2 + 1 : Nat) : Int), MG s 2 1 z.toNat) := by kernel_rfl
theorem rV_2_1_0 (s : Asks) (len cap : Nat) (z : Int) : runTo (E16 false false true) 1000 ((E16 false false true).S 16) (bodyOf Try.prog 16 11) (TKb len cap ((1 : Nat) : Int) z ((0 : Nat) : Int)) (MBd s 2 1) [false, false] (TKb len cap ((1 : Nat) : Int) z ((0 + 1 : Nat) : Int)) 2 =
    some (obV len 1 z (s.a 1) (s.b 1) [s.a 1 < 4294967296 ^ 8], .normal, TKb len cap ((1 : Nat) : Int) z ((0 + 1 : Nat) : Int), MBd s 2 1) := by kernel_rfl
theorem rV_2_1_1 (s : Asks) (len cap : Nat) (z : Int) : runTo (E16 false false true) 1000 ((E16 false false true).S 16) (bodyOf Try.prog 16 11) (TKb len cap ((1 : Nat) : Int) z ((1 : Nat) : Int)) (MBd s 2 1) [false, false] (TKb len cap ((1 : Nat) : Int) z ((1 + 1 : Nat) : Int)) 2 =
    some (obV len 1 z aZ (s.b 1) (lt8 zF), .normal, TKb len cap ((1 : Nat) : Int) z ((1 + 1 : Nat) : Int), MBd s 2 1) := by kernel_rfl
theorem rX_2_1 (s : Asks) (len cap : Nat) (z : Int) : runTo E0 1000 (E0.S 16) (bodyOf Try.prog 16 11) (TKg len cap ((1 : Nat) : Int) z ((3 : Nat) : Int)) (MG s 2 1 z.toNat) [] (TI16 len cap ((1 : Nat) : Int) z) 4 =
    some ([], .exit 4, TI16 len cap ((1 : Nat) : Int) z, MG s 2 1 z.toNat) := by kernel_rfl
theorem rY_2_1 (s : Asks) (len cap : Nat) (z : Int) : runTo E0 1000 (E0.S 16) (bodyOf Try.prog 16 11) (TKb len cap ((1 : Nat) : Int) z ((2 : Nat) : Int)) (MBd s 2 1) [] (TI16 len cap ((1 : Nat) : Int) z) 2 =
    some ([], .exit 4, TI16 len cap ((1 : Nat) : Int) z, MBd s 2 1) := by kernel_rfl
theorem stepG_2_1 (s : Asks) (len cap : Nat) (z : Int) (hz : modB z = true) (hl : 1 < len) (hs : s.ok 2) (k : Nat) (hk : k < 3) : Goes Try.prog (bodyOf Try.prog 16 11) .normal (TKg len cap ((1 : Nat) : Int) z (k : Int)) (MG s 2 1 z.toNat) (TKg len cap ((1 : Nat) : Int) z ((k + 1 : Nat) : Int)) (MG s 2 1 z.toNat) := by
  have hI : iy len 1 := by unfold iy; omega
  obtain ⟨ha, hb⟩ := hs 1 (by omega)
  have hwf := wfTKg s 2 1 z.toNat len cap ((1 : Nat) : Int) z ((k + 1 : Nat) : Int)
  have h3 : k = 0 ∨ k = 1 ∨ k = 2 := by omega
  rcases h3 with rfl | rfl | rfl
  · have hL : All [s.a 1 < 4294967296 ^ 8] := ⟨ha, trivial⟩
    cases hla : lessB z (s.a 1) with
    | false => exact Runs.goes (envE16 true false true) ⟨_, _, rU_2_1_0 s len cap z, obU_ok hI hz hla hL hb, hwf⟩
    | true =>
      cases h0 : decide (s.a 1 = 0) with
      | true => exact Runs.goes (envE16 true true true) ⟨_, _, rZ_2_1_0 s len cap z, obTT_ok hI hz hla hL hb h0 (by rw [isZ_eq ha, h0]; rfl) tailZ_ok, hwf⟩
      | false => exact Runs.goes (envE16 true true false) ⟨_, _, rN_2_1_0 s len cap z, obTT_ok hI hz hla hL hb h0 (by rw [isZ_eq ha, h0]; rfl) (tailN_ok hz hla hL), hwf⟩
  · have hla : lessB z aZ = true := by rw [aZ_eq]; exact decide_eq_true (modN_pos _)
    exact Runs.goes (envE16 true true true) ⟨_, _, rZ_2_1_1 s len cap z, obTT_ok hI hz hla lzF hb (by rw [aZ_eq]; rfl) rfl tailZ_ok, hwf⟩
  · have hlt : redN (s.a 1) z.toNat < modN z.toNat := Nat.mod_lt _ (modN_pos _)
    have hla : lessB z (redN (s.a 1) z.toNat) = true := decide_eq_true hlt
    have hr : redN (s.a 1) z.toNat < 4294967296 ^ 8 := Nat.lt_trans hlt (modN_lt _)
    have hL : All [redN (s.a 1) z.toNat < 4294967296 ^ 8] := ⟨hr, trivial⟩
    cases h0 : decide (redN (s.a 1) z.toNat = 0) with
    | true => exact Runs.goes (envE16 true true true) ⟨_, _, rZ_2_1_2 s len cap z, obTT_ok hI hz hla hL hb h0 (by rw [isZ_eq hr, h0]; rfl) tailZ_ok, hwf⟩
    | false => exact Runs.goes (envE16 true true false) ⟨_, _, rN_2_1_2 s len cap z, obTT_ok hI hz hla hL hb h0 (by rw [isZ_eq hr, h0]; rfl) (tailN_ok hz hla hL), hwf⟩
theorem stepB_2_1 (s : Asks) (len cap : Nat) (z : Int) (hz : modB z = false) (hl : 1 < len) (hs : s.ok 2) (k : Nat) (hk : k < 2) : Goes Try.prog (bodyOf Try.prog 16 11) .normal (TKb len cap ((1 : Nat) : Int) z (k : Int)) (MBd s 2 1) (TKb len cap ((1 : Nat) : Int) z ((k + 1 : Nat) : Int)) (MBd s 2 1) := by
  have hI : iy len 1 := by unfold iy; omega
  obtain ⟨ha, hb⟩ := hs 1 (by omega)
  have hwf := wfTKb s 2 1 len cap ((1 : Nat) : Int) z ((k + 1 : Nat) : Int)
  have h3 : k = 0 ∨ k = 1 := by omega
  rcases h3 with rfl | rfl
  · have hL : All [s.a 1 < 4294967296 ^ 8] := ⟨ha, trivial⟩
    exact Runs.goes (envE16 false false true) ⟨_, _, rV_2_1_0 s len cap z, obV_ok hI hz hL hb, hwf⟩
  · exact Runs.goes (envE16 false false true) ⟨_, _, rV_2_1_1 s len cap z, obV_ok hI hz lzF hb, hwf⟩
theorem loopG_2_1 (s : Asks) (len cap : Nat) (z : Int) (hz : modB z = true) (hl : 1 < len) (hs : s.ok 2) : Goes Try.prog (.loop (bodyOf Try.prog 16 11)) (.exit 4) (TKg len cap ((1 : Nat) : Int) z ((0 : Nat) : Int)) (MG s 2 1 z.toNat) (TI16 len cap ((1 : Nat) : Int) z) (MG s 2 1 z.toNat) :=
  loop_goes (N := 3) (k := 4) (T := fun k => TKg len cap ((1 : Nat) : Int) z (k : Int)) (M := fun _ => MG s 2 1 z.toNat) (by simp) (fun _ _ => rfl) (fun k hk => stepG_2_1 s len cap z hz hl hs k hk) (Runs.goes envE0 ⟨[], _, rX_2_1 s len cap z, trivial, wfTI4 _ _ _ _ _ _ _ _⟩)
theorem loopB_2_1 (s : Asks) (len cap : Nat) (z : Int) (hz : modB z = false) (hl : 1 < len) (hs : s.ok 2) : Goes Try.prog (.loop (bodyOf Try.prog 16 11)) (.exit 4) (TKb len cap ((1 : Nat) : Int) z ((0 : Nat) : Int)) (MBd s 2 1) (TI16 len cap ((1 : Nat) : Int) z) (MBd s 2 1) :=
  loop_goes (N := 2) (k := 2) (T := fun k => TKb len cap ((1 : Nat) : Int) z (k : Int)) (M := fun _ => MBd s 2 1) (by simp) (fun _ _ => rfl) (fun k hk => stepB_2_1 s len cap z hz hl hs k hk) (Runs.goes envE0 ⟨[], _, rY_2_1 s len cap z, trivial, wfTI2 _ _ _ _ _ _ _⟩)
end Go.Ev
namespace Go.Ev
open Go Go.Proofs Go.RowKit

noncomputable def E16g (s : Asks) (m len cap i : Nat) (z : Int) : Env := { E16 true true true with lp := fun j => match Nat.beq j 11 with
    | true => some (bodyOf Try.prog 16 11, sumC (TKg len cap (i : Int) z ((0 : Nat) : Int)) (MG s m i z.toNat) (TI16 len cap (i : Int) z) (MG s m i z.toNat) (.exit 4))
    | false => none }
noncomputable def E16b (s : Asks) (m len cap i : Nat) (z : Int) : Env := { E16 false true true with lp := fun j => match Nat.beq j 11 with
    | true => some (bodyOf Try.prog 16 11, sumC (TKb len cap (i : Int) z ((0 : Nat) : Int)) (MBd s m i) (TI16 len cap (i : Int) z) (MBd s m i) (.exit 4))
    | false => none }
def oMG (s : Asks) (m len cap i : Nat) (z : Int) : List Prop := [decide (z ≤ 4) = true, iy len i, modB z = true, iy len i, 0 ≤ z ∧ z < 4, s.a i < 4294967296 ^ 8, bodyOf Try.prog 16 11 = bodyOf Try.prog 16 11,
  (TKg len cap (i : Int) z ((0 : Nat) : Int), MG s m i z.toNat) = (TKg len cap (i : Int) z ((0 : Nat) : Int), MG s m i z.toNat), wfS (TKg len cap (i : Int) z ((0 : Nat) : Int)) (MG s m i z.toNat) = true, inI (z + 1)]
def oMB (s : Asks) (m len cap i : Nat) (z : Int) : List Prop := [decide (z ≤ 4) = true, iy len i, modB z = false, bodyOf Try.prog 16 11 = bodyOf Try.prog 16 11,
  (TKb len cap (i : Int) z ((0 : Nat) : Int), MBd s m i) = (TKb len cap (i : Int) z ((0 : Nat) : Int), MBd s m i), wfS (TKb len cap (i : Int) z ((0 : Nat) : Int)) (MBd s m i) = true, inI (z + 1)]
theorem r16x (B : Blk) (len cap : Nat) (i : Int) : runTo (E16 true true true) 1000 ((E16 true true true).S 16) (bodyOf Try.prog 16 5) (TI16 len cap i 5) [B] [false] (TO16 len cap i) 1 =
    some ([decide ((5 : Int) ≤ 4) = false], .exit 2, TO16 len cap i, [B]) := by kernel_rfl

theorem rG_1_0 (s : Asks) (len cap : Nat) (z : Int) : runTo (E16g s 1 len cap 0 z) 1000 ((E16 true true true).S 16) (bodyOf Try.prog 16 5) (TI16 len cap ((0 : Nat) : Int) z) [askB s 1] [true] (TI16 len cap ((0 : Nat) : Int) (z + 1)) 1 =
    some (oMG s 1 len cap 0 z, .normal, TI16 len cap ((0 : Nat) : Int) (z + 1), [askB s 1]) := by kernel_rfl
theorem rB_1_0 (s : Asks) (len cap : Nat) (z : Int) : runTo (E16b s 1 len cap 0 z) 1000 ((E16 false true true).S 16) (bodyOf Try.prog 16 5) (TI16 len cap ((0 : Nat) : Int) z) [askB s 1] [true] (TI16 len cap ((0 : Nat) : Int) (z + 1)) 1 =
    some (oMB s 1 len cap 0 z, .normal, TI16 len cap ((0 : Nat) : Int) (z + 1), [askB s 1]) := by kernel_rfl
theorem stepZ_1_0 (s : Asks) (len cap : Nat) (hl : 0 < len) (hs : s.ok 1) (z : Int) (hz1 : -1 ≤ z) (hz2 : z ≤ 4) : Goes Try.prog (bodyOf Try.prog 16 5) .normal (TI16 len cap ((0 : Nat) : Int) z) [askB s 1] (TI16 len cap ((0 : Nat) : Int) (z + 1)) [askB s 1] := by
  have hI : iy len 0 := by unfold iy; omega
  have hwf := wfTI1 s 1 len cap ((0 : Nat) : Int) (z + 1)
  obtain ⟨ha, _⟩ := hs 0 (by omega)
  cases hz : modB z with
  | true =>
    have hE : EnvOK (E16g s 1 len cap 0 z) := envEL1 (envE16 true true true) (sumC_ok (by simp only [MG, List.length_cons]) (loopG_1_0 s len cap z hz hl hs))
    exact Runs.goes hE ⟨[true], _, rG_1_0 s len cap z, ⟨decide_eq_true hz2, hI, hz, hI, modB_t hz, ha, rfl, rfl, wfTKg _ _ _ _ _ _ _ _ _, by unfold inI; omega, trivial⟩, hwf⟩
  | false =>
    have hE : EnvOK (E16b s 1 len cap 0 z) := envEL1 (envE16 false true true) (sumC_ok (by simp only [MBd, List.length_cons]) (loopB_1_0 s len cap z hz hl hs))
    exact Runs.goes hE ⟨[true], _, rB_1_0 s len cap z, ⟨decide_eq_true hz2, hI, hz, rfl, rfl, wfTKb _ _ _ _ _ _ _ _, by unfold inI; omega, trivial⟩, hwf⟩
theorem loopZ_1_0 (s : Asks) (len cap : Nat) (hl : 0 < len) (hs : s.ok 1) : Goes Try.prog (.loop (bodyOf Try.prog 16 5)) (.exit 2) (TI16 len cap ((0 : Nat) : Int) (-1)) [askB s 1] (TO16 len cap ((0 : Nat) : Int)) [askB s 1] := by
  have := loop_goes (P := Try.prog) (y := bodyOf Try.prog 16 5) (ex := .exit 2) (N := 6) (k := 1) (T := fun k => TI16 len cap ((0 : Nat) : Int) ((k : Int) - 1)) (M := fun _ => [askB s 1]) (TF := TO16 len cap ((0 : Nat) : Int)) (MF := [askB s 1]) (by simp) (fun _ _ => rfl)
    (fun k hk => by
      have := stepZ_1_0 s len cap hl hs ((k : Int) - 1) (by omega) (by omega)
      rwa [show (k : Int) - 1 + 1 = ((k + 1 : Nat) : Int) - 1 by omega] at this)
    (by
      show Goes Try.prog (bodyOf Try.prog 16 5) (.exit 2) (TI16 len cap ((0 : Nat) : Int) 5) [askB s 1] (TO16 len cap ((0 : Nat) : Int)) [askB s 1]
      exact Runs.goes (envE16 true true true) ⟨[false], _, r16x (askB s 1) len cap ((0 : Nat) : Int), ⟨by decide, trivial⟩, wfTO1 _ _ _ _ _⟩)
  exact this
noncomputable def E16o_1_0 (s : Asks) (len cap : Nat) : Env := { E16 true true true with lp := fun j => match Nat.beq j 5 with
    | true => some (bodyOf Try.prog 16 5, sumC (TI16 len cap ((0 : Nat) : Int) (-1)) [askB s 1] (TO16 len cap ((0 : Nat) : Int)) [askB s 1] (.exit 2))
    | false => none }
theorem rO_1_0 (s : Asks) (len cap : Nat) : runTo (E16o_1_0 s len cap) 1000 ((E16 true true true).S 16) (bodyOf Try.prog 16 2) (TO16 len cap ((0 : Nat) : Int)) [askB s 1] [true] (TO16 len cap ((0 + 1 : Nat) : Int)) 1 =
    some ([decide (((0 : Nat) : Int) < (len : Int)) = true, bodyOf Try.prog 16 5 = bodyOf Try.prog 16 5, (TI16 len cap ((0 : Nat) : Int) (-1), [askB s 1]) = (TI16 len cap ((0 : Nat) : Int) (-1), [askB s 1]), wfS (TI16 len cap ((0 : Nat) : Int) (-1)) [askB s 1] = true, inI (((0 : Nat) : Int) + 1)], .normal, TO16 len cap ((0 + 1 : Nat) : Int), [askB s 1]) := by kernel_rfl
theorem stepO_1_0 (s : Asks) (len cap : Nat) (hl : 0 < len) (hs : s.ok 1) : Goes Try.prog (bodyOf Try.prog 16 2) .normal (TO16 len cap ((0 : Nat) : Int)) [askB s 1] (TO16 len cap ((0 + 1 : Nat) : Int)) [askB s 1] := by
  have hE : EnvOK (E16o_1_0 s len cap) := envEL1 (envE16 true true true) (sumC_ok (by simp only [List.length_cons]) (loopZ_1_0 s len cap hl hs))
  exact Runs.goes hE ⟨[true], _, rO_1_0 s len cap, ⟨decide_eq_true (by omega), rfl, rfl, wfTI1 _ _ _ _ _ _, by unfold inI; omega, trivial⟩, wfTO1 _ _ _ _ _⟩
theorem rG_2_0 (s : Asks) (len cap : Nat) (z : Int) : runTo (E16g s 2 len cap 0 z) 1000 ((E16 true true true).S 16) (bodyOf Try.prog 16 5) (TI16 len cap ((0 : Nat) : Int) z) [askB s 2] [true] (TI16 len cap ((0 : Nat) : Int) (z + 1)) 1 =
    some (oMG s 2 len cap 0 z, .normal, TI16 len cap ((0 : Nat) : Int) (z + 1), [askB s 2]) := by kernel_rfl
theorem rB_2_0 (s : Asks) (len cap : Nat) (z : Int) : runTo (E16b s 2 len cap 0 z) 1000 ((E16 false true true).S 16) (bodyOf Try.prog 16 5) (TI16 len cap ((0 : Nat) : Int) z) [askB s 2] [true] (TI16 len cap ((0 : Nat) : Int) (z + 1)) 1 =
    some (oMB s 2 len cap 0 z, .normal, TI16 len cap ((0 : Nat) : Int) (z + 1), [askB s 2]) := by kernel_rfl
theorem stepZ_2_0 (s : Asks) (len cap : Nat) (hl : 0 < len) (hs : s.ok 2) (z : Int) (hz1 : -1 ≤ z) (hz2 : z ≤ 4) : Goes Try.prog (bodyOf Try.prog 16 5) .normal (TI16 len cap ((0 : Nat) : Int) z) [askB s 2] (TI16 len cap ((0 : Nat) : Int) (z + 1)) [askB s 2] := by
  have hI : iy len 0 := by unfold iy; omega
  have hwf := wfTI1 s 2 len cap ((0 : Nat) : Int) (z + 1)
  obtain ⟨ha, _⟩ := hs 0 (by omega)
  cases hz : modB z with
  | true =>
    have hE : EnvOK (E16g s 2 len cap 0 z) := envEL1 (envE16 true true true) (sumC_ok (by simp only [MG, List.length_cons]) (loopG_2_0 s len cap z hz hl hs))
    exact Runs.goes hE ⟨[true], _, rG_2_0 s len cap z, ⟨decide_eq_true hz2, hI, hz, hI, modB_t hz, ha, rfl, rfl, wfTKg _ _ _ _ _ _ _ _ _, by unfold inI; omega, trivial⟩, hwf⟩
  | false =>
    have hE : EnvOK (E16b s 2 len cap 0 z) := envEL1 (envE16 false true true) (sumC_ok (by simp only [MBd, List.length_cons]) (loopB_2_0 s len cap z hz hl hs))
    exact Runs.goes hE ⟨[true], _, rB_2_0 s len cap z, ⟨decide_eq_true hz2, hI, hz, rfl, rfl, wfTKb _ _ _ _ _ _ _ _, by unfold inI; omega, trivial⟩, hwf⟩
theorem loopZ_2_0 (s : Asks) (len cap : Nat) (hl : 0 < len) (hs : s.ok 2) : Goes Try.prog (.loop (bodyOf Try.prog 16 5)) (.exit 2) (TI16 len cap ((0 : Nat) : Int) (-1)) [askB s 2] (TO16 len cap ((0 : Nat) : Int)) [askB s 2] := by
  have := loop_goes (P := Try.prog) (y := bodyOf Try.prog 16 5) (ex := .exit 2) (N := 6) (k := 1) (T := fun k => TI16 len cap ((0 : Nat) : Int) ((k : Int) - 1)) (M := fun _ => [askB s 2]) (TF := TO16 len cap ((0 : Nat) : Int)) (MF := [askB s 2]) (by simp) (fun _ _ => rfl)
    (fun k hk => by
      have := stepZ_2_0 s len cap hl hs ((k : Int) - 1) (by omega) (by omega)
      rwa [show (k : Int) - 1 + 1 = ((k + 1 : Nat) : Int) - 1 by omega] at this)
    (by
      show Goes Try.prog (bodyOf Try.prog 16 5) (.exit 2) (TI16 len cap ((0 : Nat) : Int) 5) [askB s 2] (TO16 len cap ((0 : Nat) : Int)) [askB s 2]
      exact Runs.goes (envE16 true true true) ⟨[false], _, r16x (askB s 2) len cap ((0 : Nat) : Int), ⟨by decide, trivial⟩, wfTO1 _ _ _ _ _⟩)
  exact this
noncomputable def E16o_2_0 (s : Asks) (len cap : Nat) : Env := { E16 true true true with lp := fun j => match Nat.beq j 5 with
    | true => some (bodyOf Try.prog 16 5, sumC (TI16 len cap ((0 : Nat) : Int) (-1)) [askB s 2] (TO16 len cap ((0 : Nat) : Int)) [askB s 2] (.exit 2))
    | false => none }
theorem rO_2_0 (s : Asks) (len cap : Nat) : runTo (E16o_2_0 s len cap) 1000 ((E16 true true true).S 16) (bodyOf Try.prog 16 2) (TO16 len cap ((0 : Nat) : Int)) [askB s 2] [true] (TO16 len cap ((0 + 1 : Nat) : Int)) 1 =
    some ([decide (((0 : Nat) : Int) < (len : Int)) = true, bodyOf Try.prog 16 5 = bodyOf Try.prog 16 5, (TI16 len cap ((0 : Nat) : Int) (-1), [askB s 2]) = (TI16 len cap ((0 : Nat) : Int) (-1), [askB s 2]), wfS (TI16 len cap ((0 : Nat) : Int) (-1)) [askB s 2] = true, inI (((0 : Nat) : Int) + 1)], .normal, TO16 len cap ((0 + 1 : Nat) : Int), [askB s 2]) := by kernel_rfl
theorem stepO_2_0 (s : Asks) (len cap : Nat) (hl : 0 < len) (hs : s.ok 2) : Goes Try.prog (bodyOf Try.prog 16 2) .normal (TO16 len cap ((0 : Nat) : Int)) [askB s 2] (TO16 len cap ((0 + 1 : Nat) : Int)) [askB s 2] := by
  have hE : EnvOK (E16o_2_0 s len cap) := envEL1 (envE16 true true true) (sumC_ok (by simp only [List.length_cons]) (loopZ_2_0 s len cap hl hs))
  exact Runs.goes hE ⟨[true], _, rO_2_0 s len cap, ⟨decide_eq_true (by omega), rfl, rfl, wfTI1 _ _ _ _ _ _, by unfold inI; omega, trivial⟩, wfTO1 _ _ _ _ _⟩
theorem rG_2_1 (s : Asks) (len cap : Nat) (z : Int) : runTo (E16g s 2 len cap 1 z) 1000 ((E16 true true true).S 16) (bodyOf Try.prog 16 5) (TI16 len cap ((1 : Nat) : Int) z) [askB s 2] [true] (TI16 len cap ((1 : Nat) : Int) (z + 1)) 1 =
    some (oMG s 2 len cap 1 z, .normal, TI16 len cap ((1 : Nat) : Int) (z + 1), [askB s 2]) := by kernel_rfl
theorem rB_2_1 (s : Asks) (len cap : Nat) (z : Int) : runTo (E16b s 2 len cap 1 z) 1000 ((E16 false true true).S 16) (bodyOf Try.prog 16 5) (TI16 len cap ((1 : Nat) : Int) z) [askB s 2] [true] (TI16 len cap ((1 : Nat) : Int) (z + 1)) 1 =
    some (oMB s 2 len cap 1 z, .normal, TI16 len cap ((1 : Nat) : Int) (z + 1), [askB s 2]) := by kernel_rfl
theorem stepZ_2_1 (s : Asks) (len cap : Nat) (hl : 1 < len) (hs : s.ok 2) (z : Int) (hz1 : -1 ≤ z) (hz2 : z ≤ 4) : Goes Try.prog (bodyOf Try.prog 16 5) .normal (TI16 len cap ((1 : Nat) : Int) z) [askB s 2] (TI16 len cap ((1 : Nat) : Int) (z + 1)) [askB s 2] := by
  have hI : iy len 1 := by unfold iy; omega
  have hwf := wfTI1 s 2 len cap ((1 : Nat) : Int) (z + 1)
  obtain ⟨ha, _⟩ := hs 1 (by omega)
  cases hz : modB z with
  | true =>
    have hE : EnvOK (E16g s 2 len cap 1 z) := envEL1 (envE16 true true true) (sumC_ok (by simp only [MG, List.length_cons]) (loopG_2_1 s len cap z hz hl hs))
    exact Runs.goes hE ⟨[true], _, rG_2_1 s len cap z, ⟨decide_eq_true hz2, hI, hz, hI, modB_t hz, ha, rfl, rfl, wfTKg _ _ _ _ _ _ _ _ _, by unfold inI; omega, trivial⟩, hwf⟩
  | false =>
    have hE : EnvOK (E16b s 2 len cap 1 z) := envEL1 (envE16 false true true) (sumC_ok (by simp only [MBd, List.length_cons]) (loopB_2_1 s len cap z hz hl hs))
    exact Runs.goes hE ⟨[true], _, rB_2_1 s len cap z, ⟨decide_eq_true hz2, hI, hz, rfl, rfl, wfTKb _ _ _ _ _ _ _ _, by unfold inI; omega, trivial⟩, hwf⟩
theorem loopZ_2_1 (s : Asks) (len cap : Nat) (hl : 1 < len) (hs : s.ok 2) : Goes Try.prog (.loop (bodyOf Try.prog 16 5)) (.exit 2) (TI16 len cap ((1 : Nat) : Int) (-1)) [askB s 2] (TO16 len cap ((1 : Nat) : Int)) [askB s 2] := by
  have := loop_goes (P := Try.prog) (y := bodyOf Try.prog 16 5) (ex := .exit 2) (N := 6) (k := 1) (T := fun k => TI16 len cap ((1 : Nat) : Int) ((k : Int) - 1)) (M := fun _ => [askB s 2]) (TF := TO16 len cap ((1 : Nat) : Int)) (MF := [askB s 2]) (by simp) (fun _ _ => rfl)
    (fun k hk => by
      have := stepZ_2_1 s len cap hl hs ((k : Int) - 1) (by omega) (by omega)
      rwa [show (k : Int) - 1 + 1 = ((k + 1 : Nat) : Int) - 1 by omega] at this)
    (by
      show Goes Try.prog (bodyOf Try.prog 16 5) (.exit 2) (TI16 len cap ((1 : Nat) : Int) 5) [askB s 2] (TO16 len cap ((1 : Nat) : Int)) [askB s 2]
      exact Runs.goes (envE16 true true true) ⟨[false], _, r16x (askB s 2) len cap ((1 : Nat) : Int), ⟨by decide, trivial⟩, wfTO1 _ _ _ _ _⟩)
  exact this
noncomputable def E16o_2_1 (s : Asks) (len cap : Nat) : Env := { E16 true true true with lp := fun j => match Nat.beq j 5 with
    | true => some (bodyOf Try.prog 16 5, sumC (TI16 len cap ((1 : Nat) : Int) (-1)) [askB s 2] (TO16 len cap ((1 : Nat) : Int)) [askB s 2] (.exit 2))
    | false => none }
theorem rO_2_1 (s : Asks) (len cap : Nat) : runTo (E16o_2_1 s len cap) 1000 ((E16 true true true).S 16) (bodyOf Try.prog 16 2) (TO16 len cap ((1 : Nat) : Int)) [askB s 2] [true] (TO16 len cap ((1 + 1 : Nat) : Int)) 1 =
    some ([decide (((1 : Nat) : Int) < (len : Int)) = true, bodyOf Try.prog 16 5 = bodyOf Try.prog 16 5, (TI16 len cap ((1 : Nat) : Int) (-1), [askB s 2]) = (TI16 len cap ((1 : Nat) : Int) (-1), [askB s 2]), wfS (TI16 len cap ((1 : Nat) : Int) (-1)) [askB s 2] = true, inI (((1 : Nat) : Int) + 1)], .normal, TO16 len cap ((1 + 1 : Nat) : Int), [askB s 2]) := by kernel_rfl
theorem stepO_2_1 (s : Asks) (len cap : Nat) (hl : 1 < len) (hs : s.ok 2) : Goes Try.prog (bodyOf Try.prog 16 2) .normal (TO16 len cap ((1 : Nat) : Int)) [askB s 2] (TO16 len cap ((1 + 1 : Nat) : Int)) [askB s 2] := by
  have hE : EnvOK (E16o_2_1 s len cap) := envEL1 (envE16 true true true) (sumC_ok (by simp only [List.length_cons]) (loopZ_2_1 s len cap hl hs))
  exact Runs.goes hE ⟨[true], _, rO_2_1 s len cap, ⟨decide_eq_true (by omega), rfl, rfl, wfTI1 _ _ _ _ _ _, by unfold inI; omega, trivial⟩, wfTO1 _ _ _ _ _⟩
theorem r16p (B : Blk) (len cap m : Nat) : runTo (E16 true true true) 1000 ((E16 true true true).S 16) (bodyOf Try.prog 16 2) (TO16 len cap (m : Int)) [B] [false] (TO16 len cap (m : Int)) 1 =
    some ([decide ((m : Int) < (len : Int)) = false], .exit 0, TO16 len cap (m : Int), [B]) := by kernel_rfl
theorem r16q (B : Blk) (len cap : Nat) : runTo (E16 true true true) 1000 ((E16 true true true).S 16) (bodyOf Try.prog 16 2) (TO16 len cap ((2 : Nat) : Int)) [B] [true] (TO16 len cap ((2 : Nat) : Int)) 1 =
    some ([decide (((2 : Nat) : Int) < (len : Int)) = true], .exit 0, TO16 len cap ((2 : Nat) : Int), [B]) := by kernel_rfl
theorem loop16 (s : Asks) {m len cap : Nat} (hm : m = min len 2) (hs : s.ok m) : Goes Try.prog (.loop (bodyOf Try.prog 16 2)) (.exit 0) (TO16 len cap ((0 : Nat) : Int)) [askB s m] (TO16 len cap (m : Int)) [askB s m] := by
  refine loop_goes (N := m) (k := 1) (T := fun i => TO16 len cap (i : Int)) (M := fun _ => [askB s m]) (by simp) (fun _ _ => rfl) (fun i hi => ?_) ?_
  · have h3 : (m = 1 ∧ i = 0) ∨ (m = 2 ∧ i = 0) ∨ (m = 2 ∧ i = 1) := by omega
    have hl : i < len := by omega
    clear hm
    rcases h3 with ⟨rfl, rfl⟩ | ⟨rfl, rfl⟩ | ⟨rfl, rfl⟩
    · exact stepO_1_0 s len cap hl hs
    · exact stepO_2_0 s len cap hl hs
    · exact stepO_2_1 s len cap hl hs
  · by_cases h : m < len
    · obtain rfl : m = 2 := by omega
      exact Runs.goes (envE16 true true true) ⟨[true], _, r16q _ len cap, ⟨decide_eq_true (by omega), trivial⟩, wfTO1 _ _ _ _ _⟩
    · exact Runs.goes (envE16 true true true) ⟨[false], _, r16p _ len cap m, ⟨decide_eq_false (by omega), trivial⟩, wfTO1 _ _ _ _ _⟩
noncomputable def E16X (s : Asks) (m len cap : Nat) : Env := { E16 true true true with lp := fun j => match Nat.beq j 2 with | true => some (bodyOf Try.prog 16 2, sumC (TO16 len cap ((0 : Nat) : Int)) [askB s m] (TO16 len cap (m : Int)) [askB s m] (.exit 0)) | false => none }
theorem envE16X (s : Asks) {m len cap : Nat} (hm : m = min len 2) (hs : s.ok m) : EnvOK (E16X s m len cap) := envEL1 (envE16 true true true) (sumC_ok (by simp only [List.length_cons]) (loop16 s hm hs))
theorem run16 (s : Asks) (m len cap : Nat) : callBy (E16X s m len cap) (evalC (E16X s m len cap) 1000) 16 [.one (.sl 0 0 len cap)] [askB s m] [] =
    some ([bodyOf Try.prog 16 2 = bodyOf Try.prog 16 2, (TO16 len cap ((0 : Nat) : Int), [askB s m]) = (TO16 len cap ((0 : Nat) : Int), [askB s m]), wfS (TO16 len cap ((0 : Nat) : Int)) [askB s m] = true], [], .val (.one (.v (.bool true))), [askB s m]) := by kernel_rfl
theorem run16nil : callBy (E16 true true true) (evalC (E16 true true true) 1000) 16 [.one (.v (.slice none 0 0))] [] [false] = some ([decide (((0 : Nat) : Int) < ((0 : Nat) : Int)) = false], [], .val (.one (.v (.bool true))), []) := by kernel_rfl
theorem law16 {H : Type} {enc : TypeId × Value → H} {r : Reach} {W : World} {base : Nat} {v : Value} {d : DataW H} {ps : List MemPlace} (hval : Value.okWide Try.prog W r base 22 v) (h : DataW.Trod enc Try.prog W 0 (fun _ => true) true 22 v d ps) :
    Calls Try.prog 16 #[v] W (Trues W) := by
  refine asks_calls (K := 2) (Q := Trues) (fun w => law_run_nil (E := E16 true true true) (envE16 true true true) run16nil ⟨by decide, trivial⟩ w) ?_ hval h
  intro s m len cap hm _ _ hs w φ hmr
  exact law_run (envE16X s hm hs) (run16 s m len cap) ⟨rfl, rfl, wfTO1 _ _ _ _ _, trivial⟩ hmr
end Go.Ev
namespace Go.Proofs.Ythlcdpdehoknbaa.Laws
open Go Go.Ev Go.RowKit Go.ChangeShapes Go.WideShapes Go.ChangeAt

set_option maxRecDepth 100000 in
theorem lifted16 (os : Os) (started : os.Started) (H : Type) (enc : TypeId × Value → H) :
    ReturnsInHanded {} Try.checked os 16 .any (Rows.fieldPowsSpec.pre6 enc Try.prog Try.f16 Rows.fieldPowsRow.domain false) (Rows.fieldPowsSpec.post enc Try.prog Try.f16 false true false false) := by
  refine returnsInHanded_of_change (C := Try.checked) own started (by kernel_rfl) Try.func16
    (ChangeSpec.witness6 (enc := enc) (C := Try.checked) false ⟨#[], #[.slice none 0 0], []⟩ 8 (by kernel_rfl) (by kernel_rfl) (by kernel_rfl) (by kernel_rfl)) ?_
  intro W base args ds gs before hval0 hW _ _
  have hval : ∀ (j : Nat) t v, Try.f16.params[j]? = some t → args[j]? = some v → Value.okWide Try.prog W .any base t v := hval0
  have hW' := hW
  obtain ⟨p, q, hA0, hV, hbef, hfz, hnd⟩ := hW
  have hp : Try.f16.params = #[22] := by kernel_rfl
  have hA : DataW.TrodAll enc Try.prog W 0 (fun _ => true) true Try.f16.params.toList args.toList ds p := hA0
  rw [hp] at hA hval
  obtain ⟨v0, d0, rfl, rfl, h0⟩ := trodAll_one hA
  obtain ⟨rfl, rfl⟩ := trodVars_none hV
  refine (law16 (hval 0 22 v0 rfl rfl) h0).mono ?_
  rintro e W' ⟨rfl, hb⟩
  exact ⟨_, rfl, post_true (tb := 4) rfl hp (by kernel_rfl) u4 laid rd22 row22 rfl rfl hW' hb⟩

theorem holds16 : Rows.FieldPowsSaid :=
  OpenClaim.holds_of_wide 16 Try.f16 rfl rfl rfl rfl rfl rfl rfl ⟨rfl, rfl, rfl, rfl, rfl⟩ rfl rfl rfl rfl rfl (by kernel_rfl) Try.func16 (by kernel_rfl)
    (of_decide_eq_true (by kernel_rfl)) (by unfold Func.isWrapper; first | (rw [if_pos (by decide +kernel)]; kernel_rfl) | (rw [if_neg (by decide +kernel)]; exact ⟨rfl, rfl⟩))
    (fun os started H enc _ => lifted16 os started H enc)

end Go.Proofs.Ythlcdpdehoknbaa.Laws

namespace Go.Proofs.Ythlcdpdehoknbaa
open Go
theorem fieldPows_holds : Rows.FieldPowsSaid := Laws.holds16
end Go.Proofs.Ythlcdpdehoknbaa

