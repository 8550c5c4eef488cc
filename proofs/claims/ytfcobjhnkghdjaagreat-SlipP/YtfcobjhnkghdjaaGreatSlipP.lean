/- Keyed sums, nodes, and the law, of every input: SlipP holds of every argument -/
import Derived.Test.YtfcobjhnkghdjaaGreatPartS
import Derived.JoinedOf
import Derived.SizedLaws
namespace Go.Ev.H5
open Go Go.Proofs Go.RowKit
set_option maxRecDepth 100000
noncomputable abbrev yW : Code := bodyOf Tryz.prog 15 4
theorem All_ap3 {a b c : List Prop} (h1 : All a) (h2 : All b) (h3 : All c) : All (a ++ b ++ c) := All_ap (All_ap h1 h2) h3
theorem obA_ok {S : ByteArray} {m : Nat} {i : Int} (h0 : 0 ≤ i) (h : i < (m : Int)) (h4 : i < 4) (hs : S.size ≤ BB) : All (obA S i m) := by
  have hb := BB_lt
  have := sdL_eq S
  have := sz16 S
  exact ⟨decide_eq_true h, decide_eq_true h4, ⟨h0, h⟩, by omega, by omega, ⟨h0, h⟩, by omega, trivial⟩
theorem obB_ok {z : Int} (hz : z = 1 ∨ z = 2) (S : ByteArray) : All (obB msF z (sd S)) := by
  have h := sdB_sd hz S
  have := sd_size S
  exact ⟨hz, by omega, by rw [pe_eq h, decide_eq_true rfl]; rfl, by rw [pk_eq h, pc_eq h]; exact eqS_self _ _, trivial⟩
theorem ms_mayF {z : Int} (hz : z = 1 ∨ z = 2) (s : ByteArray) : msF.e z s = 0 → mayB z (msF.k z s) (msF.c z s) = true := by
  dsimp only [msF]; exact ms_may hz
theorem live0 {c : Cells} {cap n k : Nat} {z : Int} {xs : Nat → Atom} {q : Nat → Nat} {p2 p3 p4 : List Piece} (hx : XsOk xs) (f2 : Free (roB p2)) (f3 : Free (roB p3)) (f4 : Free (roB p4)) (hz : z = 1 ∨ z = 2) (len : Nat) (hs : (sA c (0 * 5 + 1)).size ≤ BB) :
    Goes Tryz.prog yW .normal (TO (len + 1) cap z 0) (MR c (xsW 0 (.sl 1 0 n k) xs) (len + 1) (qPs q n) p2 p3 p4) (TO (len + 1) cap z 1) (MR c (xsW 0 (.sl 1 0 n k) xs) (len + 1) (qPs q n) p2 p3 p4) := by
  have h := sdB_sd hz (sA c (0 * 5 + 1))
  have hE : EnvOK (ELp0 msF c len cap n k z xs q p2 p3 p4 (fin z q (min n 4) 0 (msF.k z (sd (sA c (0 * 5 + 1)))) (msF.c z (sd (sA c (0 * 5 + 1)))) (msF.e z (sd (sA c (0 * 5 + 1))))).1 (fin z q (min n 4) 0 (msF.k z (sd (sA c (0 * 5 + 1)))) (msF.c z (sd (sA c (0 * 5 + 1)))) (msF.e z (sd (sA c (0 * 5 + 1))))).2) :=
    envAddLp (envTv q) (sumC_ok rfl (inner0 hx f2 f3 f4 hz len (min n 4) 0 (msF.k z (sd (sA c (0 * 5 + 1)))) (msF.c z (sd (sA c (0 * 5 + 1)))) (msF.e z (sd (sA c (0 * 5 + 1)))) (by omega) (ms_mayF hz _)).loop)
  exact Runs.goes hE ⟨_, _, tl0 msF c len cap n k z xs q p2 p3 p4 _ _, All_ap3 (obA_ok (by omega) (by omega) (by omega) hs) (obB_ok hz (sA c (0 * 5 + 1))) ⟨rfl, by rw [pk_eq h, pc_eq h], wfR7 (hx.w fun _ h => sl_ok (by omega) h) (qPs_free _ _) f2 f3 f4 (by kernel_rfl), by unfold inI; omega, trivial⟩, wfR5 (hx.w fun _ h => sl_ok (by omega) h) (qPs_free _ _) f2 f3 f4 (by kernel_rfl)⟩
theorem none0 {c : Cells} {cap : Nat} {o : Option Addr} {cp : Nat} {z : Int} {xs : Nat → Atom} {p1 p2 p3 p4 : List Piece} (hx : XsOk xs) (f1 : Free (roB p1)) (f2 : Free (roB p2)) (f3 : Free (roB p3)) (f4 : Free (roB p4)) (hz : z = 1 ∨ z = 2) (len : Nat) (hs : (sA c (0 * 5 + 1)).size ≤ BB) :
    Goes Tryz.prog yW .normal (TO (len + 1) cap z 0) (MR c (xsW 0 (.v (.slice o 0 cp)) xs) (len + 1) p1 p2 p3 p4) (TO (len + 1) cap z 1) (MR c (xsW 0 (.v (.slice o 0 cp)) xs) (len + 1) p1 p2 p3 p4) :=
  Runs.goes (envTv fun _ => 0) ⟨_, _, tn0 msF c len cap o cp z xs (fun _ => 0) p1 p2 p3 p4, All_ap3 (obA_ok (by omega) (by omega) (by omega) hs) (obB_ok hz (sA c (0 * 5 + 1))) ⟨by omega, by decide, by unfold inI; omega, trivial⟩, wfR5 (hx.w fun _ _ => rfl) f1 f2 f3 f4 (by kernel_rfl)⟩
theorem live1 {c : Cells} {cap n k : Nat} {z : Int} {xs : Nat → Atom} {q : Nat → Nat} {p1 p3 p4 : List Piece} (hx : XsOk xs) (f1 : Free (roB p1)) (f3 : Free (roB p3)) (f4 : Free (roB p4)) (hz : z = 1 ∨ z = 2) (len : Nat) (hs : (sA c (1 * 5 + 1)).size ≤ BB) :
    Goes Tryz.prog yW .normal (TO (len + 2) cap z 1) (MR c (xsW 1 (.sl 2 0 n k) xs) (len + 2) p1 (qPs q n) p3 p4) (TO (len + 2) cap z 2) (MR c (xsW 1 (.sl 2 0 n k) xs) (len + 2) p1 (qPs q n) p3 p4) := by
  have h := sdB_sd hz (sA c (1 * 5 + 1))
  have hE : EnvOK (ELp1 msF c len cap n k z xs q p1 p3 p4 (fin z q (min n 4) 0 (msF.k z (sd (sA c (1 * 5 + 1)))) (msF.c z (sd (sA c (1 * 5 + 1)))) (msF.e z (sd (sA c (1 * 5 + 1))))).1 (fin z q (min n 4) 0 (msF.k z (sd (sA c (1 * 5 + 1)))) (msF.c z (sd (sA c (1 * 5 + 1)))) (msF.e z (sd (sA c (1 * 5 + 1))))).2) :=
    envAddLp (envTv q) (sumC_ok rfl (inner1 hx f1 f3 f4 hz len (min n 4) 0 (msF.k z (sd (sA c (1 * 5 + 1)))) (msF.c z (sd (sA c (1 * 5 + 1)))) (msF.e z (sd (sA c (1 * 5 + 1)))) (by omega) (ms_mayF hz _)).loop)
  exact Runs.goes hE ⟨_, _, tl1 msF c len cap n k z xs q p1 p3 p4 _ _, All_ap3 (obA_ok (by omega) (by omega) (by omega) hs) (obB_ok hz (sA c (1 * 5 + 1))) ⟨rfl, by rw [pk_eq h, pc_eq h], wfR7 (hx.w fun _ h => sl_ok (by omega) h) f1 (qPs_free _ _) f3 f4 (by kernel_rfl), by unfold inI; omega, trivial⟩, wfR5 (hx.w fun _ h => sl_ok (by omega) h) f1 (qPs_free _ _) f3 f4 (by kernel_rfl)⟩
theorem none1 {c : Cells} {cap : Nat} {o : Option Addr} {cp : Nat} {z : Int} {xs : Nat → Atom} {p1 p2 p3 p4 : List Piece} (hx : XsOk xs) (f1 : Free (roB p1)) (f2 : Free (roB p2)) (f3 : Free (roB p3)) (f4 : Free (roB p4)) (hz : z = 1 ∨ z = 2) (len : Nat) (hs : (sA c (1 * 5 + 1)).size ≤ BB) :
    Goes Tryz.prog yW .normal (TO (len + 2) cap z 1) (MR c (xsW 1 (.v (.slice o 0 cp)) xs) (len + 2) p1 p2 p3 p4) (TO (len + 2) cap z 2) (MR c (xsW 1 (.v (.slice o 0 cp)) xs) (len + 2) p1 p2 p3 p4) :=
  Runs.goes (envTv fun _ => 0) ⟨_, _, tn1 msF c len cap o cp z xs (fun _ => 0) p1 p2 p3 p4, All_ap3 (obA_ok (by omega) (by omega) (by omega) hs) (obB_ok hz (sA c (1 * 5 + 1))) ⟨by omega, by decide, by unfold inI; omega, trivial⟩, wfR5 (hx.w fun _ _ => rfl) f1 f2 f3 f4 (by kernel_rfl)⟩
theorem live2 {c : Cells} {cap n k : Nat} {z : Int} {xs : Nat → Atom} {q : Nat → Nat} {p1 p2 p4 : List Piece} (hx : XsOk xs) (f1 : Free (roB p1)) (f2 : Free (roB p2)) (f4 : Free (roB p4)) (hz : z = 1 ∨ z = 2) (len : Nat) (hs : (sA c (2 * 5 + 1)).size ≤ BB) :
    Goes Tryz.prog yW .normal (TO (len + 3) cap z 2) (MR c (xsW 2 (.sl 3 0 n k) xs) (len + 3) p1 p2 (qPs q n) p4) (TO (len + 3) cap z 3) (MR c (xsW 2 (.sl 3 0 n k) xs) (len + 3) p1 p2 (qPs q n) p4) := by
  have h := sdB_sd hz (sA c (2 * 5 + 1))
  have hE : EnvOK (ELp2 msF c len cap n k z xs q p1 p2 p4 (fin z q (min n 4) 0 (msF.k z (sd (sA c (2 * 5 + 1)))) (msF.c z (sd (sA c (2 * 5 + 1)))) (msF.e z (sd (sA c (2 * 5 + 1))))).1 (fin z q (min n 4) 0 (msF.k z (sd (sA c (2 * 5 + 1)))) (msF.c z (sd (sA c (2 * 5 + 1)))) (msF.e z (sd (sA c (2 * 5 + 1))))).2) :=
    envAddLp (envTv q) (sumC_ok rfl (inner2 hx f1 f2 f4 hz len (min n 4) 0 (msF.k z (sd (sA c (2 * 5 + 1)))) (msF.c z (sd (sA c (2 * 5 + 1)))) (msF.e z (sd (sA c (2 * 5 + 1)))) (by omega) (ms_mayF hz _)).loop)
  exact Runs.goes hE ⟨_, _, tl2 msF c len cap n k z xs q p1 p2 p4 _ _, All_ap3 (obA_ok (by omega) (by omega) (by omega) hs) (obB_ok hz (sA c (2 * 5 + 1))) ⟨rfl, by rw [pk_eq h, pc_eq h], wfR7 (hx.w fun _ h => sl_ok (by omega) h) f1 f2 (qPs_free _ _) f4 (by kernel_rfl), by unfold inI; omega, trivial⟩, wfR5 (hx.w fun _ h => sl_ok (by omega) h) f1 f2 (qPs_free _ _) f4 (by kernel_rfl)⟩
theorem none2 {c : Cells} {cap : Nat} {o : Option Addr} {cp : Nat} {z : Int} {xs : Nat → Atom} {p1 p2 p3 p4 : List Piece} (hx : XsOk xs) (f1 : Free (roB p1)) (f2 : Free (roB p2)) (f3 : Free (roB p3)) (f4 : Free (roB p4)) (hz : z = 1 ∨ z = 2) (len : Nat) (hs : (sA c (2 * 5 + 1)).size ≤ BB) :
    Goes Tryz.prog yW .normal (TO (len + 3) cap z 2) (MR c (xsW 2 (.v (.slice o 0 cp)) xs) (len + 3) p1 p2 p3 p4) (TO (len + 3) cap z 3) (MR c (xsW 2 (.v (.slice o 0 cp)) xs) (len + 3) p1 p2 p3 p4) :=
  Runs.goes (envTv fun _ => 0) ⟨_, _, tn2 msF c len cap o cp z xs (fun _ => 0) p1 p2 p3 p4, All_ap3 (obA_ok (by omega) (by omega) (by omega) hs) (obB_ok hz (sA c (2 * 5 + 1))) ⟨by omega, by decide, by unfold inI; omega, trivial⟩, wfR5 (hx.w fun _ _ => rfl) f1 f2 f3 f4 (by kernel_rfl)⟩
theorem live3 {c : Cells} {cap n k : Nat} {z : Int} {xs : Nat → Atom} {q : Nat → Nat} {p1 p2 p3 : List Piece} (hx : XsOk xs) (f1 : Free (roB p1)) (f2 : Free (roB p2)) (f3 : Free (roB p3)) (hz : z = 1 ∨ z = 2) (len : Nat) (hs : (sA c (3 * 5 + 1)).size ≤ BB) :
    Goes Tryz.prog yW .normal (TO (len + 4) cap z 3) (MR c (xsW 3 (.sl 4 0 n k) xs) (len + 4) p1 p2 p3 (qPs q n)) (TO (len + 4) cap z 4) (MR c (xsW 3 (.sl 4 0 n k) xs) (len + 4) p1 p2 p3 (qPs q n)) := by
  have h := sdB_sd hz (sA c (3 * 5 + 1))
  have hE : EnvOK (ELp3 msF c len cap n k z xs q p1 p2 p3 (fin z q (min n 4) 0 (msF.k z (sd (sA c (3 * 5 + 1)))) (msF.c z (sd (sA c (3 * 5 + 1)))) (msF.e z (sd (sA c (3 * 5 + 1))))).1 (fin z q (min n 4) 0 (msF.k z (sd (sA c (3 * 5 + 1)))) (msF.c z (sd (sA c (3 * 5 + 1)))) (msF.e z (sd (sA c (3 * 5 + 1))))).2) :=
    envAddLp (envTv q) (sumC_ok rfl (inner3 hx f1 f2 f3 hz len (min n 4) 0 (msF.k z (sd (sA c (3 * 5 + 1)))) (msF.c z (sd (sA c (3 * 5 + 1)))) (msF.e z (sd (sA c (3 * 5 + 1)))) (by omega) (ms_mayF hz _)).loop)
  exact Runs.goes hE ⟨_, _, tl3 msF c len cap n k z xs q p1 p2 p3 _ _, All_ap3 (obA_ok (by omega) (by omega) (by omega) hs) (obB_ok hz (sA c (3 * 5 + 1))) ⟨rfl, by rw [pk_eq h, pc_eq h], wfR7 (hx.w fun _ h => sl_ok (by omega) h) f1 f2 f3 (qPs_free _ _) (by kernel_rfl), by unfold inI; omega, trivial⟩, wfR5 (hx.w fun _ h => sl_ok (by omega) h) f1 f2 f3 (qPs_free _ _) (by kernel_rfl)⟩
theorem none3 {c : Cells} {cap : Nat} {o : Option Addr} {cp : Nat} {z : Int} {xs : Nat → Atom} {p1 p2 p3 p4 : List Piece} (hx : XsOk xs) (f1 : Free (roB p1)) (f2 : Free (roB p2)) (f3 : Free (roB p3)) (f4 : Free (roB p4)) (hz : z = 1 ∨ z = 2) (len : Nat) (hs : (sA c (3 * 5 + 1)).size ≤ BB) :
    Goes Tryz.prog yW .normal (TO (len + 4) cap z 3) (MR c (xsW 3 (.v (.slice o 0 cp)) xs) (len + 4) p1 p2 p3 p4) (TO (len + 4) cap z 4) (MR c (xsW 3 (.v (.slice o 0 cp)) xs) (len + 4) p1 p2 p3 p4) :=
  Runs.goes (envTv fun _ => 0) ⟨_, _, tn3 msF c len cap o cp z xs (fun _ => 0) p1 p2 p3 p4, All_ap3 (obA_ok (by omega) (by omega) (by omega) hs) (obB_ok hz (sA c (3 * 5 + 1))) ⟨by omega, by decide, by unfold inI; omega, trivial⟩, wfR5 (hx.w fun _ _ => rfl) f1 f2 f3 f4 (by kernel_rfl)⟩
/-! all rows -/
structure Sub where
  lv : Nat → Bool
  n : Nat → Nat
  k : Nat → Nat
  o : Nat → Option Addr
  q : Nat → Nat → Nat
def xsS (s : Sub) : Nat → Atom := fun j => bif s.lv j && Nat.blt j 4 then .sl (j + 1) 0 (s.n j) (s.k j) else .v (.slice (s.o j) (s.n j) (s.k j))
def psS (s : Sub) (j : Nat) : List Piece := bif s.lv j then qPs (s.q j) (s.n j) else []
def MW (c : Cells) (s : Sub) (m : Nat) : List Blk := MR c (xsS s) m (psS s 0) (psS s 1) (psS s 2) (psS s 3)
theorem psS_free (s : Sub) (j : Nat) : Free (roB (psS s j)) := by
  unfold psS
  cases s.lv j with
  | true => exact qPs_free _ _
  | false => exact fun _ => rfl
theorem xsS_ok (s : Sub) : XsOk (xsS s) := by
  intro j n hn
  unfold xsS
  cases s.lv j with
  | false => rfl
  | true =>
    cases h : Nat.blt j 4 with
    | false => rfl
    | true =>
      rw [Nat.blt] at h
      have := Nat.le_of_ble_eq_true h
      exact sl_ok (by omega) hn
theorem xsS_live {s : Sub} {i : Nat} (hl : s.lv i = true) (hi : i < 4) : xsS s = xsW i (.sl (i + 1) 0 (s.n i) (s.k i)) (xsS s) := by
  funext j
  unfold xsW
  cases h : Nat.beq j i with
  | false => rfl
  | true =>
    have := Nat.eq_of_beq_eq_true h
    subst this
    have h4 : Nat.blt j 4 = true := by rw [Nat.blt]; exact Nat.ble_eq_true_of_le hi
    unfold xsS
    rw [hl, h4]; rfl
theorem xsS_none {s : Sub} {i : Nat} (hl : s.lv i = false) (hn : s.n i = 0) : xsS s = xsW i (.v (.slice (s.o i) 0 (s.k i))) (xsS s) := by
  funext j
  unfold xsW
  cases h : Nat.beq j i with
  | false => rfl
  | true =>
    have := Nat.eq_of_beq_eq_true h
    subst this
    unfold xsS
    rw [hl, hn]; rfl
def SubOk (s : Sub) (m : Nat) : Prop := ∀ i, i < m → s.lv i = false → s.n i = 0
theorem stepW0 {c : Cells} {s : Sub} {cap : Nat} {z : Int} (hz : z = 1 ∨ z = 2) (len : Nat) (h : SubOk s (len + 1)) (hs : (sA c (0 * 5 + 1)).size ≤ BB) : Goes Tryz.prog yW .normal (TO (len + 1) cap z 0) (MW c s (len + 1)) (TO (len + 1) cap z 1) (MW c s (len + 1)) := by
  cases hl : s.lv 0 with
  | true =>
    have ep : psS s 0 = qPs (s.q 0) (s.n 0) := by unfold psS; rw [hl]; rfl
    have h1 := live0 (c := c) (cap := cap) (n := s.n 0) (k := s.k 0) (q := s.q 0) (xsS_ok s) (psS_free s 1) (psS_free s 2) (psS_free s 3) hz len hs
    rw [← xsS_live hl (by omega), ← ep] at h1
    exact h1
  | false =>
    have h1 := none0 (c := c) (cap := cap) (o := s.o 0) (cp := s.k 0) (xsS_ok s) (psS_free s 0) (psS_free s 1) (psS_free s 2) (psS_free s 3) hz len hs
    rw [← xsS_none hl (h 0 (by omega) hl)] at h1
    exact h1
theorem stepW1 {c : Cells} {s : Sub} {cap : Nat} {z : Int} (hz : z = 1 ∨ z = 2) (len : Nat) (h : SubOk s (len + 2)) (hs : (sA c (1 * 5 + 1)).size ≤ BB) : Goes Tryz.prog yW .normal (TO (len + 2) cap z 1) (MW c s (len + 2)) (TO (len + 2) cap z 2) (MW c s (len + 2)) := by
  cases hl : s.lv 1 with
  | true =>
    have ep : psS s 1 = qPs (s.q 1) (s.n 1) := by unfold psS; rw [hl]; rfl
    have h1 := live1 (c := c) (cap := cap) (n := s.n 1) (k := s.k 1) (q := s.q 1) (xsS_ok s) (psS_free s 0) (psS_free s 2) (psS_free s 3) hz len hs
    rw [← xsS_live hl (by omega), ← ep] at h1
    exact h1
  | false =>
    have h1 := none1 (c := c) (cap := cap) (o := s.o 1) (cp := s.k 1) (xsS_ok s) (psS_free s 0) (psS_free s 1) (psS_free s 2) (psS_free s 3) hz len hs
    rw [← xsS_none hl (h 1 (by omega) hl)] at h1
    exact h1
theorem stepW2 {c : Cells} {s : Sub} {cap : Nat} {z : Int} (hz : z = 1 ∨ z = 2) (len : Nat) (h : SubOk s (len + 3)) (hs : (sA c (2 * 5 + 1)).size ≤ BB) : Goes Tryz.prog yW .normal (TO (len + 3) cap z 2) (MW c s (len + 3)) (TO (len + 3) cap z 3) (MW c s (len + 3)) := by
  cases hl : s.lv 2 with
  | true =>
    have ep : psS s 2 = qPs (s.q 2) (s.n 2) := by unfold psS; rw [hl]; rfl
    have h1 := live2 (c := c) (cap := cap) (n := s.n 2) (k := s.k 2) (q := s.q 2) (xsS_ok s) (psS_free s 0) (psS_free s 1) (psS_free s 3) hz len hs
    rw [← xsS_live hl (by omega), ← ep] at h1
    exact h1
  | false =>
    have h1 := none2 (c := c) (cap := cap) (o := s.o 2) (cp := s.k 2) (xsS_ok s) (psS_free s 0) (psS_free s 1) (psS_free s 2) (psS_free s 3) hz len hs
    rw [← xsS_none hl (h 2 (by omega) hl)] at h1
    exact h1
theorem stepW3 {c : Cells} {s : Sub} {cap : Nat} {z : Int} (hz : z = 1 ∨ z = 2) (len : Nat) (h : SubOk s (len + 4)) (hs : (sA c (3 * 5 + 1)).size ≤ BB) : Goes Tryz.prog yW .normal (TO (len + 4) cap z 3) (MW c s (len + 4)) (TO (len + 4) cap z 4) (MW c s (len + 4)) := by
  cases hl : s.lv 3 with
  | true =>
    have ep : psS s 3 = qPs (s.q 3) (s.n 3) := by unfold psS; rw [hl]; rfl
    have h1 := live3 (c := c) (cap := cap) (n := s.n 3) (k := s.k 3) (q := s.q 3) (xsS_ok s) (psS_free s 0) (psS_free s 1) (psS_free s 2) hz len hs
    rw [← xsS_live hl (by omega), ← ep] at h1
    exact h1
  | false =>
    have h1 := none3 (c := c) (cap := cap) (o := s.o 3) (cp := s.k 3) (xsS_ok s) (psS_free s 0) (psS_free s 1) (psS_free s 2) (psS_free s 3) hz len hs
    rw [← xsS_none hl (h 3 (by omega) hl)] at h1
    exact h1
theorem wfTOx (c : Cells) (s : Sub) (m cap : Nat) (z : Int) : wfS (TOx m cap z) (MW c s m) = true := wfR5 (xsS_ok s) (psS_free s 0) (psS_free s 1) (psS_free s 2) (psS_free s 3) (by kernel_rfl)
theorem wfTO (c : Cells) (s : Sub) (m cap : Nat) (z i : Int) : wfS (TO m cap z i) (MW c s m) = true := wfR5 (xsS_ok s) (psS_free s 0) (psS_free s 1) (psS_free s 2) (psS_free s 3) (by kernel_rfl)
theorem loopW {c : Cells} {s : Sub} {m cap : Nat} {z : Int} (hz : z = 1 ∨ z = 2) (h : SubOk s m) (hs : ∀ i, i < m → (sA c (i * 5 + 1)).size ≤ BB) :
    Goes Tryz.prog (.loop yW) (.exit 0) (TO m cap z ((0 : Nat) : Int)) (MW c s m) (TOx m cap z) (MW c s m) := by
  refine loop_goes (N := min m 4) (k := 5) (T := fun i => TO m cap z (i : Int)) (M := fun _ => MW c s m) (by simp) (fun _ _ => rfl) (fun i hi => ?_) ?_
  · match i, hi with
    | 0, hi =>
      obtain ⟨l, rfl⟩ : ∃ l, m = l + 1 := ⟨m - 1, by omega⟩
      exact stepW0 hz l h (hs 0 (by omega))
    | 1, hi =>
      obtain ⟨l, rfl⟩ : ∃ l, m = l + 2 := ⟨m - 2, by omega⟩
      exact stepW1 hz l h (hs 1 (by omega))
    | 2, hi =>
      obtain ⟨l, rfl⟩ : ∃ l, m = l + 3 := ⟨m - 3, by omega⟩
      exact stepW2 hz l h (hs 2 (by omega))
    | 3, hi =>
      obtain ⟨l, rfl⟩ : ∃ l, m = l + 4 := ⟨m - 4, by omega⟩
      exact stepW3 hz l h (hs 3 (by omega))
    | i + 4, hi => omega
  · by_cases h4 : m < 4
    · rw [show min m 4 = m by omega]
      exact Runs.goes (envTv fun _ => 0) ⟨_, _, tz msF c m cap z (m : Int) (xsS s) (fun _ => 0) _ _ _ _, ⟨decide_eq_false (by omega), trivial⟩, wfTOx _ _ _ _ _⟩
    · rw [show min m 4 = 4 by omega]
      by_cases h5 : m = 4
      · exact Runs.goes (envTv fun _ => 0) ⟨_, _, tz msF c m cap z 4 (xsS s) (fun _ => 0) _ _ _ _, ⟨decide_eq_false (by omega), trivial⟩, wfTOx _ _ _ _ _⟩
      · exact Runs.goes (envTv fun _ => 0) ⟨_, _, t4 msF c m cap z 4 (xsS s) (fun _ => 0) _ _ _ _, ⟨decide_eq_true (by omega), by decide, trivial⟩, wfTOx _ _ _ _ _⟩
end Go.Ev.H5

namespace Go.Ev.H5
open Go Go.Proofs Go.RowKit
set_option maxRecDepth 100000
def fmW (c : Cells) (xs : Nat → Atom) (l : Lits) (m : Nat) : FuncId → List V1 → List (Option Blk) → Option (List Prop × AV) := fun f vs bs => match f with
  | 9 => fm9 c xs l m vs bs
  | _ => none
theorem fmW_ok (c : Cells) (xs : Nat → Atom) (l : Lits) (m : Nat) : ∀ f vs mem ob r, fmW c xs l m f vs (blks mem vs) = some (ob, r) → All ob → ∀ w0 φ w, MRel w0 φ mem w → Calls Tryz.prog f (vs.map (V1.conc φ)).toArray w fun e w' => e = .returned (r.conc φ) ∧ Below w.heap.size w w' := by
  intro f vs mem ob r h ho w0 φ w hm
  unfold fmW at h
  split at h
  · exact fm9_ok h ho hm
  · simp at h
noncomputable def addM' (E : Env) (g : FuncId → List V1 → List (Option Blk) → Option (List Prop × AV)) : Env := { E with fm := g }
theorem envAddM' {E : Env} (hE : EnvOK E) {g : FuncId → List V1 → List (Option Blk) → Option (List Prop × AV)} (h : ∀ f vs mem ob r, g f vs (blks mem vs) = some (ob, r) → All ob → ∀ w0 φ w, MRel w0 φ mem w → Calls E.P f (vs.map (V1.conc φ)).toArray w fun e w' => e = .returned (r.conc φ) ∧ Below w.heap.size w w') : EnvOK (addM' E g) :=
  ⟨hE.mixed, hE.fns, h, hE.lps, hE.fbs⟩
noncomputable def EWy (g : MsF) (c : Cells) (s : Sub) (l : Lits) (m cap : Nat) (z : Int) : Env := addM' (addLp (ETv g fun _ => 0) 4 yW (sumC (TO m cap z 0) (MW c s m) (TOx m cap z) (MW c s m) (.exit 0))) (fmW c (xsS s) l m)
theorem envWy {c : Cells} {s : Sub} {l : Lits} {m cap : Nat} {z : Int} (hz : z = 1 ∨ z = 2) (h : SubOk s m) (hs : ∀ i, i < m → (sA c (i * 5 + 1)).size ≤ BB) : EnvOK (EWy msF c s l m cap z) :=
  envAddM' (envAddLp (envTv fun _ => 0) (sumC_ok rfl (loopW hz h hs))) (fmW_ok _ _ _ _)
def ob9 (c : Cells) (s : Sub) (l : Lits) (m : Nat) : List Prop := [true = true, rowsX c (xsS s) m 0 = rowsX c (xsS s) m 0, m = m, SzX c l m, ∀ φ : Loc, ∀ j, j < m → ∃ o cap, (xsS s j).conc φ = .slice o (l.n (0 + j * 5 + 4)) cap]
theorem w4t (g : MsF) (c : Cells) (s : Sub) (l : Lits) (m cap : Nat) : dropM (callBy (EWy g c s l m cap 1) (evalC (EWy g c s l m cap 1) 1000) 4 [.one (.sl 0 0 m cap)] (MW c s m) [true]) =
    some ([decide (2000 < hvX c l m 0 (m : Int)) = true] ++ ob9 c s l m, bV true) := by kernel_rfl
theorem w4f (g : MsF) (c : Cells) (s : Sub) (l : Lits) (m cap : Nat) : dropM (callBy (EWy g c s l m cap 1) (evalC (EWy g c s l m cap 1) 1000) 4 [.one (.sl 0 0 m cap)] (MW c s m) [false]) =
    some ([decide (2000 < hvX c l m 0 (m : Int)) = false] ++ ob9 c s l m ++ [yW = yW, (TO m cap 1 0, MW c s m) = (TO m cap 1 0, MW c s m), wfS (TO m cap 1 0) (MW c s m) = true], bV true) := by kernel_rfl
theorem w5t (g : MsF) (c : Cells) (s : Sub) (l : Lits) (m cap : Nat) : dropM (callBy (EWy g c s l m cap 2) (evalC (EWy g c s l m cap 2) 1000) 5 [.one (.sl 0 0 m cap)] (MW c s m) [true]) =
    some ([decide (2000 < hvX c l m 0 (m : Int)) = true] ++ ob9 c s l m, bV true) := by kernel_rfl
theorem w5f (g : MsF) (c : Cells) (s : Sub) (l : Lits) (m cap : Nat) : dropM (callBy (EWy g c s l m cap 2) (evalC (EWy g c s l m cap 2) 1000) 5 [.one (.sl 0 0 m cap)] (MW c s m) [false]) =
    some ([decide (2000 < hvX c l m 0 (m : Int)) = false] ++ ob9 c s l m ++ [yW = yW, (TO m cap 2 0, MW c s m) = (TO m cap 2 0, MW c s m), wfS (TO m cap 2 0) (MW c s m) = true], bV true) := by kernel_rfl
/-! none -/
def nilV : V1 := .one (.v (.slice none 0 0))
noncomputable def S9n : FuncId → Nat → Bool := fun f t => match f with | 9 => memN t [10, 13] | _ => false
noncomputable def E9n : Env := mkE [] S9n
theorem r9n : callR E9n 1000 9 [nilV] [false] = some ([decide ((0 : Int) < ((0 : Nat) : Int)) = false], bV false) := by kernel_rfl
theorem nil9 : Spec 9 [nilV] (bV false) := spec_run (envMk (L := []) trivial S9n) rfl r9n ⟨by decide, trivial⟩ rfl rfl
def fnN9 (vs : List V1) : Option (List Prop × AV) := match vs with | [.one (.v (.slice none 0 0))] => some ([], bV false) | _ => none
theorem ctN9 : CTok ⟨9, fnN9⟩ := by
  intro vs ob r h _
  simp only [fnN9] at h
  split at h
  · simp only [Option.some.injEq, Prod.mk.injEq] at h
    obtain ⟨rfl, rfl⟩ := h
    exact nil9
  · simp at h
noncomputable def EWn (g : MsF) : Env := mkE (⟨9, fnN9⟩ :: LTv g fun _ => 0) S15
theorem envWn : EnvOK (EWn msF) := envMk (show AllCT (⟨9, fnN9⟩ :: LTv msF fun _ => 0) from ⟨ctN9, ct22v, ct16v, LTn_ok _⟩) S15
theorem w4n (g : MsF) : dropM (callBy (EWn g) (evalC (EWn g) 1000) 4 [nilV] [] [false, false]) = some ([false = false, decide ((0 : Int) < ((0 : Nat) : Int)) = false], bV true) := by kernel_rfl
theorem w5n (g : MsF) : dropM (callBy (EWn g) (evalC (EWn g) 1000) 5 [nilV] [] [false, false]) = some ([false = false, decide ((0 : Int) < ((0 : Nat) : Int)) = false], bV true) := by kernel_rfl
/-! the argument -/
theorem u22 : Tryz.prog.underlying 22 = some (.slice 28) := by kernel_rfl
end Go.Ev.H5

namespace Go.Ev.H5
open Go Go.Proofs Go.RowKit
set_option maxRecDepth 100000
def f0 : Field := { name := "Curve", type := 3, offset := 0, embedded := false, tag := "", pkgPath := "", byteOffset := 0 }
def f1 : Field := { name := "Seed", type := 9, offset := 1, embedded := false, tag := "", pkgPath := "", byteOffset := 8 }
def f2 : Field := { name := "N", type := 25, offset := 2, embedded := false, tag := "", pkgPath := "", byteOffset := 24 }
def f3 : Field := { name := "L", type := 26, offset := 4, embedded := false, tag := "", pkgPath := "", byteOffset := 56 }
theorem u28 : Tryz.prog.underlying 28 = some (.struct #[f0, f1, f2, f3]) := by kernel_rfl
theorem c28 : Tryz.prog.cellsOf 28 = 5 := by kernel_rfl
theorem cf0 : Tryz.prog.cellsOf f0.type = 1 := by kernel_rfl
theorem cf1 : Tryz.prog.cellsOf f1.type = 1 := by kernel_rfl
theorem cf2 : Tryz.prog.cellsOf f2.type = 2 := by kernel_rfl
theorem cf3 : Tryz.prog.cellsOf f3.type = 1 := by kernel_rfl
theorem kf0 : kindsT Tryz.prog 20 f0.type = some [5] := by kernel_rfl
theorem kf1 : kindsT Tryz.prog 20 f1.type = some [1] := by kernel_rfl
theorem kf2 : kindsT Tryz.prog 20 f2.type = some [1, 1] := by kernel_rfl
theorem uf3 : Tryz.prog.underlying f3.type = some (.slice 32) := by kernel_rfl
theorem k32 : kindsT Tryz.prog 20 32 = some [8] := by kernel_rfl
theorem c32 : Tryz.prog.cellsOf 32 = 1 := by kernel_rfl
theorem b32 : 0 < Tryz.prog.bytesOf 32 := of_decide_eq_true (by kernel_rfl)
theorem b28 : 0 < Tryz.prog.bytesOf 28 := of_decide_eq_true (by kernel_rfl)
theorem rd22 : Tryz.prog.readableRec 22 = true := by kernel_rfl
theorem row22 : (22 : Nat) < Tryz.prog.types.size := of_decide_eq_true (by kernel_rfl)
theorem law_runMD {E : Env} (hE : EnvOK E) {n : Nat} {f : FuncId} {v : V1} {M : List Blk} {c : List Bool} {ob : List Prop}
    (h : dropM (callBy E (evalC E n) f [v] M c) = some (ob, bV true)) (ho : All ob) {w : World} {φ : Loc} (hm : MRel w φ M w) (hv : v.wf M.length = true) : Calls E.P f #[v.conc φ] w (Trues w) := by
  obtain ⟨c', m', h'⟩ := dropM_some h
  exact law_runM hE h' ho hm hv
/-- what a law is handed: some rows, and what is known of them. -/
structure Rows (W : World) (c : Cells) (s : Sub) (l : Lits) (m : Nat) (φ : Loc) : Prop where
  ok : SubOk s m
  sz : SzX c l m
  sd : ∀ i, i < m → (sA c (i * 5 + 1)).size ≤ BB
  lit : ∀ φ : Loc, ∀ j, j < m → ∃ o cap, (xsS s j).conc φ = .slice o (l.n (0 + j * 5 + 4)) cap
  rel : MRel W φ (MW c s m) W
theorem qcell (φ : Loc) (q : Nat → Nat) : ∀ (n p j : Nat) (v : Value), (concs φ (rowPs (numQ q) [.u32] n p))[j]? = some v → j < n ∧ v = .int .u32 (q (p + j) : Int)
  | 0, p, j, v, h => by simp [rowPs, concs] at h
  | n + 1, p, 0, v, h => by
    simp only [rowPs, fldPs, SK.pc, List.cons_append, List.nil_append, concs, Piece.conc, Atom.conc, List.getElem?_cons_zero, Option.some.injEq] at h
    exact ⟨by omega, h.symm⟩
  | n + 1, p, j + 1, v, h => by
    have h : (concs φ (rowPs (numQ q) [.u32] n (p + 1)))[j]? = some v := h
    obtain ⟨h1, h2⟩ := qcell φ q n (p + 1) j v h
    exact ⟨by omega, by rw [h2, show p + 1 + j = p + (j + 1) by omega]⟩
theorem rcell {c : Cells} {xs : Nat → Atom} {φ : Loc} {V : Nat → Value} : ∀ (m i : Nat), (∀ k, i ≤ k → k < i + m → Value.int .i64 (zA c (k * 5)) = V (k * 5) ∧ Value.string (sA c (k * 5 + 1)) = V (k * 5 + 1) ∧ Value.string (sA c (k * 5 + 2)) = V (k * 5 + 2) ∧ Value.string (sA c (k * 5 + 3)) = V (k * 5 + 3) ∧ (xs k).conc φ = V (k * 5 + 4)) →
    ∀ j v, (concs φ (rowsX c xs m i))[j]? = some v → j < m * 5 ∧ v = V (i * 5 + j)
  | 0, i, _, j, v, h => by simp [rowsX, concs] at h
  | m + 1, i, hk, j, v, h => by
    obtain ⟨e0, e1, e2, e3, e4⟩ := hk i (Nat.le_refl _) (by omega)
    have hr : concs φ (rowX c (xs i) (i * 5)) = [V (i * 5), V (i * 5 + 1), V (i * 5 + 2), V (i * 5 + 3), V (i * 5 + 4)] := by
      rw [← e0, ← e1, ← e2, ← e3, ← e4]; rfl
    simp only [rowsX, concs_append, hr] at h
    match j, h with
    | 0, h => simp at h; exact ⟨by omega, h.symm⟩
    | 1, h => simp at h; exact ⟨by omega, h.symm⟩
    | 2, h => simp at h; exact ⟨by omega, h.symm⟩
    | 3, h => simp at h; exact ⟨by omega, h.symm⟩
    | 4, h => simp at h; exact ⟨by omega, h.symm⟩
    | j + 5, h =>
      have h : (concs φ (rowsX c xs m (i + 1)))[j]? = some v := by simpa using h
      obtain ⟨h1, h2⟩ := rcell m (i + 1) (fun k h1 h2 => hk k (by omega) (by omega)) j v h
      exact ⟨by omega, by rw [h2, show (i + 1) * 5 + j = i * 5 + (j + 5) by omega]⟩
theorem rows_of {W : World} {B : Nat} (hB : B ≤ BB) {v : Value} (h : OpenA W B v) : v = .slice none 0 0 ∨ ∃ c s l len cap φ, Rows W c s l len φ ∧ v = (V1.one (.sl 0 0 len cap)).conc φ := by
  rcases h with rfl | ⟨V, len, cap, b, off, nl, q, rfl, hl, hc, hlB, hb, hV, hrow⟩
  · exact .inl rfl
  right
  classical
  let lv : Nat → Bool := fun i => decide (i < len) && decide (0 < nl i)
  have hsub : ∀ i, lv i = true → ∃ b p cap, V (i * 5 + 4) = .slice (some ⟨b, p, none⟩) (nl i) cap ∧ b < W.heap.size ∧ ∀ j, j < nl i → W.cell? ⟨b, p + j, none⟩ = some (.int .u32 (q i j : Int)) := by
    intro i hi
    simp only [lv, Bool.and_eq_true, decide_eq_true_eq] at hi
    obtain ⟨_, _, _, _, _, _, _, hs⟩ := hrow i hi.1
    rcases hs with ⟨h0, _⟩ | ⟨b, p, cap, h1, _, _, _, _, h2, h3⟩
    · omega
    · exact ⟨b, p, cap, h1, h2, fun j hj => (h3 j hj).2⟩
  let s : Sub := ⟨lv, nl, fun i => match V (i * 5 + 4) with | .slice _ _ k => k | _ => 0, fun i => match V (i * 5 + 4) with | .slice o _ _ => o | _ => none, q⟩
  let l : Lits := ⟨fun _ => none, fun off => nl ((off - 4) / 5), fun _ => 0⟩
  let c : Cells := cellsOf V
  let φ : Loc := fun i => if i = 0 then (b, off, 0) else match s.lv (i - 1) with | true => (match s.o (i - 1) with | some a => (a.block, a.off, 0) | none => (b, off, 0)) | false => (b, off, 0)
  have hln : ∀ j, l.n (0 + j * 5 + 4) = nl j := by
    intro j
    show nl ((0 + j * 5 + 4 - 4) / 5) = nl j
    rw [show (0 + j * 5 + 4 - 4) / 5 = j by omega]
  have hstr : ∀ p, HasK 1 (V p) → Value.string (sA c p) = V p := by
    rintro p ⟨x, hx, _⟩
    show Value.string (match V p with | .string s => s | _ => ByteArray.empty) = _
    rw [hx]
  have hssz : ∀ p, HasK 1 (V p) → SzV B (V p) → (sA c p).size ≤ BB := by
    rintro p ⟨x, hx, _⟩ hs
    have : sA c p = x := by
      show (match V p with | .string s => s | _ => ByteArray.empty) = _
      rw [hx]
    rw [this]
    exact Nat.le_trans (hs x hx) hB
  have hint : ∀ p, HasK 5 (V p) → Value.int .i64 (zA c p) = V p := by
    rintro p ⟨x, hx, _⟩
    show Value.int .i64 (match V p with | .int _ z => z | _ => 0) = _
    rw [hx]
  have hlit0 : ∀ j, j < len → V (j * 5 + 4) = .slice (s.o j) (nl j) (s.k j) := by
    intro j hj
    obtain ⟨_, _, _, _, _, _, _, hs⟩ := hrow j hj
    rcases hs with ⟨h0, o, cp, h1⟩ | ⟨b, p, cp, h1, _⟩
    · simp only [s, h1, h0]
    · simp only [s, h1]
  have hxs : ∀ j, j < len → (xsS s j).conc φ = V (j * 5 + 4) := by
    intro j hj
    rw [hlit0 j hj]
    unfold xsS
    cases hv : s.lv j with
    | false => rfl
    | true =>
      cases h4 : Nat.blt j 4 with
      | false => rfl
      | true =>
        obtain ⟨b', p', cp', h1, _⟩ := hsub j hv
        have ho : s.o j = some ⟨b', p', none⟩ := by simp only [s, h1]
        have hφ : φ (j + 1) = (b', p', 0) := by
          simp only [φ, Nat.add_one_ne_zero, if_false, Nat.add_sub_cancel, hv, ho]
        rw [ho]
        show Value.slice (some ⟨(φ (j + 1)).1, (φ (j + 1)).2.1 + 0, none⟩) (s.n j) (s.k j) = _
        rw [hφ]
        rfl
  refine ⟨c, s, l, len, cap, φ, ⟨?_, ⟨Nat.le_trans hlB hB, ?_⟩, ?_, ?_, ?_⟩, ?_⟩
  · intro i hi hf
    have : ¬ 0 < nl i := by
      intro h0
      have : lv i = true := by simp [lv, hi, h0]
      rw [show s.lv i = lv i from rfl, this] at hf; cases hf
    show nl i = 0
    omega
  · intro i hi
    obtain ⟨_, a1, a2, a3, b1, b2, b3, hs⟩ := hrow i hi
    rw [Nat.zero_add]
    refine ⟨hssz _ a1 b1, hssz _ a2 b2, hssz _ a3 b3, ?_⟩
    have := hln i
    rw [Nat.zero_add] at this
    rw [this]
    rcases hs with ⟨h0, _⟩ | ⟨_, _, _, _, _, _, _, hn, _⟩
    · rw [h0]; exact Nat.zero_le _
    · exact Nat.le_trans hn hB
  · intro i hi
    obtain ⟨_, a1, _, _, b1, _⟩ := hrow i hi
    exact hssz _ a1 b1
  · intro φ' j hj
    rw [hln j]
    unfold xsS
    cases s.lv j with
    | false => exact ⟨_, _, rfl⟩
    | true =>
      cases Nat.blt j 4 with
      | false => exact ⟨_, _, rfl⟩
      | true => exact ⟨_, _, rfl⟩
  · have hblk : ∀ j, j < 4 → (φ (j + 1)).1 < W.heap.size ∧ ∀ (i : Nat) (v : Value), (concs φ (psS s j))[i]? = some v → W.cell? ⟨(φ (j + 1)).1, (φ (j + 1)).2.1 + i, none⟩ = some v := by
      intro j _
      cases hv : s.lv j with
      | false =>
        have hφ : φ (j + 1) = (b, off, 0) := by simp only [φ, Nat.add_one_ne_zero, if_false, Nat.add_sub_cancel, hv]
        rw [hφ]
        refine ⟨hb, fun i v h => ?_⟩
        unfold psS at h
        rw [hv] at h
        simp [concs] at h
      | true =>
        obtain ⟨b', p', cp', h1, h2, h3⟩ := hsub j hv
        have ho : s.o j = some ⟨b', p', none⟩ := by simp only [s, h1]
        have hφ : φ (j + 1) = (b', p', 0) := by simp only [φ, Nat.add_one_ne_zero, if_false, Nat.add_sub_cancel, hv, ho]
        rw [hφ]
        refine ⟨h2, fun i v h => ?_⟩
        unfold psS at h
        rw [hv] at h
        obtain ⟨h4, rfl⟩ := qcell φ (s.q j) (s.n j) 0 i v h
        rw [Nat.zero_add]
        exact h3 i h4
    refine MRel.ofRo (Below.refl _ _) ?_ ?_ ?_
    · intro i x hx
      match i, hx with
      | 0, hx => simp only [MW, MR, List.getElem?_cons_zero, Option.some.injEq] at hx; subst hx; rfl
      | 1, hx => simp only [MW, MR, List.getElem?_cons_succ, List.getElem?_cons_zero, Option.some.injEq] at hx; subst hx; rfl
      | 2, hx => simp only [MW, MR, List.getElem?_cons_succ, List.getElem?_cons_zero, Option.some.injEq] at hx; subst hx; rfl
      | 3, hx => simp only [MW, MR, List.getElem?_cons_succ, List.getElem?_cons_zero, Option.some.injEq] at hx; subst hx; rfl
      | 4, hx => simp only [MW, MR, List.getElem?_cons_succ, List.getElem?_cons_zero, Option.some.injEq] at hx; subst hx; rfl
      | i + 5, hx => simp [MW, MR] at hx
    · intro i x hx
      match i, hx with
      | 0, hx =>
        simp only [MW, MR, List.getElem?_cons_zero, Option.some.injEq] at hx; subst hx
        refine ⟨hb, fun j v hv => ?_⟩
        have hv : (concs φ (rowsX c (xsS s) len 0))[j]? = some v := hv
        obtain ⟨h1, rfl⟩ := rcell (V := V) len 0 (fun k _ hk => by
          obtain ⟨a0, a1, a2, a3, _⟩ := hrow k (by omega)
          exact ⟨hint _ a0, hstr _ a1, hstr _ a2, hstr _ a3, hxs k (by omega)⟩) j v hv
        rw [Nat.zero_mul, Nat.zero_add]
        exact hV j h1
      | 1, hx => simp only [MW, MR, List.getElem?_cons_succ, List.getElem?_cons_zero, Option.some.injEq] at hx; subst hx; exact hblk 0 (by omega)
      | 2, hx => simp only [MW, MR, List.getElem?_cons_succ, List.getElem?_cons_zero, Option.some.injEq] at hx; subst hx; exact hblk 1 (by omega)
      | 3, hx => simp only [MW, MR, List.getElem?_cons_succ, List.getElem?_cons_zero, Option.some.injEq] at hx; subst hx; exact hblk 2 (by omega)
      | 4, hx => simp only [MW, MR, List.getElem?_cons_succ, List.getElem?_cons_zero, Option.some.injEq] at hx; subst hx; exact hblk 3 (by omega)
      | i + 5, hx => simp [MW, MR] at hx
    · have := memWf_mr (c := c) (m := len) (N := 5) (Nat.le_refl _) (xsS_ok s) (psS_free s 0) (psS_free s 1) (psS_free s 2) (psS_free s 3) [] rfl
      rw [List.append_nil] at this
      exact this
  · rfl
theorem ob9_ok {W : World} {c : Cells} {s : Sub} {l : Lits} {m : Nat} {φ : Loc} (h : Rows W c s l m φ) : All (ob9 c s l m) := ⟨rfl, rfl, rfl, h.sz, h.lit, trivial⟩
theorem law4 {H : Type} {enc : TypeId × Value → H} {r : Reach} {W : World} {base : Nat} {v : Value} {d : DataW H} {ps : List MemPlace} (hval : Value.okWide Tryz.prog W r base 22 v) (h : DataW.Trod enc Tryz.prog W 0 (fun _ => true) true 22 v d ps) (hwt : ∀ n ∈ d.weights Tryz.prog 22, n ≤ BB) :
    Calls Tryz.prog 4 #[v] W (Trues W) := by
  rcases rows_of (Nat.le_refl _) (ask_open u22 u28 rfl rfl rfl rfl cf0 cf1 cf2 cf3 c28 kf0 kf1 kf2 uf3 k32 c32 b32 b28 hval h hwt) with rfl | ⟨c, s, l, m, cap, φ, hR, rfl⟩
  · exact law_runMD (φ := fun _ => (0, 0, 0)) envWn (w4n msF) ⟨rfl, by decide, trivial⟩ ⟨Below.refl _ _, by simp, by simp, by simp, by simp, by simp⟩ rfl
  · have hE := envWy (l := l) (cap := cap) (z := 1) (.inl rfl) hR.ok hR.sd
    cases hv : decide (2000 < hvX c l m 0 (m : Int)) with
    | true => exact law_runMD hE (w4t msF c s l m cap) (All_ap ⟨hv, trivial⟩ (ob9_ok hR)) hR.rel rfl
    | false => exact law_runMD hE (w4f msF c s l m cap) (All_ap3 ⟨hv, trivial⟩ (ob9_ok hR) ⟨rfl, rfl, wfTO _ _ _ _ _ _, trivial⟩) hR.rel rfl
theorem law5 {H : Type} {enc : TypeId × Value → H} {r : Reach} {W : World} {base : Nat} {v : Value} {d : DataW H} {ps : List MemPlace} (hval : Value.okWide Tryz.prog W r base 22 v) (h : DataW.Trod enc Tryz.prog W 0 (fun _ => true) true 22 v d ps) (hwt : ∀ n ∈ d.weights Tryz.prog 22, n ≤ BB) :
    Calls Tryz.prog 5 #[v] W (Trues W) := by
  rcases rows_of (Nat.le_refl _) (ask_open u22 u28 rfl rfl rfl rfl cf0 cf1 cf2 cf3 c28 kf0 kf1 kf2 uf3 k32 c32 b32 b28 hval h hwt) with rfl | ⟨c, s, l, m, cap, φ, hR, rfl⟩
  · exact law_runMD (φ := fun _ => (0, 0, 0)) envWn (w5n msF) ⟨rfl, by decide, trivial⟩ ⟨Below.refl _ _, by simp, by simp, by simp, by simp, by simp⟩ rfl
  · have hE := envWy (l := l) (cap := cap) (z := 2) (.inr rfl) hR.ok hR.sd
    cases hv : decide (2000 < hvX c l m 0 (m : Int)) with
    | true => exact law_runMD hE (w5t msF c s l m cap) (All_ap ⟨hv, trivial⟩ (ob9_ok hR)) hR.rel rfl
    | false => exact law_runMD hE (w5f msF c s l m cap) (All_ap3 ⟨hv, trivial⟩ (ob9_ok hR) ⟨rfl, rfl, wfTO _ _ _ _ _ _, trivial⟩) hR.rel rfl
end Go.Ev.H5

namespace Go.Proofs.YtfcobjhnkghdjaaGreat.Laws
open Go Go.Ev Go.Ev.H5 Go.RowKit Go.ChangeShapes Go.WideShapes Go.ChangeAt

set_option maxRecDepth 100000 in
theorem lifted5 (os : Os) (started : os.Started) (H : Type) (enc : TypeId × Value → H) :
    ReturnsInHanded {} Tryz.checked os 5 .any (Rows.slipPSpec.pre6 enc Tryz.prog Tryz.f5 Rows.slipPRow.domain false) (Rows.slipPSpec.post enc Tryz.prog Tryz.f5 false true false false) := by
  refine returnsInHanded_of_change_sized (C := Tryz.checked) own started (by kernel_rfl) Tryz.func5
    (ChangeSpec.witness6 (enc := enc) (C := Tryz.checked) false ⟨#[], #[.slice none 0 0], []⟩ 8 (by kernel_rfl) (by kernel_rfl) (by kernel_rfl) (by kernel_rfl)) ?_
  intro W base args ds gs before hval0 hW _ hsz0 _
  have hsz : (DataW.weightsEach Tryz.prog (Tryz.f5.params.toList ++ Rows.slipPSpec.plain.varTypes Tryz.prog) (ds ++ gs)).all (· ≤ reachBytes) = true := hsz0
  clear hsz0
  have hval : ∀ (j : Nat) t v, Tryz.f5.params[j]? = some t → args[j]? = some v → Value.okWide Tryz.prog W .any base t v := hval0
  have hW' := hW
  obtain ⟨p, q, hA0, hV, hbef, hfz, hnd⟩ := hW
  have hp : Tryz.f5.params = #[22] := by kernel_rfl
  have hA : DataW.TrodAll enc Tryz.prog W 0 (fun _ => true) true Tryz.f5.params.toList args.toList ds p := hA0
  rw [hp] at hA hval
  obtain ⟨v0, d0, rfl, rfl, h0⟩ := trodAll_one hA
  obtain ⟨rfl, rfl⟩ := trodVars_none hV
  refine (law5 (hval 0 22 v0 rfl rfl) h0 (fun n hn => by simpa using List.all_eq_true.1 hsz n (DataW.weights_mem_each (j := 0) (t := 22) (by rw [hp]; rfl) rfl n hn))).mono ?_
  rintro e W' ⟨rfl, hb⟩
  exact ⟨_, rfl, post_true (tb := 4) rfl hp (by kernel_rfl) u4 laid rd22 row22 rfl rfl hW' hb⟩

theorem holds5 : Rows.SlipPSaid :=
  OpenClaim.holds_of_wide 5 Tryz.f5 rfl rfl rfl rfl rfl rfl rfl ⟨rfl, rfl, rfl, rfl, rfl⟩ rfl rfl rfl rfl rfl (by kernel_rfl) Tryz.func5 (by kernel_rfl)
    (of_decide_eq_true (by kernel_rfl)) (by unfold Func.isWrapper; first | (rw [if_pos (by decide +kernel)]; kernel_rfl) | (rw [if_neg (by decide +kernel)]; exact ⟨rfl, rfl⟩))
    (fun os started H enc _ => lifted5 os started H enc)

end Go.Proofs.YtfcobjhnkghdjaaGreat.Laws

namespace Go.Proofs.YtfcobjhnkghdjaaGreat
open Go
theorem slipP_holds : Rows.SlipPSaid := Laws.holds5
end Go.Proofs.YtfcobjhnkghdjaaGreat

