/- Keyed sums, nodes, and the law, of every input; An evaluator of the model's code with values known in part, and its soundness; Sums of numbers, bytes, and spots; The group of the spots; Z -/
import Derived.Test.YtfcobjhnkghdjaaGreatPartS
import Derived.Test.YtfcobjhnkghdjaaGreatPartL
import Derived.Deep.Strs
import Derived.Test.YtfcobjhnkghdjaaGreatPartN
import Derived.KernelRfl
namespace Go.Ev.H5
open Go Go.Proofs Go.RowKit
set_option maxRecDepth 100000
end Go.Ev.H5

namespace Go.Ev.H5
open Go Go.Proofs Go.RowKit
set_option maxRecDepth 100000
theorem bb_self (K : ByteArray) : (K == K) = true := by
 cases K with | mk a => exact (beq_self_eq_true a : (a == a) = true)
theorem eqS_self (K C : ByteArray) : (!eqS K C K C) = false := by unfold eqS; rw [bb_self, bb_self]; rfl
def XsOk (xs : Nat → Atom) : Prop := ∀ k n, 5 ≤ n → allPtr (fun b => Nat.blt b n) [.a (xs k)] = true
theorem sl_ok {J n k N : Nat} (hJ : J < 5) (hN : 5 ≤ N) : allPtr (fun b => Nat.blt b N) [.a (.sl J 0 n k)] = true := by
 simp only [allPtr, Bool.and_true]
 rw [Nat.blt]; exact Nat.ble_eq_true_of_le (by omega)
theorem memWf_mr {c : Cells} {xs : Nat → Atom} {m : Nat} {p1 p2 p3 p4 : List Piece} {N : Nat} (hN : 5 ≤ N) (hx : XsOk xs) (h1 : Free (roB p1)) (h2 : Free (roB p2)) (h3 : Free (roB p3)) (h4 : Free (roB p4)) (l : List Blk) (hl : memWf N l = true) : memWf N (MR c xs m p1 p2 p3 p4 ++ l) = true := by
 simp only [MR, List.cons_append, List.nil_append, memWf, h1 _, h2 _, h3 _, h4 _, hl, Bool.and_true]
 exact rowsX_ptr _ _ _ _ _ fun k _ => hx _ _ hN
theorem wfR5 {c : Cells} {xs : Nat → Atom} {m : Nat} {p1 p2 p3 p4 : List Piece} {t : Nat} {s : List (Nat × AV)} (hx : XsOk xs) (h1 : Free (roB p1)) (h2 : Free (roB p2)) (h3 : Free (roB p3)) (h4 : Free (roB p4)) (h : tmsWf 5 (slots t s) = true) : wfS (slots t s) (MR c xs m p1 p2 p3 p4) = true := by
 have := memWf_mr (c := c) (m := m) (N := 5) (Nat.le_refl _) hx h1 h2 h3 h4 [] rfl
 rw [List.append_nil] at this
 unfold wfS
 rw [show (MR c xs m p1 p2 p3 p4).length = 5 from rfl, h, this]; rfl
theorem qPs_free (q : Nat → Nat) (n : Nat) : Free (roB (qPs q n)) := fun f => row_free _ _ f _ _
end Go.Ev.H5

namespace Go.Ev.H5
open Go Go.Proofs Go.RowKit
set_option maxRecDepth 100000
end Go.Ev.H5

namespace Go.Ev
open Go Go.RowKit Go.ChangeShapes Go.WideShapes Go.ChangeAt
section
variable {P : Program}
end
end Go.Ev

namespace Go.Ev.H5
open Go Go.Proofs Go.RowKit
set_option maxRecDepth 100000
noncomputable abbrev yW : Code := bodyOf Tryz.prog 15 4
structure Sub where
 lv : Nat → Bool
 n : Nat → Nat
 k : Nat → Nat
 o : Nat → Option Addr
 q : Nat → Nat → Nat
def xsS (s : Sub) : Nat → Atom := fun j => bif s.lv j && Nat.blt j 4 then .sl (j + 1) 0 (s.n j) (s.k j) else .v (.slice (s.o j) (s.n j) (s.k j))
def psS (s : Sub) (j : Nat) : List Piece := bif s.lv j then qPs (s.q j) (s.n j) else []
def MW (c : Cells) (s : Sub) (m : Nat) : List Blk := MR c (xsS s) m (psS s 0) (psS s 1) (psS s 2) (psS s 3)
theorem psS_free (s : Sub) (j : Nat) : Free (roB (psS s j)) := by
 unfold psS
 cases s.lv j with
 | true => exact qPs_free _ _
 | false => exact fun _ => rfl
theorem xsS_ok (s : Sub) : XsOk (xsS s) := by
 intro j n hn
 unfold xsS
 cases s.lv j with
 | false => rfl
 | true =>
  cases h : Nat.blt j 4 with
  | false => rfl
  | true =>
   rw [Nat.blt] at h
   have := Nat.le_of_ble_eq_true h
   exact sl_ok (by omega) hn
def SubOk (s : Sub) (m : Nat) : Prop := ∀ i, i < m → s.lv i = false → s.n i = 0
end Go.Ev.H5

namespace Go.Ev.H5
open Go Go.Proofs Go.RowKit
set_option maxRecDepth 100000
def fmW (c : Cells) (xs : Nat → Atom) (l : Lits) (m : Nat) : FuncId → List V1 → List (Option Blk) → Option (List Prop × AV) := fun f vs bs => match f with
 | 9 => fm9 c xs l m vs bs
 | _ => none
theorem fmW_ok (c : Cells) (xs : Nat → Atom) (l : Lits) (m : Nat) : ∀ f vs mem ob r, fmW c xs l m f vs (blks mem vs) = some (ob, r) → All ob → ∀ w0 φ w, MRel w0 φ mem w → Calls Tryz.prog f (vs.map (V1.conc φ)).toArray w fun e w' => e = .returned (r.conc φ) ∧ Below w.heap.size w w' := by
 intro f vs mem ob r h ho w0 φ w hm
 unfold fmW at h
 split at h
 ·exact fm9_ok h ho hm
 ·simp at h
noncomputable def addM' (E : Env) (g : FuncId → List V1 → List (Option Blk) → Option (List Prop × AV)) : Env := { E with fm := g }
theorem envAddM' {E : Env} (hE : EnvOK E) {g : FuncId → List V1 → List (Option Blk) → Option (List Prop × AV)} (h : ∀ f vs mem ob r, g f vs (blks mem vs) = some (ob, r) → All ob → ∀ w0 φ w, MRel w0 φ mem w → Calls E.P f (vs.map (V1.conc φ)).toArray w fun e w' => e = .returned (r.conc φ) ∧ Below w.heap.size w w') : EnvOK (addM' E g) :=
 ⟨hE.mixed, hE.fns, h, hE.lps, hE.fbs⟩
def ob9 (c : Cells) (s : Sub) (l : Lits) (m : Nat) : List Prop := [true = true, rowsX c (xsS s) m 0 = rowsX c (xsS s) m 0, m = m, SzX c l m, ∀ φ : Loc, ∀ j, j < m → ∃ o cap, (xsS s j).conc φ = .slice o (l.n (0 + j * 5 + 4)) cap]
def nilV : V1 := .one (.v (.slice none 0 0))
noncomputable def S9n : FuncId → Nat → Bool := fun f t => match f with | 9 => memN t [10, 13] | _ => false
noncomputable def E9n : Env := mkE [] S9n
theorem r9n : callR E9n 1000 9 [nilV] [false] = some ([decide ((0 : Int) < ((0 : Nat) : Int)) = false], bV false) := by kernel_rfl
theorem nil9 : Spec 9 [nilV] (bV false) := spec_run (envMk (L := []) trivial S9n) rfl r9n ⟨by decide, trivial⟩ rfl rfl
def fnN9 (vs : List V1) : Option (List Prop × AV) := match vs with | [.one (.v (.slice none 0 0))] => some ([], bV false) | _ => none
theorem ctN9 : CTok ⟨9, fnN9⟩ := by
 intro vs ob r h _
 simp only [fnN9] at h
 split at h
 ·simp only [Option.some.injEq, Prod.mk.injEq] at h
  obtain ⟨rfl, rfl⟩ := h
  exact nil9
 ·simp at h
theorem u22 : Tryz.prog.underlying 22 = some (.slice 28) := by kernel_rfl
end Go.Ev.H5

namespace Go.Ev.H5
open Go Go.Proofs Go.RowKit
set_option maxRecDepth 100000
def f0 : Field := { name := "Curve", type := 3, offset := 0, embedded := false, tag := "", pkgPath := "", byteOffset := 0 }
def f1 : Field := { name := "Seed", type := 9, offset := 1, embedded := false, tag := "", pkgPath := "", byteOffset := 8 }
def f2 : Field := { name := "N", type := 25, offset := 2, embedded := false, tag := "", pkgPath := "", byteOffset := 24 }
def f3 : Field := { name := "L", type := 26, offset := 4, embedded := false, tag := "", pkgPath := "", byteOffset := 56 }
theorem u28 : Tryz.prog.underlying 28 = some (.struct #[f0, f1, f2, f3]) := by kernel_rfl
theorem c28 : Tryz.prog.cellsOf 28 = 5 := by kernel_rfl
theorem cf0 : Tryz.prog.cellsOf f0.type = 1 := by kernel_rfl
theorem cf1 : Tryz.prog.cellsOf f1.type = 1 := by kernel_rfl
theorem cf2 : Tryz.prog.cellsOf f2.type = 2 := by kernel_rfl
theorem cf3 : Tryz.prog.cellsOf f3.type = 1 := by kernel_rfl
theorem kf0 : kindsT Tryz.prog 20 f0.type = some [5] := by kernel_rfl
theorem kf1 : kindsT Tryz.prog 20 f1.type = some [1] := by kernel_rfl
theorem kf2 : kindsT Tryz.prog 20 f2.type = some [1, 1] := by kernel_rfl
theorem uf3 : Tryz.prog.underlying f3.type = some (.slice 32) := by kernel_rfl
theorem k32 : kindsT Tryz.prog 20 32 = some [8] := by kernel_rfl
theorem c32 : Tryz.prog.cellsOf 32 = 1 := by kernel_rfl
theorem b32 : 0 < Tryz.prog.bytesOf 32 := of_decide_eq_true (by kernel_rfl)
theorem b28 : 0 < Tryz.prog.bytesOf 28 := of_decide_eq_true (by kernel_rfl)
theorem rd22 : Tryz.prog.readableRec 22 = true := by kernel_rfl
theorem row22 : (22 : Nat) < Tryz.prog.types.size := of_decide_eq_true (by kernel_rfl)
theorem law_runMD {E : Env} (hE : EnvOK E) {n : Nat} {f : FuncId} {v : V1} {M : List Blk} {c : List Bool} {ob : List Prop}
  (h : dropM (callBy E (evalC E n) f [v] M c) = some (ob, bV true)) (ho : All ob) {w : World} {φ : Loc} (hm : MRel w φ M w) (hv : v.wf M.length = true) : Calls E.P f #[v.conc φ] w (Trues w) := by
 obtain ⟨c', m', h'⟩ := dropM_some h
 exact law_runM hE h' ho hm hv
structure Rows (W : World) (c : Cells) (s : Sub) (l : Lits) (m : Nat) (φ : Loc) : Prop where
 ok : SubOk s m
 sz : SzX c l m
 sd : ∀ i, i < m → (sA c (i * 5 + 1)).size ≤ BB
 lit : ∀ φ : Loc, ∀ j, j < m → ∃ o cap, (xsS s j).conc φ = .slice o (l.n (0 + j * 5 + 4)) cap
 rel : MRel W φ (MW c s m) W
 cp : ∀ i, s.lv i = true → s.n i ≤ s.k i
theorem qcell (φ : Loc) (q : Nat → Nat) : ∀ (n p j : Nat) (v : Value), (concs φ (rowPs (numQ q) [.u32] n p))[j]? = some v → j < n ∧ v = .int .u32 (q (p + j) : Int)
 | 0, p, j, v, h => by simp [rowPs, concs] at h
 | n + 1, p, 0, v, h => by
  simp only [rowPs, fldPs, SK.pc, List.cons_append, List.nil_append, concs, Piece.conc, Atom.conc, List.getElem?_cons_zero, Option.some.injEq] at h
  exact ⟨by omega, h.symm⟩
 | n + 1, p, j + 1, v, h => by
  have h : (concs φ (rowPs (numQ q) [.u32] n (p + 1)))[j]? = some v := h
  obtain ⟨h1, h2⟩ := qcell φ q n (p + 1) j v h
  exact ⟨by omega, by rw [h2, show p + 1 + j = p + (j + 1) by omega]⟩
theorem rcell {c : Cells} {xs : Nat → Atom} {φ : Loc} {V : Nat → Value} : ∀ (m i : Nat), (∀ k, i ≤ k → k < i + m → Value.int .i64 (zA c (k * 5)) = V (k * 5) ∧ Value.string (sA c (k * 5 + 1)) = V (k * 5 + 1) ∧ Value.string (sA c (k * 5 + 2)) = V (k * 5 + 2) ∧ Value.string (sA c (k * 5 + 3)) = V (k * 5 + 3) ∧ (xs k).conc φ = V (k * 5 + 4)) →
  ∀ j v, (concs φ (rowsX c xs m i))[j]? = some v → j < m * 5 ∧ v = V (i * 5 + j)
 | 0, i, _, j, v, h => by simp [rowsX, concs] at h
 | m + 1, i, hk, j, v, h => by
  obtain ⟨e0, e1, e2, e3, e4⟩ := hk i (Nat.le_refl _) (by omega)
  have hr : concs φ (rowX c (xs i) (i * 5)) = [V (i * 5), V (i * 5 + 1), V (i * 5 + 2), V (i * 5 + 3), V (i * 5 + 4)] := by
   rw [← e0, ← e1, ← e2, ← e3, ← e4]; rfl
  simp only [rowsX, concs_append, hr] at h
  match j, h with
  | 0, h => simp at h; exact ⟨by omega, h.symm⟩
  | 1, h => simp at h; exact ⟨by omega, h.symm⟩
  | 2, h => simp at h; exact ⟨by omega, h.symm⟩
  | 3, h => simp at h; exact ⟨by omega, h.symm⟩
  | 4, h => simp at h; exact ⟨by omega, h.symm⟩
  | j + 5, h =>
   have h : (concs φ (rowsX c xs m (i + 1)))[j]? = some v := by simpa using h
   obtain ⟨h1, h2⟩ := rcell m (i + 1) (fun k h1 h2 => hk k (by omega) (by omega)) j v h
   exact ⟨by omega, by rw [h2, show (i + 1) * 5 + j = i * 5 + (j + 5) by omega]⟩
theorem rows_of {W : World} {B : Nat} (hB : B ≤ BB) {v : Value} (h : OpenA W B v) : v = .slice none 0 0 ∨ ∃ c s l len cap φ, Rows W c s l len φ ∧ v = (V1.one (.sl 0 0 len cap)).conc φ := by
 rcases h with rfl | ⟨V, len, cap, b, off, nl, q, rfl, hl, hc, hlB, hb, hV, hrow⟩
 ·exact .inl rfl
 right
 classical
 let lv : Nat → Bool := fun i => decide (i < len) && decide (0 < nl i)
 have hsub : ∀ i, lv i = true → ∃ b p cap, V (i * 5 + 4) = .slice (some ⟨b, p, none⟩) (nl i) cap ∧ b < W.heap.size ∧ (∀ j, j < nl i → W.cell? ⟨b, p + j, none⟩ = some (.int .u32 (q i j : Int))) ∧ nl i ≤ cap := by
  intro i hi
  simp only [lv, Bool.and_eq_true, decide_eq_true_eq] at hi
  obtain ⟨_, _, _, _, _, _, _, hs⟩ := hrow i hi.1
  rcases hs with ⟨h0, _⟩ | ⟨b, p, cap, h1, _, h5, _, _, h2, h3⟩
  ·omega
  ·exact ⟨b, p, cap, h1, h2, fun j hj => (h3 j hj).2, h5⟩
 let s : Sub := ⟨lv, nl, fun i => match V (i * 5 + 4) with | .slice _ _ k => k | _ => 0, fun i => match V (i * 5 + 4) with | .slice o _ _ => o | _ => none, q⟩
 let l : Lits := ⟨fun _ => none, fun off => nl ((off - 4) / 5), fun _ => 0⟩
 let c : Cells := cellsOf V
 let φ : Loc := fun i => if i = 0 then (b, off, 0) else match s.lv (i - 1) with | true => (match s.o (i - 1) with | some a => (a.block, a.off, 0) | none => (b, off, 0)) | false => (b, off, 0)
 have hln : ∀ j, l.n (0 + j * 5 + 4) = nl j := by
  intro j
  show nl ((0 + j * 5 + 4 - 4) / 5) = nl j
  rw [show (0 + j * 5 + 4 - 4) / 5 = j by omega]
 have hstr : ∀ p, HasK 1 (V p) → Value.string (sA c p) = V p := by
  rintro p ⟨x, hx, _⟩
  show Value.string (match V p with | .string s => s | _ => ByteArray.empty) = _
  rw [hx]
 have hssz : ∀ p, HasK 1 (V p) → SzV B (V p) → (sA c p).size ≤ BB := by
  rintro p ⟨x, hx, _⟩ hs
  have : sA c p = x := by
   show (match V p with | .string s => s | _ => ByteArray.empty) = _
   rw [hx]
  rw [this]
  exact Nat.le_trans (hs x hx) hB
 have hint : ∀ p, HasK 5 (V p) → Value.int .i64 (zA c p) = V p := by
  rintro p ⟨x, hx, _⟩
  show Value.int .i64 (match V p with | .int _ z => z | _ => 0) = _
  rw [hx]
 have hlit0 : ∀ j, j < len → V (j * 5 + 4) = .slice (s.o j) (nl j) (s.k j) := by
  intro j hj
  obtain ⟨_, _, _, _, _, _, _, hs⟩ := hrow j hj
  rcases hs with ⟨h0, o, cp, h1⟩ | ⟨b, p, cp, h1, _⟩
  ·simp only [s, h1, h0]
  ·simp only [s, h1]
 have hxs : ∀ j, j < len → (xsS s j).conc φ = V (j * 5 + 4) := by
  intro j hj
  rw [hlit0 j hj]
  unfold xsS
  cases hv : s.lv j with
  | false => rfl
  | true =>
   cases h4 : Nat.blt j 4 with
   | false => rfl
   | true =>
    obtain ⟨b', p', cp', h1, _⟩ := hsub j hv
    have ho : s.o j = some ⟨b', p', none⟩ := by simp only [s, h1]
    have hφ : φ (j + 1) = (b', p', 0) := by
     simp only [φ, Nat.add_one_ne_zero, if_false, Nat.add_sub_cancel, hv, ho]
    rw [ho]
    show Value.slice (some ⟨(φ (j + 1)).1, (φ (j + 1)).2.1 + 0, none⟩) (s.n j) (s.k j) = _
    rw [hφ]
    rfl
 refine ⟨c, s, l, len, cap, φ, ⟨?_, ⟨Nat.le_trans hlB hB, ?_⟩, ?_, ?_, ?_, ?_⟩, ?_⟩
 ·intro i hi hf
  have : ¬ 0 < nl i := by
   intro h0
   have : lv i = true := by simp [lv, hi, h0]
   rw [show s.lv i = lv i from rfl, this] at hf; cases hf
  show nl i = 0
  omega
 ·intro i hi
  obtain ⟨_, a1, a2, a3, b1, b2, b3, hs⟩ := hrow i hi
  rw [Nat.zero_add]
  refine ⟨hssz _ a1 b1, hssz _ a2 b2, hssz _ a3 b3, ?_⟩
  have := hln i
  rw [Nat.zero_add] at this
  rw [this]
  rcases hs with ⟨h0, _⟩ | ⟨_, _, _, _, _, _, _, hn, _⟩
  ·rw [h0]; exact Nat.zero_le _
  ·exact Nat.le_trans hn hB
 ·intro i hi
  obtain ⟨_, a1, _, _, b1, _⟩ := hrow i hi
  exact hssz _ a1 b1
 ·intro φ' j hj
  rw [hln j]
  unfold xsS
  cases s.lv j with
  | false => exact ⟨_, _, rfl⟩
  | true =>
   cases Nat.blt j 4 with
   | false => exact ⟨_, _, rfl⟩
   | true => exact ⟨_, _, rfl⟩
 ·have hblk : ∀ j, j < 4 → (φ (j + 1)).1 < W.heap.size ∧ ∀ (i : Nat) (v : Value), (concs φ (psS s j))[i]? = some v → W.cell? ⟨(φ (j + 1)).1, (φ (j + 1)).2.1 + i, none⟩ = some v := by
   intro j _
   cases hv : s.lv j with
   | false =>
    have hφ : φ (j + 1) = (b, off, 0) := by simp only [φ, Nat.add_one_ne_zero, if_false, Nat.add_sub_cancel, hv]
    rw [hφ]
    refine ⟨hb, fun i v h => ?_⟩
    unfold psS at h
    rw [hv] at h
    simp [concs] at h
   | true =>
    obtain ⟨b', p', cp', h1, h2, h3, _⟩ := hsub j hv
    have ho : s.o j = some ⟨b', p', none⟩ := by simp only [s, h1]
    have hφ : φ (j + 1) = (b', p', 0) := by simp only [φ, Nat.add_one_ne_zero, if_false, Nat.add_sub_cancel, hv, ho]
    rw [hφ]
    refine ⟨h2, fun i v h => ?_⟩
    unfold psS at h
    rw [hv] at h
    obtain ⟨h4, rfl⟩ := qcell φ (s.q j) (s.n j) 0 i v h
    rw [Nat.zero_add]
    exact h3 i h4
  refine MRel.ofRo (Below.refl _ _) ?_ ?_ ?_
  ·intro i x hx
   match i, hx with
   | 0, hx => simp only [MW, MR, List.getElem?_cons_zero, Option.some.injEq] at hx; subst hx; rfl
   | 1, hx => simp only [MW, MR, List.getElem?_cons_succ, List.getElem?_cons_zero, Option.some.injEq] at hx; subst hx; rfl
   | 2, hx => simp only [MW, MR, List.getElem?_cons_succ, List.getElem?_cons_zero, Option.some.injEq] at hx; subst hx; rfl
   | 3, hx => simp only [MW, MR, List.getElem?_cons_succ, List.getElem?_cons_zero, Option.some.injEq] at hx; subst hx; rfl
   | 4, hx => simp only [MW, MR, List.getElem?_cons_succ, List.getElem?_cons_zero, Option.some.injEq] at hx; subst hx; rfl
   | i + 5, hx => simp [MW, MR] at hx
  ·intro i x hx
   match i, hx with
   | 0, hx =>
    simp only [MW, MR, List.getElem?_cons_zero, Option.some.injEq] at hx; subst hx
    refine ⟨hb, fun j v hv => ?_⟩
    have hv : (concs φ (rowsX c (xsS s) len 0))[j]? = some v := hv
    obtain ⟨h1, rfl⟩ := rcell (V := V) len 0 (fun k _ hk => by
     obtain ⟨a0, a1, a2, a3, _⟩ := hrow k (by omega)
     exact ⟨hint _ a0, hstr _ a1, hstr _ a2, hstr _ a3, hxs k (by omega)⟩) j v hv
    rw [Nat.zero_mul, Nat.zero_add]
    exact hV j h1
   | 1, hx => simp only [MW, MR, List.getElem?_cons_succ, List.getElem?_cons_zero, Option.some.injEq] at hx; subst hx; exact hblk 0 (by omega)
   | 2, hx => simp only [MW, MR, List.getElem?_cons_succ, List.getElem?_cons_zero, Option.some.injEq] at hx; subst hx; exact hblk 1 (by omega)
   | 3, hx => simp only [MW, MR, List.getElem?_cons_succ, List.getElem?_cons_zero, Option.some.injEq] at hx; subst hx; exact hblk 2 (by omega)
   | 4, hx => simp only [MW, MR, List.getElem?_cons_succ, List.getElem?_cons_zero, Option.some.injEq] at hx; subst hx; exact hblk 3 (by omega)
   | i + 5, hx => simp [MW, MR] at hx
  ·have := memWf_mr (c := c) (m := len) (N := 5) (Nat.le_refl _) (xsS_ok s) (psS_free s 0) (psS_free s 1) (psS_free s 2) (psS_free s 3) [] rfl
   rw [List.append_nil] at this
   exact this
 ·intro i hi
  obtain ⟨b', p', cp', h1, _, _, h5⟩ := hsub i hi
  show nl i ≤ (match V (i * 5 + 4) with | .slice _ _ k => k | _ => 0)
  rw [h1]
  exact h5
 ·rfl
theorem ob9_ok {W : World} {c : Cells} {s : Sub} {l : Lits} {m : Nat} {φ : Loc} (h : Rows W c s l m φ) : All (ob9 c s l m) := ⟨rfl, rfl, rfl, h.sz, h.lit, trivial⟩
end Go.Ev.H5

namespace Go.Ev
open Go Go.Proofs Go.RowKit
structure J3 where
 x : Nat
 y : Nat
 z : Nat
def J3.lt (p : J3) : Prop := p.x < modN 1 ∧ p.y < modN 1 ∧ p.z < modN 1
def w3V (p : J3) : V1 := .agg [.num 8 p.x, .num 8 p.y, .num 8 p.z]
def aJ : Arg := .s [.n8, .n8, .n8]
noncomputable def lawV : V1 := .agg [.num 8 (modN 1), .a (.u .u32 (facN 1)), .num 8 wBi]
theorem wBi_lt : wBi < modN 1 := inN_lt (modN_pos 1)
noncomputable def mcr (a b c d ac bd : Nat) : Nat := subM (modN 1) (mmN (modN 1) (addM (modN 1) a b) (addM (modN 1) c d)) (addM (modN 1) ac bd)
noncomputable def mtr (a : Nat) : Nat := addM (modN 1) (addM (modN 1) a a) a
theorem mcr_lt {a b c d ac bd : Nat} : mcr a b c d ac bd < modN 1 := subM_lt (modN_pos 1)
theorem mtr_lt {a : Nat} : mtr a < modN 1 := addM_lt (modN_pos 1)
theorem wi40 (a : Nat) : callR (mkE L3a noS) 1000 95 [] [] =
  some ([(0 : Int) ≤ (1 : Int) ∧ (1 : Int) < (4 : Int), modN 1 < 4294967296 ^ 8, 0 < modN 1, wBN < 4294967296 ^ 8], .val lawV) := by kernel_rfl
theorem spec40w : Spec 95 [] (.val lawV) := by
 have h0 := wBN_lt
 exact spec_run (envMk L3a_ok noS) rfl (wi40 0) ⟨(by decide), (modN_lt _), (modN_pos _), (by first | with_reducible assumption | with_reducible exact L8 (by with_reducible assumption) | exact decide_eq_true (by omega) | exact decide_eq_false (by omega) | omega), trivial⟩ rfl rfl
noncomputable def wLift (x y : Nat) (i : Bool) : J3 := bif i then ⟨0, inN (modN 1) 1, 0⟩ else ⟨inN (modN 1) x, inN (modN 1) y, inN (modN 1) 1⟩
theorem wLift_lt (x y : Nat) (i : Bool) : (wLift x y i).lt := by
 have hp := modN_pos 1
 cases i
 ·exact ⟨inN_lt hp, inN_lt hp, inN_lt hp⟩
 ·exact ⟨hp, inN_lt hp, hp⟩
theorem wi44i (x : Nat) (y : Nat) : callR (mkE L3a noS) 1000 98 [lawV, P3 x y true] [] =
  some ([modN 1 < 4294967296 ^ 8, 0 < modN 1, 1 < 4294967296, 0 < 4294967296, 0 < 4294967296, 0 < 4294967296, 0 < 4294967296, 0 < 4294967296, 0 < 4294967296, 0 < 4294967296], .val (.agg (cellsU 8 0 zF ++ (.num 8 (inN (modN 1) 1) :: cellsU 8 0 zF)))) := by kernel_rfl
theorem wi44f (x : Nat) (y : Nat) : callR (mkE L3a noS) 1000 98 [lawV, P3 x y false] [] =
  some ([modN 1 < 4294967296 ^ 8, 0 < modN 1, 1 < 4294967296, 0 < 4294967296, 0 < 4294967296, 0 < 4294967296, 0 < 4294967296, 0 < 4294967296, 0 < 4294967296, 0 < 4294967296, modN 1 < 4294967296 ^ 8, 0 < modN 1, x < 4294967296 ^ 8, modN 1 < 4294967296 ^ 8, 0 < modN 1, y < 4294967296 ^ 8], .val (w3V (wLift x y false))) := by kernel_rfl
theorem spec44w (x y : Nat) (i : Bool) (h : i = true ∨ (x < modN 1 ∧ y < modN 1)) : Spec 98 [lawV, P3 x y i] (.val (w3V (wLift x y i))) := by
 have h1 := modN_one 1
 cases i with
 | true => exact (spec_run (envMk L3a_ok noS) rfl (wi44i x y) ⟨(modN_lt _), (modN_pos _), lit1, lit0, lit0, lit0, lit0, lit0, lit0, lit0, trivial⟩ rfl rfl).congr (fun _ => rfl) (fun φ => by
   simp only [AV.conc, V1.conc, w3V, wLift, cond_true, concs_append]
   rw [← limb_zero, ← concs_num φ 8 0]
   rfl)
 | false =>
  rcases h with h | ⟨hx, hy⟩
  ·simp at h
  ·exact spec_run (envMk L3a_ok noS) rfl (wi44f x y) ⟨(modN_lt _), (modN_pos _), lit1, lit0, lit0, lit0, lit0, lit0, lit0, lit0, (modN_lt _), (modN_pos _), (by first | with_reducible assumption | with_reducible exact L8 (by with_reducible assumption) | exact decide_eq_true (by omega) | exact decide_eq_false (by omega) | omega), (modN_lt _), (modN_pos _), (by first | with_reducible assumption | with_reducible exact L8 (by with_reducible assumption) | exact decide_eq_true (by omega) | exact decide_eq_false (by omega) | omega), trivial⟩ rfl rfl
theorem wi74 (a : Nat) (b : Nat) (c : Nat) (d : Nat) (e : Nat) (g : Nat) : callR (mkE L3a noS) 1000 161 [lawV, N8 a, N8 b, N8 c, N8 d, N8 e, N8 g] [] =
  some ([modN 1 < 4294967296 ^ 8, a < modN 1, b < modN 1, a < 4294967296 ^ 8, b < 4294967296 ^ 8, modN 1 < 4294967296 ^ 8, c < modN 1, d < modN 1, c < 4294967296 ^ 8, d < 4294967296 ^ 8, modN 1 < 4294967296 ^ 8, addM (modN 1) a b < modN 1, addM (modN 1) c d < modN 1, goodF (modN 1) (facN 1), addM (modN 1) a b < 4294967296 ^ 8, addM (modN 1) c d < 4294967296 ^ 8, modN 1 < 4294967296 ^ 8, e < modN 1, g < modN 1, e < 4294967296 ^ 8, g < 4294967296 ^ 8, modN 1 < 4294967296 ^ 8, mmN (modN 1) (addM (modN 1) a b) (addM (modN 1) c d) < modN 1, addM (modN 1) e g < modN 1, mmN (modN 1) (addM (modN 1) a b) (addM (modN 1) c d) < 4294967296 ^ 8, addM (modN 1) e g < 4294967296 ^ 8], .val (N8 (mcr a b c d e g))) := by kernel_rfl
theorem wi75 (a : Nat) : callR (mkE L3a noS) 1000 162 [lawV, N8 a] [] =
  some ([modN 1 < 4294967296 ^ 8, a < modN 1, a < modN 1, a < 4294967296 ^ 8, a < 4294967296 ^ 8, modN 1 < 4294967296 ^ 8, addM (modN 1) a a < modN 1, a < modN 1, addM (modN 1) a a < 4294967296 ^ 8, a < 4294967296 ^ 8], .val (N8 (mtr a))) := by kernel_rfl
theorem spec74w (a b c d e g : Nat) (ha : a < modN 1) (hb : b < modN 1) (hc : c < modN 1) (hd : d < modN 1) (he : e < modN 1) (hg : g < modN 1) : Spec 161 [lawV, N8 a, N8 b, N8 c, N8 d, N8 e, N8 g] (.val (N8 (mcr a b c d e g))) := spec_run (envMk L3a_ok noS) rfl (wi74 a b c d e g) ⟨(modN_lt _), (by first | with_reducible assumption | with_reducible exact L8 (by with_reducible assumption) | exact decide_eq_true (by omega) | exact decide_eq_false (by omega) | omega), (by first | with_reducible assumption | with_reducible exact L8 (by with_reducible assumption) | exact decide_eq_true (by omega) | exact decide_eq_false (by omega) | omega), (by first | with_reducible assumption | with_reducible exact L8 (by with_reducible assumption) | exact decide_eq_true (by omega) | exact decide_eq_false (by omega) | omega), (by first | with_reducible assumption | with_reducible exact L8 (by with_reducible assumption) | exact decide_eq_true (by omega) | exact decide_eq_false (by omega) | omega), (modN_lt _), (by first | with_reducible assumption | with_reducible exact L8 (by with_reducible assumption) | exact decide_eq_true (by omega) | exact decide_eq_false (by omega) | omega), (by first | with_reducible assumption | with_reducible exact L8 (by with_reducible assumption) | exact decide_eq_true (by omega) | exact decide_eq_false (by omega) | omega), (by first | with_reducible assumption | with_reducible exact L8 (by with_reducible assumption) | exact decide_eq_true (by omega) | exact decide_eq_false (by omega) | omega), (by first | with_reducible assumption | with_reducible exact L8 (by with_reducible assumption) | exact decide_eq_true (by omega) | exact decide_eq_false (by omega) | omega), (modN_lt _), (addM_lt (modN_pos _)), (addM_lt (modN_pos _)), (good_fac (by decide)), (L8 (addM_lt (modN_pos _))), (L8 (addM_lt (modN_pos _))), (modN_lt _), (by first | with_reducible assumption | with_reducible exact L8 (by with_reducible assumption) | exact decide_eq_true (by omega) | exact decide_eq_false (by omega) | omega), (by first | with_reducible assumption | with_reducible exact L8 (by with_reducible assumption) | exact decide_eq_true (by omega) | exact decide_eq_false (by omega) | omega), (by first | with_reducible assumption | with_reducible exact L8 (by with_reducible assumption) | exact decide_eq_true (by omega) | exact decide_eq_false (by omega) | omega), (by first | with_reducible assumption | with_reducible exact L8 (by with_reducible assumption) | exact decide_eq_true (by omega) | exact decide_eq_false (by omega) | omega), (modN_lt _), (mmN_lt (modN_pos _)), (addM_lt (modN_pos _)), (L8 (mmN_lt (modN_pos _))), (L8 (addM_lt (modN_pos _))), trivial⟩ rfl rfl
theorem spec75w (a : Nat) (ha : a < modN 1) : Spec 162 [lawV, N8 a] (.val (N8 (mtr a))) := spec_run (envMk L3a_ok noS) rfl (wi75 a) ⟨(modN_lt _), (by first | with_reducible assumption | with_reducible exact L8 (by with_reducible assumption) | exact decide_eq_true (by omega) | exact decide_eq_false (by omega) | omega), (by first | with_reducible assumption | with_reducible exact L8 (by with_reducible assumption) | exact decide_eq_true (by omega) | exact decide_eq_false (by omega) | omega), (by first | with_reducible assumption | with_reducible exact L8 (by with_reducible assumption) | exact decide_eq_true (by omega) | exact decide_eq_false (by omega) | omega), (by first | with_reducible assumption | with_reducible exact L8 (by with_reducible assumption) | exact decide_eq_true (by omega) | exact decide_eq_false (by omega) | omega), (modN_lt _), (addM_lt (modN_pos _)), (by first | with_reducible assumption | with_reducible exact L8 (by with_reducible assumption) | exact decide_eq_true (by omega) | exact decide_eq_false (by omega) | omega), (L8 (addM_lt (modN_pos _))), (by first | with_reducible assumption | with_reducible exact L8 (by with_reducible assumption) | exact decide_eq_true (by omega) | exact decide_eq_false (by omega) | omega), trivial⟩ rfl rfl
noncomputable def gCross : List Val → Option (List Prop × AV)
 | [.n m, .n q, .n w, .n a, .n b, .n c, .n d, .n e, .n g] => some ([m = modN 1, q = facN 1, w = wBi, a < modN 1, b < modN 1, c < modN 1, d < modN 1, e < modN 1, g < modN 1], .val (N8 (mcr a b c d e g)))
 | _ => none
noncomputable def gTri : List Val → Option (List Prop × AV)
 | [.n m, .n q, .n w, .n a] => some ([m = modN 1, q = facN 1, w = wBi, a < modN 1], .val (N8 (mtr a)))
 | _ => none
noncomputable def gOf : List Val → Option (List Prop × AV)
 | [.n m, .n q, .n w, .n x, .n y, .b i] => some ([m = modN 1, q = facN 1, w = wBi, i = true ∨ (x < modN 1 ∧ y < modN 1)], .val (w3V (wLift x y i)))
 | _ => none
theorem ct74w : CTok ⟨161, fnS [aLaw, aN, aN, aN, aN, aN, aN] gCross⟩ := ctS (by
 intro xs ob r hb h ho
 unfold gCross at h
 split at h
 ·simp only [Option.some.injEq, Prod.mk.injEq] at h
  obtain ⟨rfl, rfl⟩ := h
  obtain ⟨e0, e1, e2, h1, h2, h3, h4, h5, h6, _⟩ := ho
  subst e0 e1 e2
  exact spec74w _ _ _ _ _ _ h1 h2 h3 h4 h5 h6
 ·simp at h)
theorem ct75w : CTok ⟨162, fnS [aLaw, aN] gTri⟩ := ctS (by
 intro xs ob r hb h ho
 unfold gTri at h
 split at h
 ·simp only [Option.some.injEq, Prod.mk.injEq] at h
  obtain ⟨rfl, rfl⟩ := h
  obtain ⟨e0, e1, e2, h1, _⟩ := ho
  subst e0 e1 e2
  exact spec75w _ h1
 ·simp at h)
theorem ct44w : CTok ⟨98, fnS [aLaw, aSp] gOf⟩ := ctS (by
 intro xs ob r hb h ho
 unfold gOf at h
 split at h
 ·rename_i m q w x y i
  simp only [Option.some.injEq, Prod.mk.injEq] at h
  obtain ⟨rfl, rfl⟩ := h
  obtain ⟨e0, e1, e2, h1, _⟩ := ho
  subst e0 e1 e2
  exact spec44w x y i h1
 ·simp at h)
noncomputable def L4a : List CT := [⟨95, cV (.val lawV)⟩, ⟨161, fnS [aLaw, aN, aN, aN, aN, aN, aN] gCross⟩, ⟨162, fnS [aLaw, aN] gTri⟩, ⟨98, fnS [aLaw, aSp] gOf⟩] ++ L3a
theorem L4a_ok : AllCT L4a := ⟨ctV spec40w, ct74w, ct75w, ct44w, L3a_ok⟩
end Go.Ev

namespace Go.Ev
open Go Go.Proofs Go.RowKit
noncomputable def mXX (p q:J3):Nat:=mmN (modN 1) p.x q.x
noncomputable def mYY (p q:J3):Nat:=mmN (modN 1) p.y q.y
noncomputable def mZZ (p q:J3):Nat:=mmN (modN 1) p.z q.z
noncomputable def mXY (p q:J3):Nat:=mcr p.x p.y q.x q.y (mXX p q) (mYY p q)
noncomputable def mYZ (p q:J3):Nat:=mcr p.y p.z q.y q.z (mYY p q) (mZZ p q)
noncomputable def mXZ (p q:J3):Nat:=mcr p.x p.z q.x q.z (mXX p q) (mZZ p q)
noncomputable def mSi (p q:J3):Nat:=mtr (subM (modN 1) (mXZ p q) (mmN (modN 1) wBi (mZZ p q)))
noncomputable def mLe (p q:J3):Nat:=subM (modN 1) (mYY p q) (mSi p q)
noncomputable def mRi (p q:J3):Nat:=addM (modN 1) (mYY p q) (mSi p q)
noncomputable def mZ3 (p q:J3):Nat:=mtr (mZZ p q)
noncomputable def mMM (p q:J3):Nat:=mtr (subM (modN 1) (subM (modN 1) (mmN (modN 1) wBi (mXZ p q)) (mZ3 p q)) (mXX p q))
noncomputable def mNN (p q:J3):Nat:=subM (modN 1) (mtr (mXX p q)) (mZ3 p q)
noncomputable def mAdd (p q:J3):J3:=⟨subM (modN 1) (mmN (modN 1) (mXY p q) (mRi p q)) (mmN (modN 1) (mYZ p q) (mMM p q)),addM (modN 1) (mmN (modN 1) (mRi p q) (mLe p q)) (mmN (modN 1) (mNN p q) (mMM p q)),addM (modN 1) (mmN (modN 1) (mYZ p q) (mLe p q)) (mmN (modN 1) (mXY p q) (mNN p q))⟩
theorem mAdd_lt (p q:J3):(mAdd p q).lt:=⟨subM_lt (modN_pos 1),addM_lt (modN_pos 1),addM_lt (modN_pos 1)⟩
theorem wi42 (p:J3) (q:J3):callR (mkE L4a noS) 1000 133 [lawV,w3V p,w3V q] []=
  some ([modN 1<4294967296^8,p.1<modN 1,q.1<modN 1,goodF (modN 1) (facN 1),p.1<4294967296^8,q.1<4294967296^8,modN 1<4294967296^8,p.2<modN 1,q.2<modN 1,goodF (modN 1) (facN 1),p.2<4294967296^8,q.2<4294967296^8,modN 1<4294967296^8,p.3<modN 1,q.3<modN 1,goodF (modN 1) (facN 1),p.3<4294967296^8,q.3<4294967296^8,modN 1<4294967296^8,facN 1<4294967296,wBi<4294967296^8,p.1<4294967296^8,p.2<4294967296^8,q.1<4294967296^8,q.2<4294967296^8,mmN (modN 1) p.1 q.1<4294967296^8,mmN (modN 1) p.2 q.2<4294967296^8,modN 1=modN 1,facN 1=facN 1,wBi=wBi,p.1<modN 1,p.2<modN 1,q.1<modN 1,q.2<modN 1,mmN (modN 1) p.1 q.1<modN 1,mmN (modN 1) p.2 q.2<modN 1,modN 1<4294967296^8,facN 1<4294967296,wBi<4294967296^8,p.2<4294967296^8,p.3<4294967296^8,q.2<4294967296^8,q.3<4294967296^8,mmN (modN 1) p.2 q.2<4294967296^8,mmN (modN 1) p.3 q.3<4294967296^8,modN 1=modN 1,facN 1=facN 1,wBi=wBi,p.2<modN 1,p.3<modN 1,q.2<modN 1,q.3<modN 1,mmN (modN 1) p.2 q.2<modN 1,mmN (modN 1) p.3 q.3<modN 1,modN 1<4294967296^8,facN 1<4294967296,wBi<4294967296^8,p.1<4294967296^8,p.3<4294967296^8,q.1<4294967296^8,q.3<4294967296^8,mmN (modN 1) p.1 q.1<4294967296^8,mmN (modN 1) p.3 q.3<4294967296^8,modN 1=modN 1,facN 1=facN 1,wBi=wBi,p.1<modN 1,p.3<modN 1,q.1<modN 1,q.3<modN 1,mmN (modN 1) p.1 q.1<modN 1,mmN (modN 1) p.3 q.3<modN 1,modN 1<4294967296^8,wBi<modN 1,mmN (modN 1) p.3 q.3<modN 1,goodF (modN 1) (facN 1),wBi<4294967296^8,mmN (modN 1) p.3 q.3<4294967296^8,modN 1<4294967296^8,mcr p.1 p.3 q.1 q.3 (mmN (modN 1) p.1 q.1) (mmN (modN 1) p.3 q.3)<modN 1,mmN (modN 1) wBi (mmN (modN 1) p.3 q.3)<modN 1,mcr p.1 p.3 q.1 q.3 (mmN (modN 1) p.1 q.1) (mmN (modN 1) p.3 q.3)<4294967296^8,mmN (modN 1) wBi (mmN (modN 1) p.3 q.3)<4294967296^8,modN 1<4294967296^8,facN 1<4294967296,wBi<4294967296^8,subM (modN 1) (mcr p.1 p.3 q.1 q.3 (mmN (modN 1) p.1 q.1) (mmN (modN 1) p.3 q.3)) (mmN (modN 1) wBi (mmN (modN 1) p.3 q.3))<4294967296^8,modN 1=modN 1,facN 1=facN 1,wBi=wBi,subM (modN 1) (mcr p.1 p.3 q.1 q.3 (mmN (modN 1) p.1 q.1) (mmN (modN 1) p.3 q.3)) (mmN (modN 1) wBi (mmN (modN 1) p.3 q.3))<modN 1,modN 1<4294967296^8,mmN (modN 1) p.2 q.2<modN 1,mtr (subM (modN 1) (mcr p.1 p.3 q.1 q.3 (mmN (modN 1) p.1 q.1) (mmN (modN 1) p.3 q.3)) (mmN (modN 1) wBi (mmN (modN 1) p.3 q.3)))<modN 1,mmN (modN 1) p.2 q.2<4294967296^8,mtr (subM (modN 1) (mcr p.1 p.3 q.1 q.3 (mmN (modN 1) p.1 q.1) (mmN (modN 1) p.3 q.3)) (mmN (modN 1) wBi (mmN (modN 1) p.3 q.3)))<4294967296^8,modN 1<4294967296^8,mmN (modN 1) p.2 q.2<modN 1,mtr (subM (modN 1) (mcr p.1 p.3 q.1 q.3 (mmN (modN 1) p.1 q.1) (mmN (modN 1) p.3 q.3)) (mmN (modN 1) wBi (mmN (modN 1) p.3 q.3)))<modN 1,mmN (modN 1) p.2 q.2<4294967296^8,mtr (subM (modN 1) (mcr p.1 p.3 q.1 q.3 (mmN (modN 1) p.1 q.1) (mmN (modN 1) p.3 q.3)) (mmN (modN 1) wBi (mmN (modN 1) p.3 q.3)))<4294967296^8,modN 1<4294967296^8,facN 1<4294967296,wBi<4294967296^8,mmN (modN 1) p.3 q.3<4294967296^8,modN 1=modN 1,facN 1=facN 1,wBi=wBi,mmN (modN 1) p.3 q.3<modN 1,modN 1<4294967296^8,wBi<modN 1,mcr p.1 p.3 q.1 q.3 (mmN (modN 1) p.1 q.1) (mmN (modN 1) p.3 q.3)<modN 1,goodF (modN 1) (facN 1),wBi<4294967296^8,mcr p.1 p.3 q.1 q.3 (mmN (modN 1) p.1 q.1) (mmN (modN 1) p.3 q.3)<4294967296^8,modN 1<4294967296^8,mmN (modN 1) wBi (mcr p.1 p.3 q.1 q.3 (mmN (modN 1) p.1 q.1) (mmN (modN 1) p.3 q.3))<modN 1,mtr (mmN (modN 1) p.3 q.3)<modN 1,mmN (modN 1) wBi (mcr p.1 p.3 q.1 q.3 (mmN (modN 1) p.1 q.1) (mmN (modN 1) p.3 q.3))<4294967296^8,mtr (mmN (modN 1) p.3 q.3)<4294967296^8,modN 1<4294967296^8,subM (modN 1) (mmN (modN 1) wBi (mcr p.1 p.3 q.1 q.3 (mmN (modN 1) p.1 q.1) (mmN (modN 1) p.3 q.3))) (mtr (mmN (modN 1) p.3 q.3))<modN 1,mmN (modN 1) p.1 q.1<modN 1,subM (modN 1) (mmN (modN 1) wBi (mcr p.1 p.3 q.1 q.3 (mmN (modN 1) p.1 q.1) (mmN (modN 1) p.3 q.3))) (mtr (mmN (modN 1) p.3 q.3))<4294967296^8,mmN (modN 1) p.1 q.1<4294967296^8,modN 1<4294967296^8,facN 1<4294967296,wBi<4294967296^8,subM (modN 1) (subM (modN 1) (mmN (modN 1) wBi (mcr p.1 p.3 q.1 q.3 (mmN (modN 1) p.1 q.1) (mmN (modN 1) p.3 q.3))) (mtr (mmN (modN 1) p.3 q.3))) (mmN (modN 1) p.1 q.1)<4294967296^8,modN 1=modN 1,facN 1=facN 1,wBi=wBi,subM (modN 1) (subM (modN 1) (mmN (modN 1) wBi (mcr p.1 p.3 q.1 q.3 (mmN (modN 1) p.1 q.1) (mmN (modN 1) p.3 q.3))) (mtr (mmN (modN 1) p.3 q.3))) (mmN (modN 1) p.1 q.1)<modN 1,modN 1<4294967296^8,facN 1<4294967296,wBi<4294967296^8,mmN (modN 1) p.1 q.1<4294967296^8,modN 1=modN 1,facN 1=facN 1,wBi=wBi,mmN (modN 1) p.1 q.1<modN 1,modN 1<4294967296^8,mtr (mmN (modN 1) p.1 q.1)<modN 1,mtr (mmN (modN 1) p.3 q.3)<modN 1,mtr (mmN (modN 1) p.1 q.1)<4294967296^8,mtr (mmN (modN 1) p.3 q.3)<4294967296^8,modN 1<4294967296^8,mcr p.1 p.2 q.1 q.2 (mmN (modN 1) p.1 q.1) (mmN (modN 1) p.2 q.2)<modN 1,addM (modN 1) (mmN (modN 1) p.2 q.2) (mtr (subM (modN 1) (mcr p.1 p.3 q.1 q.3 (mmN (modN 1) p.1 q.1) (mmN (modN 1) p.3 q.3)) (mmN (modN 1) wBi (mmN (modN 1) p.3 q.3))))<modN 1,goodF (modN 1) (facN 1),mcr p.1 p.2 q.1 q.2 (mmN (modN 1) p.1 q.1) (mmN (modN 1) p.2 q.2)<4294967296^8,addM (modN 1) (mmN (modN 1) p.2 q.2) (mtr (subM (modN 1) (mcr p.1 p.3 q.1 q.3 (mmN (modN 1) p.1 q.1) (mmN (modN 1) p.3 q.3)) (mmN (modN 1) wBi (mmN (modN 1) p.3 q.3))))<4294967296^8,modN 1<4294967296^8,mcr p.2 p.3 q.2 q.3 (mmN (modN 1) p.2 q.2) (mmN (modN 1) p.3 q.3)<modN 1,mtr (subM (modN 1) (subM (modN 1) (mmN (modN 1) wBi (mcr p.1 p.3 q.1 q.3 (mmN (modN 1) p.1 q.1) (mmN (modN 1) p.3 q.3))) (mtr (mmN (modN 1) p.3 q.3))) (mmN (modN 1) p.1 q.1))<modN 1,goodF (modN 1) (facN 1),mcr p.2 p.3 q.2 q.3 (mmN (modN 1) p.2 q.2) (mmN (modN 1) p.3 q.3)<4294967296^8,mtr (subM (modN 1) (subM (modN 1) (mmN (modN 1) wBi (mcr p.1 p.3 q.1 q.3 (mmN (modN 1) p.1 q.1) (mmN (modN 1) p.3 q.3))) (mtr (mmN (modN 1) p.3 q.3))) (mmN (modN 1) p.1 q.1))<4294967296^8,modN 1<4294967296^8,mmN (modN 1) (mcr p.1 p.2 q.1 q.2 (mmN (modN 1) p.1 q.1) (mmN (modN 1) p.2 q.2)) (addM (modN 1) (mmN (modN 1) p.2 q.2) (mtr (subM (modN 1) (mcr p.1 p.3 q.1 q.3 (mmN (modN 1) p.1 q.1) (mmN (modN 1) p.3 q.3)) (mmN (modN 1) wBi (mmN (modN 1) p.3 q.3)))))<modN 1,mmN (modN 1) (mcr p.2 p.3 q.2 q.3 (mmN (modN 1) p.2 q.2) (mmN (modN 1) p.3 q.3)) (mtr (subM (modN 1) (subM (modN 1) (mmN (modN 1) wBi (mcr p.1 p.3 q.1 q.3 (mmN (modN 1) p.1 q.1) (mmN (modN 1) p.3 q.3))) (mtr (mmN (modN 1) p.3 q.3))) (mmN (modN 1) p.1 q.1)))<modN 1,mmN (modN 1) (mcr p.1 p.2 q.1 q.2 (mmN (modN 1) p.1 q.1) (mmN (modN 1) p.2 q.2)) (addM (modN 1) (mmN (modN 1) p.2 q.2) (mtr (subM (modN 1) (mcr p.1 p.3 q.1 q.3 (mmN (modN 1) p.1 q.1) (mmN (modN 1) p.3 q.3)) (mmN (modN 1) wBi (mmN (modN 1) p.3 q.3)))))<4294967296^8,mmN (modN 1) (mcr p.2 p.3 q.2 q.3 (mmN (modN 1) p.2 q.2) (mmN (modN 1) p.3 q.3)) (mtr (subM (modN 1) (subM (modN 1) (mmN (modN 1) wBi (mcr p.1 p.3 q.1 q.3 (mmN (modN 1) p.1 q.1) (mmN (modN 1) p.3 q.3))) (mtr (mmN (modN 1) p.3 q.3))) (mmN (modN 1) p.1 q.1)))<4294967296^8,modN 1<4294967296^8,addM (modN 1) (mmN (modN 1) p.2 q.2) (mtr (subM (modN 1) (mcr p.1 p.3 q.1 q.3 (mmN (modN 1) p.1 q.1) (mmN (modN 1) p.3 q.3)) (mmN (modN 1) wBi (mmN (modN 1) p.3 q.3))))<modN 1,subM (modN 1) (mmN (modN 1) p.2 q.2) (mtr (subM (modN 1) (mcr p.1 p.3 q.1 q.3 (mmN (modN 1) p.1 q.1) (mmN (modN 1) p.3 q.3)) (mmN (modN 1) wBi (mmN (modN 1) p.3 q.3))))<modN 1,goodF (modN 1) (facN 1),addM (modN 1) (mmN (modN 1) p.2 q.2) (mtr (subM (modN 1) (mcr p.1 p.3 q.1 q.3 (mmN (modN 1) p.1 q.1) (mmN (modN 1) p.3 q.3)) (mmN (modN 1) wBi (mmN (modN 1) p.3 q.3))))<4294967296^8,subM (modN 1) (mmN (modN 1) p.2 q.2) (mtr (subM (modN 1) (mcr p.1 p.3 q.1 q.3 (mmN (modN 1) p.1 q.1) (mmN (modN 1) p.3 q.3)) (mmN (modN 1) wBi (mmN (modN 1) p.3 q.3))))<4294967296^8,modN 1<4294967296^8,subM (modN 1) (mtr (mmN (modN 1) p.1 q.1)) (mtr (mmN (modN 1) p.3 q.3))<modN 1,mtr (subM (modN 1) (subM (modN 1) (mmN (modN 1) wBi (mcr p.1 p.3 q.1 q.3 (mmN (modN 1) p.1 q.1) (mmN (modN 1) p.3 q.3))) (mtr (mmN (modN 1) p.3 q.3))) (mmN (modN 1) p.1 q.1))<modN 1,goodF (modN 1) (facN 1),subM (modN 1) (mtr (mmN (modN 1) p.1 q.1)) (mtr (mmN (modN 1) p.3 q.3))<4294967296^8,mtr (subM (modN 1) (subM (modN 1) (mmN (modN 1) wBi (mcr p.1 p.3 q.1 q.3 (mmN (modN 1) p.1 q.1) (mmN (modN 1) p.3 q.3))) (mtr (mmN (modN 1) p.3 q.3))) (mmN (modN 1) p.1 q.1))<4294967296^8,modN 1<4294967296^8,mmN (modN 1) (addM (modN 1) (mmN (modN 1) p.2 q.2) (mtr (subM (modN 1) (mcr p.1 p.3 q.1 q.3 (mmN (modN 1) p.1 q.1) (mmN (modN 1) p.3 q.3)) (mmN (modN 1) wBi (mmN (modN 1) p.3 q.3))))) (subM (modN 1) (mmN (modN 1) p.2 q.2) (mtr (subM (modN 1) (mcr p.1 p.3 q.1 q.3 (mmN (modN 1) p.1 q.1) (mmN (modN 1) p.3 q.3)) (mmN (modN 1) wBi (mmN (modN 1) p.3 q.3)))))<modN 1,mmN (modN 1) (subM (modN 1) (mtr (mmN (modN 1) p.1 q.1)) (mtr (mmN (modN 1) p.3 q.3))) (mtr (subM (modN 1) (subM (modN 1) (mmN (modN 1) wBi (mcr p.1 p.3 q.1 q.3 (mmN (modN 1) p.1 q.1) (mmN (modN 1) p.3 q.3))) (mtr (mmN (modN 1) p.3 q.3))) (mmN (modN 1) p.1 q.1)))<modN 1,mmN (modN 1) (addM (modN 1) (mmN (modN 1) p.2 q.2) (mtr (subM (modN 1) (mcr p.1 p.3 q.1 q.3 (mmN (modN 1) p.1 q.1) (mmN (modN 1) p.3 q.3)) (mmN (modN 1) wBi (mmN (modN 1) p.3 q.3))))) (subM (modN 1) (mmN (modN 1) p.2 q.2) (mtr (subM (modN 1) (mcr p.1 p.3 q.1 q.3 (mmN (modN 1) p.1 q.1) (mmN (modN 1) p.3 q.3)) (mmN (modN 1) wBi (mmN (modN 1) p.3 q.3)))))<4294967296^8,mmN (modN 1) (subM (modN 1) (mtr (mmN (modN 1) p.1 q.1)) (mtr (mmN (modN 1) p.3 q.3))) (mtr (subM (modN 1) (subM (modN 1) (mmN (modN 1) wBi (mcr p.1 p.3 q.1 q.3 (mmN (modN 1) p.1 q.1) (mmN (modN 1) p.3 q.3))) (mtr (mmN (modN 1) p.3 q.3))) (mmN (modN 1) p.1 q.1)))<4294967296^8,modN 1<4294967296^8,mcr p.2 p.3 q.2 q.3 (mmN (modN 1) p.2 q.2) (mmN (modN 1) p.3 q.3)<modN 1,subM (modN 1) (mmN (modN 1) p.2 q.2) (mtr (subM (modN 1) (mcr p.1 p.3 q.1 q.3 (mmN (modN 1) p.1 q.1) (mmN (modN 1) p.3 q.3)) (mmN (modN 1) wBi (mmN (modN 1) p.3 q.3))))<modN 1,goodF (modN 1) (facN 1),mcr p.2 p.3 q.2 q.3 (mmN (modN 1) p.2 q.2) (mmN (modN 1) p.3 q.3)<4294967296^8,subM (modN 1) (mmN (modN 1) p.2 q.2) (mtr (subM (modN 1) (mcr p.1 p.3 q.1 q.3 (mmN (modN 1) p.1 q.1) (mmN (modN 1) p.3 q.3)) (mmN (modN 1) wBi (mmN (modN 1) p.3 q.3))))<4294967296^8,modN 1<4294967296^8,mcr p.1 p.2 q.1 q.2 (mmN (modN 1) p.1 q.1) (mmN (modN 1) p.2 q.2)<modN 1,subM (modN 1) (mtr (mmN (modN 1) p.1 q.1)) (mtr (mmN (modN 1) p.3 q.3))<modN 1,goodF (modN 1) (facN 1),mcr p.1 p.2 q.1 q.2 (mmN (modN 1) p.1 q.1) (mmN (modN 1) p.2 q.2)<4294967296^8,subM (modN 1) (mtr (mmN (modN 1) p.1 q.1)) (mtr (mmN (modN 1) p.3 q.3))<4294967296^8,modN 1<4294967296^8,mmN (modN 1) (mcr p.2 p.3 q.2 q.3 (mmN (modN 1) p.2 q.2) (mmN (modN 1) p.3 q.3)) (subM (modN 1) (mmN (modN 1) p.2 q.2) (mtr (subM (modN 1) (mcr p.1 p.3 q.1 q.3 (mmN (modN 1) p.1 q.1) (mmN (modN 1) p.3 q.3)) (mmN (modN 1) wBi (mmN (modN 1) p.3 q.3)))))<modN 1,mmN (modN 1) (mcr p.1 p.2 q.1 q.2 (mmN (modN 1) p.1 q.1) (mmN (modN 1) p.2 q.2)) (subM (modN 1) (mtr (mmN (modN 1) p.1 q.1)) (mtr (mmN (modN 1) p.3 q.3)))<modN 1,mmN (modN 1) (mcr p.2 p.3 q.2 q.3 (mmN (modN 1) p.2 q.2) (mmN (modN 1) p.3 q.3)) (subM (modN 1) (mmN (modN 1) p.2 q.2) (mtr (subM (modN 1) (mcr p.1 p.3 q.1 q.3 (mmN (modN 1) p.1 q.1) (mmN (modN 1) p.3 q.3)) (mmN (modN 1) wBi (mmN (modN 1) p.3 q.3)))))<4294967296^8,mmN (modN 1) (mcr p.1 p.2 q.1 q.2 (mmN (modN 1) p.1 q.1) (mmN (modN 1) p.2 q.2)) (subM (modN 1) (mtr (mmN (modN 1) p.1 q.1)) (mtr (mmN (modN 1) p.3 q.3)))<4294967296^8],.val (w3V (mAdd p q))):=by kernel_rfl
theorem spec42w (p q:J3) (hp:p.lt) (hq:q.lt):Spec 133 [lawV,w3V p,w3V q] (.val (w3V (mAdd p q))):=by
 obtain ⟨h1,h2,h3⟩:=hp
 obtain ⟨h5,h6,h7⟩:=hq
 have hb:=wBi_lt
 exact spec_run (envMk L4a_ok noS) rfl (wi42 p q) ⟨(modN_lt _),(by first|with_reducible assumption|with_reducible exact L8 (by with_reducible assumption)|exact decide_eq_true (by omega)|exact decide_eq_false (by omega)|omega),(by first|with_reducible assumption|with_reducible exact L8 (by with_reducible assumption)|exact decide_eq_true (by omega)|exact decide_eq_false (by omega)|omega),(good_fac (by decide)),(by first|with_reducible assumption|with_reducible exact L8 (by with_reducible assumption)|exact decide_eq_true (by omega)|exact decide_eq_false (by omega)|omega),(by first|with_reducible assumption|with_reducible exact L8 (by with_reducible assumption)|exact decide_eq_true (by omega)|exact decide_eq_false (by omega)|omega),(modN_lt _),(by first|with_reducible assumption|with_reducible exact L8 (by with_reducible assumption)|exact decide_eq_true (by omega)|exact decide_eq_false (by omega)|omega),(by first|with_reducible assumption|with_reducible exact L8 (by with_reducible assumption)|exact decide_eq_true (by omega)|exact decide_eq_false (by omega)|omega),(good_fac (by decide)),(by first|with_reducible assumption|with_reducible exact L8 (by with_reducible assumption)|exact decide_eq_true (by omega)|exact decide_eq_false (by omega)|omega),(by first|with_reducible assumption|with_reducible exact L8 (by with_reducible assumption)|exact decide_eq_true (by omega)|exact decide_eq_false (by omega)|omega),(modN_lt _),(by first|with_reducible assumption|with_reducible exact L8 (by with_reducible assumption)|exact decide_eq_true (by omega)|exact decide_eq_false (by omega)|omega),(by first|with_reducible assumption|with_reducible exact L8 (by with_reducible assumption)|exact decide_eq_true (by omega)|exact decide_eq_false (by omega)|omega),(good_fac (by decide)),(by first|with_reducible assumption|with_reducible exact L8 (by with_reducible assumption)|exact decide_eq_true (by omega)|exact decide_eq_false (by omega)|omega),(by first|with_reducible assumption|with_reducible exact L8 (by with_reducible assumption)|exact decide_eq_true (by omega)|exact decide_eq_false (by omega)|omega),(modN_lt _),(facN_lt32 1),(by first|with_reducible assumption|with_reducible exact L8 (by with_reducible assumption)|exact decide_eq_true (by omega)|exact decide_eq_false (by omega)|omega),(by first|with_reducible assumption|with_reducible exact L8 (by with_reducible assumption)|exact decide_eq_true (by omega)|exact decide_eq_false (by omega)|omega),(by first|with_reducible assumption|with_reducible exact L8 (by with_reducible assumption)|exact decide_eq_true (by omega)|exact decide_eq_false (by omega)|omega),(by first|with_reducible assumption|with_reducible exact L8 (by with_reducible assumption)|exact decide_eq_true (by omega)|exact decide_eq_false (by omega)|omega),(by first|with_reducible assumption|with_reducible exact L8 (by with_reducible assumption)|exact decide_eq_true (by omega)|exact decide_eq_false (by omega)|omega),(L8 (mmN_lt (modN_pos _))),(L8 (mmN_lt (modN_pos _))),rfl,rfl,rfl,(by first|with_reducible assumption|with_reducible exact L8 (by with_reducible assumption)|exact decide_eq_true (by omega)|exact decide_eq_false (by omega)|omega),(by first|with_reducible assumption|with_reducible exact L8 (by with_reducible assumption)|exact decide_eq_true (by omega)|exact decide_eq_false (by omega)|omega),(by first|with_reducible assumption|with_reducible exact L8 (by with_reducible assumption)|exact decide_eq_true (by omega)|exact decide_eq_false (by omega)|omega),(by first|with_reducible assumption|with_reducible exact L8 (by with_reducible assumption)|exact decide_eq_true (by omega)|exact decide_eq_false (by omega)|omega),(mmN_lt (modN_pos _)),(mmN_lt (modN_pos _)),(modN_lt _),(facN_lt32 1),(by first|with_reducible assumption|with_reducible exact L8 (by with_reducible assumption)|exact decide_eq_true (by omega)|exact decide_eq_false (by omega)|omega),(by first|with_reducible assumption|with_reducible exact L8 (by with_reducible assumption)|exact decide_eq_true (by omega)|exact decide_eq_false (by omega)|omega),(by first|with_reducible assumption|with_reducible exact L8 (by with_reducible assumption)|exact decide_eq_true (by omega)|exact decide_eq_false (by omega)|omega),(by first|with_reducible assumption|with_reducible exact L8 (by with_reducible assumption)|exact decide_eq_true (by omega)|exact decide_eq_false (by omega)|omega),(by first|with_reducible assumption|with_reducible exact L8 (by with_reducible assumption)|exact decide_eq_true (by omega)|exact decide_eq_false (by omega)|omega),(L8 (mmN_lt (modN_pos _))),(L8 (mmN_lt (modN_pos _))),rfl,rfl,rfl,(by first|with_reducible assumption|with_reducible exact L8 (by with_reducible assumption)|exact decide_eq_true (by omega)|exact decide_eq_false (by omega)|omega),(by first|with_reducible assumption|with_reducible exact L8 (by with_reducible assumption)|exact decide_eq_true (by omega)|exact decide_eq_false (by omega)|omega),(by first|with_reducible assumption|with_reducible exact L8 (by with_reducible assumption)|exact decide_eq_true (by omega)|exact decide_eq_false (by omega)|omega),(by first|with_reducible assumption|with_reducible exact L8 (by with_reducible assumption)|exact decide_eq_true (by omega)|exact decide_eq_false (by omega)|omega),(mmN_lt (modN_pos _)),(mmN_lt (modN_pos _)),(modN_lt _),(facN_lt32 1),(by first|with_reducible assumption|with_reducible exact L8 (by with_reducible assumption)|exact decide_eq_true (by omega)|exact decide_eq_false (by omega)|omega),(by first|with_reducible assumption|with_reducible exact L8 (by with_reducible assumption)|exact decide_eq_true (by omega)|exact decide_eq_false (by omega)|omega),(by first|with_reducible assumption|with_reducible exact L8 (by with_reducible assumption)|exact decide_eq_true (by omega)|exact decide_eq_false (by omega)|omega),(by first|with_reducible assumption|with_reducible exact L8 (by with_reducible assumption)|exact decide_eq_true (by omega)|exact decide_eq_false (by omega)|omega),(by first|with_reducible assumption|with_reducible exact L8 (by with_reducible assumption)|exact decide_eq_true (by omega)|exact decide_eq_false (by omega)|omega),(L8 (mmN_lt (modN_pos _))),(L8 (mmN_lt (modN_pos _))),rfl,rfl,rfl,(by first|with_reducible assumption|with_reducible exact L8 (by with_reducible assumption)|exact decide_eq_true (by omega)|exact decide_eq_false (by omega)|omega),(by first|with_reducible assumption|with_reducible exact L8 (by with_reducible assumption)|exact decide_eq_true (by omega)|exact decide_eq_false (by omega)|omega),(by first|with_reducible assumption|with_reducible exact L8 (by with_reducible assumption)|exact decide_eq_true (by omega)|exact decide_eq_false (by omega)|omega),(by first|with_reducible assumption|with_reducible exact L8 (by with_reducible assumption)|exact decide_eq_true (by omega)|exact decide_eq_false (by omega)|omega),(mmN_lt (modN_pos _)),(mmN_lt (modN_pos _)),(modN_lt _),(by first|with_reducible assumption|with_reducible exact L8 (by with_reducible assumption)|exact decide_eq_true (by omega)|exact decide_eq_false (by omega)|omega),(mmN_lt (modN_pos _)),(good_fac (by decide)),(by first|with_reducible assumption|with_reducible exact L8 (by with_reducible assumption)|exact decide_eq_true (by omega)|exact decide_eq_false (by omega)|omega),(L8 (mmN_lt (modN_pos _))),(modN_lt _),(mcr_lt),(mmN_lt (modN_pos _)),(L8 (mcr_lt)),(L8 (mmN_lt (modN_pos _))),(modN_lt _),(facN_lt32 1),(by first|with_reducible assumption|with_reducible exact L8 (by with_reducible assumption)|exact decide_eq_true (by omega)|exact decide_eq_false (by omega)|omega),(L8 (subM_lt (modN_pos _))),rfl,rfl,rfl,(subM_lt (modN_pos _)),(modN_lt _),(mmN_lt (modN_pos _)),(mtr_lt),(L8 (mmN_lt (modN_pos _))),(L8 (mtr_lt)),(modN_lt _),(mmN_lt (modN_pos _)),(mtr_lt),(L8 (mmN_lt (modN_pos _))),(L8 (mtr_lt)),(modN_lt _),(facN_lt32 1),(by first|with_reducible assumption|with_reducible exact L8 (by with_reducible assumption)|exact decide_eq_true (by omega)|exact decide_eq_false (by omega)|omega),(L8 (mmN_lt (modN_pos _))),rfl,rfl,rfl,(mmN_lt (modN_pos _)),(modN_lt _),(by first|with_reducible assumption|with_reducible exact L8 (by with_reducible assumption)|exact decide_eq_true (by omega)|exact decide_eq_false (by omega)|omega),(mcr_lt),(good_fac (by decide)),(by first|with_reducible assumption|with_reducible exact L8 (by with_reducible assumption)|exact decide_eq_true (by omega)|exact decide_eq_false (by omega)|omega),(L8 (mcr_lt)),(modN_lt _),(mmN_lt (modN_pos _)),(mtr_lt),(L8 (mmN_lt (modN_pos _))),(L8 (mtr_lt)),(modN_lt _),(subM_lt (modN_pos _)),(mmN_lt (modN_pos _)),(L8 (subM_lt (modN_pos _))),(L8 (mmN_lt (modN_pos _))),(modN_lt _),(facN_lt32 1),(by first|with_reducible assumption|with_reducible exact L8 (by with_reducible assumption)|exact decide_eq_true (by omega)|exact decide_eq_false (by omega)|omega),(L8 (subM_lt (modN_pos _))),rfl,rfl,rfl,(subM_lt (modN_pos _)),(modN_lt _),(facN_lt32 1),(by first|with_reducible assumption|with_reducible exact L8 (by with_reducible assumption)|exact decide_eq_true (by omega)|exact decide_eq_false (by omega)|omega),(L8 (mmN_lt (modN_pos _))),rfl,rfl,rfl,(mmN_lt (modN_pos _)),(modN_lt _),(mtr_lt),(mtr_lt),(L8 (mtr_lt)),(L8 (mtr_lt)),(modN_lt _),(mcr_lt),(addM_lt (modN_pos _)),(good_fac (by decide)),(L8 (mcr_lt)),(L8 (addM_lt (modN_pos _))),(modN_lt _),(mcr_lt),(mtr_lt),(good_fac (by decide)),(L8 (mcr_lt)),(L8 (mtr_lt)),(modN_lt _),(mmN_lt (modN_pos _)),(mmN_lt (modN_pos _)),(L8 (mmN_lt (modN_pos _))),(L8 (mmN_lt (modN_pos _))),(modN_lt _),(addM_lt (modN_pos _)),(subM_lt (modN_pos _)),(good_fac (by decide)),(L8 (addM_lt (modN_pos _))),(L8 (subM_lt (modN_pos _))),(modN_lt _),(subM_lt (modN_pos _)),(mtr_lt),(good_fac (by decide)),(L8 (subM_lt (modN_pos _))),(L8 (mtr_lt)),(modN_lt _),(mmN_lt (modN_pos _)),(mmN_lt (modN_pos _)),(L8 (mmN_lt (modN_pos _))),(L8 (mmN_lt (modN_pos _))),(modN_lt _),(mcr_lt),(subM_lt (modN_pos _)),(good_fac (by decide)),(L8 (mcr_lt)),(L8 (subM_lt (modN_pos _))),(modN_lt _),(mcr_lt),(subM_lt (modN_pos _)),(good_fac (by decide)),(L8 (mcr_lt)),(L8 (subM_lt (modN_pos _))),(modN_lt _),(mmN_lt (modN_pos _)),(mmN_lt (modN_pos _)),(L8 (mmN_lt (modN_pos _))),(L8 (mmN_lt (modN_pos _))),trivial⟩ rfl rfl
noncomputable def gWAdd:List Val→Option (List Prop×AV)
 |[.n m,.n q,.n w,.n x1,.n y1,.n z1,.n x2,.n y2,.n z2]=>some ([m=modN 1,q=facN 1,w=wBi,J3.lt ⟨x1,y1,z1⟩,J3.lt ⟨x2,y2,z2⟩],.val (w3V (mAdd ⟨x1,y1,z1⟩ ⟨x2,y2,z2⟩)))
 |_=>none
theorem ct42w:CTok ⟨133,fnS [aLaw,aJ,aJ] gWAdd⟩:=ctS (by
 intro xs ob r hb h ho
 unfold gWAdd at h
 split at h
 ·rename_i m q w x1 y1 z1 x2 y2 z2
  simp only[Option.some.injEq,Prod.mk.injEq] at h
  obtain ⟨rfl,rfl⟩:=h
  obtain ⟨e0,e1,e2,h1,h2,_⟩:=ho
  subst e0 e1 e2
  exact spec42w ⟨x1,y1,z1⟩ ⟨x2,y2,z2⟩ h1 h2
 ·simp at h)
end Go.Ev

namespace Go.Ev
open Go Go.Proofs Go.RowKit
noncomputable def wDx (p : J3) : Nat := bif decide (p.z = 0) then 0 else outN (modN 1) (mmN (modN 1) p.x (minvN (modN 1) p.z))
noncomputable def wDy (p : J3) : Nat := bif decide (p.z = 0) then 0 else outN (modN 1) (mmN (modN 1) p.y (minvN (modN 1) p.z))
def wDi (p : J3) : Bool := decide (p.z = 0)
noncomputable def S41 : FuncId → Nat → Bool := fun f t => match f with | 96 => memN t [9] | _ => false
theorem wi41i (p : J3) : callR (mkE L4a S41) 1000 96 [lawV, w3V p] [true] =
  some ([(isZ (p.3)) = true], .val (.agg (cellsU 16 0 zF ++ [.a (.v (.bool true))]))) := by kernel_rfl
theorem wi41f (p : J3) : callR (mkE L4a S41) 1000 96 [lawV, w3V p] [false] =
  some ([(isZ (p.3)) = false, modN 1 < 4294967296 ^ 8, p.3 < modN 1, goodF (modN 1) (facN 1), p.3 < 4294967296 ^ 8, modN 1 < 4294967296 ^ 8, p.1 < modN 1, minvN (modN 1) p.3 < modN 1, goodF (modN 1) (facN 1), p.1 < 4294967296 ^ 8, minvN (modN 1) p.3 < 4294967296 ^ 8, modN 1 < 4294967296 ^ 8, mmN (modN 1) p.1 (minvN (modN 1) p.3) < modN 1, goodF (modN 1) (facN 1), mmN (modN 1) p.1 (minvN (modN 1) p.3) < 4294967296 ^ 8, modN 1 < 4294967296 ^ 8, p.2 < modN 1, minvN (modN 1) p.3 < modN 1, goodF (modN 1) (facN 1), p.2 < 4294967296 ^ 8, minvN (modN 1) p.3 < 4294967296 ^ 8, modN 1 < 4294967296 ^ 8, mmN (modN 1) p.2 (minvN (modN 1) p.3) < modN 1, goodF (modN 1) (facN 1), mmN (modN 1) p.2 (minvN (modN 1) p.3) < 4294967296 ^ 8], .val (P3 (outN (modN 1) (mmN (modN 1) p.x (minvN (modN 1) p.z))) (outN (modN 1) (mmN (modN 1) p.y (minvN (modN 1) p.z))) false)) := by kernel_rfl
theorem P3_none (φ : Loc) : concs φ (cellsU 16 0 zF ++ [.a (.v (.bool true))]) = concs φ [.num 8 0, .num 8 0, .a (.v (.bool true))] := by kernel_rfl
theorem spec41w (p : J3) (hp : p.lt) : Spec 96 [lawV, w3V p] (.val (P3 (wDx p) (wDy p) (wDi p))) := by
 obtain ⟨h1, h2, h3⟩ := hp
 have hz8 := L8 h3
 unfold wDx wDy wDi
 cases hz : decide (p.z = 0) with
 | true =>
  have hz' : isZ p.z = true := by rw [isZ_eq hz8]; exact hz
  rw [cond_true, cond_true]
  exact (spec_run (envMk L4a_ok S41) rfl (wi41i p) ⟨(by first | with_reducible assumption | with_reducible exact L8 (by with_reducible assumption) | exact decide_eq_true (by omega) | exact decide_eq_false (by omega) | omega), trivial⟩ rfl rfl).congr (fun _ => rfl) (fun φ => by
   simp only [AV.conc, V1.conc, P3, P3_none])
 | false =>
  have hz' : isZ p.z = false := by rw [isZ_eq hz8]; exact hz
  rw [cond_false, cond_false]
  exact spec_run (envMk L4a_ok S41) rfl (wi41f p) ⟨(by first | with_reducible assumption | with_reducible exact L8 (by with_reducible assumption) | exact decide_eq_true (by omega) | exact decide_eq_false (by omega) | omega), (modN_lt _), (by first | with_reducible assumption | with_reducible exact L8 (by with_reducible assumption) | exact decide_eq_true (by omega) | exact decide_eq_false (by omega) | omega), (good_fac (by decide)), (by first | with_reducible assumption | with_reducible exact L8 (by with_reducible assumption) | exact decide_eq_true (by omega) | exact decide_eq_false (by omega) | omega), (modN_lt _), (by first | with_reducible assumption | with_reducible exact L8 (by with_reducible assumption) | exact decide_eq_true (by omega) | exact decide_eq_false (by omega) | omega), (minvN_lt (modN_pos _)), (good_fac (by decide)), (by first | with_reducible assumption | with_reducible exact L8 (by with_reducible assumption) | exact decide_eq_true (by omega) | exact decide_eq_false (by omega) | omega), (L8 (minvN_lt (modN_pos _))), (modN_lt _), (mmN_lt (modN_pos _)), (good_fac (by decide)), (L8 (mmN_lt (modN_pos _))), (modN_lt _), (by first | with_reducible assumption | with_reducible exact L8 (by with_reducible assumption) | exact decide_eq_true (by omega) | exact decide_eq_false (by omega) | omega), (minvN_lt (modN_pos _)), (good_fac (by decide)), (by first | with_reducible assumption | with_reducible exact L8 (by with_reducible assumption) | exact decide_eq_true (by omega) | exact decide_eq_false (by omega) | omega), (L8 (minvN_lt (modN_pos _))), (modN_lt _), (mmN_lt (modN_pos _)), (good_fac (by decide)), (L8 (mmN_lt (modN_pos _))), trivial⟩ rfl rfl
noncomputable def gSpot : List Val → Option (List Prop × AV)
 | [.n m, .n q, .n w, .n x1, .n y1, .n z1] => some ([m = modN 1, q = facN 1, w = wBi, J3.lt ⟨x1, y1, z1⟩], .val (P3 (wDx ⟨x1, y1, z1⟩) (wDy ⟨x1, y1, z1⟩) (wDi ⟨x1, y1, z1⟩)))
 | _ => none
theorem ct41w : CTok ⟨96, fnS [aLaw, aJ] gSpot⟩ := ctS (by
 intro xs ob r hb h ho
 unfold gSpot at h
 split at h
 ·rename_i m q w x1 y1 z1
  simp only [Option.some.injEq, Prod.mk.injEq] at h
  obtain ⟨rfl, rfl⟩ := h
  obtain ⟨e0, e1, e2, h1, _⟩ := ho
  subst e0 e1 e2
  exact spec41w ⟨x1, y1, z1⟩ h1
 ·simp at h)
noncomputable def L5a : List CT := [⟨133, fnS [aLaw, aJ, aJ] gWAdd⟩, ⟨96, fnS [aLaw, aJ] gSpot⟩] ++ L4a
theorem L5a_ok : AllCT L5a := ⟨ct42w, ct41w, L4a_ok⟩
end Go.Ev

namespace Go.Ev
open Go Go.Proofs Go.RowKit
noncomputable def wStep (k:Nat) (p:J3) (j:Nat) (x:J3):J3:=bif bitB k j then mAdd (mAdd x x) p else mAdd x x
noncomputable def wTimesG (k:Nat) (p:J3):Nat→J3→J3
 |0,x=>x
 |j+1,x=>wTimesG k p j (wStep k p j x)
noncomputable def wTimes (k:Nat) (p:J3):J3:=wTimesG k p (lenN k) (wLift 0 0 true)
theorem wStep_lt (k:Nat) (p:J3) (j:Nat) (x:J3):(wStep k p j x).lt:=by
 unfold wStep;cases bitB k j<;>exact mAdd_lt _ _
theorem wTimesG_lt (k:Nat) (p:J3):∀j x,x.lt→(wTimesG k p j x).lt
 |0,_,h=>h
 |j+1,x,_=>wTimesG_lt k p j _ (wStep_lt k p j x)
theorem wTimes_lt (k:Nat) (p:J3):(wTimes k p).lt:=wTimesG_lt k p _ _ (wLift_lt 0 0 true)
def T43 (i:Int):List AV:=slots 31 [(3,pV 0),(4,pV 1),(5,pV 2),(6,pV 3),(7,pV 4),(8,iV i)]
noncomputable def M43 (k:Nat) (p x:J3):List Blk:=[⟨[.num 8 (modN 1),.a (.u .u32 (facN 1)),.num 8 wBi],116,true,false,0⟩,⟨[.num 8 k],51,true,false,0⟩,⟨[.num 8 p.x,.num 8 p.y,.num 8 p.z],120,true,false,0⟩,⟨cellsU 24 0 zF,120,true,false,0⟩,⟨[.num 8 x.x,.num 8 x.y,.num 8 x.z],120,true,false,0⟩]
noncomputable def S43:FuncId→Nat→Bool:=fun f t=>match f with|97=>memN t [14,16,18,25]|_=>false
noncomputable def E43:Env:=mkE L5a S43
theorem envE43:EnvOK E43:=envMk L5a_ok S43
theorem wfT43 (k:Nat) (p x:J3) (i:Int):wfS (T43 i) (M43 k p x)=true:=by
 unfold wfS
 rw[show tmsWf (M43 k p x).length (T43 i)=true by show tmsWf 5 _=true;kernel_rfl,Bool.true_and]
 kernel_rfl
theorem wi43t (k:Nat) (p:J3) (x:J3) (j:Nat):runTo E43 1000 (Env.S E43 97) (bodyOf Tryz.prog 97 3) (T43 (↑j:Int)) (M43 k p x) [true,true] (T43 ((↑j:Int)-(1:Int))) 5=
  some ([decide ((0:Int)≤(↑j:Int))=true,modN 1<4294967296^8,facN 1<4294967296,wBi<4294967296^8,x.1<4294967296^8,x.2<4294967296^8,x.3<4294967296^8,x.1<4294967296^8,x.2<4294967296^8,x.3<4294967296^8,modN 1=modN 1,facN 1=facN 1,wBi=wBi,J3.lt (J3.mk (J3.x x) (J3.y x) (J3.z x)),J3.lt (J3.mk (J3.x x) (J3.y x) (J3.z x)),bitB k j=true,k<4294967296^8,(0:Int)≤(↑j:Int)∧(↑j:Int)<(256:Int),modN 1<4294967296^8,facN 1<4294967296,wBi<4294967296^8,subM (modN 1) (mmN (modN 1) (mcr x.1 x.2 x.1 x.2 (mmN (modN 1) x.1 x.1) (mmN (modN 1) x.2 x.2)) (addM (modN 1) (mmN (modN 1) x.2 x.2) (mtr (subM (modN 1) (mcr x.1 x.3 x.1 x.3 (mmN (modN 1) x.1 x.1) (mmN (modN 1) x.3 x.3)) (mmN (modN 1) wBi (mmN (modN 1) x.3 x.3)))))) (mmN (modN 1) (mcr x.2 x.3 x.2 x.3 (mmN (modN 1) x.2 x.2) (mmN (modN 1) x.3 x.3)) (mtr (subM (modN 1) (subM (modN 1) (mmN (modN 1) wBi (mcr x.1 x.3 x.1 x.3 (mmN (modN 1) x.1 x.1) (mmN (modN 1) x.3 x.3))) (mtr (mmN (modN 1) x.3 x.3))) (mmN (modN 1) x.1 x.1))))<4294967296^8,addM (modN 1) (mmN (modN 1) (addM (modN 1) (mmN (modN 1) x.2 x.2) (mtr (subM (modN 1) (mcr x.1 x.3 x.1 x.3 (mmN (modN 1) x.1 x.1) (mmN (modN 1) x.3 x.3)) (mmN (modN 1) wBi (mmN (modN 1) x.3 x.3))))) (subM (modN 1) (mmN (modN 1) x.2 x.2) (mtr (subM (modN 1) (mcr x.1 x.3 x.1 x.3 (mmN (modN 1) x.1 x.1) (mmN (modN 1) x.3 x.3)) (mmN (modN 1) wBi (mmN (modN 1) x.3 x.3)))))) (mmN (modN 1) (subM (modN 1) (mtr (mmN (modN 1) x.1 x.1)) (mtr (mmN (modN 1) x.3 x.3))) (mtr (subM (modN 1) (subM (modN 1) (mmN (modN 1) wBi (mcr x.1 x.3 x.1 x.3 (mmN (modN 1) x.1 x.1) (mmN (modN 1) x.3 x.3))) (mtr (mmN (modN 1) x.3 x.3))) (mmN (modN 1) x.1 x.1))))<4294967296^8,addM (modN 1) (mmN (modN 1) (mcr x.2 x.3 x.2 x.3 (mmN (modN 1) x.2 x.2) (mmN (modN 1) x.3 x.3)) (subM (modN 1) (mmN (modN 1) x.2 x.2) (mtr (subM (modN 1) (mcr x.1 x.3 x.1 x.3 (mmN (modN 1) x.1 x.1) (mmN (modN 1) x.3 x.3)) (mmN (modN 1) wBi (mmN (modN 1) x.3 x.3)))))) (mmN (modN 1) (mcr x.1 x.2 x.1 x.2 (mmN (modN 1) x.1 x.1) (mmN (modN 1) x.2 x.2)) (subM (modN 1) (mtr (mmN (modN 1) x.1 x.1)) (mtr (mmN (modN 1) x.3 x.3))))<4294967296^8,p.1<4294967296^8,p.2<4294967296^8,p.3<4294967296^8,modN 1=modN 1,facN 1=facN 1,wBi=wBi,J3.lt (J3.mk (J3.x (mAdd (J3.mk (J3.x x) (J3.y x) (J3.z x)) (J3.mk (J3.x x) (J3.y x) (J3.z x)))) (J3.y (mAdd (J3.mk (J3.x x) (J3.y x) (J3.z x)) (J3.mk (J3.x x) (J3.y x) (J3.z x)))) (J3.z (mAdd (J3.mk (J3.x x) (J3.y x) (J3.z x)) (J3.mk (J3.x x) (J3.y x) (J3.z x))))),J3.lt (J3.mk (J3.x p) (J3.y p) (J3.z p)),inI ((↑j:Int)-(1:Int))],.normal,T43 ((j:Int)-1),M43 k p (mAdd (mAdd x x) p)):=by kernel_rfl
theorem wi43f (k:Nat) (p:J3) (x:J3) (j:Nat):runTo E43 1000 (Env.S E43 97) (bodyOf Tryz.prog 97 3) (T43 (↑j:Int)) (M43 k p x) [true,false] (T43 ((↑j:Int)-(1:Int))) 5=
  some ([decide ((0:Int)≤(↑j:Int))=true,modN 1<4294967296^8,facN 1<4294967296,wBi<4294967296^8,x.1<4294967296^8,x.2<4294967296^8,x.3<4294967296^8,x.1<4294967296^8,x.2<4294967296^8,x.3<4294967296^8,modN 1=modN 1,facN 1=facN 1,wBi=wBi,J3.lt (J3.mk (J3.x x) (J3.y x) (J3.z x)),J3.lt (J3.mk (J3.x x) (J3.y x) (J3.z x)),bitB k j=false,k<4294967296^8,(0:Int)≤(↑j:Int)∧(↑j:Int)<(256:Int),inI ((↑j:Int)-(1:Int))],.normal,T43 ((j:Int)-1),M43 k p (mAdd x x)):=by kernel_rfl
theorem wi43x (k:Nat) (p:J3) (x:J3):runTo E43 1000 (Env.S E43 97) (bodyOf Tryz.prog 97 3) (T43 (-1:Int)) (M43 k p x) [false] (T43 (-1:Int)) 5=
  some ([decide ((0:Int)≤(-1:Int))=false],.exit 0,T43 (-1),M43 k p x):=by kernel_rfl
theorem loop43 {k:Nat} {p:J3} (hk:k<4294967296^8) (hp:p.lt):∀(j:Nat) (x:J3),j≤256→x.lt→GoesN Tryz.prog (bodyOf Tryz.prog 97 3) (j+1) (.exit 0) (T43 ((j:Int)-1)) (M43 k p x) (T43 (-1)) (M43 k p (wTimesG k p j x))
 |0,x,_,hx=>by
  have hwb:=wBi_lt
  obtain ⟨hx1,hx2,hx3⟩:=id hx
  obtain ⟨hp1,hp2,hp3⟩:=id hp
  exact GoesN.out (by simp) (Runs.goes envE43 ⟨[false],_,wi43x k p x,⟨(by first|with_reducible assumption|with_reducible exact L8 (by with_reducible assumption)|exact decide_eq_true (by omega)|exact decide_eq_false (by omega)|omega),trivial⟩,wfT43 _ _ _ _⟩)
 |j+1,x,hj,hx=>by
  have ih:=loop43 hk hp j (wStep k p j x) (by omega) (wStep_lt k p j x)
  have hwb:=wBi_lt
  have hxx:=mAdd_lt x x
  obtain ⟨hx1,hx2,hx3⟩:=id hx
  obtain ⟨hp1,hp2,hp3⟩:=id hp
  obtain ⟨hq1,hq2,hq3⟩:=id hxx
  have h0:decide (0≤(j:Int))=true:=decide_eq_true (by omega)
  have hr:0≤(j:Int)∧(j:Int)<256:=by omega
  have hI:inI ((j:Int)-1):=by unfold inI;omega
  rw[show ((j+1:Nat):Int)-1=(j:Int) by omega]
  have hs:Goes Tryz.prog (bodyOf Tryz.prog 97 3) .normal (T43 (j:Int)) (M43 k p x) (T43 ((j:Int)-1)) (M43 k p (wStep k p j x)):=by
   unfold wStep
   cases hb:bitB k j with
   |true=>exact Runs.goes envE43 ⟨_,_,wi43t k p x j,⟨(by first|with_reducible assumption|with_reducible exact L8 (by with_reducible assumption)|exact decide_eq_true (by omega)|exact decide_eq_false (by omega)|omega),(modN_lt _),(facN_lt32 1),(by first|with_reducible assumption|with_reducible exact L8 (by with_reducible assumption)|exact decide_eq_true (by omega)|exact decide_eq_false (by omega)|omega),(by first|with_reducible assumption|with_reducible exact L8 (by with_reducible assumption)|exact decide_eq_true (by omega)|exact decide_eq_false (by omega)|omega),(by first|with_reducible assumption|with_reducible exact L8 (by with_reducible assumption)|exact decide_eq_true (by omega)|exact decide_eq_false (by omega)|omega),(by first|with_reducible assumption|with_reducible exact L8 (by with_reducible assumption)|exact decide_eq_true (by omega)|exact decide_eq_false (by omega)|omega),(by first|with_reducible assumption|with_reducible exact L8 (by with_reducible assumption)|exact decide_eq_true (by omega)|exact decide_eq_false (by omega)|omega),(by first|with_reducible assumption|with_reducible exact L8 (by with_reducible assumption)|exact decide_eq_true (by omega)|exact decide_eq_false (by omega)|omega),(by first|with_reducible assumption|with_reducible exact L8 (by with_reducible assumption)|exact decide_eq_true (by omega)|exact decide_eq_false (by omega)|omega),rfl,rfl,rfl,(by first|with_reducible assumption|with_reducible exact L8 (by with_reducible assumption)|exact decide_eq_true (by omega)|exact decide_eq_false (by omega)|omega),(by first|with_reducible assumption|with_reducible exact L8 (by with_reducible assumption)|exact decide_eq_true (by omega)|exact decide_eq_false (by omega)|omega),(by first|with_reducible assumption|with_reducible exact L8 (by with_reducible assumption)|exact decide_eq_true (by omega)|exact decide_eq_false (by omega)|omega),(by first|with_reducible assumption|with_reducible exact L8 (by with_reducible assumption)|exact decide_eq_true (by omega)|exact decide_eq_false (by omega)|omega),(by first|with_reducible assumption|with_reducible exact L8 (by with_reducible assumption)|exact decide_eq_true (by omega)|exact decide_eq_false (by omega)|omega),(modN_lt _),(facN_lt32 1),(by first|with_reducible assumption|with_reducible exact L8 (by with_reducible assumption)|exact decide_eq_true (by omega)|exact decide_eq_false (by omega)|omega),(L8 (subM_lt (modN_pos _))),(L8 (addM_lt (modN_pos _))),(L8 (addM_lt (modN_pos _))),(by first|with_reducible assumption|with_reducible exact L8 (by with_reducible assumption)|exact decide_eq_true (by omega)|exact decide_eq_false (by omega)|omega),(by first|with_reducible assumption|with_reducible exact L8 (by with_reducible assumption)|exact decide_eq_true (by omega)|exact decide_eq_false (by omega)|omega),(by first|with_reducible assumption|with_reducible exact L8 (by with_reducible assumption)|exact decide_eq_true (by omega)|exact decide_eq_false (by omega)|omega),rfl,rfl,rfl,(by first|with_reducible assumption|with_reducible exact L8 (by with_reducible assumption)|exact decide_eq_true (by omega)|exact decide_eq_false (by omega)|omega),(by first|with_reducible assumption|with_reducible exact L8 (by with_reducible assumption)|exact decide_eq_true (by omega)|exact decide_eq_false (by omega)|omega),(by first|with_reducible assumption|with_reducible exact L8 (by with_reducible assumption)|exact decide_eq_true (by omega)|exact decide_eq_false (by omega)|omega),trivial⟩,wfT43 _ _ _ _⟩
   |false=>exact Runs.goes envE43 ⟨_,_,wi43f k p x j,⟨(by first|with_reducible assumption|with_reducible exact L8 (by with_reducible assumption)|exact decide_eq_true (by omega)|exact decide_eq_false (by omega)|omega),(modN_lt _),(facN_lt32 1),(by first|with_reducible assumption|with_reducible exact L8 (by with_reducible assumption)|exact decide_eq_true (by omega)|exact decide_eq_false (by omega)|omega),(by first|with_reducible assumption|with_reducible exact L8 (by with_reducible assumption)|exact decide_eq_true (by omega)|exact decide_eq_false (by omega)|omega),(by first|with_reducible assumption|with_reducible exact L8 (by with_reducible assumption)|exact decide_eq_true (by omega)|exact decide_eq_false (by omega)|omega),(by first|with_reducible assumption|with_reducible exact L8 (by with_reducible assumption)|exact decide_eq_true (by omega)|exact decide_eq_false (by omega)|omega),(by first|with_reducible assumption|with_reducible exact L8 (by with_reducible assumption)|exact decide_eq_true (by omega)|exact decide_eq_false (by omega)|omega),(by first|with_reducible assumption|with_reducible exact L8 (by with_reducible assumption)|exact decide_eq_true (by omega)|exact decide_eq_false (by omega)|omega),(by first|with_reducible assumption|with_reducible exact L8 (by with_reducible assumption)|exact decide_eq_true (by omega)|exact decide_eq_false (by omega)|omega),rfl,rfl,rfl,(by first|with_reducible assumption|with_reducible exact L8 (by with_reducible assumption)|exact decide_eq_true (by omega)|exact decide_eq_false (by omega)|omega),(by first|with_reducible assumption|with_reducible exact L8 (by with_reducible assumption)|exact decide_eq_true (by omega)|exact decide_eq_false (by omega)|omega),(by first|with_reducible assumption|with_reducible exact L8 (by with_reducible assumption)|exact decide_eq_true (by omega)|exact decide_eq_false (by omega)|omega),(by first|with_reducible assumption|with_reducible exact L8 (by with_reducible assumption)|exact decide_eq_true (by omega)|exact decide_eq_false (by omega)|omega),(by first|with_reducible assumption|with_reducible exact L8 (by with_reducible assumption)|exact decide_eq_true (by omega)|exact decide_eq_false (by omega)|omega),(by first|with_reducible assumption|with_reducible exact L8 (by with_reducible assumption)|exact decide_eq_true (by omega)|exact decide_eq_false (by omega)|omega),trivial⟩,wfT43 _ _ _ _⟩
  exact GoesN.cons (M1:=M43 k p (wStep k p j x)) rfl hs ih
noncomputable def E43x (k:Nat) (p:J3):Env:=withL E43 3 (bodyOf Tryz.prog 97 3) (sumC (T43 ((lenN k:Int)-1)) (M43 k p (wLift 0 0 true)) (T43 (-1)) (M43 k p (wTimesG k p (lenN k) (wLift 0 0 true))) (.exit 0))
theorem envE43x {k:Nat} {p:J3} (hk:k<4294967296^8) (hp:p.lt):EnvOK (E43x k p):=envWithL envE43 (sumC_ok rfl (loop43 hk hp (lenN k) _ ((lenN_spec hk).2) (wLift_lt 0 0 true)).loop)
theorem wi43 (k:Nat) (p:J3):callR (E43x k p) 1000 97 [lawV,N8 k,w3V p] []=
  some ([modN 1<4294967296^8,facN 1<4294967296,wBi<4294967296^8,0<4294967296,0<4294967296,0<4294967296,0<4294967296,0<4294967296,0<4294967296,0<4294967296,0<4294967296,0<4294967296,0<4294967296,0<4294967296,0<4294967296,0<4294967296,0<4294967296,0<4294967296,0<4294967296,modN 1=modN 1,facN 1=facN 1,wBi=wBi,true=true∨0<modN 1∧0<modN 1,k<4294967296^8,inI ((↑(lenN k):Int)-(1:Int)),(bodyOf Tryz.prog 97 3)=(bodyOf Tryz.prog 97 3),(T43 ((lenN k:Int)-1),M43 k p (wLift 0 0 true))=(T43 ((lenN k:Int)-1),M43 k p (wLift 0 0 true)),wfS (T43 ((lenN k:Int)-1)) (M43 k p (wLift 0 0 true))=true],.val (w3V (wTimesG k p (lenN k) (wLift 0 0 true)))):=by kernel_rfl
theorem spec43t (k:Nat) (p:J3) (hk:k<4294967296^8) (hp:p.lt):Spec 97 [lawV,N8 k,w3V p] (.val (w3V (wTimes k p))):=by
 obtain ⟨hp1,hp2,hp3⟩:=id hp
 have hwb:=wBi_lt
 have hl:=(lenN_spec hk).2
 have hI:inI ((lenN k:Int)-1):=by unfold inI;omega
 have hw:=wfT43 k p (wLift 0 0 true) ((lenN k:Int)-1)
 have h:=spec_run (envE43x hk hp) rfl (wi43 k p) ⟨(modN_lt _),(facN_lt32 1),(by first|with_reducible assumption|with_reducible exact L8 (by with_reducible assumption)|exact decide_eq_true (by omega)|exact decide_eq_false (by omega)|omega),lit0,lit0,lit0,lit0,lit0,lit0,lit0,lit0,lit0,lit0,lit0,lit0,lit0,lit0,lit0,lit0,rfl,rfl,rfl,(by first|with_reducible assumption|with_reducible exact L8 (by with_reducible assumption)|exact decide_eq_true (by omega)|exact decide_eq_false (by omega)|omega),(by first|with_reducible assumption|with_reducible exact L8 (by with_reducible assumption)|exact decide_eq_true (by omega)|exact decide_eq_false (by omega)|omega),(by first|with_reducible assumption|with_reducible exact L8 (by with_reducible assumption)|exact decide_eq_true (by omega)|exact decide_eq_false (by omega)|omega),rfl,rfl,(by assumption),trivial⟩ rfl rfl
 exact h
end Go.Ev

namespace Go.Ev
open Go Go.Proofs Go.RowKit
noncomputable def jLift (x y:Nat) (i:Bool):J3:=bif i then ⟨inN (modN 1) 1,inN (modN 1) 1,0⟩ else ⟨inN (modN 1) x,inN (modN 1) y,inN (modN 1) 1⟩
theorem jLift_lt (x y:Nat) (i:Bool):(jLift x y i).lt:=by
 have hp:=modN_pos 1
 cases i
 ·exact ⟨inN_lt hp,inN_lt hp,inN_lt hp⟩
 ·exact ⟨inN_lt hp,inN_lt hp,hp⟩
theorem wi52i (x:Nat) (y:Nat):callR (mkE L5a noS) 1000 77 [rg1,P3 x y true] []=
  some ([1<4294967296,okR (modN 1) (facR (limb (modN 1) 0)) (r2N (modN 1)),1<modN 1,1<4294967296^8,1<4294967296,okR (modN 1) (facR (limb (modN 1) 0)) (r2N (modN 1)),1<modN 1,1<4294967296^8],.val (.agg (.num 8 (inN (modN 1) 1):: .num 8 (inN (modN 1) 1)::cellsU 8 0 zF))):=by kernel_rfl
theorem wi52f (x:Nat) (y:Nat):callR (mkE L5a noS) 1000 77 [rg1,P3 x y false] []=
  some ([okR (modN 1) (facR (limb (modN 1) 0)) (r2N (modN 1)),x<modN 1,x<4294967296^8,okR (modN 1) (facR (limb (modN 1) 0)) (r2N (modN 1)),y<modN 1,y<4294967296^8,1<4294967296,okR (modN 1) (facR (limb (modN 1) 0)) (r2N (modN 1)),1<modN 1,1<4294967296^8],.val (w3V (jLift x y false))):=by kernel_rfl
theorem spec52w (x y:Nat) (i:Bool) (h:i=true∨(x<modN 1∧y<modN 1)):Spec 77 [rg1,P3 x y i] (.val (w3V (jLift x y i))):=by
 have h1:=modN_one 1
 cases i with
 |true=>exact (spec_run (envMk L5a_ok noS) rfl (wi52i x y) ⟨lit1,(okR_K (by decide)),(modN_one _),lit1_8,lit1,(okR_K (by decide)),(modN_one _),lit1_8,trivial⟩ rfl rfl).congr (fun _=>rfl) (fun φ=>by
   simp only[AV.conc,V1.conc,w3V,jLift,cond_true]
   rw[show ([.num 8 (inN (modN 1) 1),.num 8 (inN (modN 1) 1),.num 8 0]:List Piece)=[.num 8 (inN (modN 1) 1),.num 8 (inN (modN 1) 1)]++[.num 8 0] from rfl,show (.num 8 (inN (modN 1) 1):: .num 8 (inN (modN 1) 1)::cellsU 8 0 zF:List Piece)=[.num 8 (inN (modN 1) 1),.num 8 (inN (modN 1) 1)]++cellsU 8 0 zF from rfl,concs_append,concs_append,concs_num φ 8 0,limb_zero])
 |false=>
  rcases h with h|⟨hx,hy⟩
  ·simp at h
  ·exact spec_run (envMk L5a_ok noS) rfl (wi52f x y) ⟨(okR_K (by decide)),(by first|with_reducible assumption|with_reducible exact L8 (by with_reducible assumption)|exact decide_eq_true (by omega)|exact decide_eq_false (by omega)|omega),(by first|with_reducible assumption|with_reducible exact L8 (by with_reducible assumption)|exact decide_eq_true (by omega)|exact decide_eq_false (by omega)|omega),(okR_K (by decide)),(by first|with_reducible assumption|with_reducible exact L8 (by with_reducible assumption)|exact decide_eq_true (by omega)|exact decide_eq_false (by omega)|omega),(by first|with_reducible assumption|with_reducible exact L8 (by with_reducible assumption)|exact decide_eq_true (by omega)|exact decide_eq_false (by omega)|omega),lit1,(okR_K (by decide)),(modN_one _),lit1_8,trivial⟩ rfl rfl
noncomputable def rS (p:J3):Nat:=addM (modN 1) (addM (modN 1) (mmN (modN 1) p.x (mmN (modN 1) p.y p.y)) (mmN (modN 1) p.x (mmN (modN 1) p.y p.y))) (addM (modN 1) (mmN (modN 1) p.x (mmN (modN 1) p.y p.y)) (mmN (modN 1) p.x (mmN (modN 1) p.y p.y)))
noncomputable def rM0 (p:J3):Nat:=mmN (modN 1) (subM (modN 1) p.x (mmN (modN 1) p.z p.z)) (addM (modN 1) p.x (mmN (modN 1) p.z p.z))
noncomputable def rM (p:J3):Nat:=addM (modN 1) (rM0 p) (addM (modN 1) (rM0 p) (rM0 p))
noncomputable def rX (p:J3):Nat:=subM (modN 1) (mmN (modN 1) (rM p) (rM p)) (addM (modN 1) (rS p) (rS p))
noncomputable def rY1 (p:J3):Nat:=addM (modN 1) (mmN (modN 1) (mmN (modN 1) p.y p.y) (mmN (modN 1) p.y p.y)) (mmN (modN 1) (mmN (modN 1) p.y p.y) (mmN (modN 1) p.y p.y))
noncomputable def rY2 (p:J3):Nat:=addM (modN 1) (rY1 p) (rY1 p)
noncomputable def rY4 (p:J3):Nat:=addM (modN 1) (rY2 p) (rY2 p)
noncomputable def rY (p:J3):Nat:=subM (modN 1) (mmN (modN 1) (rM p) (subM (modN 1) (rS p) (rX p))) (rY4 p)
noncomputable def rZ (p:J3):Nat:=addM (modN 1) (mmN (modN 1) p.y p.z) (mmN (modN 1) p.y p.z)
noncomputable def S90:FuncId→Nat→Bool:=fun f t=>match f with|113=>memN t [17]|_=>false
theorem wi90i (p:J3):callR (mkE L5a S90) 1000 113 [rg1,w3V p] [true]=
  some ([(isZ (p.3))=true],.val (w3V p)):=by kernel_rfl
theorem wi90f (p:J3):callR (mkE L5a S90) 1000 113 [rg1,w3V p] [false]=
  some ([(isZ (p.3))=false,okR (modN 1) (facR (limb (modN 1) 0)) (r2N (modN 1)),p.3<modN 1,p.3<modN 1,p.3<4294967296^8,p.3<4294967296^8,okR (modN 1) (facR (limb (modN 1) 0)) (r2N (modN 1)),p.2<modN 1,p.2<modN 1,p.2<4294967296^8,p.2<4294967296^8,okR (modN 1) (facR (limb (modN 1) 0)) (r2N (modN 1)),p.1<modN 1,mmN (modN 1) p.2 p.2<modN 1,p.1<4294967296^8,mmN (modN 1) p.2 p.2<4294967296^8,okR (modN 1) (facR (limb (modN 1) 0)) (r2N (modN 1)),mmN (modN 1) p.1 (mmN (modN 1) p.2 p.2)<modN 1,mmN (modN 1) p.1 (mmN (modN 1) p.2 p.2)<modN 1,mmN (modN 1) p.1 (mmN (modN 1) p.2 p.2)<4294967296^8,mmN (modN 1) p.1 (mmN (modN 1) p.2 p.2)<4294967296^8,okR (modN 1) (facR (limb (modN 1) 0)) (r2N (modN 1)),addM (modN 1) (mmN (modN 1) p.1 (mmN (modN 1) p.2 p.2)) (mmN (modN 1) p.1 (mmN (modN 1) p.2 p.2))<modN 1,addM (modN 1) (mmN (modN 1) p.1 (mmN (modN 1) p.2 p.2)) (mmN (modN 1) p.1 (mmN (modN 1) p.2 p.2))<modN 1,addM (modN 1) (mmN (modN 1) p.1 (mmN (modN 1) p.2 p.2)) (mmN (modN 1) p.1 (mmN (modN 1) p.2 p.2))<4294967296^8,addM (modN 1) (mmN (modN 1) p.1 (mmN (modN 1) p.2 p.2)) (mmN (modN 1) p.1 (mmN (modN 1) p.2 p.2))<4294967296^8,okR (modN 1) (facR (limb (modN 1) 0)) (r2N (modN 1)),p.1<modN 1,mmN (modN 1) p.3 p.3<modN 1,p.1<4294967296^8,mmN (modN 1) p.3 p.3<4294967296^8,okR (modN 1) (facR (limb (modN 1) 0)) (r2N (modN 1)),p.1<modN 1,mmN (modN 1) p.3 p.3<modN 1,p.1<4294967296^8,mmN (modN 1) p.3 p.3<4294967296^8,okR (modN 1) (facR (limb (modN 1) 0)) (r2N (modN 1)),subM (modN 1) p.1 (mmN (modN 1) p.3 p.3)<modN 1,addM (modN 1) p.1 (mmN (modN 1) p.3 p.3)<modN 1,subM (modN 1) p.1 (mmN (modN 1) p.3 p.3)<4294967296^8,addM (modN 1) p.1 (mmN (modN 1) p.3 p.3)<4294967296^8,okR (modN 1) (facR (limb (modN 1) 0)) (r2N (modN 1)),mmN (modN 1) (subM (modN 1) p.1 (mmN (modN 1) p.3 p.3)) (addM (modN 1) p.1 (mmN (modN 1) p.3 p.3))<modN 1,mmN (modN 1) (subM (modN 1) p.1 (mmN (modN 1) p.3 p.3)) (addM (modN 1) p.1 (mmN (modN 1) p.3 p.3))<modN 1,mmN (modN 1) (subM (modN 1) p.1 (mmN (modN 1) p.3 p.3)) (addM (modN 1) p.1 (mmN (modN 1) p.3 p.3))<4294967296^8,mmN (modN 1) (subM (modN 1) p.1 (mmN (modN 1) p.3 p.3)) (addM (modN 1) p.1 (mmN (modN 1) p.3 p.3))<4294967296^8,okR (modN 1) (facR (limb (modN 1) 0)) (r2N (modN 1)),mmN (modN 1) (subM (modN 1) p.1 (mmN (modN 1) p.3 p.3)) (addM (modN 1) p.1 (mmN (modN 1) p.3 p.3))<modN 1,addM (modN 1) (mmN (modN 1) (subM (modN 1) p.1 (mmN (modN 1) p.3 p.3)) (addM (modN 1) p.1 (mmN (modN 1) p.3 p.3))) (mmN (modN 1) (subM (modN 1) p.1 (mmN (modN 1) p.3 p.3)) (addM (modN 1) p.1 (mmN (modN 1) p.3 p.3)))<modN 1,mmN (modN 1) (subM (modN 1) p.1 (mmN (modN 1) p.3 p.3)) (addM (modN 1) p.1 (mmN (modN 1) p.3 p.3))<4294967296^8,addM (modN 1) (mmN (modN 1) (subM (modN 1) p.1 (mmN (modN 1) p.3 p.3)) (addM (modN 1) p.1 (mmN (modN 1) p.3 p.3))) (mmN (modN 1) (subM (modN 1) p.1 (mmN (modN 1) p.3 p.3)) (addM (modN 1) p.1 (mmN (modN 1) p.3 p.3)))<4294967296^8,okR (modN 1) (facR (limb (modN 1) 0)) (r2N (modN 1)),addM (modN 1) (mmN (modN 1) (subM (modN 1) p.1 (mmN (modN 1) p.3 p.3)) (addM (modN 1) p.1 (mmN (modN 1) p.3 p.3))) (addM (modN 1) (mmN (modN 1) (subM (modN 1) p.1 (mmN (modN 1) p.3 p.3)) (addM (modN 1) p.1 (mmN (modN 1) p.3 p.3))) (mmN (modN 1) (subM (modN 1) p.1 (mmN (modN 1) p.3 p.3)) (addM (modN 1) p.1 (mmN (modN 1) p.3 p.3))))<modN 1,addM (modN 1) (mmN (modN 1) (subM (modN 1) p.1 (mmN (modN 1) p.3 p.3)) (addM (modN 1) p.1 (mmN (modN 1) p.3 p.3))) (addM (modN 1) (mmN (modN 1) (subM (modN 1) p.1 (mmN (modN 1) p.3 p.3)) (addM (modN 1) p.1 (mmN (modN 1) p.3 p.3))) (mmN (modN 1) (subM (modN 1) p.1 (mmN (modN 1) p.3 p.3)) (addM (modN 1) p.1 (mmN (modN 1) p.3 p.3))))<modN 1,addM (modN 1) (mmN (modN 1) (subM (modN 1) p.1 (mmN (modN 1) p.3 p.3)) (addM (modN 1) p.1 (mmN (modN 1) p.3 p.3))) (addM (modN 1) (mmN (modN 1) (subM (modN 1) p.1 (mmN (modN 1) p.3 p.3)) (addM (modN 1) p.1 (mmN (modN 1) p.3 p.3))) (mmN (modN 1) (subM (modN 1) p.1 (mmN (modN 1) p.3 p.3)) (addM (modN 1) p.1 (mmN (modN 1) p.3 p.3))))<4294967296^8,addM (modN 1) (mmN (modN 1) (subM (modN 1) p.1 (mmN (modN 1) p.3 p.3)) (addM (modN 1) p.1 (mmN (modN 1) p.3 p.3))) (addM (modN 1) (mmN (modN 1) (subM (modN 1) p.1 (mmN (modN 1) p.3 p.3)) (addM (modN 1) p.1 (mmN (modN 1) p.3 p.3))) (mmN (modN 1) (subM (modN 1) p.1 (mmN (modN 1) p.3 p.3)) (addM (modN 1) p.1 (mmN (modN 1) p.3 p.3))))<4294967296^8,okR (modN 1) (facR (limb (modN 1) 0)) (r2N (modN 1)),addM (modN 1) (addM (modN 1) (mmN (modN 1) p.1 (mmN (modN 1) p.2 p.2)) (mmN (modN 1) p.1 (mmN (modN 1) p.2 p.2))) (addM (modN 1) (mmN (modN 1) p.1 (mmN (modN 1) p.2 p.2)) (mmN (modN 1) p.1 (mmN (modN 1) p.2 p.2)))<modN 1,addM (modN 1) (addM (modN 1) (mmN (modN 1) p.1 (mmN (modN 1) p.2 p.2)) (mmN (modN 1) p.1 (mmN (modN 1) p.2 p.2))) (addM (modN 1) (mmN (modN 1) p.1 (mmN (modN 1) p.2 p.2)) (mmN (modN 1) p.1 (mmN (modN 1) p.2 p.2)))<modN 1,addM (modN 1) (addM (modN 1) (mmN (modN 1) p.1 (mmN (modN 1) p.2 p.2)) (mmN (modN 1) p.1 (mmN (modN 1) p.2 p.2))) (addM (modN 1) (mmN (modN 1) p.1 (mmN (modN 1) p.2 p.2)) (mmN (modN 1) p.1 (mmN (modN 1) p.2 p.2)))<4294967296^8,addM (modN 1) (addM (modN 1) (mmN (modN 1) p.1 (mmN (modN 1) p.2 p.2)) (mmN (modN 1) p.1 (mmN (modN 1) p.2 p.2))) (addM (modN 1) (mmN (modN 1) p.1 (mmN (modN 1) p.2 p.2)) (mmN (modN 1) p.1 (mmN (modN 1) p.2 p.2)))<4294967296^8,okR (modN 1) (facR (limb (modN 1) 0)) (r2N (modN 1)),mmN (modN 1) (addM (modN 1) (mmN (modN 1) (subM (modN 1) p.1 (mmN (modN 1) p.3 p.3)) (addM (modN 1) p.1 (mmN (modN 1) p.3 p.3))) (addM (modN 1) (mmN (modN 1) (subM (modN 1) p.1 (mmN (modN 1) p.3 p.3)) (addM (modN 1) p.1 (mmN (modN 1) p.3 p.3))) (mmN (modN 1) (subM (modN 1) p.1 (mmN (modN 1) p.3 p.3)) (addM (modN 1) p.1 (mmN (modN 1) p.3 p.3))))) (addM (modN 1) (mmN (modN 1) (subM (modN 1) p.1 (mmN (modN 1) p.3 p.3)) (addM (modN 1) p.1 (mmN (modN 1) p.3 p.3))) (addM (modN 1) (mmN (modN 1) (subM (modN 1) p.1 (mmN (modN 1) p.3 p.3)) (addM (modN 1) p.1 (mmN (modN 1) p.3 p.3))) (mmN (modN 1) (subM (modN 1) p.1 (mmN (modN 1) p.3 p.3)) (addM (modN 1) p.1 (mmN (modN 1) p.3 p.3)))))<modN 1,addM (modN 1) (addM (modN 1) (addM (modN 1) (mmN (modN 1) p.1 (mmN (modN 1) p.2 p.2)) (mmN (modN 1) p.1 (mmN (modN 1) p.2 p.2))) (addM (modN 1) (mmN (modN 1) p.1 (mmN (modN 1) p.2 p.2)) (mmN (modN 1) p.1 (mmN (modN 1) p.2 p.2)))) (addM (modN 1) (addM (modN 1) (mmN (modN 1) p.1 (mmN (modN 1) p.2 p.2)) (mmN (modN 1) p.1 (mmN (modN 1) p.2 p.2))) (addM (modN 1) (mmN (modN 1) p.1 (mmN (modN 1) p.2 p.2)) (mmN (modN 1) p.1 (mmN (modN 1) p.2 p.2))))<modN 1,mmN (modN 1) (addM (modN 1) (mmN (modN 1) (subM (modN 1) p.1 (mmN (modN 1) p.3 p.3)) (addM (modN 1) p.1 (mmN (modN 1) p.3 p.3))) (addM (modN 1) (mmN (modN 1) (subM (modN 1) p.1 (mmN (modN 1) p.3 p.3)) (addM (modN 1) p.1 (mmN (modN 1) p.3 p.3))) (mmN (modN 1) (subM (modN 1) p.1 (mmN (modN 1) p.3 p.3)) (addM (modN 1) p.1 (mmN (modN 1) p.3 p.3))))) (addM (modN 1) (mmN (modN 1) (subM (modN 1) p.1 (mmN (modN 1) p.3 p.3)) (addM (modN 1) p.1 (mmN (modN 1) p.3 p.3))) (addM (modN 1) (mmN (modN 1) (subM (modN 1) p.1 (mmN (modN 1) p.3 p.3)) (addM (modN 1) p.1 (mmN (modN 1) p.3 p.3))) (mmN (modN 1) (subM (modN 1) p.1 (mmN (modN 1) p.3 p.3)) (addM (modN 1) p.1 (mmN (modN 1) p.3 p.3)))))<4294967296^8,addM (modN 1) (addM (modN 1) (addM (modN 1) (mmN (modN 1) p.1 (mmN (modN 1) p.2 p.2)) (mmN (modN 1) p.1 (mmN (modN 1) p.2 p.2))) (addM (modN 1) (mmN (modN 1) p.1 (mmN (modN 1) p.2 p.2)) (mmN (modN 1) p.1 (mmN (modN 1) p.2 p.2)))) (addM (modN 1) (addM (modN 1) (mmN (modN 1) p.1 (mmN (modN 1) p.2 p.2)) (mmN (modN 1) p.1 (mmN (modN 1) p.2 p.2))) (addM (modN 1) (mmN (modN 1) p.1 (mmN (modN 1) p.2 p.2)) (mmN (modN 1) p.1 (mmN (modN 1) p.2 p.2))))<4294967296^8,okR (modN 1) (facR (limb (modN 1) 0)) (r2N (modN 1)),mmN (modN 1) p.2 p.2<modN 1,mmN (modN 1) p.2 p.2<modN 1,mmN (modN 1) p.2 p.2<4294967296^8,mmN (modN 1) p.2 p.2<4294967296^8,okR (modN 1) (facR (limb (modN 1) 0)) (r2N (modN 1)),mmN (modN 1) (mmN (modN 1) p.2 p.2) (mmN (modN 1) p.2 p.2)<modN 1,mmN (modN 1) (mmN (modN 1) p.2 p.2) (mmN (modN 1) p.2 p.2)<modN 1,mmN (modN 1) (mmN (modN 1) p.2 p.2) (mmN (modN 1) p.2 p.2)<4294967296^8,mmN (modN 1) (mmN (modN 1) p.2 p.2) (mmN (modN 1) p.2 p.2)<4294967296^8,okR (modN 1) (facR (limb (modN 1) 0)) (r2N (modN 1)),addM (modN 1) (mmN (modN 1) (mmN (modN 1) p.2 p.2) (mmN (modN 1) p.2 p.2)) (mmN (modN 1) (mmN (modN 1) p.2 p.2) (mmN (modN 1) p.2 p.2))<modN 1,addM (modN 1) (mmN (modN 1) (mmN (modN 1) p.2 p.2) (mmN (modN 1) p.2 p.2)) (mmN (modN 1) (mmN (modN 1) p.2 p.2) (mmN (modN 1) p.2 p.2))<modN 1,addM (modN 1) (mmN (modN 1) (mmN (modN 1) p.2 p.2) (mmN (modN 1) p.2 p.2)) (mmN (modN 1) (mmN (modN 1) p.2 p.2) (mmN (modN 1) p.2 p.2))<4294967296^8,addM (modN 1) (mmN (modN 1) (mmN (modN 1) p.2 p.2) (mmN (modN 1) p.2 p.2)) (mmN (modN 1) (mmN (modN 1) p.2 p.2) (mmN (modN 1) p.2 p.2))<4294967296^8,okR (modN 1) (facR (limb (modN 1) 0)) (r2N (modN 1)),addM (modN 1) (addM (modN 1) (mmN (modN 1) (mmN (modN 1) p.2 p.2) (mmN (modN 1) p.2 p.2)) (mmN (modN 1) (mmN (modN 1) p.2 p.2) (mmN (modN 1) p.2 p.2))) (addM (modN 1) (mmN (modN 1) (mmN (modN 1) p.2 p.2) (mmN (modN 1) p.2 p.2)) (mmN (modN 1) (mmN (modN 1) p.2 p.2) (mmN (modN 1) p.2 p.2)))<modN 1,addM (modN 1) (addM (modN 1) (mmN (modN 1) (mmN (modN 1) p.2 p.2) (mmN (modN 1) p.2 p.2)) (mmN (modN 1) (mmN (modN 1) p.2 p.2) (mmN (modN 1) p.2 p.2))) (addM (modN 1) (mmN (modN 1) (mmN (modN 1) p.2 p.2) (mmN (modN 1) p.2 p.2)) (mmN (modN 1) (mmN (modN 1) p.2 p.2) (mmN (modN 1) p.2 p.2)))<modN 1,addM (modN 1) (addM (modN 1) (mmN (modN 1) (mmN (modN 1) p.2 p.2) (mmN (modN 1) p.2 p.2)) (mmN (modN 1) (mmN (modN 1) p.2 p.2) (mmN (modN 1) p.2 p.2))) (addM (modN 1) (mmN (modN 1) (mmN (modN 1) p.2 p.2) (mmN (modN 1) p.2 p.2)) (mmN (modN 1) (mmN (modN 1) p.2 p.2) (mmN (modN 1) p.2 p.2)))<4294967296^8,addM (modN 1) (addM (modN 1) (mmN (modN 1) (mmN (modN 1) p.2 p.2) (mmN (modN 1) p.2 p.2)) (mmN (modN 1) (mmN (modN 1) p.2 p.2) (mmN (modN 1) p.2 p.2))) (addM (modN 1) (mmN (modN 1) (mmN (modN 1) p.2 p.2) (mmN (modN 1) p.2 p.2)) (mmN (modN 1) (mmN (modN 1) p.2 p.2) (mmN (modN 1) p.2 p.2)))<4294967296^8,okR (modN 1) (facR (limb (modN 1) 0)) (r2N (modN 1)),addM (modN 1) (addM (modN 1) (mmN (modN 1) p.1 (mmN (modN 1) p.2 p.2)) (mmN (modN 1) p.1 (mmN (modN 1) p.2 p.2))) (addM (modN 1) (mmN (modN 1) p.1 (mmN (modN 1) p.2 p.2)) (mmN (modN 1) p.1 (mmN (modN 1) p.2 p.2)))<modN 1,subM (modN 1) (mmN (modN 1) (addM (modN 1) (mmN (modN 1) (subM (modN 1) p.1 (mmN (modN 1) p.3 p.3)) (addM (modN 1) p.1 (mmN (modN 1) p.3 p.3))) (addM (modN 1) (mmN (modN 1) (subM (modN 1) p.1 (mmN (modN 1) p.3 p.3)) (addM (modN 1) p.1 (mmN (modN 1) p.3 p.3))) (mmN (modN 1) (subM (modN 1) p.1 (mmN (modN 1) p.3 p.3)) (addM (modN 1) p.1 (mmN (modN 1) p.3 p.3))))) (addM (modN 1) (mmN (modN 1) (subM (modN 1) p.1 (mmN (modN 1) p.3 p.3)) (addM (modN 1) p.1 (mmN (modN 1) p.3 p.3))) (addM (modN 1) (mmN (modN 1) (subM (modN 1) p.1 (mmN (modN 1) p.3 p.3)) (addM (modN 1) p.1 (mmN (modN 1) p.3 p.3))) (mmN (modN 1) (subM (modN 1) p.1 (mmN (modN 1) p.3 p.3)) (addM (modN 1) p.1 (mmN (modN 1) p.3 p.3)))))) (addM (modN 1) (addM (modN 1) (addM (modN 1) (mmN (modN 1) p.1 (mmN (modN 1) p.2 p.2)) (mmN (modN 1) p.1 (mmN (modN 1) p.2 p.2))) (addM (modN 1) (mmN (modN 1) p.1 (mmN (modN 1) p.2 p.2)) (mmN (modN 1) p.1 (mmN (modN 1) p.2 p.2)))) (addM (modN 1) (addM (modN 1) (mmN (modN 1) p.1 (mmN (modN 1) p.2 p.2)) (mmN (modN 1) p.1 (mmN (modN 1) p.2 p.2))) (addM (modN 1) (mmN (modN 1) p.1 (mmN (modN 1) p.2 p.2)) (mmN (modN 1) p.1 (mmN (modN 1) p.2 p.2)))))<modN 1,addM (modN 1) (addM (modN 1) (mmN (modN 1) p.1 (mmN (modN 1) p.2 p.2)) (mmN (modN 1) p.1 (mmN (modN 1) p.2 p.2))) (addM (modN 1) (mmN (modN 1) p.1 (mmN (modN 1) p.2 p.2)) (mmN (modN 1) p.1 (mmN (modN 1) p.2 p.2)))<4294967296^8,subM (modN 1) (mmN (modN 1) (addM (modN 1) (mmN (modN 1) (subM (modN 1) p.1 (mmN (modN 1) p.3 p.3)) (addM (modN 1) p.1 (mmN (modN 1) p.3 p.3))) (addM (modN 1) (mmN (modN 1) (subM (modN 1) p.1 (mmN (modN 1) p.3 p.3)) (addM (modN 1) p.1 (mmN (modN 1) p.3 p.3))) (mmN (modN 1) (subM (modN 1) p.1 (mmN (modN 1) p.3 p.3)) (addM (modN 1) p.1 (mmN (modN 1) p.3 p.3))))) (addM (modN 1) (mmN (modN 1) (subM (modN 1) p.1 (mmN (modN 1) p.3 p.3)) (addM (modN 1) p.1 (mmN (modN 1) p.3 p.3))) (addM (modN 1) (mmN (modN 1) (subM (modN 1) p.1 (mmN (modN 1) p.3 p.3)) (addM (modN 1) p.1 (mmN (modN 1) p.3 p.3))) (mmN (modN 1) (subM (modN 1) p.1 (mmN (modN 1) p.3 p.3)) (addM (modN 1) p.1 (mmN (modN 1) p.3 p.3)))))) (addM (modN 1) (addM (modN 1) (addM (modN 1) (mmN (modN 1) p.1 (mmN (modN 1) p.2 p.2)) (mmN (modN 1) p.1 (mmN (modN 1) p.2 p.2))) (addM (modN 1) (mmN (modN 1) p.1 (mmN (modN 1) p.2 p.2)) (mmN (modN 1) p.1 (mmN (modN 1) p.2 p.2)))) (addM (modN 1) (addM (modN 1) (mmN (modN 1) p.1 (mmN (modN 1) p.2 p.2)) (mmN (modN 1) p.1 (mmN (modN 1) p.2 p.2))) (addM (modN 1) (mmN (modN 1) p.1 (mmN (modN 1) p.2 p.2)) (mmN (modN 1) p.1 (mmN (modN 1) p.2 p.2)))))<4294967296^8,okR (modN 1) (facR (limb (modN 1) 0)) (r2N (modN 1)),addM (modN 1) (mmN (modN 1) (subM (modN 1) p.1 (mmN (modN 1) p.3 p.3)) (addM (modN 1) p.1 (mmN (modN 1) p.3 p.3))) (addM (modN 1) (mmN (modN 1) (subM (modN 1) p.1 (mmN (modN 1) p.3 p.3)) (addM (modN 1) p.1 (mmN (modN 1) p.3 p.3))) (mmN (modN 1) (subM (modN 1) p.1 (mmN (modN 1) p.3 p.3)) (addM (modN 1) p.1 (mmN (modN 1) p.3 p.3))))<modN 1,subM (modN 1) (addM (modN 1) (addM (modN 1) (mmN (modN 1) p.1 (mmN (modN 1) p.2 p.2)) (mmN (modN 1) p.1 (mmN (modN 1) p.2 p.2))) (addM (modN 1) (mmN (modN 1) p.1 (mmN (modN 1) p.2 p.2)) (mmN (modN 1) p.1 (mmN (modN 1) p.2 p.2)))) (subM (modN 1) (mmN (modN 1) (addM (modN 1) (mmN (modN 1) (subM (modN 1) p.1 (mmN (modN 1) p.3 p.3)) (addM (modN 1) p.1 (mmN (modN 1) p.3 p.3))) (addM (modN 1) (mmN (modN 1) (subM (modN 1) p.1 (mmN (modN 1) p.3 p.3)) (addM (modN 1) p.1 (mmN (modN 1) p.3 p.3))) (mmN (modN 1) (subM (modN 1) p.1 (mmN (modN 1) p.3 p.3)) (addM (modN 1) p.1 (mmN (modN 1) p.3 p.3))))) (addM (modN 1) (mmN (modN 1) (subM (modN 1) p.1 (mmN (modN 1) p.3 p.3)) (addM (modN 1) p.1 (mmN (modN 1) p.3 p.3))) (addM (modN 1) (mmN (modN 1) (subM (modN 1) p.1 (mmN (modN 1) p.3 p.3)) (addM (modN 1) p.1 (mmN (modN 1) p.3 p.3))) (mmN (modN 1) (subM (modN 1) p.1 (mmN (modN 1) p.3 p.3)) (addM (modN 1) p.1 (mmN (modN 1) p.3 p.3)))))) (addM (modN 1) (addM (modN 1) (addM (modN 1) (mmN (modN 1) p.1 (mmN (modN 1) p.2 p.2)) (mmN (modN 1) p.1 (mmN (modN 1) p.2 p.2))) (addM (modN 1) (mmN (modN 1) p.1 (mmN (modN 1) p.2 p.2)) (mmN (modN 1) p.1 (mmN (modN 1) p.2 p.2)))) (addM (modN 1) (addM (modN 1) (mmN (modN 1) p.1 (mmN (modN 1) p.2 p.2)) (mmN (modN 1) p.1 (mmN (modN 1) p.2 p.2))) (addM (modN 1) (mmN (modN 1) p.1 (mmN (modN 1) p.2 p.2)) (mmN (modN 1) p.1 (mmN (modN 1) p.2 p.2))))))<modN 1,addM (modN 1) (mmN (modN 1) (subM (modN 1) p.1 (mmN (modN 1) p.3 p.3)) (addM (modN 1) p.1 (mmN (modN 1) p.3 p.3))) (addM (modN 1) (mmN (modN 1) (subM (modN 1) p.1 (mmN (modN 1) p.3 p.3)) (addM (modN 1) p.1 (mmN (modN 1) p.3 p.3))) (mmN (modN 1) (subM (modN 1) p.1 (mmN (modN 1) p.3 p.3)) (addM (modN 1) p.1 (mmN (modN 1) p.3 p.3))))<4294967296^8,subM (modN 1) (addM (modN 1) (addM (modN 1) (mmN (modN 1) p.1 (mmN (modN 1) p.2 p.2)) (mmN (modN 1) p.1 (mmN (modN 1) p.2 p.2))) (addM (modN 1) (mmN (modN 1) p.1 (mmN (modN 1) p.2 p.2)) (mmN (modN 1) p.1 (mmN (modN 1) p.2 p.2)))) (subM (modN 1) (mmN (modN 1) (addM (modN 1) (mmN (modN 1) (subM (modN 1) p.1 (mmN (modN 1) p.3 p.3)) (addM (modN 1) p.1 (mmN (modN 1) p.3 p.3))) (addM (modN 1) (mmN (modN 1) (subM (modN 1) p.1 (mmN (modN 1) p.3 p.3)) (addM (modN 1) p.1 (mmN (modN 1) p.3 p.3))) (mmN (modN 1) (subM (modN 1) p.1 (mmN (modN 1) p.3 p.3)) (addM (modN 1) p.1 (mmN (modN 1) p.3 p.3))))) (addM (modN 1) (mmN (modN 1) (subM (modN 1) p.1 (mmN (modN 1) p.3 p.3)) (addM (modN 1) p.1 (mmN (modN 1) p.3 p.3))) (addM (modN 1) (mmN (modN 1) (subM (modN 1) p.1 (mmN (modN 1) p.3 p.3)) (addM (modN 1) p.1 (mmN (modN 1) p.3 p.3))) (mmN (modN 1) (subM (modN 1) p.1 (mmN (modN 1) p.3 p.3)) (addM (modN 1) p.1 (mmN (modN 1) p.3 p.3)))))) (addM (modN 1) (addM (modN 1) (addM (modN 1) (mmN (modN 1) p.1 (mmN (modN 1) p.2 p.2)) (mmN (modN 1) p.1 (mmN (modN 1) p.2 p.2))) (addM (modN 1) (mmN (modN 1) p.1 (mmN (modN 1) p.2 p.2)) (mmN (modN 1) p.1 (mmN (modN 1) p.2 p.2)))) (addM (modN 1) (addM (modN 1) (mmN (modN 1) p.1 (mmN (modN 1) p.2 p.2)) (mmN (modN 1) p.1 (mmN (modN 1) p.2 p.2))) (addM (modN 1) (mmN (modN 1) p.1 (mmN (modN 1) p.2 p.2)) (mmN (modN 1) p.1 (mmN (modN 1) p.2 p.2))))))<4294967296^8,okR (modN 1) (facR (limb (modN 1) 0)) (r2N (modN 1)),mmN (modN 1) (addM (modN 1) (mmN (modN 1) (subM (modN 1) p.1 (mmN (modN 1) p.3 p.3)) (addM (modN 1) p.1 (mmN (modN 1) p.3 p.3))) (addM (modN 1) (mmN (modN 1) (subM (modN 1) p.1 (mmN (modN 1) p.3 p.3)) (addM (modN 1) p.1 (mmN (modN 1) p.3 p.3))) (mmN (modN 1) (subM (modN 1) p.1 (mmN (modN 1) p.3 p.3)) (addM (modN 1) p.1 (mmN (modN 1) p.3 p.3))))) (subM (modN 1) (addM (modN 1) (addM (modN 1) (mmN (modN 1) p.1 (mmN (modN 1) p.2 p.2)) (mmN (modN 1) p.1 (mmN (modN 1) p.2 p.2))) (addM (modN 1) (mmN (modN 1) p.1 (mmN (modN 1) p.2 p.2)) (mmN (modN 1) p.1 (mmN (modN 1) p.2 p.2)))) (subM (modN 1) (mmN (modN 1) (addM (modN 1) (mmN (modN 1) (subM (modN 1) p.1 (mmN (modN 1) p.3 p.3)) (addM (modN 1) p.1 (mmN (modN 1) p.3 p.3))) (addM (modN 1) (mmN (modN 1) (subM (modN 1) p.1 (mmN (modN 1) p.3 p.3)) (addM (modN 1) p.1 (mmN (modN 1) p.3 p.3))) (mmN (modN 1) (subM (modN 1) p.1 (mmN (modN 1) p.3 p.3)) (addM (modN 1) p.1 (mmN (modN 1) p.3 p.3))))) (addM (modN 1) (mmN (modN 1) (subM (modN 1) p.1 (mmN (modN 1) p.3 p.3)) (addM (modN 1) p.1 (mmN (modN 1) p.3 p.3))) (addM (modN 1) (mmN (modN 1) (subM (modN 1) p.1 (mmN (modN 1) p.3 p.3)) (addM (modN 1) p.1 (mmN (modN 1) p.3 p.3))) (mmN (modN 1) (subM (modN 1) p.1 (mmN (modN 1) p.3 p.3)) (addM (modN 1) p.1 (mmN (modN 1) p.3 p.3)))))) (addM (modN 1) (addM (modN 1) (addM (modN 1) (mmN (modN 1) p.1 (mmN (modN 1) p.2 p.2)) (mmN (modN 1) p.1 (mmN (modN 1) p.2 p.2))) (addM (modN 1) (mmN (modN 1) p.1 (mmN (modN 1) p.2 p.2)) (mmN (modN 1) p.1 (mmN (modN 1) p.2 p.2)))) (addM (modN 1) (addM (modN 1) (mmN (modN 1) p.1 (mmN (modN 1) p.2 p.2)) (mmN (modN 1) p.1 (mmN (modN 1) p.2 p.2))) (addM (modN 1) (mmN (modN 1) p.1 (mmN (modN 1) p.2 p.2)) (mmN (modN 1) p.1 (mmN (modN 1) p.2 p.2)))))))<modN 1,addM (modN 1) (addM (modN 1) (addM (modN 1) (mmN (modN 1) (mmN (modN 1) p.2 p.2) (mmN (modN 1) p.2 p.2)) (mmN (modN 1) (mmN (modN 1) p.2 p.2) (mmN (modN 1) p.2 p.2))) (addM (modN 1) (mmN (modN 1) (mmN (modN 1) p.2 p.2) (mmN (modN 1) p.2 p.2)) (mmN (modN 1) (mmN (modN 1) p.2 p.2) (mmN (modN 1) p.2 p.2)))) (addM (modN 1) (addM (modN 1) (mmN (modN 1) (mmN (modN 1) p.2 p.2) (mmN (modN 1) p.2 p.2)) (mmN (modN 1) (mmN (modN 1) p.2 p.2) (mmN (modN 1) p.2 p.2))) (addM (modN 1) (mmN (modN 1) (mmN (modN 1) p.2 p.2) (mmN (modN 1) p.2 p.2)) (mmN (modN 1) (mmN (modN 1) p.2 p.2) (mmN (modN 1) p.2 p.2))))<modN 1,mmN (modN 1) (addM (modN 1) (mmN (modN 1) (subM (modN 1) p.1 (mmN (modN 1) p.3 p.3)) (addM (modN 1) p.1 (mmN (modN 1) p.3 p.3))) (addM (modN 1) (mmN (modN 1) (subM (modN 1) p.1 (mmN (modN 1) p.3 p.3)) (addM (modN 1) p.1 (mmN (modN 1) p.3 p.3))) (mmN (modN 1) (subM (modN 1) p.1 (mmN (modN 1) p.3 p.3)) (addM (modN 1) p.1 (mmN (modN 1) p.3 p.3))))) (subM (modN 1) (addM (modN 1) (addM (modN 1) (mmN (modN 1) p.1 (mmN (modN 1) p.2 p.2)) (mmN (modN 1) p.1 (mmN (modN 1) p.2 p.2))) (addM (modN 1) (mmN (modN 1) p.1 (mmN (modN 1) p.2 p.2)) (mmN (modN 1) p.1 (mmN (modN 1) p.2 p.2)))) (subM (modN 1) (mmN (modN 1) (addM (modN 1) (mmN (modN 1) (subM (modN 1) p.1 (mmN (modN 1) p.3 p.3)) (addM (modN 1) p.1 (mmN (modN 1) p.3 p.3))) (addM (modN 1) (mmN (modN 1) (subM (modN 1) p.1 (mmN (modN 1) p.3 p.3)) (addM (modN 1) p.1 (mmN (modN 1) p.3 p.3))) (mmN (modN 1) (subM (modN 1) p.1 (mmN (modN 1) p.3 p.3)) (addM (modN 1) p.1 (mmN (modN 1) p.3 p.3))))) (addM (modN 1) (mmN (modN 1) (subM (modN 1) p.1 (mmN (modN 1) p.3 p.3)) (addM (modN 1) p.1 (mmN (modN 1) p.3 p.3))) (addM (modN 1) (mmN (modN 1) (subM (modN 1) p.1 (mmN (modN 1) p.3 p.3)) (addM (modN 1) p.1 (mmN (modN 1) p.3 p.3))) (mmN (modN 1) (subM (modN 1) p.1 (mmN (modN 1) p.3 p.3)) (addM (modN 1) p.1 (mmN (modN 1) p.3 p.3)))))) (addM (modN 1) (addM (modN 1) (addM (modN 1) (mmN (modN 1) p.1 (mmN (modN 1) p.2 p.2)) (mmN (modN 1) p.1 (mmN (modN 1) p.2 p.2))) (addM (modN 1) (mmN (modN 1) p.1 (mmN (modN 1) p.2 p.2)) (mmN (modN 1) p.1 (mmN (modN 1) p.2 p.2)))) (addM (modN 1) (addM (modN 1) (mmN (modN 1) p.1 (mmN (modN 1) p.2 p.2)) (mmN (modN 1) p.1 (mmN (modN 1) p.2 p.2))) (addM (modN 1) (mmN (modN 1) p.1 (mmN (modN 1) p.2 p.2)) (mmN (modN 1) p.1 (mmN (modN 1) p.2 p.2)))))))<4294967296^8,addM (modN 1) (addM (modN 1) (addM (modN 1) (mmN (modN 1) (mmN (modN 1) p.2 p.2) (mmN (modN 1) p.2 p.2)) (mmN (modN 1) (mmN (modN 1) p.2 p.2) (mmN (modN 1) p.2 p.2))) (addM (modN 1) (mmN (modN 1) (mmN (modN 1) p.2 p.2) (mmN (modN 1) p.2 p.2)) (mmN (modN 1) (mmN (modN 1) p.2 p.2) (mmN (modN 1) p.2 p.2)))) (addM (modN 1) (addM (modN 1) (mmN (modN 1) (mmN (modN 1) p.2 p.2) (mmN (modN 1) p.2 p.2)) (mmN (modN 1) (mmN (modN 1) p.2 p.2) (mmN (modN 1) p.2 p.2))) (addM (modN 1) (mmN (modN 1) (mmN (modN 1) p.2 p.2) (mmN (modN 1) p.2 p.2)) (mmN (modN 1) (mmN (modN 1) p.2 p.2) (mmN (modN 1) p.2 p.2))))<4294967296^8,okR (modN 1) (facR (limb (modN 1) 0)) (r2N (modN 1)),p.2<modN 1,p.3<modN 1,p.2<4294967296^8,p.3<4294967296^8,okR (modN 1) (facR (limb (modN 1) 0)) (r2N (modN 1)),mmN (modN 1) p.2 p.3<modN 1,mmN (modN 1) p.2 p.3<modN 1,mmN (modN 1) p.2 p.3<4294967296^8,mmN (modN 1) p.2 p.3<4294967296^8],.val (w3V ⟨rX p,rY p,rZ p⟩)):=by kernel_rfl
noncomputable def jDbl (p:J3):J3:=bif decide (p.z=0) then p else ⟨rX p,rY p,rZ p⟩
theorem jDbl_lt {p:J3} (h:p.lt):(jDbl p).lt:=by
 unfold jDbl
 cases decide (p.z=0)
 ·exact ⟨subM_lt (modN_pos 1),subM_lt (modN_pos 1),addM_lt (modN_pos 1)⟩
 ·exact h
theorem spec90w (p:J3) (hp:p.lt):Spec 113 [rg1,w3V p] (.val (w3V (jDbl p))):=by
 obtain ⟨h1,h2,h3⟩:=hp
 have hz8:=L8 h3
 unfold jDbl
 cases hz:decide (p.z=0) with
 |true=>
  have hz':isZ p.z=true:=by rw[isZ_eq hz8];exact hz
  rw[cond_true]
  exact spec_run (envMk L5a_ok S90) rfl (wi90i p) ⟨(by first|with_reducible assumption|with_reducible exact L8 (by with_reducible assumption)|exact decide_eq_true (by omega)|exact decide_eq_false (by omega)|omega),trivial⟩ rfl rfl
 |false=>
  have hz':isZ p.z=false:=by rw[isZ_eq hz8];exact hz
  rw[cond_false]
  exact spec_run (envMk L5a_ok S90) rfl (wi90f p) ⟨(by first|with_reducible assumption|with_reducible exact L8 (by with_reducible assumption)|exact decide_eq_true (by omega)|exact decide_eq_false (by omega)|omega),(okR_K (by decide)),(by first|with_reducible assumption|with_reducible exact L8 (by with_reducible assumption)|exact decide_eq_true (by omega)|exact decide_eq_false (by omega)|omega),(by first|with_reducible assumption|with_reducible exact L8 (by with_reducible assumption)|exact decide_eq_true (by omega)|exact decide_eq_false (by omega)|omega),(by first|with_reducible assumption|with_reducible exact L8 (by with_reducible assumption)|exact decide_eq_true (by omega)|exact decide_eq_false (by omega)|omega),(by first|with_reducible assumption|with_reducible exact L8 (by with_reducible assumption)|exact decide_eq_true (by omega)|exact decide_eq_false (by omega)|omega),(okR_K (by decide)),(by first|with_reducible assumption|with_reducible exact L8 (by with_reducible assumption)|exact decide_eq_true (by omega)|exact decide_eq_false (by omega)|omega),(by first|with_reducible assumption|with_reducible exact L8 (by with_reducible assumption)|exact decide_eq_true (by omega)|exact decide_eq_false (by omega)|omega),(by first|with_reducible assumption|with_reducible exact L8 (by with_reducible assumption)|exact decide_eq_true (by omega)|exact decide_eq_false (by omega)|omega),(by first|with_reducible assumption|with_reducible exact L8 (by with_reducible assumption)|exact decide_eq_true (by omega)|exact decide_eq_false (by omega)|omega),(okR_K (by decide)),(by first|with_reducible assumption|with_reducible exact L8 (by with_reducible assumption)|exact decide_eq_true (by omega)|exact decide_eq_false (by omega)|omega),(mmN_lt (modN_pos _)),(by first|with_reducible assumption|with_reducible exact L8 (by with_reducible assumption)|exact decide_eq_true (by omega)|exact decide_eq_false (by omega)|omega),(L8 (mmN_lt (modN_pos _))),(okR_K (by decide)),(mmN_lt (modN_pos _)),(mmN_lt (modN_pos _)),(L8 (mmN_lt (modN_pos _))),(L8 (mmN_lt (modN_pos _))),(okR_K (by decide)),(addM_lt (modN_pos _)),(addM_lt (modN_pos _)),(L8 (addM_lt (modN_pos _))),(L8 (addM_lt (modN_pos _))),(okR_K (by decide)),(by first|with_reducible assumption|with_reducible exact L8 (by with_reducible assumption)|exact decide_eq_true (by omega)|exact decide_eq_false (by omega)|omega),(mmN_lt (modN_pos _)),(by first|with_reducible assumption|with_reducible exact L8 (by with_reducible assumption)|exact decide_eq_true (by omega)|exact decide_eq_false (by omega)|omega),(L8 (mmN_lt (modN_pos _))),(okR_K (by decide)),(by first|with_reducible assumption|with_reducible exact L8 (by with_reducible assumption)|exact decide_eq_true (by omega)|exact decide_eq_false (by omega)|omega),(mmN_lt (modN_pos _)),(by first|with_reducible assumption|with_reducible exact L8 (by with_reducible assumption)|exact decide_eq_true (by omega)|exact decide_eq_false (by omega)|omega),(L8 (mmN_lt (modN_pos _))),(okR_K (by decide)),(subM_lt (modN_pos _)),(addM_lt (modN_pos _)),(L8 (subM_lt (modN_pos _))),(L8 (addM_lt (modN_pos _))),(okR_K (by decide)),(mmN_lt (modN_pos _)),(mmN_lt (modN_pos _)),(L8 (mmN_lt (modN_pos _))),(L8 (mmN_lt (modN_pos _))),(okR_K (by decide)),(mmN_lt (modN_pos _)),(addM_lt (modN_pos _)),(L8 (mmN_lt (modN_pos _))),(L8 (addM_lt (modN_pos _))),(okR_K (by decide)),(addM_lt (modN_pos _)),(addM_lt (modN_pos _)),(L8 (addM_lt (modN_pos _))),(L8 (addM_lt (modN_pos _))),(okR_K (by decide)),(addM_lt (modN_pos _)),(addM_lt (modN_pos _)),(L8 (addM_lt (modN_pos _))),(L8 (addM_lt (modN_pos _))),(okR_K (by decide)),(mmN_lt (modN_pos _)),(addM_lt (modN_pos _)),(L8 (mmN_lt (modN_pos _))),(L8 (addM_lt (modN_pos _))),(okR_K (by decide)),(mmN_lt (modN_pos _)),(mmN_lt (modN_pos _)),(L8 (mmN_lt (modN_pos _))),(L8 (mmN_lt (modN_pos _))),(okR_K (by decide)),(mmN_lt (modN_pos _)),(mmN_lt (modN_pos _)),(L8 (mmN_lt (modN_pos _))),(L8 (mmN_lt (modN_pos _))),(okR_K (by decide)),(addM_lt (modN_pos _)),(addM_lt (modN_pos _)),(L8 (addM_lt (modN_pos _))),(L8 (addM_lt (modN_pos _))),(okR_K (by decide)),(addM_lt (modN_pos _)),(addM_lt (modN_pos _)),(L8 (addM_lt (modN_pos _))),(L8 (addM_lt (modN_pos _))),(okR_K (by decide)),(addM_lt (modN_pos _)),(subM_lt (modN_pos _)),(L8 (addM_lt (modN_pos _))),(L8 (subM_lt (modN_pos _))),(okR_K (by decide)),(addM_lt (modN_pos _)),(subM_lt (modN_pos _)),(L8 (addM_lt (modN_pos _))),(L8 (subM_lt (modN_pos _))),(okR_K (by decide)),(mmN_lt (modN_pos _)),(addM_lt (modN_pos _)),(L8 (mmN_lt (modN_pos _))),(L8 (addM_lt (modN_pos _))),(okR_K (by decide)),(by first|with_reducible assumption|with_reducible exact L8 (by with_reducible assumption)|exact decide_eq_true (by omega)|exact decide_eq_false (by omega)|omega),(by first|with_reducible assumption|with_reducible exact L8 (by with_reducible assumption)|exact decide_eq_true (by omega)|exact decide_eq_false (by omega)|omega),(by first|with_reducible assumption|with_reducible exact L8 (by with_reducible assumption)|exact decide_eq_true (by omega)|exact decide_eq_false (by omega)|omega),(by first|with_reducible assumption|with_reducible exact L8 (by with_reducible assumption)|exact decide_eq_true (by omega)|exact decide_eq_false (by omega)|omega),(okR_K (by decide)),(mmN_lt (modN_pos _)),(mmN_lt (modN_pos _)),(L8 (mmN_lt (modN_pos _))),(L8 (mmN_lt (modN_pos _))),trivial⟩ rfl rfl
end Go.Ev

namespace Go.Ev
open Go Go.Proofs Go.RowKit
noncomputable def gDbl : List Val → Option (List Prop × AV)
 | [.n m, .n q, .n w, .n x1, .n y1, .n z1] => some ([m = modN 1, q = facR (limb (modN 1) 0), w = r2N (modN 1), J3.lt ⟨x1, y1, z1⟩], .val (w3V (jDbl ⟨x1, y1, z1⟩)))
 | _ => none
theorem ct90w : CTok ⟨113, fnS [aLaw, aJ] gDbl⟩ := ctS (by
 intro xs ob r hb h ho
 unfold gDbl at h
 split at h
 ·rename_i m q w x1 y1 z1
  simp only [Option.some.injEq, Prod.mk.injEq] at h
  obtain ⟨rfl, rfl⟩ := h
  obtain ⟨e0, e1, e2, h1, _⟩ := ho
  have hS := spec90w ⟨x1, y1, z1⟩ h1
  unfold rg1 rgK rg at hS
  rw [← e2, ← e1, ← e0] at hS
  exact hS
 ·simp at h)
noncomputable def gLiftR : List Val → Option (List Prop × AV)
 | [.n m, .n q, .n w, .n x, .n y, .b i] => some ([m = modN 1, q = facR (limb (modN 1) 0), w = r2N (modN 1), i = true ∨ (x < modN 1 ∧ y < modN 1)], .val (w3V (jLift x y i)))
 | _ => none
theorem ct52w : CTok ⟨77, fnS [aLaw, aSp] gLiftR⟩ := ctS (by
 intro xs ob r hb h ho
 unfold gLiftR at h
 split at h
 ·rename_i m q w x y i
  simp only [Option.some.injEq, Prod.mk.injEq] at h
  obtain ⟨rfl, rfl⟩ := h
  obtain ⟨e0, e1, e2, h1, _⟩ := ho
  have hS := spec52w x y i h1
  unfold rg1 rgK rg at hS
  rw [← e2, ← e1, ← e0] at hS
  exact hS
 ·simp at h)
noncomputable def L8w : List CT := [⟨113, fnS [aLaw, aJ] gDbl⟩, ⟨77, fnS [aLaw, aSp] gLiftR⟩] ++ L5a
theorem L8w_ok : AllCT L8w := ⟨ct90w, ct52w, L5a_ok⟩
noncomputable def jU (p q : J3) : Nat := mmN (modN 1) p.x (mmN (modN 1) q.z q.z)
noncomputable def jV (p q : J3) : Nat := mmN (modN 1) q.x (mmN (modN 1) p.z p.z)
noncomputable def jS (p q : J3) : Nat := mmN (modN 1) p.y (mmN (modN 1) (mmN (modN 1) q.z q.z) q.z)
noncomputable def jT (p q : J3) : Nat := mmN (modN 1) q.y (mmN (modN 1) (mmN (modN 1) p.z p.z) p.z)
noncomputable def jH (p q : J3) : Nat := subM (modN 1) (jV p q) (jU p q)
noncomputable def jK (p q : J3) : Nat := subM (modN 1) (jT p q) (jS p q)
noncomputable def jH2 (p q : J3) : Nat := mmN (modN 1) (jH p q) (jH p q)
noncomputable def jH3 (p q : J3) : Nat := mmN (modN 1) (jH2 p q) (jH p q)
noncomputable def jW (p q : J3) : Nat := mmN (modN 1) (jU p q) (jH2 p q)
noncomputable def jX (p q : J3) : Nat := subM (modN 1) (subM (modN 1) (mmN (modN 1) (jK p q) (jK p q)) (jH3 p q)) (addM (modN 1) (jW p q) (jW p q))
noncomputable def jY (p q : J3) : Nat := subM (modN 1) (mmN (modN 1) (jK p q) (subM (modN 1) (jW p q) (jX p q))) (mmN (modN 1) (jS p q) (jH3 p q))
noncomputable def jZ (p q : J3) : Nat := mmN (modN 1) (jH p q) (mmN (modN 1) p.z q.z)
noncomputable def S53 : FuncId → Nat → Bool := fun f t => match f with | 115 => memN t [23, 28, 72, 75] | _ => false
end Go.Ev

namespace Go.Ev
open Go Go.Proofs Go.RowKit
theorem wi53p (p:J3) (q:J3):callR (mkE L8w S53) 1000 115 [rg1,w3V p,w3V q] [true]=
  some ([(isZ (p.3))=true],.val (w3V q)):=by kernel_rfl
theorem wi53q (p:J3) (q:J3):callR (mkE L8w S53) 1000 115 [rg1,w3V p,w3V q] [false,true]=
  some ([(isZ (p.3))=false,(isZ (q.3))=true],.val (w3V p)):=by kernel_rfl
theorem wi53d (p:J3) (q:J3):callR (mkE L8w S53) 1000 115 [rg1,w3V p,w3V q] [false,false,true,true]=
  some ([(isZ (p.3))=false,(isZ (q.3))=false,okR (modN 1) (facR (limb (modN 1) 0)) (r2N (modN 1)),p.3<modN 1,p.3<modN 1,p.3<4294967296^8,p.3<4294967296^8,okR (modN 1) (facR (limb (modN 1) 0)) (r2N (modN 1)),q.3<modN 1,q.3<modN 1,q.3<4294967296^8,q.3<4294967296^8,okR (modN 1) (facR (limb (modN 1) 0)) (r2N (modN 1)),p.1<modN 1,mmN (modN 1) q.3 q.3<modN 1,p.1<4294967296^8,mmN (modN 1) q.3 q.3<4294967296^8,okR (modN 1) (facR (limb (modN 1) 0)) (r2N (modN 1)),q.1<modN 1,mmN (modN 1) p.3 p.3<modN 1,q.1<4294967296^8,mmN (modN 1) p.3 p.3<4294967296^8,okR (modN 1) (facR (limb (modN 1) 0)) (r2N (modN 1)),mmN (modN 1) q.3 q.3<modN 1,q.3<modN 1,mmN (modN 1) q.3 q.3<4294967296^8,q.3<4294967296^8,okR (modN 1) (facR (limb (modN 1) 0)) (r2N (modN 1)),p.2<modN 1,mmN (modN 1) (mmN (modN 1) q.3 q.3) q.3<modN 1,p.2<4294967296^8,mmN (modN 1) (mmN (modN 1) q.3 q.3) q.3<4294967296^8,okR (modN 1) (facR (limb (modN 1) 0)) (r2N (modN 1)),mmN (modN 1) p.3 p.3<modN 1,p.3<modN 1,mmN (modN 1) p.3 p.3<4294967296^8,p.3<4294967296^8,okR (modN 1) (facR (limb (modN 1) 0)) (r2N (modN 1)),q.2<modN 1,mmN (modN 1) (mmN (modN 1) p.3 p.3) p.3<modN 1,q.2<4294967296^8,mmN (modN 1) (mmN (modN 1) p.3 p.3) p.3<4294967296^8,(decide (mmN (modN 1) p.1 (mmN (modN 1) q.3 q.3)%4294967296^8=mmN (modN 1) q.1 (mmN (modN 1) p.3 p.3)%4294967296^8)&&true)=true,(decide (mmN (modN 1) p.2 (mmN (modN 1) (mmN (modN 1) q.3 q.3) q.3)%4294967296^8=mmN (modN 1) q.2 (mmN (modN 1) (mmN (modN 1) p.3 p.3) p.3)%4294967296^8)&&true)=true,modN 1<4294967296^8,facR (limb (modN 1) 0)<4294967296,r2N (modN 1)<4294967296^8,p.1<4294967296^8,p.2<4294967296^8,p.3<4294967296^8,modN 1=modN 1,facR (limb (modN 1) 0)=facR (limb (modN 1) 0),r2N (modN 1)=r2N (modN 1),J3.lt (J3.mk (J3.x p) (J3.y p) (J3.z p))],.val (w3V (jDbl p))):=by kernel_rfl
theorem wi53n (p:J3) (q:J3):callR (mkE L8w S53) 1000 115 [rg1,w3V p,w3V q] [false,false,true,false]=
  some ([(isZ (p.3))=false,(isZ (q.3))=false,okR (modN 1) (facR (limb (modN 1) 0)) (r2N (modN 1)),p.3<modN 1,p.3<modN 1,p.3<4294967296^8,p.3<4294967296^8,okR (modN 1) (facR (limb (modN 1) 0)) (r2N (modN 1)),q.3<modN 1,q.3<modN 1,q.3<4294967296^8,q.3<4294967296^8,okR (modN 1) (facR (limb (modN 1) 0)) (r2N (modN 1)),p.1<modN 1,mmN (modN 1) q.3 q.3<modN 1,p.1<4294967296^8,mmN (modN 1) q.3 q.3<4294967296^8,okR (modN 1) (facR (limb (modN 1) 0)) (r2N (modN 1)),q.1<modN 1,mmN (modN 1) p.3 p.3<modN 1,q.1<4294967296^8,mmN (modN 1) p.3 p.3<4294967296^8,okR (modN 1) (facR (limb (modN 1) 0)) (r2N (modN 1)),mmN (modN 1) q.3 q.3<modN 1,q.3<modN 1,mmN (modN 1) q.3 q.3<4294967296^8,q.3<4294967296^8,okR (modN 1) (facR (limb (modN 1) 0)) (r2N (modN 1)),p.2<modN 1,mmN (modN 1) (mmN (modN 1) q.3 q.3) q.3<modN 1,p.2<4294967296^8,mmN (modN 1) (mmN (modN 1) q.3 q.3) q.3<4294967296^8,okR (modN 1) (facR (limb (modN 1) 0)) (r2N (modN 1)),mmN (modN 1) p.3 p.3<modN 1,p.3<modN 1,mmN (modN 1) p.3 p.3<4294967296^8,p.3<4294967296^8,okR (modN 1) (facR (limb (modN 1) 0)) (r2N (modN 1)),q.2<modN 1,mmN (modN 1) (mmN (modN 1) p.3 p.3) p.3<modN 1,q.2<4294967296^8,mmN (modN 1) (mmN (modN 1) p.3 p.3) p.3<4294967296^8,(decide (mmN (modN 1) p.1 (mmN (modN 1) q.3 q.3)%4294967296^8=mmN (modN 1) q.1 (mmN (modN 1) p.3 p.3)%4294967296^8)&&true)=true,(decide (mmN (modN 1) p.2 (mmN (modN 1) (mmN (modN 1) q.3 q.3) q.3)%4294967296^8=mmN (modN 1) q.2 (mmN (modN 1) (mmN (modN 1) p.3 p.3) p.3)%4294967296^8)&&true)=false,1<4294967296,okR (modN 1) (facR (limb (modN 1) 0)) (r2N (modN 1)),1<modN 1,1<4294967296^8,1<4294967296,okR (modN 1) (facR (limb (modN 1) 0)) (r2N (modN 1)),1<modN 1,1<4294967296^8],.val (.agg (.num 8 (inN (modN 1) 1):: .num 8 (inN (modN 1) 1)::cellsU 8 0 zF))):=by kernel_rfl
theorem wi53c (p:J3) (q:J3):callR (mkE L8w S53) 1000 115 [rg1,w3V p,w3V q] [false,false,false]=
  some ([(isZ (p.3))=false,(isZ (q.3))=false,okR (modN 1) (facR (limb (modN 1) 0)) (r2N (modN 1)),p.3<modN 1,p.3<modN 1,p.3<4294967296^8,p.3<4294967296^8,okR (modN 1) (facR (limb (modN 1) 0)) (r2N (modN 1)),q.3<modN 1,q.3<modN 1,q.3<4294967296^8,q.3<4294967296^8,okR (modN 1) (facR (limb (modN 1) 0)) (r2N (modN 1)),p.1<modN 1,mmN (modN 1) q.3 q.3<modN 1,p.1<4294967296^8,mmN (modN 1) q.3 q.3<4294967296^8,okR (modN 1) (facR (limb (modN 1) 0)) (r2N (modN 1)),q.1<modN 1,mmN (modN 1) p.3 p.3<modN 1,q.1<4294967296^8,mmN (modN 1) p.3 p.3<4294967296^8,okR (modN 1) (facR (limb (modN 1) 0)) (r2N (modN 1)),mmN (modN 1) q.3 q.3<modN 1,q.3<modN 1,mmN (modN 1) q.3 q.3<4294967296^8,q.3<4294967296^8,okR (modN 1) (facR (limb (modN 1) 0)) (r2N (modN 1)),p.2<modN 1,mmN (modN 1) (mmN (modN 1) q.3 q.3) q.3<modN 1,p.2<4294967296^8,mmN (modN 1) (mmN (modN 1) q.3 q.3) q.3<4294967296^8,okR (modN 1) (facR (limb (modN 1) 0)) (r2N (modN 1)),mmN (modN 1) p.3 p.3<modN 1,p.3<modN 1,mmN (modN 1) p.3 p.3<4294967296^8,p.3<4294967296^8,okR (modN 1) (facR (limb (modN 1) 0)) (r2N (modN 1)),q.2<modN 1,mmN (modN 1) (mmN (modN 1) p.3 p.3) p.3<modN 1,q.2<4294967296^8,mmN (modN 1) (mmN (modN 1) p.3 p.3) p.3<4294967296^8,(decide (mmN (modN 1) p.1 (mmN (modN 1) q.3 q.3)%4294967296^8=mmN (modN 1) q.1 (mmN (modN 1) p.3 p.3)%4294967296^8)&&true)=false,okR (modN 1) (facR (limb (modN 1) 0)) (r2N (modN 1)),mmN (modN 1) q.1 (mmN (modN 1) p.3 p.3)<modN 1,mmN (modN 1) p.1 (mmN (modN 1) q.3 q.3)<modN 1,mmN (modN 1) q.1 (mmN (modN 1) p.3 p.3)<4294967296^8,mmN (modN 1) p.1 (mmN (modN 1) q.3 q.3)<4294967296^8,okR (modN 1) (facR (limb (modN 1) 0)) (r2N (modN 1)),mmN (modN 1) q.2 (mmN (modN 1) (mmN (modN 1) p.3 p.3) p.3)<modN 1,mmN (modN 1) p.2 (mmN (modN 1) (mmN (modN 1) q.3 q.3) q.3)<modN 1,mmN (modN 1) q.2 (mmN (modN 1) (mmN (modN 1) p.3 p.3) p.3)<4294967296^8,mmN (modN 1) p.2 (mmN (modN 1) (mmN (modN 1) q.3 q.3) q.3)<4294967296^8,okR (modN 1) (facR (limb (modN 1) 0)) (r2N (modN 1)),subM (modN 1) (mmN (modN 1) q.1 (mmN (modN 1) p.3 p.3)) (mmN (modN 1) p.1 (mmN (modN 1) q.3 q.3))<modN 1,subM (modN 1) (mmN (modN 1) q.1 (mmN (modN 1) p.3 p.3)) (mmN (modN 1) p.1 (mmN (modN 1) q.3 q.3))<modN 1,subM (modN 1) (mmN (modN 1) q.1 (mmN (modN 1) p.3 p.3)) (mmN (modN 1) p.1 (mmN (modN 1) q.3 q.3))<4294967296^8,subM (modN 1) (mmN (modN 1) q.1 (mmN (modN 1) p.3 p.3)) (mmN (modN 1) p.1 (mmN (modN 1) q.3 q.3))<4294967296^8,okR (modN 1) (facR (limb (modN 1) 0)) (r2N (modN 1)),mmN (modN 1) (subM (modN 1) (mmN (modN 1) q.1 (mmN (modN 1) p.3 p.3)) (mmN (modN 1) p.1 (mmN (modN 1) q.3 q.3))) (subM (modN 1) (mmN (modN 1) q.1 (mmN (modN 1) p.3 p.3)) (mmN (modN 1) p.1 (mmN (modN 1) q.3 q.3)))<modN 1,subM (modN 1) (mmN (modN 1) q.1 (mmN (modN 1) p.3 p.3)) (mmN (modN 1) p.1 (mmN (modN 1) q.3 q.3))<modN 1,mmN (modN 1) (subM (modN 1) (mmN (modN 1) q.1 (mmN (modN 1) p.3 p.3)) (mmN (modN 1) p.1 (mmN (modN 1) q.3 q.3))) (subM (modN 1) (mmN (modN 1) q.1 (mmN (modN 1) p.3 p.3)) (mmN (modN 1) p.1 (mmN (modN 1) q.3 q.3)))<4294967296^8,subM (modN 1) (mmN (modN 1) q.1 (mmN (modN 1) p.3 p.3)) (mmN (modN 1) p.1 (mmN (modN 1) q.3 q.3))<4294967296^8,okR (modN 1) (facR (limb (modN 1) 0)) (r2N (modN 1)),mmN (modN 1) p.1 (mmN (modN 1) q.3 q.3)<modN 1,mmN (modN 1) (subM (modN 1) (mmN (modN 1) q.1 (mmN (modN 1) p.3 p.3)) (mmN (modN 1) p.1 (mmN (modN 1) q.3 q.3))) (subM (modN 1) (mmN (modN 1) q.1 (mmN (modN 1) p.3 p.3)) (mmN (modN 1) p.1 (mmN (modN 1) q.3 q.3)))<modN 1,mmN (modN 1) p.1 (mmN (modN 1) q.3 q.3)<4294967296^8,mmN (modN 1) (subM (modN 1) (mmN (modN 1) q.1 (mmN (modN 1) p.3 p.3)) (mmN (modN 1) p.1 (mmN (modN 1) q.3 q.3))) (subM (modN 1) (mmN (modN 1) q.1 (mmN (modN 1) p.3 p.3)) (mmN (modN 1) p.1 (mmN (modN 1) q.3 q.3)))<4294967296^8,okR (modN 1) (facR (limb (modN 1) 0)) (r2N (modN 1)),subM (modN 1) (mmN (modN 1) q.2 (mmN (modN 1) (mmN (modN 1) p.3 p.3) p.3)) (mmN (modN 1) p.2 (mmN (modN 1) (mmN (modN 1) q.3 q.3) q.3))<modN 1,subM (modN 1) (mmN (modN 1) q.2 (mmN (modN 1) (mmN (modN 1) p.3 p.3) p.3)) (mmN (modN 1) p.2 (mmN (modN 1) (mmN (modN 1) q.3 q.3) q.3))<modN 1,subM (modN 1) (mmN (modN 1) q.2 (mmN (modN 1) (mmN (modN 1) p.3 p.3) p.3)) (mmN (modN 1) p.2 (mmN (modN 1) (mmN (modN 1) q.3 q.3) q.3))<4294967296^8,subM (modN 1) (mmN (modN 1) q.2 (mmN (modN 1) (mmN (modN 1) p.3 p.3) p.3)) (mmN (modN 1) p.2 (mmN (modN 1) (mmN (modN 1) q.3 q.3) q.3))<4294967296^8,okR (modN 1) (facR (limb (modN 1) 0)) (r2N (modN 1)),mmN (modN 1) (subM (modN 1) (mmN (modN 1) q.2 (mmN (modN 1) (mmN (modN 1) p.3 p.3) p.3)) (mmN (modN 1) p.2 (mmN (modN 1) (mmN (modN 1) q.3 q.3) q.3))) (subM (modN 1) (mmN (modN 1) q.2 (mmN (modN 1) (mmN (modN 1) p.3 p.3) p.3)) (mmN (modN 1) p.2 (mmN (modN 1) (mmN (modN 1) q.3 q.3) q.3)))<modN 1,mmN (modN 1) (mmN (modN 1) (subM (modN 1) (mmN (modN 1) q.1 (mmN (modN 1) p.3 p.3)) (mmN (modN 1) p.1 (mmN (modN 1) q.3 q.3))) (subM (modN 1) (mmN (modN 1) q.1 (mmN (modN 1) p.3 p.3)) (mmN (modN 1) p.1 (mmN (modN 1) q.3 q.3)))) (subM (modN 1) (mmN (modN 1) q.1 (mmN (modN 1) p.3 p.3)) (mmN (modN 1) p.1 (mmN (modN 1) q.3 q.3)))<modN 1,mmN (modN 1) (subM (modN 1) (mmN (modN 1) q.2 (mmN (modN 1) (mmN (modN 1) p.3 p.3) p.3)) (mmN (modN 1) p.2 (mmN (modN 1) (mmN (modN 1) q.3 q.3) q.3))) (subM (modN 1) (mmN (modN 1) q.2 (mmN (modN 1) (mmN (modN 1) p.3 p.3) p.3)) (mmN (modN 1) p.2 (mmN (modN 1) (mmN (modN 1) q.3 q.3) q.3)))<4294967296^8,mmN (modN 1) (mmN (modN 1) (subM (modN 1) (mmN (modN 1) q.1 (mmN (modN 1) p.3 p.3)) (mmN (modN 1) p.1 (mmN (modN 1) q.3 q.3))) (subM (modN 1) (mmN (modN 1) q.1 (mmN (modN 1) p.3 p.3)) (mmN (modN 1) p.1 (mmN (modN 1) q.3 q.3)))) (subM (modN 1) (mmN (modN 1) q.1 (mmN (modN 1) p.3 p.3)) (mmN (modN 1) p.1 (mmN (modN 1) q.3 q.3)))<4294967296^8,okR (modN 1) (facR (limb (modN 1) 0)) (r2N (modN 1)),mmN (modN 1) (mmN (modN 1) p.1 (mmN (modN 1) q.3 q.3)) (mmN (modN 1) (subM (modN 1) (mmN (modN 1) q.1 (mmN (modN 1) p.3 p.3)) (mmN (modN 1) p.1 (mmN (modN 1) q.3 q.3))) (subM (modN 1) (mmN (modN 1) q.1 (mmN (modN 1) p.3 p.3)) (mmN (modN 1) p.1 (mmN (modN 1) q.3 q.3))))<modN 1,mmN (modN 1) (mmN (modN 1) p.1 (mmN (modN 1) q.3 q.3)) (mmN (modN 1) (subM (modN 1) (mmN (modN 1) q.1 (mmN (modN 1) p.3 p.3)) (mmN (modN 1) p.1 (mmN (modN 1) q.3 q.3))) (subM (modN 1) (mmN (modN 1) q.1 (mmN (modN 1) p.3 p.3)) (mmN (modN 1) p.1 (mmN (modN 1) q.3 q.3))))<modN 1,mmN (modN 1) (mmN (modN 1) p.1 (mmN (modN 1) q.3 q.3)) (mmN (modN 1) (subM (modN 1) (mmN (modN 1) q.1 (mmN (modN 1) p.3 p.3)) (mmN (modN 1) p.1 (mmN (modN 1) q.3 q.3))) (subM (modN 1) (mmN (modN 1) q.1 (mmN (modN 1) p.3 p.3)) (mmN (modN 1) p.1 (mmN (modN 1) q.3 q.3))))<4294967296^8,mmN (modN 1) (mmN (modN 1) p.1 (mmN (modN 1) q.3 q.3)) (mmN (modN 1) (subM (modN 1) (mmN (modN 1) q.1 (mmN (modN 1) p.3 p.3)) (mmN (modN 1) p.1 (mmN (modN 1) q.3 q.3))) (subM (modN 1) (mmN (modN 1) q.1 (mmN (modN 1) p.3 p.3)) (mmN (modN 1) p.1 (mmN (modN 1) q.3 q.3))))<4294967296^8,okR (modN 1) (facR (limb (modN 1) 0)) (r2N (modN 1)),subM (modN 1) (mmN (modN 1) (subM (modN 1) (mmN (modN 1) q.2 (mmN (modN 1) (mmN (modN 1) p.3 p.3) p.3)) (mmN (modN 1) p.2 (mmN (modN 1) (mmN (modN 1) q.3 q.3) q.3))) (subM (modN 1) (mmN (modN 1) q.2 (mmN (modN 1) (mmN (modN 1) p.3 p.3) p.3)) (mmN (modN 1) p.2 (mmN (modN 1) (mmN (modN 1) q.3 q.3) q.3)))) (mmN (modN 1) (mmN (modN 1) (subM (modN 1) (mmN (modN 1) q.1 (mmN (modN 1) p.3 p.3)) (mmN (modN 1) p.1 (mmN (modN 1) q.3 q.3))) (subM (modN 1) (mmN (modN 1) q.1 (mmN (modN 1) p.3 p.3)) (mmN (modN 1) p.1 (mmN (modN 1) q.3 q.3)))) (subM (modN 1) (mmN (modN 1) q.1 (mmN (modN 1) p.3 p.3)) (mmN (modN 1) p.1 (mmN (modN 1) q.3 q.3))))<modN 1,addM (modN 1) (mmN (modN 1) (mmN (modN 1) p.1 (mmN (modN 1) q.3 q.3)) (mmN (modN 1) (subM (modN 1) (mmN (modN 1) q.1 (mmN (modN 1) p.3 p.3)) (mmN (modN 1) p.1 (mmN (modN 1) q.3 q.3))) (subM (modN 1) (mmN (modN 1) q.1 (mmN (modN 1) p.3 p.3)) (mmN (modN 1) p.1 (mmN (modN 1) q.3 q.3))))) (mmN (modN 1) (mmN (modN 1) p.1 (mmN (modN 1) q.3 q.3)) (mmN (modN 1) (subM (modN 1) (mmN (modN 1) q.1 (mmN (modN 1) p.3 p.3)) (mmN (modN 1) p.1 (mmN (modN 1) q.3 q.3))) (subM (modN 1) (mmN (modN 1) q.1 (mmN (modN 1) p.3 p.3)) (mmN (modN 1) p.1 (mmN (modN 1) q.3 q.3)))))<modN 1,subM (modN 1) (mmN (modN 1) (subM (modN 1) (mmN (modN 1) q.2 (mmN (modN 1) (mmN (modN 1) p.3 p.3) p.3)) (mmN (modN 1) p.2 (mmN (modN 1) (mmN (modN 1) q.3 q.3) q.3))) (subM (modN 1) (mmN (modN 1) q.2 (mmN (modN 1) (mmN (modN 1) p.3 p.3) p.3)) (mmN (modN 1) p.2 (mmN (modN 1) (mmN (modN 1) q.3 q.3) q.3)))) (mmN (modN 1) (mmN (modN 1) (subM (modN 1) (mmN (modN 1) q.1 (mmN (modN 1) p.3 p.3)) (mmN (modN 1) p.1 (mmN (modN 1) q.3 q.3))) (subM (modN 1) (mmN (modN 1) q.1 (mmN (modN 1) p.3 p.3)) (mmN (modN 1) p.1 (mmN (modN 1) q.3 q.3)))) (subM (modN 1) (mmN (modN 1) q.1 (mmN (modN 1) p.3 p.3)) (mmN (modN 1) p.1 (mmN (modN 1) q.3 q.3))))<4294967296^8,addM (modN 1) (mmN (modN 1) (mmN (modN 1) p.1 (mmN (modN 1) q.3 q.3)) (mmN (modN 1) (subM (modN 1) (mmN (modN 1) q.1 (mmN (modN 1) p.3 p.3)) (mmN (modN 1) p.1 (mmN (modN 1) q.3 q.3))) (subM (modN 1) (mmN (modN 1) q.1 (mmN (modN 1) p.3 p.3)) (mmN (modN 1) p.1 (mmN (modN 1) q.3 q.3))))) (mmN (modN 1) (mmN (modN 1) p.1 (mmN (modN 1) q.3 q.3)) (mmN (modN 1) (subM (modN 1) (mmN (modN 1) q.1 (mmN (modN 1) p.3 p.3)) (mmN (modN 1) p.1 (mmN (modN 1) q.3 q.3))) (subM (modN 1) (mmN (modN 1) q.1 (mmN (modN 1) p.3 p.3)) (mmN (modN 1) p.1 (mmN (modN 1) q.3 q.3)))))<4294967296^8,okR (modN 1) (facR (limb (modN 1) 0)) (r2N (modN 1)),mmN (modN 1) (mmN (modN 1) p.1 (mmN (modN 1) q.3 q.3)) (mmN (modN 1) (subM (modN 1) (mmN (modN 1) q.1 (mmN (modN 1) p.3 p.3)) (mmN (modN 1) p.1 (mmN (modN 1) q.3 q.3))) (subM (modN 1) (mmN (modN 1) q.1 (mmN (modN 1) p.3 p.3)) (mmN (modN 1) p.1 (mmN (modN 1) q.3 q.3))))<modN 1,subM (modN 1) (subM (modN 1) (mmN (modN 1) (subM (modN 1) (mmN (modN 1) q.2 (mmN (modN 1) (mmN (modN 1) p.3 p.3) p.3)) (mmN (modN 1) p.2 (mmN (modN 1) (mmN (modN 1) q.3 q.3) q.3))) (subM (modN 1) (mmN (modN 1) q.2 (mmN (modN 1) (mmN (modN 1) p.3 p.3) p.3)) (mmN (modN 1) p.2 (mmN (modN 1) (mmN (modN 1) q.3 q.3) q.3)))) (mmN (modN 1) (mmN (modN 1) (subM (modN 1) (mmN (modN 1) q.1 (mmN (modN 1) p.3 p.3)) (mmN (modN 1) p.1 (mmN (modN 1) q.3 q.3))) (subM (modN 1) (mmN (modN 1) q.1 (mmN (modN 1) p.3 p.3)) (mmN (modN 1) p.1 (mmN (modN 1) q.3 q.3)))) (subM (modN 1) (mmN (modN 1) q.1 (mmN (modN 1) p.3 p.3)) (mmN (modN 1) p.1 (mmN (modN 1) q.3 q.3))))) (addM (modN 1) (mmN (modN 1) (mmN (modN 1) p.1 (mmN (modN 1) q.3 q.3)) (mmN (modN 1) (subM (modN 1) (mmN (modN 1) q.1 (mmN (modN 1) p.3 p.3)) (mmN (modN 1) p.1 (mmN (modN 1) q.3 q.3))) (subM (modN 1) (mmN (modN 1) q.1 (mmN (modN 1) p.3 p.3)) (mmN (modN 1) p.1 (mmN (modN 1) q.3 q.3))))) (mmN (modN 1) (mmN (modN 1) p.1 (mmN (modN 1) q.3 q.3)) (mmN (modN 1) (subM (modN 1) (mmN (modN 1) q.1 (mmN (modN 1) p.3 p.3)) (mmN (modN 1) p.1 (mmN (modN 1) q.3 q.3))) (subM (modN 1) (mmN (modN 1) q.1 (mmN (modN 1) p.3 p.3)) (mmN (modN 1) p.1 (mmN (modN 1) q.3 q.3))))))<modN 1,mmN (modN 1) (mmN (modN 1) p.1 (mmN (modN 1) q.3 q.3)) (mmN (modN 1) (subM (modN 1) (mmN (modN 1) q.1 (mmN (modN 1) p.3 p.3)) (mmN (modN 1) p.1 (mmN (modN 1) q.3 q.3))) (subM (modN 1) (mmN (modN 1) q.1 (mmN (modN 1) p.3 p.3)) (mmN (modN 1) p.1 (mmN (modN 1) q.3 q.3))))<4294967296^8,subM (modN 1) (subM (modN 1) (mmN (modN 1) (subM (modN 1) (mmN (modN 1) q.2 (mmN (modN 1) (mmN (modN 1) p.3 p.3) p.3)) (mmN (modN 1) p.2 (mmN (modN 1) (mmN (modN 1) q.3 q.3) q.3))) (subM (modN 1) (mmN (modN 1) q.2 (mmN (modN 1) (mmN (modN 1) p.3 p.3) p.3)) (mmN (modN 1) p.2 (mmN (modN 1) (mmN (modN 1) q.3 q.3) q.3)))) (mmN (modN 1) (mmN (modN 1) (subM (modN 1) (mmN (modN 1) q.1 (mmN (modN 1) p.3 p.3)) (mmN (modN 1) p.1 (mmN (modN 1) q.3 q.3))) (subM (modN 1) (mmN (modN 1) q.1 (mmN (modN 1) p.3 p.3)) (mmN (modN 1) p.1 (mmN (modN 1) q.3 q.3)))) (subM (modN 1) (mmN (modN 1) q.1 (mmN (modN 1) p.3 p.3)) (mmN (modN 1) p.1 (mmN (modN 1) q.3 q.3))))) (addM (modN 1) (mmN (modN 1) (mmN (modN 1) p.1 (mmN (modN 1) q.3 q.3)) (mmN (modN 1) (subM (modN 1) (mmN (modN 1) q.1 (mmN (modN 1) p.3 p.3)) (mmN (modN 1) p.1 (mmN (modN 1) q.3 q.3))) (subM (modN 1) (mmN (modN 1) q.1 (mmN (modN 1) p.3 p.3)) (mmN (modN 1) p.1 (mmN (modN 1) q.3 q.3))))) (mmN (modN 1) (mmN (modN 1) p.1 (mmN (modN 1) q.3 q.3)) (mmN (modN 1) (subM (modN 1) (mmN (modN 1) q.1 (mmN (modN 1) p.3 p.3)) (mmN (modN 1) p.1 (mmN (modN 1) q.3 q.3))) (subM (modN 1) (mmN (modN 1) q.1 (mmN (modN 1) p.3 p.3)) (mmN (modN 1) p.1 (mmN (modN 1) q.3 q.3))))))<4294967296^8,okR (modN 1) (facR (limb (modN 1) 0)) (r2N (modN 1)),subM (modN 1) (mmN (modN 1) q.2 (mmN (modN 1) (mmN (modN 1) p.3 p.3) p.3)) (mmN (modN 1) p.2 (mmN (modN 1) (mmN (modN 1) q.3 q.3) q.3))<modN 1,subM (modN 1) (mmN (modN 1) (mmN (modN 1) p.1 (mmN (modN 1) q.3 q.3)) (mmN (modN 1) (subM (modN 1) (mmN (modN 1) q.1 (mmN (modN 1) p.3 p.3)) (mmN (modN 1) p.1 (mmN (modN 1) q.3 q.3))) (subM (modN 1) (mmN (modN 1) q.1 (mmN (modN 1) p.3 p.3)) (mmN (modN 1) p.1 (mmN (modN 1) q.3 q.3))))) (subM (modN 1) (subM (modN 1) (mmN (modN 1) (subM (modN 1) (mmN (modN 1) q.2 (mmN (modN 1) (mmN (modN 1) p.3 p.3) p.3)) (mmN (modN 1) p.2 (mmN (modN 1) (mmN (modN 1) q.3 q.3) q.3))) (subM (modN 1) (mmN (modN 1) q.2 (mmN (modN 1) (mmN (modN 1) p.3 p.3) p.3)) (mmN (modN 1) p.2 (mmN (modN 1) (mmN (modN 1) q.3 q.3) q.3)))) (mmN (modN 1) (mmN (modN 1) (subM (modN 1) (mmN (modN 1) q.1 (mmN (modN 1) p.3 p.3)) (mmN (modN 1) p.1 (mmN (modN 1) q.3 q.3))) (subM (modN 1) (mmN (modN 1) q.1 (mmN (modN 1) p.3 p.3)) (mmN (modN 1) p.1 (mmN (modN 1) q.3 q.3)))) (subM (modN 1) (mmN (modN 1) q.1 (mmN (modN 1) p.3 p.3)) (mmN (modN 1) p.1 (mmN (modN 1) q.3 q.3))))) (addM (modN 1) (mmN (modN 1) (mmN (modN 1) p.1 (mmN (modN 1) q.3 q.3)) (mmN (modN 1) (subM (modN 1) (mmN (modN 1) q.1 (mmN (modN 1) p.3 p.3)) (mmN (modN 1) p.1 (mmN (modN 1) q.3 q.3))) (subM (modN 1) (mmN (modN 1) q.1 (mmN (modN 1) p.3 p.3)) (mmN (modN 1) p.1 (mmN (modN 1) q.3 q.3))))) (mmN (modN 1) (mmN (modN 1) p.1 (mmN (modN 1) q.3 q.3)) (mmN (modN 1) (subM (modN 1) (mmN (modN 1) q.1 (mmN (modN 1) p.3 p.3)) (mmN (modN 1) p.1 (mmN (modN 1) q.3 q.3))) (subM (modN 1) (mmN (modN 1) q.1 (mmN (modN 1) p.3 p.3)) (mmN (modN 1) p.1 (mmN (modN 1) q.3 q.3)))))))<modN 1,subM (modN 1) (mmN (modN 1) q.2 (mmN (modN 1) (mmN (modN 1) p.3 p.3) p.3)) (mmN (modN 1) p.2 (mmN (modN 1) (mmN (modN 1) q.3 q.3) q.3))<4294967296^8,subM (modN 1) (mmN (modN 1) (mmN (modN 1) p.1 (mmN (modN 1) q.3 q.3)) (mmN (modN 1) (subM (modN 1) (mmN (modN 1) q.1 (mmN (modN 1) p.3 p.3)) (mmN (modN 1) p.1 (mmN (modN 1) q.3 q.3))) (subM (modN 1) (mmN (modN 1) q.1 (mmN (modN 1) p.3 p.3)) (mmN (modN 1) p.1 (mmN (modN 1) q.3 q.3))))) (subM (modN 1) (subM (modN 1) (mmN (modN 1) (subM (modN 1) (mmN (modN 1) q.2 (mmN (modN 1) (mmN (modN 1) p.3 p.3) p.3)) (mmN (modN 1) p.2 (mmN (modN 1) (mmN (modN 1) q.3 q.3) q.3))) (subM (modN 1) (mmN (modN 1) q.2 (mmN (modN 1) (mmN (modN 1) p.3 p.3) p.3)) (mmN (modN 1) p.2 (mmN (modN 1) (mmN (modN 1) q.3 q.3) q.3)))) (mmN (modN 1) (mmN (modN 1) (subM (modN 1) (mmN (modN 1) q.1 (mmN (modN 1) p.3 p.3)) (mmN (modN 1) p.1 (mmN (modN 1) q.3 q.3))) (subM (modN 1) (mmN (modN 1) q.1 (mmN (modN 1) p.3 p.3)) (mmN (modN 1) p.1 (mmN (modN 1) q.3 q.3)))) (subM (modN 1) (mmN (modN 1) q.1 (mmN (modN 1) p.3 p.3)) (mmN (modN 1) p.1 (mmN (modN 1) q.3 q.3))))) (addM (modN 1) (mmN (modN 1) (mmN (modN 1) p.1 (mmN (modN 1) q.3 q.3)) (mmN (modN 1) (subM (modN 1) (mmN (modN 1) q.1 (mmN (modN 1) p.3 p.3)) (mmN (modN 1) p.1 (mmN (modN 1) q.3 q.3))) (subM (modN 1) (mmN (modN 1) q.1 (mmN (modN 1) p.3 p.3)) (mmN (modN 1) p.1 (mmN (modN 1) q.3 q.3))))) (mmN (modN 1) (mmN (modN 1) p.1 (mmN (modN 1) q.3 q.3)) (mmN (modN 1) (subM (modN 1) (mmN (modN 1) q.1 (mmN (modN 1) p.3 p.3)) (mmN (modN 1) p.1 (mmN (modN 1) q.3 q.3))) (subM (modN 1) (mmN (modN 1) q.1 (mmN (modN 1) p.3 p.3)) (mmN (modN 1) p.1 (mmN (modN 1) q.3 q.3)))))))<4294967296^8,okR (modN 1) (facR (limb (modN 1) 0)) (r2N (modN 1)),mmN (modN 1) p.2 (mmN (modN 1) (mmN (modN 1) q.3 q.3) q.3)<modN 1,mmN (modN 1) (mmN (modN 1) (subM (modN 1) (mmN (modN 1) q.1 (mmN (modN 1) p.3 p.3)) (mmN (modN 1) p.1 (mmN (modN 1) q.3 q.3))) (subM (modN 1) (mmN (modN 1) q.1 (mmN (modN 1) p.3 p.3)) (mmN (modN 1) p.1 (mmN (modN 1) q.3 q.3)))) (subM (modN 1) (mmN (modN 1) q.1 (mmN (modN 1) p.3 p.3)) (mmN (modN 1) p.1 (mmN (modN 1) q.3 q.3)))<modN 1,mmN (modN 1) p.2 (mmN (modN 1) (mmN (modN 1) q.3 q.3) q.3)<4294967296^8,mmN (modN 1) (mmN (modN 1) (subM (modN 1) (mmN (modN 1) q.1 (mmN (modN 1) p.3 p.3)) (mmN (modN 1) p.1 (mmN (modN 1) q.3 q.3))) (subM (modN 1) (mmN (modN 1) q.1 (mmN (modN 1) p.3 p.3)) (mmN (modN 1) p.1 (mmN (modN 1) q.3 q.3)))) (subM (modN 1) (mmN (modN 1) q.1 (mmN (modN 1) p.3 p.3)) (mmN (modN 1) p.1 (mmN (modN 1) q.3 q.3)))<4294967296^8,okR (modN 1) (facR (limb (modN 1) 0)) (r2N (modN 1)),mmN (modN 1) (subM (modN 1) (mmN (modN 1) q.2 (mmN (modN 1) (mmN (modN 1) p.3 p.3) p.3)) (mmN (modN 1) p.2 (mmN (modN 1) (mmN (modN 1) q.3 q.3) q.3))) (subM (modN 1) (mmN (modN 1) (mmN (modN 1) p.1 (mmN (modN 1) q.3 q.3)) (mmN (modN 1) (subM (modN 1) (mmN (modN 1) q.1 (mmN (modN 1) p.3 p.3)) (mmN (modN 1) p.1 (mmN (modN 1) q.3 q.3))) (subM (modN 1) (mmN (modN 1) q.1 (mmN (modN 1) p.3 p.3)) (mmN (modN 1) p.1 (mmN (modN 1) q.3 q.3))))) (subM (modN 1) (subM (modN 1) (mmN (modN 1) (subM (modN 1) (mmN (modN 1) q.2 (mmN (modN 1) (mmN (modN 1) p.3 p.3) p.3)) (mmN (modN 1) p.2 (mmN (modN 1) (mmN (modN 1) q.3 q.3) q.3))) (subM (modN 1) (mmN (modN 1) q.2 (mmN (modN 1) (mmN (modN 1) p.3 p.3) p.3)) (mmN (modN 1) p.2 (mmN (modN 1) (mmN (modN 1) q.3 q.3) q.3)))) (mmN (modN 1) (mmN (modN 1) (subM (modN 1) (mmN (modN 1) q.1 (mmN (modN 1) p.3 p.3)) (mmN (modN 1) p.1 (mmN (modN 1) q.3 q.3))) (subM (modN 1) (mmN (modN 1) q.1 (mmN (modN 1) p.3 p.3)) (mmN (modN 1) p.1 (mmN (modN 1) q.3 q.3)))) (subM (modN 1) (mmN (modN 1) q.1 (mmN (modN 1) p.3 p.3)) (mmN (modN 1) p.1 (mmN (modN 1) q.3 q.3))))) (addM (modN 1) (mmN (modN 1) (mmN (modN 1) p.1 (mmN (modN 1) q.3 q.3)) (mmN (modN 1) (subM (modN 1) (mmN (modN 1) q.1 (mmN (modN 1) p.3 p.3)) (mmN (modN 1) p.1 (mmN (modN 1) q.3 q.3))) (subM (modN 1) (mmN (modN 1) q.1 (mmN (modN 1) p.3 p.3)) (mmN (modN 1) p.1 (mmN (modN 1) q.3 q.3))))) (mmN (modN 1) (mmN (modN 1) p.1 (mmN (modN 1) q.3 q.3)) (mmN (modN 1) (subM (modN 1) (mmN (modN 1) q.1 (mmN (modN 1) p.3 p.3)) (mmN (modN 1) p.1 (mmN (modN 1) q.3 q.3))) (subM (modN 1) (mmN (modN 1) q.1 (mmN (modN 1) p.3 p.3)) (mmN (modN 1) p.1 (mmN (modN 1) q.3 q.3))))))))<modN 1,mmN (modN 1) (mmN (modN 1) p.2 (mmN (modN 1) (mmN (modN 1) q.3 q.3) q.3)) (mmN (modN 1) (mmN (modN 1) (subM (modN 1) (mmN (modN 1) q.1 (mmN (modN 1) p.3 p.3)) (mmN (modN 1) p.1 (mmN (modN 1) q.3 q.3))) (subM (modN 1) (mmN (modN 1) q.1 (mmN (modN 1) p.3 p.3)) (mmN (modN 1) p.1 (mmN (modN 1) q.3 q.3)))) (subM (modN 1) (mmN (modN 1) q.1 (mmN (modN 1) p.3 p.3)) (mmN (modN 1) p.1 (mmN (modN 1) q.3 q.3))))<modN 1,mmN (modN 1) (subM (modN 1) (mmN (modN 1) q.2 (mmN (modN 1) (mmN (modN 1) p.3 p.3) p.3)) (mmN (modN 1) p.2 (mmN (modN 1) (mmN (modN 1) q.3 q.3) q.3))) (subM (modN 1) (mmN (modN 1) (mmN (modN 1) p.1 (mmN (modN 1) q.3 q.3)) (mmN (modN 1) (subM (modN 1) (mmN (modN 1) q.1 (mmN (modN 1) p.3 p.3)) (mmN (modN 1) p.1 (mmN (modN 1) q.3 q.3))) (subM (modN 1) (mmN (modN 1) q.1 (mmN (modN 1) p.3 p.3)) (mmN (modN 1) p.1 (mmN (modN 1) q.3 q.3))))) (subM (modN 1) (subM (modN 1) (mmN (modN 1) (subM (modN 1) (mmN (modN 1) q.2 (mmN (modN 1) (mmN (modN 1) p.3 p.3) p.3)) (mmN (modN 1) p.2 (mmN (modN 1) (mmN (modN 1) q.3 q.3) q.3))) (subM (modN 1) (mmN (modN 1) q.2 (mmN (modN 1) (mmN (modN 1) p.3 p.3) p.3)) (mmN (modN 1) p.2 (mmN (modN 1) (mmN (modN 1) q.3 q.3) q.3)))) (mmN (modN 1) (mmN (modN 1) (subM (modN 1) (mmN (modN 1) q.1 (mmN (modN 1) p.3 p.3)) (mmN (modN 1) p.1 (mmN (modN 1) q.3 q.3))) (subM (modN 1) (mmN (modN 1) q.1 (mmN (modN 1) p.3 p.3)) (mmN (modN 1) p.1 (mmN (modN 1) q.3 q.3)))) (subM (modN 1) (mmN (modN 1) q.1 (mmN (modN 1) p.3 p.3)) (mmN (modN 1) p.1 (mmN (modN 1) q.3 q.3))))) (addM (modN 1) (mmN (modN 1) (mmN (modN 1) p.1 (mmN (modN 1) q.3 q.3)) (mmN (modN 1) (subM (modN 1) (mmN (modN 1) q.1 (mmN (modN 1) p.3 p.3)) (mmN (modN 1) p.1 (mmN (modN 1) q.3 q.3))) (subM (modN 1) (mmN (modN 1) q.1 (mmN (modN 1) p.3 p.3)) (mmN (modN 1) p.1 (mmN (modN 1) q.3 q.3))))) (mmN (modN 1) (mmN (modN 1) p.1 (mmN (modN 1) q.3 q.3)) (mmN (modN 1) (subM (modN 1) (mmN (modN 1) q.1 (mmN (modN 1) p.3 p.3)) (mmN (modN 1) p.1 (mmN (modN 1) q.3 q.3))) (subM (modN 1) (mmN (modN 1) q.1 (mmN (modN 1) p.3 p.3)) (mmN (modN 1) p.1 (mmN (modN 1) q.3 q.3))))))))<4294967296^8,mmN (modN 1) (mmN (modN 1) p.2 (mmN (modN 1) (mmN (modN 1) q.3 q.3) q.3)) (mmN (modN 1) (mmN (modN 1) (subM (modN 1) (mmN (modN 1) q.1 (mmN (modN 1) p.3 p.3)) (mmN (modN 1) p.1 (mmN (modN 1) q.3 q.3))) (subM (modN 1) (mmN (modN 1) q.1 (mmN (modN 1) p.3 p.3)) (mmN (modN 1) p.1 (mmN (modN 1) q.3 q.3)))) (subM (modN 1) (mmN (modN 1) q.1 (mmN (modN 1) p.3 p.3)) (mmN (modN 1) p.1 (mmN (modN 1) q.3 q.3))))<4294967296^8,okR (modN 1) (facR (limb (modN 1) 0)) (r2N (modN 1)),p.3<modN 1,q.3<modN 1,p.3<4294967296^8,q.3<4294967296^8,okR (modN 1) (facR (limb (modN 1) 0)) (r2N (modN 1)),subM (modN 1) (mmN (modN 1) q.1 (mmN (modN 1) p.3 p.3)) (mmN (modN 1) p.1 (mmN (modN 1) q.3 q.3))<modN 1,mmN (modN 1) p.3 q.3<modN 1,subM (modN 1) (mmN (modN 1) q.1 (mmN (modN 1) p.3 p.3)) (mmN (modN 1) p.1 (mmN (modN 1) q.3 q.3))<4294967296^8,mmN (modN 1) p.3 q.3<4294967296^8],.val (w3V ⟨jX p q,jY p q,jZ p q⟩)):=by kernel_rfl
theorem s53c (p q:J3) (h1:p.x<modN 1) (h2:p.y<modN 1) (h3:p.z<modN 1) (h5:q.x<modN 1) (h6:q.y<modN 1) (h7:q.z<modN 1) (hz:isZ p.z=false) (hy:isZ q.z=false) (eU:((decide (mmN (modN 1) p.x (mmN (modN 1) q.z q.z)%4294967296^8=mmN (modN 1) q.x (mmN (modN 1) p.z p.z)%4294967296^8)&&true)=false)):Spec 115 [rg1,w3V p,w3V q] (.val (w3V ⟨jX p q,jY p q,jZ p q⟩)):=by
 have hlp:J3.lt p:=⟨h1,h2,h3⟩
 have hone:=modN_one 1
 exact spec_run (envMk L8w_ok S53) rfl (wi53c p q) ⟨(by first|with_reducible assumption|with_reducible exact L8 (by with_reducible assumption)|exact decide_eq_true (by omega)|exact decide_eq_false (by omega)|omega),(by first|with_reducible assumption|with_reducible exact L8 (by with_reducible assumption)|exact decide_eq_true (by omega)|exact decide_eq_false (by omega)|omega),(okR_K (by decide)),(by first|with_reducible assumption|with_reducible exact L8 (by with_reducible assumption)|exact decide_eq_true (by omega)|exact decide_eq_false (by omega)|omega),(by first|with_reducible assumption|with_reducible exact L8 (by with_reducible assumption)|exact decide_eq_true (by omega)|exact decide_eq_false (by omega)|omega),(by first|with_reducible assumption|with_reducible exact L8 (by with_reducible assumption)|exact decide_eq_true (by omega)|exact decide_eq_false (by omega)|omega),(by first|with_reducible assumption|with_reducible exact L8 (by with_reducible assumption)|exact decide_eq_true (by omega)|exact decide_eq_false (by omega)|omega),(okR_K (by decide)),(by first|with_reducible assumption|with_reducible exact L8 (by with_reducible assumption)|exact decide_eq_true (by omega)|exact decide_eq_false (by omega)|omega),(by first|with_reducible assumption|with_reducible exact L8 (by with_reducible assumption)|exact decide_eq_true (by omega)|exact decide_eq_false (by omega)|omega),(by first|with_reducible assumption|with_reducible exact L8 (by with_reducible assumption)|exact decide_eq_true (by omega)|exact decide_eq_false (by omega)|omega),(by first|with_reducible assumption|with_reducible exact L8 (by with_reducible assumption)|exact decide_eq_true (by omega)|exact decide_eq_false (by omega)|omega),(okR_K (by decide)),(by first|with_reducible assumption|with_reducible exact L8 (by with_reducible assumption)|exact decide_eq_true (by omega)|exact decide_eq_false (by omega)|omega),(mmN_lt (modN_pos _)),(by first|with_reducible assumption|with_reducible exact L8 (by with_reducible assumption)|exact decide_eq_true (by omega)|exact decide_eq_false (by omega)|omega),(L8 (mmN_lt (modN_pos _))),(okR_K (by decide)),(by first|with_reducible assumption|with_reducible exact L8 (by with_reducible assumption)|exact decide_eq_true (by omega)|exact decide_eq_false (by omega)|omega),(mmN_lt (modN_pos _)),(by first|with_reducible assumption|with_reducible exact L8 (by with_reducible assumption)|exact decide_eq_true (by omega)|exact decide_eq_false (by omega)|omega),(L8 (mmN_lt (modN_pos _))),(okR_K (by decide)),(mmN_lt (modN_pos _)),(by first|with_reducible assumption|with_reducible exact L8 (by with_reducible assumption)|exact decide_eq_true (by omega)|exact decide_eq_false (by omega)|omega),(L8 (mmN_lt (modN_pos _))),(by first|with_reducible assumption|with_reducible exact L8 (by with_reducible assumption)|exact decide_eq_true (by omega)|exact decide_eq_false (by omega)|omega),(okR_K (by decide)),(by first|with_reducible assumption|with_reducible exact L8 (by with_reducible assumption)|exact decide_eq_true (by omega)|exact decide_eq_false (by omega)|omega),(mmN_lt (modN_pos _)),(by first|with_reducible assumption|with_reducible exact L8 (by with_reducible assumption)|exact decide_eq_true (by omega)|exact decide_eq_false (by omega)|omega),(L8 (mmN_lt (modN_pos _))),(okR_K (by decide)),(mmN_lt (modN_pos _)),(by first|with_reducible assumption|with_reducible exact L8 (by with_reducible assumption)|exact decide_eq_true (by omega)|exact decide_eq_false (by omega)|omega),(L8 (mmN_lt (modN_pos _))),(by first|with_reducible assumption|with_reducible exact L8 (by with_reducible assumption)|exact decide_eq_true (by omega)|exact decide_eq_false (by omega)|omega),(okR_K (by decide)),(by first|with_reducible assumption|with_reducible exact L8 (by with_reducible assumption)|exact decide_eq_true (by omega)|exact decide_eq_false (by omega)|omega),(mmN_lt (modN_pos _)),(by first|with_reducible assumption|with_reducible exact L8 (by with_reducible assumption)|exact decide_eq_true (by omega)|exact decide_eq_false (by omega)|omega),(L8 (mmN_lt (modN_pos _))),(by first|with_reducible assumption|with_reducible exact L8 (by with_reducible assumption)|exact decide_eq_true (by omega)|exact decide_eq_false (by omega)|omega),(okR_K (by decide)),(mmN_lt (modN_pos _)),(mmN_lt (modN_pos _)),(L8 (mmN_lt (modN_pos _))),(L8 (mmN_lt (modN_pos _))),(okR_K (by decide)),(mmN_lt (modN_pos _)),(mmN_lt (modN_pos _)),(L8 (mmN_lt (modN_pos _))),(L8 (mmN_lt (modN_pos _))),(okR_K (by decide)),(subM_lt (modN_pos _)),(subM_lt (modN_pos _)),(L8 (subM_lt (modN_pos _))),(L8 (subM_lt (modN_pos _))),(okR_K (by decide)),(mmN_lt (modN_pos _)),(subM_lt (modN_pos _)),(L8 (mmN_lt (modN_pos _))),(L8 (subM_lt (modN_pos _))),(okR_K (by decide)),(mmN_lt (modN_pos _)),(mmN_lt (modN_pos _)),(L8 (mmN_lt (modN_pos _))),(L8 (mmN_lt (modN_pos _))),(okR_K (by decide)),(subM_lt (modN_pos _)),(subM_lt (modN_pos _)),(L8 (subM_lt (modN_pos _))),(L8 (subM_lt (modN_pos _))),(okR_K (by decide)),(mmN_lt (modN_pos _)),(mmN_lt (modN_pos _)),(L8 (mmN_lt (modN_pos _))),(L8 (mmN_lt (modN_pos _))),(okR_K (by decide)),(mmN_lt (modN_pos _)),(mmN_lt (modN_pos _)),(L8 (mmN_lt (modN_pos _))),(L8 (mmN_lt (modN_pos _))),(okR_K (by decide)),(subM_lt (modN_pos _)),(addM_lt (modN_pos _)),(L8 (subM_lt (modN_pos _))),(L8 (addM_lt (modN_pos _))),(okR_K (by decide)),(mmN_lt (modN_pos _)),(subM_lt (modN_pos _)),(L8 (mmN_lt (modN_pos _))),(L8 (subM_lt (modN_pos _))),(okR_K (by decide)),(subM_lt (modN_pos _)),(subM_lt (modN_pos _)),(L8 (subM_lt (modN_pos _))),(L8 (subM_lt (modN_pos _))),(okR_K (by decide)),(mmN_lt (modN_pos _)),(mmN_lt (modN_pos _)),(L8 (mmN_lt (modN_pos _))),(L8 (mmN_lt (modN_pos _))),(okR_K (by decide)),(mmN_lt (modN_pos _)),(mmN_lt (modN_pos _)),(L8 (mmN_lt (modN_pos _))),(L8 (mmN_lt (modN_pos _))),(okR_K (by decide)),(by first|with_reducible assumption|with_reducible exact L8 (by with_reducible assumption)|exact decide_eq_true (by omega)|exact decide_eq_false (by omega)|omega),(by first|with_reducible assumption|with_reducible exact L8 (by with_reducible assumption)|exact decide_eq_true (by omega)|exact decide_eq_false (by omega)|omega),(by first|with_reducible assumption|with_reducible exact L8 (by with_reducible assumption)|exact decide_eq_true (by omega)|exact decide_eq_false (by omega)|omega),(by first|with_reducible assumption|with_reducible exact L8 (by with_reducible assumption)|exact decide_eq_true (by omega)|exact decide_eq_false (by omega)|omega),(okR_K (by decide)),(subM_lt (modN_pos _)),(mmN_lt (modN_pos _)),(L8 (subM_lt (modN_pos _))),(L8 (mmN_lt (modN_pos _))),trivial⟩ rfl rfl
theorem s53d (p q:J3) (h1:p.x<modN 1) (h2:p.y<modN 1) (h3:p.z<modN 1) (h5:q.x<modN 1) (h6:q.y<modN 1) (h7:q.z<modN 1) (hz:isZ p.z=false) (hy:isZ q.z=false) (eU:((decide (mmN (modN 1) p.x (mmN (modN 1) q.z q.z)%4294967296^8=mmN (modN 1) q.x (mmN (modN 1) p.z p.z)%4294967296^8)&&true)=true)) (eS:((decide (mmN (modN 1) p.y (mmN (modN 1) (mmN (modN 1) q.z q.z) q.z)%4294967296^8=mmN (modN 1) q.y (mmN (modN 1) (mmN (modN 1) p.z p.z) p.z)%4294967296^8)&&true)=true)):Spec 115 [rg1,w3V p,w3V q] (.val (w3V (jDbl p))):=by
 have hlp:J3.lt p:=⟨h1,h2,h3⟩
 have hone:=modN_one 1
 exact spec_run (envMk L8w_ok S53) rfl (wi53d p q) ⟨(by first|with_reducible assumption|with_reducible exact L8 (by with_reducible assumption)|exact decide_eq_true (by omega)|exact decide_eq_false (by omega)|omega),(by first|with_reducible assumption|with_reducible exact L8 (by with_reducible assumption)|exact decide_eq_true (by omega)|exact decide_eq_false (by omega)|omega),(okR_K (by decide)),(by first|with_reducible assumption|with_reducible exact L8 (by with_reducible assumption)|exact decide_eq_true (by omega)|exact decide_eq_false (by omega)|omega),(by first|with_reducible assumption|with_reducible exact L8 (by with_reducible assumption)|exact decide_eq_true (by omega)|exact decide_eq_false (by omega)|omega),(by first|with_reducible assumption|with_reducible exact L8 (by with_reducible assumption)|exact decide_eq_true (by omega)|exact decide_eq_false (by omega)|omega),(by first|with_reducible assumption|with_reducible exact L8 (by with_reducible assumption)|exact decide_eq_true (by omega)|exact decide_eq_false (by omega)|omega),(okR_K (by decide)),(by first|with_reducible assumption|with_reducible exact L8 (by with_reducible assumption)|exact decide_eq_true (by omega)|exact decide_eq_false (by omega)|omega),(by first|with_reducible assumption|with_reducible exact L8 (by with_reducible assumption)|exact decide_eq_true (by omega)|exact decide_eq_false (by omega)|omega),(by first|with_reducible assumption|with_reducible exact L8 (by with_reducible assumption)|exact decide_eq_true (by omega)|exact decide_eq_false (by omega)|omega),(by first|with_reducible assumption|with_reducible exact L8 (by with_reducible assumption)|exact decide_eq_true (by omega)|exact decide_eq_false (by omega)|omega),(okR_K (by decide)),(by first|with_reducible assumption|with_reducible exact L8 (by with_reducible assumption)|exact decide_eq_true (by omega)|exact decide_eq_false (by omega)|omega),(mmN_lt (modN_pos _)),(by first|with_reducible assumption|with_reducible exact L8 (by with_reducible assumption)|exact decide_eq_true (by omega)|exact decide_eq_false (by omega)|omega),(L8 (mmN_lt (modN_pos _))),(okR_K (by decide)),(by first|with_reducible assumption|with_reducible exact L8 (by with_reducible assumption)|exact decide_eq_true (by omega)|exact decide_eq_false (by omega)|omega),(mmN_lt (modN_pos _)),(by first|with_reducible assumption|with_reducible exact L8 (by with_reducible assumption)|exact decide_eq_true (by omega)|exact decide_eq_false (by omega)|omega),(L8 (mmN_lt (modN_pos _))),(okR_K (by decide)),(mmN_lt (modN_pos _)),(by first|with_reducible assumption|with_reducible exact L8 (by with_reducible assumption)|exact decide_eq_true (by omega)|exact decide_eq_false (by omega)|omega),(L8 (mmN_lt (modN_pos _))),(by first|with_reducible assumption|with_reducible exact L8 (by with_reducible assumption)|exact decide_eq_true (by omega)|exact decide_eq_false (by omega)|omega),(okR_K (by decide)),(by first|with_reducible assumption|with_reducible exact L8 (by with_reducible assumption)|exact decide_eq_true (by omega)|exact decide_eq_false (by omega)|omega),(mmN_lt (modN_pos _)),(by first|with_reducible assumption|with_reducible exact L8 (by with_reducible assumption)|exact decide_eq_true (by omega)|exact decide_eq_false (by omega)|omega),(L8 (mmN_lt (modN_pos _))),(okR_K (by decide)),(mmN_lt (modN_pos _)),(by first|with_reducible assumption|with_reducible exact L8 (by with_reducible assumption)|exact decide_eq_true (by omega)|exact decide_eq_false (by omega)|omega),(L8 (mmN_lt (modN_pos _))),(by first|with_reducible assumption|with_reducible exact L8 (by with_reducible assumption)|exact decide_eq_true (by omega)|exact decide_eq_false (by omega)|omega),(okR_K (by decide)),(by first|with_reducible assumption|with_reducible exact L8 (by with_reducible assumption)|exact decide_eq_true (by omega)|exact decide_eq_false (by omega)|omega),(mmN_lt (modN_pos _)),(by first|with_reducible assumption|with_reducible exact L8 (by with_reducible assumption)|exact decide_eq_true (by omega)|exact decide_eq_false (by omega)|omega),(L8 (mmN_lt (modN_pos _))),(by first|with_reducible assumption|with_reducible exact L8 (by with_reducible assumption)|exact decide_eq_true (by omega)|exact decide_eq_false (by omega)|omega),(by first|with_reducible assumption|with_reducible exact L8 (by with_reducible assumption)|exact decide_eq_true (by omega)|exact decide_eq_false (by omega)|omega),(modN_lt _),(facR_lt32 _),(L8 (r2N_lt (by decide))),(by first|with_reducible assumption|with_reducible exact L8 (by with_reducible assumption)|exact decide_eq_true (by omega)|exact decide_eq_false (by omega)|omega),(by first|with_reducible assumption|with_reducible exact L8 (by with_reducible assumption)|exact decide_eq_true (by omega)|exact decide_eq_false (by omega)|omega),(by first|with_reducible assumption|with_reducible exact L8 (by with_reducible assumption)|exact decide_eq_true (by omega)|exact decide_eq_false (by omega)|omega),rfl,rfl,rfl,(by first|with_reducible assumption|with_reducible exact L8 (by with_reducible assumption)|exact decide_eq_true (by omega)|exact decide_eq_false (by omega)|omega),trivial⟩ rfl rfl
theorem s53n (p q:J3) (h1:p.x<modN 1) (h2:p.y<modN 1) (h3:p.z<modN 1) (h5:q.x<modN 1) (h6:q.y<modN 1) (h7:q.z<modN 1) (hz:isZ p.z=false) (hy:isZ q.z=false) (eU:((decide (mmN (modN 1) p.x (mmN (modN 1) q.z q.z)%4294967296^8=mmN (modN 1) q.x (mmN (modN 1) p.z p.z)%4294967296^8)&&true)=true)) (eS:((decide (mmN (modN 1) p.y (mmN (modN 1) (mmN (modN 1) q.z q.z) q.z)%4294967296^8=mmN (modN 1) q.y (mmN (modN 1) (mmN (modN 1) p.z p.z) p.z)%4294967296^8)&&true)=false)):Spec 115 [rg1,w3V p,w3V q] (.val (.agg (.num 8 (inN (modN 1) 1):: .num 8 (inN (modN 1) 1)::cellsU 8 0 zF))):=by
 have hlp:J3.lt p:=⟨h1,h2,h3⟩
 have hone:=modN_one 1
 exact spec_run (envMk L8w_ok S53) rfl (wi53n p q) ⟨(by first|with_reducible assumption|with_reducible exact L8 (by with_reducible assumption)|exact decide_eq_true (by omega)|exact decide_eq_false (by omega)|omega),(by first|with_reducible assumption|with_reducible exact L8 (by with_reducible assumption)|exact decide_eq_true (by omega)|exact decide_eq_false (by omega)|omega),(okR_K (by decide)),(by first|with_reducible assumption|with_reducible exact L8 (by with_reducible assumption)|exact decide_eq_true (by omega)|exact decide_eq_false (by omega)|omega),(by first|with_reducible assumption|with_reducible exact L8 (by with_reducible assumption)|exact decide_eq_true (by omega)|exact decide_eq_false (by omega)|omega),(by first|with_reducible assumption|with_reducible exact L8 (by with_reducible assumption)|exact decide_eq_true (by omega)|exact decide_eq_false (by omega)|omega),(by first|with_reducible assumption|with_reducible exact L8 (by with_reducible assumption)|exact decide_eq_true (by omega)|exact decide_eq_false (by omega)|omega),(okR_K (by decide)),(by first|with_reducible assumption|with_reducible exact L8 (by with_reducible assumption)|exact decide_eq_true (by omega)|exact decide_eq_false (by omega)|omega),(by first|with_reducible assumption|with_reducible exact L8 (by with_reducible assumption)|exact decide_eq_true (by omega)|exact decide_eq_false (by omega)|omega),(by first|with_reducible assumption|with_reducible exact L8 (by with_reducible assumption)|exact decide_eq_true (by omega)|exact decide_eq_false (by omega)|omega),(by first|with_reducible assumption|with_reducible exact L8 (by with_reducible assumption)|exact decide_eq_true (by omega)|exact decide_eq_false (by omega)|omega),(okR_K (by decide)),(by first|with_reducible assumption|with_reducible exact L8 (by with_reducible assumption)|exact decide_eq_true (by omega)|exact decide_eq_false (by omega)|omega),(mmN_lt (modN_pos _)),(by first|with_reducible assumption|with_reducible exact L8 (by with_reducible assumption)|exact decide_eq_true (by omega)|exact decide_eq_false (by omega)|omega),(L8 (mmN_lt (modN_pos _))),(okR_K (by decide)),(by first|with_reducible assumption|with_reducible exact L8 (by with_reducible assumption)|exact decide_eq_true (by omega)|exact decide_eq_false (by omega)|omega),(mmN_lt (modN_pos _)),(by first|with_reducible assumption|with_reducible exact L8 (by with_reducible assumption)|exact decide_eq_true (by omega)|exact decide_eq_false (by omega)|omega),(L8 (mmN_lt (modN_pos _))),(okR_K (by decide)),(mmN_lt (modN_pos _)),(by first|with_reducible assumption|with_reducible exact L8 (by with_reducible assumption)|exact decide_eq_true (by omega)|exact decide_eq_false (by omega)|omega),(L8 (mmN_lt (modN_pos _))),(by first|with_reducible assumption|with_reducible exact L8 (by with_reducible assumption)|exact decide_eq_true (by omega)|exact decide_eq_false (by omega)|omega),(okR_K (by decide)),(by first|with_reducible assumption|with_reducible exact L8 (by with_reducible assumption)|exact decide_eq_true (by omega)|exact decide_eq_false (by omega)|omega),(mmN_lt (modN_pos _)),(by first|with_reducible assumption|with_reducible exact L8 (by with_reducible assumption)|exact decide_eq_true (by omega)|exact decide_eq_false (by omega)|omega),(L8 (mmN_lt (modN_pos _))),(okR_K (by decide)),(mmN_lt (modN_pos _)),(by first|with_reducible assumption|with_reducible exact L8 (by with_reducible assumption)|exact decide_eq_true (by omega)|exact decide_eq_false (by omega)|omega),(L8 (mmN_lt (modN_pos _))),(by first|with_reducible assumption|with_reducible exact L8 (by with_reducible assumption)|exact decide_eq_true (by omega)|exact decide_eq_false (by omega)|omega),(okR_K (by decide)),(by first|with_reducible assumption|with_reducible exact L8 (by with_reducible assumption)|exact decide_eq_true (by omega)|exact decide_eq_false (by omega)|omega),(mmN_lt (modN_pos _)),(by first|with_reducible assumption|with_reducible exact L8 (by with_reducible assumption)|exact decide_eq_true (by omega)|exact decide_eq_false (by omega)|omega),(L8 (mmN_lt (modN_pos _))),(by first|with_reducible assumption|with_reducible exact L8 (by with_reducible assumption)|exact decide_eq_true (by omega)|exact decide_eq_false (by omega)|omega),(by first|with_reducible assumption|with_reducible exact L8 (by with_reducible assumption)|exact decide_eq_true (by omega)|exact decide_eq_false (by omega)|omega),lit1,(okR_K (by decide)),(modN_one _),lit1_8,lit1,(okR_K (by decide)),(modN_one _),lit1_8,trivial⟩ rfl rfl
theorem s53p (p q:J3) (h1:p.x<modN 1) (h2:p.y<modN 1) (h3:p.z<modN 1) (h5:q.x<modN 1) (h6:q.y<modN 1) (h7:q.z<modN 1) (hz:isZ p.z=true):Spec 115 [rg1,w3V p,w3V q] (.val (w3V q)):=by
 have hlp:J3.lt p:=⟨h1,h2,h3⟩
 have hone:=modN_one 1
 exact spec_run (envMk L8w_ok S53) rfl (wi53p p q) ⟨(by first|with_reducible assumption|with_reducible exact L8 (by with_reducible assumption)|exact decide_eq_true (by omega)|exact decide_eq_false (by omega)|omega),trivial⟩ rfl rfl
theorem s53q (p q:J3) (h1:p.x<modN 1) (h2:p.y<modN 1) (h3:p.z<modN 1) (h5:q.x<modN 1) (h6:q.y<modN 1) (h7:q.z<modN 1) (hz:isZ p.z=false) (hy:isZ q.z=true):Spec 115 [rg1,w3V p,w3V q] (.val (w3V p)):=by
 have hlp:J3.lt p:=⟨h1,h2,h3⟩
 have hone:=modN_one 1
 exact spec_run (envMk L8w_ok S53) rfl (wi53q p q) ⟨(by first|with_reducible assumption|with_reducible exact L8 (by with_reducible assumption)|exact decide_eq_true (by omega)|exact decide_eq_false (by omega)|omega),(by first|with_reducible assumption|with_reducible exact L8 (by with_reducible assumption)|exact decide_eq_true (by omega)|exact decide_eq_false (by omega)|omega),trivial⟩ rfl rfl
end Go.Ev

namespace Go.Ev
open Go Go.Proofs Go.RowKit
noncomputable def jJoin (p q : J3) : J3 := bif decide (p.z = 0) then q else bif decide (q.z = 0) then p else bif decide (jU p q = jV p q) then (bif decide (jS p q = jT p q) then jDbl p else ⟨inN (modN 1) 1, inN (modN 1) 1, 0⟩) else ⟨jX p q, jY p q, jZ p q⟩
theorem jU_lt (p q : J3) : jU p q < 4294967296 ^ 8 := L8 (mmN_lt (modN_pos 1))
theorem jV_lt (p q : J3) : jV p q < 4294967296 ^ 8 := L8 (mmN_lt (modN_pos 1))
theorem jS_lt (p q : J3) : jS p q < 4294967296 ^ 8 := L8 (mmN_lt (modN_pos 1))
theorem jT_lt (p q : J3) : jT p q < 4294967296 ^ 8 := L8 (mmN_lt (modN_pos 1))
theorem eUo {p q : J3} {b : Bool} (h : decide (jU p q = jV p q) = b) : (decide (jU p q % 4294967296 ^ 8 = jV p q % 4294967296 ^ 8) && true) = b := (same_b (jU_lt p q) (jV_lt p q)).trans h
theorem eSo {p q : J3} {b : Bool} (h : decide (jS p q = jT p q) = b) : (decide (jS p q % 4294967296 ^ 8 = jT p q % 4294967296 ^ 8) && true) = b := (same_b (jS_lt p q) (jT_lt p q)).trans h
theorem jJ_p {p q : J3} (h : decide (p.z = 0) = true) : jJoin p q = q := by unfold jJoin; rw [h, cond_true]
theorem jJ_q {p q : J3} (h : decide (p.z = 0) = false) (h2 : decide (q.z = 0) = true) : jJoin p q = p := by unfold jJoin; rw [h, cond_false, h2, cond_true]
theorem jJ_c {p q : J3} (h : decide (p.z = 0) = false) (h2 : decide (q.z = 0) = false) (h3 : decide (jU p q = jV p q) = false) : jJoin p q = ⟨jX p q, jY p q, jZ p q⟩ := by unfold jJoin; rw [h, cond_false, h2, cond_false, h3, cond_false]
theorem jJ_d {p q : J3} (h : decide (p.z = 0) = false) (h2 : decide (q.z = 0) = false) (h3 : decide (jU p q = jV p q) = true) (h4 : decide (jS p q = jT p q) = true) : jJoin p q = jDbl p := by unfold jJoin; rw [h, cond_false, h2, cond_false, h3, cond_true, h4, cond_true]
theorem jJ_n {p q : J3} (h : decide (p.z = 0) = false) (h2 : decide (q.z = 0) = false) (h3 : decide (jU p q = jV p q) = true) (h4 : decide (jS p q = jT p q) = false) : jJoin p q = ⟨inN (modN 1) 1, inN (modN 1) 1, 0⟩ := by unfold jJoin; rw [h, cond_false, h2, cond_false, h3, cond_true, h4, cond_false]
theorem jJoin_lt {p q : J3} (hp : p.lt) (hq : q.lt) : (jJoin p q).lt := by
 have hm := modN_pos 1
 cases hz : decide (p.z = 0) with
 | true => rw [jJ_p hz]; exact hq
 | false =>
 cases hy : decide (q.z = 0) with
 | true => rw [jJ_q hz hy]; exact hp
 | false =>
 cases hu : decide (jU p q = jV p q) with
 | false => rw [jJ_c hz hy hu]; exact ⟨subM_lt hm, subM_lt hm, mmN_lt hm⟩
 | true =>
  cases hs : decide (jS p q = jT p q) with
  | true => rw [jJ_d hz hy hu hs]; exact jDbl_lt hp
  | false => rw [jJ_n hz hy hu hs]; exact ⟨inN_lt hm, inN_lt hm, hm⟩
theorem conc_n (φ : Loc) (a : Nat) : concs φ (.num 8 a :: .num 8 a :: cellsU 8 0 zF) = concs φ [.num 8 a, .num 8 a, .num 8 0] := by
 rw [show ([.num 8 a, .num 8 a, .num 8 0] : List Piece) = [.num 8 a, .num 8 a] ++ [.num 8 0] from rfl, show (.num 8 a :: .num 8 a :: cellsU 8 0 zF : List Piece) = [.num 8 a, .num 8 a] ++ cellsU 8 0 zF from rfl, concs_append, concs_append, concs_num φ 8 0, limb_zero]
theorem spec53w (p q : J3) (hp : p.lt) (hq : q.lt) : Spec 115 [rg1, w3V p, w3V q] (.val (w3V (jJoin p q))) := by
 obtain ⟨h1, h2, h3⟩ := hp
 obtain ⟨h5, h6, h7⟩ := hq
 cases hz : decide (p.z = 0) with
 | true => rw [jJ_p hz]; exact s53p p q h1 h2 h3 h5 h6 h7 ((isZ_eq (L8 h3)).trans hz)
 | false =>
 have hz' : isZ p.z = false := (isZ_eq (L8 h3)).trans hz
 cases hy : decide (q.z = 0) with
 | true => rw [jJ_q hz hy]; exact s53q p q h1 h2 h3 h5 h6 h7 hz' ((isZ_eq (L8 h7)).trans hy)
 | false =>
 have hy' : isZ q.z = false := (isZ_eq (L8 h7)).trans hy
 cases hu : decide (jU p q = jV p q) with
 | false => rw [jJ_c hz hy hu]; exact s53c p q h1 h2 h3 h5 h6 h7 hz' hy' (eUo hu)
 | true =>
  cases hs : decide (jS p q = jT p q) with
  | true => rw [jJ_d hz hy hu hs]; exact s53d p q h1 h2 h3 h5 h6 h7 hz' hy' (eUo hu) (eSo hs)
  | false =>
   rw [jJ_n hz hy hu hs]
   exact (s53n p q h1 h2 h3 h5 h6 h7 hz' hy' (eUo hu) (eSo hs)).congr (fun _ => rfl) (fun φ => by
    simp only [AV.conc, V1.conc, w3V, conc_n])
noncomputable def gJoin : List Val → Option (List Prop × AV)
 | [.n m, .n q, .n w, .n x1, .n y1, .n z1, .n x2, .n y2, .n z2] => some ([m = modN 1, q = facR (limb (modN 1) 0), w = r2N (modN 1), J3.lt ⟨x1, y1, z1⟩, J3.lt ⟨x2, y2, z2⟩], .val (w3V (jJoin ⟨x1, y1, z1⟩ ⟨x2, y2, z2⟩)))
 | _ => none
theorem ct53w : CTok ⟨115, fnS [aLaw, aJ, aJ] gJoin⟩ := ctS (by
 intro xs ob r hb h ho
 unfold gJoin at h
 split at h
 ·rename_i m q w x1 y1 z1 x2 y2 z2
  simp only [Option.some.injEq, Prod.mk.injEq] at h
  obtain ⟨rfl, rfl⟩ := h
  obtain ⟨e0, e1, e2, h1, h2, _⟩ := ho
  have hS := spec53w ⟨x1, y1, z1⟩ ⟨x2, y2, z2⟩ h1 h2
  unfold rg1 rgK rg at hS
  rw [← e2, ← e1, ← e0] at hS
  exact hS
 ·simp at h)
end Go.Ev

namespace Go.Ev
open Go Go.Proofs Go.RowKit
noncomputable def L10w:List CT:=⟨115,fnS [aLaw,aJ,aJ] gJoin⟩::L8w
theorem L10w_ok:AllCT L10w:=⟨ct53w,L8w_ok⟩
noncomputable def jStep (k:Nat) (p:J3) (j:Nat) (x:J3):J3:=bif bitB k j then jJoin (jDbl x) p else jDbl x
noncomputable def jTimesG (k:Nat) (p:J3):Nat→J3→J3
 |0,x=>x
 |j+1,x=>jTimesG k p j (jStep k p j x)
noncomputable def jTimes (k:Nat) (p:J3):J3:=jTimesG k p (lenN k) (jLift 0 0 true)
theorem jStep_t {k:Nat} {p:J3} {j:Nat} {x:J3} (h:bitB k j=true):jStep k p j x=jJoin (jDbl x) p:=by unfold jStep;rw[h,cond_true]
theorem jStep_f {k:Nat} {p:J3} {j:Nat} {x:J3} (h:bitB k j=false):jStep k p j x=jDbl x:=by unfold jStep;rw[h,cond_false]
theorem jStep_lt {k:Nat} {p:J3} {j:Nat} {x:J3} (hp:p.lt) (hx:x.lt):(jStep k p j x).lt:=by
 unfold jStep
 cases bitB k j
 ·rw[cond_false];exact jDbl_lt hx
 ·rw[cond_true];exact jJoin_lt (jDbl_lt hx) hp
theorem jTimesG_lt {k:Nat} {p:J3} (hp:p.lt):∀j x,x.lt→(jTimesG k p j x).lt
 |0,_,h=>h
 |j+1,x,h=>jTimesG_lt hp j _ (jStep_lt hp h)
theorem jTimes_lt {k:Nat} {p:J3} (hp:p.lt):(jTimes k p).lt:=jTimesG_lt hp _ _ (jLift_lt 0 0 true)
def T51 (i:Int):List AV:=slots 30 [(3,pV 0),(4,pV 1),(5,pV 2),(6,pV 3),(7,pV 4),(8,iV i)]
noncomputable def M51 (k:Nat) (p x:J3):List Blk:=[⟨[.num 8 (modN 1),.a (.u .u32 (facR (limb (modN 1) 0))),.num 8 (r2N (modN 1))],60,true,false,0⟩,⟨[.num 8 k],51,true,false,0⟩,⟨[.num 8 p.x,.num 8 p.y,.num 8 p.z],97,true,false,0⟩,⟨cellsU 24 0 zF,97,true,false,0⟩,⟨[.num 8 x.x,.num 8 x.y,.num 8 x.z],97,true,false,0⟩]
noncomputable def S51:FuncId→Nat→Bool:=fun f t=>match f with|76=>memN t [14,16,18,24]|_=>false
noncomputable def E51:Env:=mkE L10w S51
theorem envE51:EnvOK E51:=envMk L10w_ok S51
theorem wfT51 (k:Nat) (p x:J3) (i:Int):wfS (T51 i) (M51 k p x)=true:=by
 unfold wfS
 rw[show tmsWf (M51 k p x).length (T51 i)=true by show tmsWf 5 _=true;kernel_rfl,Bool.true_and]
 kernel_rfl
theorem wi51t (k:Nat) (p:J3) (x:J3) (j:Nat):runTo E51 1000 (Env.S E51 76) (bodyOf Tryz.prog 76 3) (T51 (↑j:Int)) (M51 k p x) [true,true] (T51 ((↑j:Int)-(1:Int))) 5=
  some ([decide ((0:Int)≤(↑j:Int))=true,modN 1<4294967296^8,facR (limb (modN 1) 0)<4294967296,r2N (modN 1)<4294967296^8,x.1<4294967296^8,x.2<4294967296^8,x.3<4294967296^8,modN 1=modN 1,facR (limb (modN 1) 0)=facR (limb (modN 1) 0),r2N (modN 1)=r2N (modN 1),J3.lt (J3.mk (J3.x x) (J3.y x) (J3.z x)),bitB k j=true,(0:Int)≤(↑j:Int)∧(↑j:Int)<(256:Int),k<4294967296^8,modN 1<4294967296^8,facR (limb (modN 1) 0)<4294967296,r2N (modN 1)<4294967296^8,(jDbl (J3.mk (J3.x x) (J3.y x) (J3.z x))).1<4294967296^8,(jDbl (J3.mk (J3.x x) (J3.y x) (J3.z x))).2<4294967296^8,(jDbl (J3.mk (J3.x x) (J3.y x) (J3.z x))).3<4294967296^8,p.1<4294967296^8,p.2<4294967296^8,p.3<4294967296^8,modN 1=modN 1,facR (limb (modN 1) 0)=facR (limb (modN 1) 0),r2N (modN 1)=r2N (modN 1),J3.lt (J3.mk (J3.x (jDbl (J3.mk (J3.x x) (J3.y x) (J3.z x)))) (J3.y (jDbl (J3.mk (J3.x x) (J3.y x) (J3.z x)))) (J3.z (jDbl (J3.mk (J3.x x) (J3.y x) (J3.z x))))),J3.lt (J3.mk (J3.x p) (J3.y p) (J3.z p)),inI ((↑j:Int)-(1:Int))],.normal,T51 ((j:Int)-1),M51 k p (jJoin (jDbl x) p)):=by kernel_rfl
theorem wi51f (k:Nat) (p:J3) (x:J3) (j:Nat):runTo E51 1000 (Env.S E51 76) (bodyOf Tryz.prog 76 3) (T51 (↑j:Int)) (M51 k p x) [true,false] (T51 ((↑j:Int)-(1:Int))) 5=
  some ([decide ((0:Int)≤(↑j:Int))=true,modN 1<4294967296^8,facR (limb (modN 1) 0)<4294967296,r2N (modN 1)<4294967296^8,x.1<4294967296^8,x.2<4294967296^8,x.3<4294967296^8,modN 1=modN 1,facR (limb (modN 1) 0)=facR (limb (modN 1) 0),r2N (modN 1)=r2N (modN 1),J3.lt (J3.mk (J3.x x) (J3.y x) (J3.z x)),bitB k j=false,(0:Int)≤(↑j:Int)∧(↑j:Int)<(256:Int),k<4294967296^8,inI ((↑j:Int)-(1:Int))],.normal,T51 ((j:Int)-1),M51 k p (jDbl x)):=by kernel_rfl
theorem wi51x (k:Nat) (p:J3) (x:J3):runTo E51 1000 (Env.S E51 76) (bodyOf Tryz.prog 76 3) (T51 (-1:Int)) (M51 k p x) [false] (T51 (-1:Int)) 5=
  some ([decide ((0:Int)≤(-1:Int))=false],.exit 0,T51 (-1),M51 k p x):=by kernel_rfl
theorem loop51 {k:Nat} {p:J3} (hk:k<4294967296^8) (hp:p.lt):∀(j:Nat) (x:J3),j≤256→x.lt→GoesN Tryz.prog (bodyOf Tryz.prog 76 3) (j+1) (.exit 0) (T51 ((j:Int)-1)) (M51 k p x) (T51 (-1)) (M51 k p (jTimesG k p j x))
 |0,x,_,hx=>by
  have hwb:=modN_one 1
  obtain ⟨hx1,hx2,hx3⟩:=id hx
  obtain ⟨hp1,hp2,hp3⟩:=id hp
  exact GoesN.out (by simp) (Runs.goes envE51 ⟨[false],_,wi51x k p x,⟨(by first|with_reducible assumption|with_reducible exact L8 (by with_reducible assumption)|exact decide_eq_true (by omega)|exact decide_eq_false (by omega)|omega),trivial⟩,wfT51 _ _ _ _⟩)
 |j+1,x,hj,hx=>by
  have ih:=loop51 hk hp j (jStep k p j x) (by omega) (jStep_lt hp hx)
  have hwb:=modN_one 1
  have hxx:=jDbl_lt hx
  obtain ⟨hx1,hx2,hx3⟩:=id hx
  obtain ⟨hp1,hp2,hp3⟩:=id hp
  obtain ⟨hq1,hq2,hq3⟩:=id hxx
  have h0:decide (0≤(j:Int))=true:=decide_eq_true (by omega)
  have hr:0≤(j:Int)∧(j:Int)<256:=by omega
  have hI:inI ((j:Int)-1):=by unfold inI;omega
  rw[show ((j+1:Nat):Int)-1=(j:Int) by omega]
  have hs:Goes Tryz.prog (bodyOf Tryz.prog 76 3) .normal (T51 (j:Int)) (M51 k p x) (T51 ((j:Int)-1)) (M51 k p (jStep k p j x)):=by
   cases hb:bitB k j with
   |true=>rw[jStep_t hb];exact Runs.goes envE51 ⟨_,_,wi51t k p x j,⟨(by first|with_reducible assumption|with_reducible exact L8 (by with_reducible assumption)|exact decide_eq_true (by omega)|exact decide_eq_false (by omega)|omega),(modN_lt _),(facR_lt32 _),(L8 (r2N_lt (by decide))),(by first|with_reducible assumption|with_reducible exact L8 (by with_reducible assumption)|exact decide_eq_true (by omega)|exact decide_eq_false (by omega)|omega),(by first|with_reducible assumption|with_reducible exact L8 (by with_reducible assumption)|exact decide_eq_true (by omega)|exact decide_eq_false (by omega)|omega),(by first|with_reducible assumption|with_reducible exact L8 (by with_reducible assumption)|exact decide_eq_true (by omega)|exact decide_eq_false (by omega)|omega),rfl,rfl,rfl,(by first|with_reducible assumption|with_reducible exact L8 (by with_reducible assumption)|exact decide_eq_true (by omega)|exact decide_eq_false (by omega)|omega),(by first|with_reducible assumption|with_reducible exact L8 (by with_reducible assumption)|exact decide_eq_true (by omega)|exact decide_eq_false (by omega)|omega),(by first|with_reducible assumption|with_reducible exact L8 (by with_reducible assumption)|exact decide_eq_true (by omega)|exact decide_eq_false (by omega)|omega),(by first|with_reducible assumption|with_reducible exact L8 (by with_reducible assumption)|exact decide_eq_true (by omega)|exact decide_eq_false (by omega)|omega),(modN_lt _),(facR_lt32 _),(L8 (r2N_lt (by decide))),(by first|with_reducible assumption|with_reducible exact L8 (by with_reducible assumption)|exact decide_eq_true (by omega)|exact decide_eq_false (by omega)|omega),(by first|with_reducible assumption|with_reducible exact L8 (by with_reducible assumption)|exact decide_eq_true (by omega)|exact decide_eq_false (by omega)|omega),(by first|with_reducible assumption|with_reducible exact L8 (by with_reducible assumption)|exact decide_eq_true (by omega)|exact decide_eq_false (by omega)|omega),(by first|with_reducible assumption|with_reducible exact L8 (by with_reducible assumption)|exact decide_eq_true (by omega)|exact decide_eq_false (by omega)|omega),(by first|with_reducible assumption|with_reducible exact L8 (by with_reducible assumption)|exact decide_eq_true (by omega)|exact decide_eq_false (by omega)|omega),(by first|with_reducible assumption|with_reducible exact L8 (by with_reducible assumption)|exact decide_eq_true (by omega)|exact decide_eq_false (by omega)|omega),rfl,rfl,rfl,(by first|with_reducible assumption|with_reducible exact L8 (by with_reducible assumption)|exact decide_eq_true (by omega)|exact decide_eq_false (by omega)|omega),(by first|with_reducible assumption|with_reducible exact L8 (by with_reducible assumption)|exact decide_eq_true (by omega)|exact decide_eq_false (by omega)|omega),(by first|with_reducible assumption|with_reducible exact L8 (by with_reducible assumption)|exact decide_eq_true (by omega)|exact decide_eq_false (by omega)|omega),trivial⟩,wfT51 _ _ _ _⟩
   |false=>rw[jStep_f hb];exact Runs.goes envE51 ⟨_,_,wi51f k p x j,⟨(by first|with_reducible assumption|with_reducible exact L8 (by with_reducible assumption)|exact decide_eq_true (by omega)|exact decide_eq_false (by omega)|omega),(modN_lt _),(facR_lt32 _),(L8 (r2N_lt (by decide))),(by first|with_reducible assumption|with_reducible exact L8 (by with_reducible assumption)|exact decide_eq_true (by omega)|exact decide_eq_false (by omega)|omega),(by first|with_reducible assumption|with_reducible exact L8 (by with_reducible assumption)|exact decide_eq_true (by omega)|exact decide_eq_false (by omega)|omega),(by first|with_reducible assumption|with_reducible exact L8 (by with_reducible assumption)|exact decide_eq_true (by omega)|exact decide_eq_false (by omega)|omega),rfl,rfl,rfl,(by first|with_reducible assumption|with_reducible exact L8 (by with_reducible assumption)|exact decide_eq_true (by omega)|exact decide_eq_false (by omega)|omega),(by first|with_reducible assumption|with_reducible exact L8 (by with_reducible assumption)|exact decide_eq_true (by omega)|exact decide_eq_false (by omega)|omega),(by first|with_reducible assumption|with_reducible exact L8 (by with_reducible assumption)|exact decide_eq_true (by omega)|exact decide_eq_false (by omega)|omega),(by first|with_reducible assumption|with_reducible exact L8 (by with_reducible assumption)|exact decide_eq_true (by omega)|exact decide_eq_false (by omega)|omega),(by first|with_reducible assumption|with_reducible exact L8 (by with_reducible assumption)|exact decide_eq_true (by omega)|exact decide_eq_false (by omega)|omega),trivial⟩,wfT51 _ _ _ _⟩
  exact GoesN.cons (M1:=M51 k p (jStep k p j x)) rfl hs ih
noncomputable def E51x (k:Nat) (p:J3) (n:Nat) (x y:J3):Env:=withL E51 3 (bodyOf Tryz.prog 76 3) (sumC (T51 ((n:Int)-1)) (M51 k p x) (T51 (-1)) (M51 k p y) (.exit 0))
theorem envE51x {k:Nat} {p:J3} (hk:k<4294967296^8) (hp:p.lt) {n:Nat} (hn:n≤256) {x:J3} (hx:x.lt):EnvOK (E51x k p n x (jTimesG k p n x)):=envWithL envE51 (sumC_ok rfl (loop51 hk hp n x hn hx).loop)
theorem wi51 (k:Nat) (p:J3) (n:Nat) (x:J3) (y:J3):callR (E51x k p n x y) 1000 76 [rg1,N8 k,w3V p] []=
  some ([modN 1<4294967296^8,facR (limb (modN 1) 0)<4294967296,r2N (modN 1)<4294967296^8,0<4294967296,0<4294967296,0<4294967296,0<4294967296,0<4294967296,0<4294967296,0<4294967296,0<4294967296,0<4294967296,0<4294967296,0<4294967296,0<4294967296,0<4294967296,0<4294967296,0<4294967296,0<4294967296,modN 1=modN 1,facR (limb (modN 1) 0)=facR (limb (modN 1) 0),r2N (modN 1)=r2N (modN 1),true=true∨0<modN 1∧0<modN 1,k<4294967296^8,inI ((↑(lenQ k 256):Int)-(1:Int)),(bodyOf Tryz.prog 76 3)=(bodyOf Tryz.prog 76 3),(T51 ((lenQ k 256:Int)-1),M51 k p (jLift 0 0 true))=(T51 ((n:Int)-1),M51 k p x),wfS (T51 ((n:Int)-1)) (M51 k p x)=true],.val (w3V y)):=by kernel_rfl
theorem spec51t (k:Nat) (p:J3) (hk:k<4294967296^8) (hp:p.lt):Spec 76 [rg1,N8 k,w3V p] (.val (w3V (jTimes k p))):=by
 obtain ⟨hp1,hp2,hp3⟩:=id hp
 have hwb:=modN_one 1
 have hl:=(lenQ_spec k 256 hk).2
 have hI:inI ((lenQ k 256:Int)-1):=by unfold inI;omega
 have hw:=wfT51 k p (jLift 0 0 true) ((lenQ k 256:Int)-1)
 have hpp:=modN_pos 1
 have h:=spec_run (envE51x hk hp hl (jLift_lt 0 0 true)) rfl (wi51 k p _ _ _) ⟨(modN_lt _),(facR_lt32 _),(L8 (r2N_lt (by decide))),lit0,lit0,lit0,lit0,lit0,lit0,lit0,lit0,lit0,lit0,lit0,lit0,lit0,lit0,lit0,lit0,rfl,rfl,rfl,(by first|with_reducible assumption|with_reducible exact L8 (by with_reducible assumption)|exact decide_eq_true (by omega)|exact decide_eq_false (by omega)|omega),(by first|with_reducible assumption|with_reducible exact L8 (by with_reducible assumption)|exact decide_eq_true (by omega)|exact decide_eq_false (by omega)|omega),(by first|with_reducible assumption|with_reducible exact L8 (by with_reducible assumption)|exact decide_eq_true (by omega)|exact decide_eq_false (by omega)|omega),rfl,rfl,(by assumption),trivial⟩ rfl rfl
 rw[lenQ_N hk] at h
 exact h
end Go.Ev

namespace Go.Ev
open Go Go.Proofs Go.RowKit
noncomputable def jDx (p : J3) : Nat := bif decide (p.z = 0) then 0 else outN (modN 1) (mmN (modN 1) p.x (mmN (modN 1) (minvN (modN 1) p.z) (minvN (modN 1) p.z)))
noncomputable def jDy (p : J3) : Nat := bif decide (p.z = 0) then 0 else outN (modN 1) (mmN (modN 1) p.y (mmN (modN 1) (mmN (modN 1) (minvN (modN 1) p.z) (minvN (modN 1) p.z)) (minvN (modN 1) p.z)))
noncomputable def S50 : FuncId → Nat → Bool := fun f t => match f with | 75 => memN t [12] | _ => false
theorem wi50i (p : J3) : callR (mkE L8w S50) 1000 75 [rg1, w3V p] [true] =
  some ([(isZ (p.3)) = true], .val (.agg (cellsU 16 0 zF ++ [.a (.v (.bool true))]))) := by kernel_rfl
theorem wi50f (p : J3) : callR (mkE L8w S50) 1000 75 [rg1, w3V p] [false] =
  some ([(isZ (p.3)) = false, 2 < 4294967296, modN 1 < 4294967296 ^ 8, 2 < 4294967296 ^ 8, okR (modN 1) (facR (limb (modN 1) 0)) (r2N (modN 1)), 1 < modN 1, p.3 < modN 1, p.3 < 4294967296 ^ 8, subN (modN 1) (2) < 4294967296 ^ 8, okR (modN 1) (facR (limb (modN 1) 0)) (r2N (modN 1)), mpowN (modN 1) p.3 (subN (modN 1) (2)) < modN 1, mpowN (modN 1) p.3 (subN (modN 1) (2)) < modN 1, mpowN (modN 1) p.3 (subN (modN 1) (2)) < 4294967296 ^ 8, mpowN (modN 1) p.3 (subN (modN 1) (2)) < 4294967296 ^ 8, okR (modN 1) (facR (limb (modN 1) 0)) (r2N (modN 1)), p.1 < modN 1, mmN (modN 1) (mpowN (modN 1) p.3 (subN (modN 1) (2))) (mpowN (modN 1) p.3 (subN (modN 1) (2))) < modN 1, p.1 < 4294967296 ^ 8, mmN (modN 1) (mpowN (modN 1) p.3 (subN (modN 1) (2))) (mpowN (modN 1) p.3 (subN (modN 1) (2))) < 4294967296 ^ 8, okR (modN 1) (facR (limb (modN 1) 0)) (r2N (modN 1)), mmN (modN 1) p.1 (mmN (modN 1) (mpowN (modN 1) p.3 (subN (modN 1) (2))) (mpowN (modN 1) p.3 (subN (modN 1) (2)))) < modN 1, mmN (modN 1) p.1 (mmN (modN 1) (mpowN (modN 1) p.3 (subN (modN 1) (2))) (mpowN (modN 1) p.3 (subN (modN 1) (2)))) < 4294967296 ^ 8, okR (modN 1) (facR (limb (modN 1) 0)) (r2N (modN 1)), mmN (modN 1) (mpowN (modN 1) p.3 (subN (modN 1) (2))) (mpowN (modN 1) p.3 (subN (modN 1) (2))) < modN 1, mpowN (modN 1) p.3 (subN (modN 1) (2)) < modN 1, mmN (modN 1) (mpowN (modN 1) p.3 (subN (modN 1) (2))) (mpowN (modN 1) p.3 (subN (modN 1) (2))) < 4294967296 ^ 8, mpowN (modN 1) p.3 (subN (modN 1) (2)) < 4294967296 ^ 8, okR (modN 1) (facR (limb (modN 1) 0)) (r2N (modN 1)), p.2 < modN 1, mmN (modN 1) (mmN (modN 1) (mpowN (modN 1) p.3 (subN (modN 1) (2))) (mpowN (modN 1) p.3 (subN (modN 1) (2)))) (mpowN (modN 1) p.3 (subN (modN 1) (2))) < modN 1, p.2 < 4294967296 ^ 8, mmN (modN 1) (mmN (modN 1) (mpowN (modN 1) p.3 (subN (modN 1) (2))) (mpowN (modN 1) p.3 (subN (modN 1) (2)))) (mpowN (modN 1) p.3 (subN (modN 1) (2))) < 4294967296 ^ 8, okR (modN 1) (facR (limb (modN 1) 0)) (r2N (modN 1)), mmN (modN 1) p.2 (mmN (modN 1) (mmN (modN 1) (mpowN (modN 1) p.3 (subN (modN 1) (2))) (mpowN (modN 1) p.3 (subN (modN 1) (2)))) (mpowN (modN 1) p.3 (subN (modN 1) (2)))) < modN 1, mmN (modN 1) p.2 (mmN (modN 1) (mmN (modN 1) (mpowN (modN 1) p.3 (subN (modN 1) (2))) (mpowN (modN 1) p.3 (subN (modN 1) (2)))) (mpowN (modN 1) p.3 (subN (modN 1) (2)))) < 4294967296 ^ 8], .val (P3 (outN (modN 1) (mmN (modN 1) p.x (mmN (modN 1) (minvN (modN 1) p.z) (minvN (modN 1) p.z)))) (outN (modN 1) (mmN (modN 1) p.y (mmN (modN 1) (mmN (modN 1) (minvN (modN 1) p.z) (minvN (modN 1) p.z)) (minvN (modN 1) p.z)))) false)) := by kernel_rfl
theorem spec50w (p : J3) (hp : p.lt) : Spec 75 [rg1, w3V p] (.val (P3 (jDx p) (jDy p) (wDi p))) := by
 obtain ⟨h1, h2, h3⟩ := hp
 have hz8 := L8 h3
 have hm2 := modN_two 1
 have h1m := modN_one 1
 unfold jDx jDy wDi
 cases hz : decide (p.z = 0) with
 | true =>
  have hz' : isZ p.z = true := by rw [isZ_eq hz8]; exact hz
  rw [cond_true, cond_true]
  exact (spec_run (envMk L8w_ok S50) rfl (wi50i p) ⟨(by first | with_reducible assumption | with_reducible exact L8 (by with_reducible assumption) | exact decide_eq_true (by omega) | exact decide_eq_false (by omega) | omega), trivial⟩ rfl rfl).congr (fun _ => rfl) (fun φ => by
   simp only [AV.conc, V1.conc, P3, P3_none])
 | false =>
  have hz' : isZ p.z = false := by rw [isZ_eq hz8]; exact hz
  rw [cond_false, cond_false]
  exact spec_run (envMk L8w_ok S50) rfl (wi50f p) ⟨(by first | with_reducible assumption | with_reducible exact L8 (by with_reducible assumption) | exact decide_eq_true (by omega) | exact decide_eq_false (by omega) | omega), lit2, (modN_lt _), lit2_8, (okR_K (by decide)), (modN_one _), (by first | with_reducible assumption | with_reducible exact L8 (by with_reducible assumption) | exact decide_eq_true (by omega) | exact decide_eq_false (by omega) | omega), (by first | with_reducible assumption | with_reducible exact L8 (by with_reducible assumption) | exact decide_eq_true (by omega) | exact decide_eq_false (by omega) | omega), (subN_lt _ _), (okR_K (by decide)), (mpowN_lt (modN_pos _)), (mpowN_lt (modN_pos _)), (L8 (mpowN_lt (modN_pos _))), (L8 (mpowN_lt (modN_pos _))), (okR_K (by decide)), (by first | with_reducible assumption | with_reducible exact L8 (by with_reducible assumption) | exact decide_eq_true (by omega) | exact decide_eq_false (by omega) | omega), (mmN_lt (modN_pos _)), (by first | with_reducible assumption | with_reducible exact L8 (by with_reducible assumption) | exact decide_eq_true (by omega) | exact decide_eq_false (by omega) | omega), (L8 (mmN_lt (modN_pos _))), (okR_K (by decide)), (mmN_lt (modN_pos _)), (L8 (mmN_lt (modN_pos _))), (okR_K (by decide)), (mmN_lt (modN_pos _)), (mpowN_lt (modN_pos _)), (L8 (mmN_lt (modN_pos _))), (L8 (mpowN_lt (modN_pos _))), (okR_K (by decide)), (by first | with_reducible assumption | with_reducible exact L8 (by with_reducible assumption) | exact decide_eq_true (by omega) | exact decide_eq_false (by omega) | omega), (mmN_lt (modN_pos _)), (by first | with_reducible assumption | with_reducible exact L8 (by with_reducible assumption) | exact decide_eq_true (by omega) | exact decide_eq_false (by omega) | omega), (L8 (mmN_lt (modN_pos _))), (okR_K (by decide)), (mmN_lt (modN_pos _)), (L8 (mmN_lt (modN_pos _))), trivial⟩ rfl rfl
noncomputable def gDownJ : List Val → Option (List Prop × AV)
 | [.n m, .n q, .n w, .n x1, .n y1, .n z1] => some ([m = modN 1, q = facR (limb (modN 1) 0), w = r2N (modN 1), J3.lt ⟨x1, y1, z1⟩], .val (P3 (jDx ⟨x1, y1, z1⟩) (jDy ⟨x1, y1, z1⟩) (wDi ⟨x1, y1, z1⟩)))
 | _ => none
theorem ct50w : CTok ⟨75, fnS [aLaw, aJ] gDownJ⟩ := ctS (by
 intro xs ob r hb h ho
 unfold gDownJ at h
 split at h
 ·rename_i m q w x1 y1 z1
  simp only [Option.some.injEq, Prod.mk.injEq] at h
  obtain ⟨rfl, rfl⟩ := h
  obtain ⟨e0, e1, e2, h1, _⟩ := ho
  have hS := spec50w ⟨x1, y1, z1⟩ h1
  unfold rg1 rgK rg at hS
  rw [← e2, ← e1, ← e0] at hS
  exact hS
 ·simp at h)
noncomputable def gTimesW : List Val → Option (List Prop × AV)
 | [.n m, .n q, .n w, .n k, .n x1, .n y1, .n z1] => some ([m = modN 1, q = facN 1, w = wBi, J3.lt ⟨x1, y1, z1⟩], .val (w3V (wTimes k ⟨x1, y1, z1⟩)))
 | _ => none
theorem ct43w : CTok ⟨97, fnS [aLaw, aN, aJ] gTimesW⟩ := ctS (by
 intro xs ob r hb h ho
 unfold gTimesW at h
 split at h
 ·rename_i m q w k x1 y1 z1
  simp only [Option.some.injEq, Prod.mk.injEq] at h
  obtain ⟨rfl, rfl⟩ := h
  obtain ⟨e0, e1, e2, h1, _⟩ := ho
  obtain ⟨_, ⟨hk, _⟩, _⟩ := hb
  subst e0 e1 e2
  have hS := spec43t k ⟨x1, y1, z1⟩ hk h1
  exact hS
 ·simp at h)
noncomputable def gTimesJ : List Val → Option (List Prop × AV)
 | [.n m, .n q, .n w, .n k, .n x1, .n y1, .n z1] => some ([m = modN 1, q = facR (limb (modN 1) 0), w = r2N (modN 1), J3.lt ⟨x1, y1, z1⟩], .val (w3V (jTimes k ⟨x1, y1, z1⟩)))
 | _ => none
theorem ct51w : CTok ⟨76, fnS [aLaw, aN, aJ] gTimesJ⟩ := ctS (by
 intro xs ob r hb h ho
 unfold gTimesJ at h
 split at h
 ·rename_i m q w k x1 y1 z1
  simp only [Option.some.injEq, Prod.mk.injEq] at h
  obtain ⟨rfl, rfl⟩ := h
  obtain ⟨e0, e1, e2, h1, _⟩ := ho
  obtain ⟨_, ⟨hk, _⟩, _⟩ := hb
  have hS := spec51t k ⟨x1, y1, z1⟩ hk h1
  unfold rg1 rgK rg at hS
  rw [← e2, ← e1, ← e0] at hS
  exact hS
 ·simp at h)
noncomputable def L11w : List CT := [⟨75, fnS [aLaw, aJ] gDownJ⟩, ⟨97, fnS [aLaw, aN, aJ] gTimesW⟩, ⟨76, fnS [aLaw, aN, aJ] gTimesJ⟩] ++ L10w
theorem L11w_ok : AllCT L11w := ⟨ct50w, ct43w, ct51w, L10w_ok⟩
end Go.Ev

namespace Go.Ev
open Go Go.Proofs Go.RowKit
def wB : Nat := 41058363725152142129326129780047268409114441015993725554835256314039467401291
abbrev C1 (a b : Int) : Prop := Cz (modN 1) a b
theorem pr1 : Go.NT.Pr (modN 1) := prK (by decide)
theorem one_ne1 : ¬ C1 1 0 := by
 intro h
 have := Cz.nat (m := modN 1) (x := 1) (y := 0) (modN_one 1) (modN_pos 1) h
 exact absurd this (by decide)
theorem two_ne1 : ¬ C1 2 0 := by
 intro h
 have := Cz.nat (m := modN 1) (x := 2) (y := 0) (modN_two 1) (modN_pos 1) h
 exact absurd this (by decide)
theorem mul_ne1 {a b : Int} (ha : ¬ C1 a 0) (hb : ¬ C1 b 0) : ¬ C1 (a * b) 0 := fun h => by
 rcases cz_euclid pr1 h with h | h
 ·exact ha h
 ·exact hb h
structure Tri3 where
 a : Nat
 b : Nat
 c : Nat
def Tri3.ev (p : Tri3) (r : Int) : Int := (p.a : Int) + p.b * r + p.c * (r * r)
def Tri3.mul (m k : Nat) (p q : Tri3) : Tri3 :=
 ⟨(p.a * q.a + k * (p.b * q.c + p.c * q.b)) % m, (p.a * q.b + p.b * q.a + 3 * (p.b * q.c + p.c * q.b) + k * (p.c * q.c)) % m, (p.a * q.c + p.b * q.b + p.c * q.a + 3 * (p.c * q.c)) % m⟩
theorem Tri3.ev_mul {m k B : Nat} (hk : Cz m k (-(B : Int))) {r : Int} (hr : Cz m (r * r * r) (3 * r - B)) (p q : Tri3) : Cz m ((Tri3.mul m k p q).ev r) (p.ev r * q.ev r) := by
 have h1 := cz_mod (m := m) (p.a * q.a + k * (p.b * q.c + p.c * q.b))
 have h2 := cz_mod (m := m) (p.a * q.b + p.b * q.a + 3 * (p.b * q.c + p.c * q.b) + k * (p.c * q.c))
 have h3 := cz_mod (m := m) (p.a * q.c + p.b * q.b + p.c * q.a + 3 * (p.c * q.c))
 unfold Tri3.ev Tri3.mul
 simp only
 generalize (p.a * q.a + k * (p.b * q.c + p.c * q.b)) % m = A at *
 generalize (p.a * q.b + p.b * q.a + 3 * (p.b * q.c + p.c * q.b) + k * (p.c * q.c)) % m = B1 at *
 generalize (p.a * q.c + p.b * q.b + p.c * q.a + 3 * (p.c * q.c)) % m = C at *
 simp only [Int.natCast_add, Int.natCast_mul] at h1 h2 h3
 have e1 : Cz m ((A : Int) + B1 * r + C * (r * r)) (((p.a : Int) * q.a + k * (p.b * q.c + p.c * q.b)) + (p.a * q.b + p.b * q.a + ((3 : Nat) : Int) * (p.b * q.c + p.c * q.b) + k * (p.c * q.c)) * r + (p.a * q.c + p.b * q.b + p.c * q.a + ((3 : Nat) : Int) * (p.c * q.c)) * (r * r)) :=
  (h1.add (h2.mul (Cz.refl m r))).add (h3.mul (Cz.refl m (r * r)))
 refine e1.trans ?_
 exact hr.lc2 hk (-((p.b : Int) * q.c + p.c * q.b) - p.c * q.c * r) ((p.b : Int) * q.c + p.c * q.b + p.c * q.c * r) (by grind)
def Tri3.pow (m k : Nat) (t : Tri3) : Nat → Nat → Tri3
 | 0, _ => ⟨1, 0, 0⟩
 | f + 1, e => let s := Tri3.pow m k t f (e / 2); bif decide (e % 2 = 1) then Tri3.mul m k (Tri3.mul m k s s) t else Tri3.mul m k s s
theorem Tri3.ev_pow {m k B : Nat} (hk : Cz m k (-(B : Int))) {r : Int} (hr : Cz m (r * r * r) (3 * r - B)) (t : Tri3) : ∀ (f e : Nat), e < 2 ^ f → Cz m ((Tri3.pow m k t f e).ev r) (t.ev r ^ e)
 | 0, e, h => by
  have : e = 0 := by simpa using h
  subst this
  exact Cz.of_eq (by simp [Tri3.pow, Tri3.ev])
 | f + 1, e, h => by
  have ih := Tri3.ev_pow hk hr t f (e / 2) (by rw [Nat.pow_succ] at h; omega)
  have h2 := (Tri3.ev_mul hk hr (Tri3.pow m k t f (e / 2)) (Tri3.pow m k t f (e / 2))).trans (ih.mul ih)
  unfold Tri3.pow
  simp only
  by_cases hb : e % 2 = 1
  ·rw [decide_eq_true hb, cond_true]
   refine (Tri3.ev_mul hk hr _ t).trans ((h2.mul (Cz.refl m _)).trans (Cz.of_eq ?_))
   rw [← Int.pow_add, ← Int.pow_succ]
   congr 1; omega
  ·rw [decide_eq_false hb, cond_false]
   refine h2.trans (Cz.of_eq ?_)
   rw [← Int.pow_add]
   congr 1; omega
def tP : Tri3 := ⟨0, 1, 0⟩
def kW : Nat := modN 1 - wB
def gP3 : Tri3 := Tri3.pow (modN 1) kW tP 256 (modN 1)
def uP3 : Tri3 := ⟨76626890310466861426869089647039036757962535851890885406097439786770458211455, 74462945259064871768191128030512052509059297803194871526163573358218695456204, 34768139465301476436978405170953382516735956999154666452188405812258086013549⟩
def hP3 : Tri3 := ⟨gP3.a, (gP3.b + (modN 1 - 1)) % modN 1, gP3.c⟩
theorem bez : (let q := Tri3.mul (modN 1) kW uP3 hP3; decide (q.a = 1) && (decide (q.b = 0) && decide (q.c = 0))) = true := by decide +kernel
theorem fermatZ {k r : Nat} (hk : k < 4) (hr : r < modN k) : Cz (modN k) ((r : Int) ^ modN k) r := by
 rcases Nat.eq_zero_or_pos r with h0 | h0
 ·subst h0
  refine Cz.of_eq ?_
  rw [show ((0 : Nat) : Int) = 0 from rfl, Int.zero_pow (by have := modN_pos k; omega)]
 ·have h := Go.NT.fermatK hk h0 (by rwa [modN_P] at hr)
  rw [← modN_P] at h
  have h1 := cz_mod (m := modN k) (r ^ (modN k - 1))
  rw [h] at h1
  have h2 : Cz (modN k) ((r : Int) ^ (modN k - 1)) 1 := by
   have := h1.symm
   rwa [Int.natCast_pow] at this
  have h3 := h2.mul (Cz.refl (modN k) (r : Int))
  rw [← Int.pow_succ, show (modN k - 1).succ = modN k by have := modN_pos k; omega, Int.one_mul] at h3
  exact h3
theorem no_root {t : Int} (h : C1 (t * t * t - 3 * t + wB) 0) : False := by
 have hm := modN_pos 1
 have hc := czN_cz hm t
 have hlt : czN (modN 1) t < modN 1 := by
  unfold czN
  have := Int.emod_lt_of_pos t (show (0 : Int) < (modN 1 : Int) by omega)
  have := Int.emod_nonneg t (show ((modN 1 : Nat) : Int) ≠ 0 by omega)
  omega
 generalize czN (modN 1) t = r at *
 have hk : Cz (modN 1) (kW : Int) (-(wB : Int)) := by
  have e : (kW : Int) = (modN 1 : Int) - wB := by
   have : wB < modN 1 := by decide +kernel
   unfold kW; omega
  rw [e]
  exact ⟨1, by omega⟩
 have hr : C1 ((r : Int) * r * r) (3 * r - wB) := by
  have h1 : C1 ((r : Int) * r * r) (t * t * t) := (hc.mul hc).mul hc
  have h2 : C1 (3 * (r : Int)) (3 * t) := (Cz.refl _ 3).mul hc
  exact h1.lc3 h2 h 1 (-1) 1 (by grind)
 have hp := Tri3.ev_pow hk hr tP 256 (modN 1) (by decide +kernel)
 have et : tP.ev (r : Int) = r := by unfold Tri3.ev tP; simp only; grind
 rw [et] at hp
 have hg : C1 (gP3.ev (r : Int)) r := hp.trans (fermatZ (by decide) hlt)
 have hh : C1 (hP3.ev (r : Int)) 0 := by
  have h1 := cz_mod (m := modN 1) (gP3.b + (modN 1 - 1))
  rw [Int.natCast_add, show ((modN 1 - 1 : Nat) : Int) = (modN 1 : Int) - 1 by omega] at h1
  have h2 : C1 ((hP3.b : Int)) ((gP3.b : Int) - 1) := h1.trans ⟨1, by omega⟩
  have h3 : C1 ((hP3.b : Int) * r) (((gP3.b : Int) - 1) * r) := h2.mul (Cz.refl _ _)
  have e1 : hP3.ev (r : Int) = (gP3.a : Int) + hP3.b * r + gP3.c * ((r : Int) * r) := rfl
  have e2 : gP3.ev (r : Int) = (gP3.a : Int) + gP3.b * r + gP3.c * ((r : Int) * r) := rfl
  rw [e1]
  rw [e2] at hg
  generalize (gP3.a : Int) = ga at *
  generalize (gP3.b : Int) = gb at *
  generalize (gP3.c : Int) = gc at *
  generalize (hP3.b : Int) = hb at *
  exact h3.lc2 hg 1 1 (by grind)
 have hb := Tri3.ev_mul hk hr uP3 hP3
 have hz := bez
 simp only [Bool.and_eq_true, decide_eq_true_iff] at hz
 obtain ⟨z1, z2, z3⟩ := hz
 have ev1 : (Tri3.mul (modN 1) kW uP3 hP3).ev (r : Int) = 1 := by
  unfold Tri3.ev
  rw [z1, z2, z3]
  grind
 rw [ev1] at hb
 exact one_ne1 (hb.trans (((Cz.refl _ (uP3.ev (r : Int))).mul hh).trans (Cz.of_eq (by grind))))
end Go.Ev

namespace Go.NT
def PolyF : Nat → Type
 | 0 => Int
 | n + 1 => List (PolyF n)
def evH {α : Type} (f : α → Int) (t : Int) : List α → Int
 | [] => 0
 | a :: l => f a + t * evH f t l
def evP : (n : Nat) → PolyF n → (Nat → Int) → Int
 | 0, c, _ => c
 | n + 1, l, x => evH (fun a => evP n a x) (x n) l
def addL {α : Type} (f : α → α → α) : List α → List α → List α
 | [], m => m
 | a :: l, [] => a :: l
 | a :: l, b :: m => f a b :: addL f l m
def mapL {α : Type} (f : α → α) : List α → List α
 | [] => []
 | a :: l => f a :: mapL f l
def mulL {α : Type} (add : α → α → α) (zero : α) (mul : α → α → α) : List α → List α → List α
 | [], _ => []
 | a :: l, m => addL add (mapL (mul a) m) (zero :: mulL add zero mul l m)
def zeroP : (n : Nat) → PolyF n
 | 0 => (0 : Int)
 | _ + 1 => []
def addP : (n : Nat) → PolyF n → PolyF n → PolyF n
 | 0, a, b => (show Int from a) + (show Int from b)
 | n + 1, l, m => addL (addP n) l m
def negP : (n : Nat) → PolyF n → PolyF n
 | 0, a => - (show Int from a)
 | n + 1, l => mapL (negP n) l
def mulP : (n : Nat) → PolyF n → PolyF n → PolyF n
 | 0, a, b => (show Int from a) * (show Int from b)
 | n + 1, l, m => mulL (addP n) (zeroP n) (mulP n) l m
def cP : (n : Nat) → Int → PolyF n
 | 0, z => z
 | n + 1, z => [cP n z]
def vP : (n : Nat) → Nat → PolyF n
 | 0, _ => (0 : Int)
 | n + 1, i => if i = n then [zeroP n, cP n 1] else [vP n i]
theorem evH_add {α : Type} {f : α → Int} {g : α → α → α} (h : ∀ a b, f (g a b) = f a + f b) (t : Int) : ∀ l m : List α, evH f t (addL g l m) = evH f t l + evH f t m
 | [], m => by simp [addL, evH]
 | a :: l, [] => by simp [addL, evH]
 | a :: l, b :: m => by
  simp only [addL, evH, h, evH_add h t l m, Int.mul_add]
  omega
theorem evH_map {α : Type} {f : α → Int} {g : α → α} {c : Int} (h : ∀ a, f (g a) = c * f a) (t : Int) : ∀ l : List α, evH f t (mapL g l) = c * evH f t l
 | [] => by simp [mapL, evH]
 | a :: l => by
  simp only [mapL, evH, h, evH_map h t l, Int.mul_add]
  rw [← Int.mul_assoc, Int.mul_comm t c, Int.mul_assoc]
theorem evP_zero : ∀ (n : Nat) (x : Nat → Int), evP n (zeroP n) x = 0
 | 0, _ => rfl
 | _ + 1, _ => rfl
theorem evP_add : ∀ (n : Nat) (x : Nat → Int) (p q : PolyF n), evP n (addP n p q) x = evP n p x + evP n q x
 | 0, _, _, _ => rfl
 | n + 1, x, p, q => evH_add (fun a b => evP_add n x a b) (x n) p q
theorem evP_neg : ∀ (n : Nat) (x : Nat → Int) (p : PolyF n), evP n (negP n p) x = - evP n p x
 | 0, _, _ => rfl
 | n + 1, x, p => by
  have := evH_map (f := fun a => evP n a x) (g := negP n) (c := -1) (fun a => by rw [evP_neg n x a]; omega) (x n) p
  show evH _ _ (mapL _ p) = - evH _ _ p
  rw [this]; omega
theorem evH_mul {α : Type} {f : α → Int} {add mul : α → α → α} {zero : α} (ha : ∀ a b, f (add a b) = f a + f b) (h0 : f zero = 0) (hm : ∀ a b, f (mul a b) = f a * f b) (t : Int) :
  ∀ l m : List α, evH f t (mulL add zero mul l m) = evH f t l * evH f t m
 | [], m => by simp [mulL, evH]
 | a :: l, m => by
  simp only [mulL, evH_add ha, evH_map (fun b => hm a b), evH, h0, evH_mul ha h0 hm t l m, Int.add_mul, Int.zero_add, Int.mul_assoc]
theorem evP_mul : ∀ (n : Nat) (x : Nat → Int) (p q : PolyF n), evP n (mulP n p q) x = evP n p x * evP n q x
 | 0, _, _, _ => rfl
 | n + 1, x, p, q => evH_mul (fun a b => evP_add n x a b) (evP_zero n x) (fun a b => evP_mul n x a b) (x n) p q
theorem evP_c : ∀ (n : Nat) (x : Nat → Int) (z : Int), evP n (cP n z) x = z
 | 0, _, _ => rfl
 | n + 1, x, z => by
  show evP n (cP n z) x + x n * 0 = z
  rw [evP_c n x z]; omega
theorem evP_v : ∀ (n : Nat) (x : Nat → Int) (i : Nat), i < n → evP n (vP n i) x = x i
 | 0, _, _, h => absurd h (by omega)
 | n + 1, x, i, h => by
  show evH _ _ (if i = n then _ else _) = _
  split
  ·rename_i hi
   subst hi
   simp only [evH, evP_zero, evP_c]; omega
  ·rename_i hi
   simp only [evH, evP_v n x i (by omega)]; omega
def sumL {α : Type} (f : α → Nat) : List α → Nat
 | [] => 0
 | a :: l => f a + sumL f l
def nmP : (n : Nat) → PolyF n → Nat
 | 0, c => (show Int from c).natAbs
 | n + 1, l => sumL (nmP n) l
def dgP : (n : Nat) → PolyF n → (Nat → Nat) → Prop
 | 0, _, _ => True
 | n + 1, l, d => (show List (PolyF n) from l).length ≤ d n ∧ ∀ a ∈ (show List (PolyF n) from l), dgP n a d
theorem sumL_add {α : Type} {f : α → Nat} {g : α → α → α} (h : ∀ a b, f (g a b) ≤ f a + f b) : ∀ l m : List α, sumL f (addL g l m) ≤ sumL f l + sumL f m
 | [], m => by simp [addL, sumL]
 | a :: l, [] => by simp [addL, sumL]
 | a :: l, b :: m => by
  have := h a b
  have := sumL_add h l m
  simp only [addL, sumL]; omega
theorem sumL_map {α : Type} {f : α → Nat} {g : α → α} {c : Nat} (h : ∀ a, f (g a) ≤ c * f a) : ∀ l : List α, sumL f (mapL g l) ≤ c * sumL f l
 | [] => by simp [mapL, sumL]
 | a :: l => by
  have := h a
  have := sumL_map h l
  simp only [mapL, sumL, Nat.mul_add]; omega
theorem nmP_zero : ∀ n, nmP n (zeroP n) = 0
 | 0 => rfl
 | _ + 1 => rfl
theorem nmP_add : ∀ (n : Nat) (p q : PolyF n), nmP n (addP n p q) ≤ nmP n p + nmP n q
 | 0, a, b => Int.natAbs_add_le a b
 | n + 1, p, q => sumL_add (nmP_add n) p q
theorem nmP_neg : ∀ (n : Nat) (p : PolyF n), nmP n (negP n p) ≤ nmP n p
 | 0, a => Nat.le_of_eq (Int.natAbs_neg a)
 | n + 1, p => by
  have := sumL_map (f := nmP n) (g := negP n) (c := 1) (fun a => by rw [Nat.one_mul]; exact nmP_neg n a) p
  rw [Nat.one_mul] at this
  exact this
theorem sumL_mul {α : Type} {f : α → Nat} {add mul : α → α → α} {zero : α} (ha : ∀ a b, f (add a b) ≤ f a + f b) (h0 : f zero = 0) (hm : ∀ a b, f (mul a b) ≤ f a * f b) :
  ∀ l m : List α, sumL f (mulL add zero mul l m) ≤ sumL f l * sumL f m
 | [], m => by simp [mulL, sumL]
 | a :: l, m => by
  have h1 := sumL_add ha (mapL (mul a) m) (zero :: mulL add zero mul l m)
  have h2 := sumL_map (fun b => hm a b) m
  have h3 := sumL_mul ha h0 hm l m
  simp only [mulL, sumL, h0, Nat.add_mul] at *
  omega
theorem nmP_mul : ∀ (n : Nat) (p q : PolyF n), nmP n (mulP n p q) ≤ nmP n p * nmP n q
 | 0, a, b => Nat.le_of_eq (Int.natAbs_mul a b)
 | n + 1, p, q => sumL_mul (nmP_add n) (nmP_zero n) (nmP_mul n) p q
theorem nmP_c : ∀ (n : Nat) (z : Int), nmP n (cP n z) = z.natAbs
 | 0, _ => rfl
 | n + 1, z => by show nmP n (cP n z) + 0 = _; rw [nmP_c n z, Nat.add_zero]
theorem nmP_v : ∀ (n : Nat) (i : Nat), nmP n (vP n i) ≤ 1
 | 0, _ => Nat.zero_le _
 | n + 1, i => by
  show sumL _ (if i = n then _ else _) ≤ 1
  split
  ·simp [sumL, nmP_zero, nmP_c]
  ·have := nmP_v n i
   simp only [sumL]; omega
theorem addL_len {α : Type} (g : α → α → α) : ∀ l m : List α, (addL g l m).length ≤ max l.length m.length
 | [], m => by simp [addL]
 | a :: l, [] => by simp [addL]
 | a :: l, b :: m => by
  have := addL_len g l m
  simp only [addL, List.length_cons]; omega
theorem mapL_len {α : Type} (g : α → α) : ∀ l : List α, (mapL g l).length = l.length
 | [] => rfl
 | a :: l => by simp [mapL, mapL_len g l]
theorem addL_all {α : Type} {P Q R : α → Prop} {g : α → α → α} (hP : ∀ a, P a → R a) (hQ : ∀ a, Q a → R a) (h : ∀ a b, P a → Q b → R (g a b)) : ∀ l m : List α, (∀ a ∈ l, P a) → (∀ a ∈ m, Q a) → ∀ a ∈ addL g l m, R a
 | [], m, _, h2, a, ha => hQ a (h2 a ha)
 | a :: l, [], h1, _, b, hb => hP b (h1 b hb)
 | a :: l, b :: m, h1, h2, c, hc => by
  simp only [addL, List.mem_cons] at hc
  rcases hc with rfl | hc
  ·exact h a b (h1 a (by simp)) (h2 b (by simp))
  ·exact addL_all hP hQ h l m (fun a ha => h1 a (by simp [ha])) (fun a ha => h2 a (by simp [ha])) c hc
theorem mapL_all {α : Type} {P Q : α → Prop} {g : α → α} (h : ∀ a, P a → Q (g a)) : ∀ l : List α, (∀ a ∈ l, P a) → ∀ a ∈ mapL g l, Q a
 | [], _, a, ha => by simp [mapL] at ha
 | a :: l, h1, b, hb => by
  simp only [mapL, List.mem_cons] at hb
  rcases hb with rfl | hb
  ·exact h a (h1 a (by simp))
  ·exact mapL_all h l (fun a ha => h1 a (by simp [ha])) b hb
theorem dgP_mono : ∀ (n : Nat) (p : PolyF n) {d e : Nat → Nat}, (∀ i, d i ≤ e i) → dgP n p d → dgP n p e
 | 0, _, _, _, _, _ => trivial
 | n + 1, _, _, _, h, hp => ⟨Nat.le_trans hp.1 (h n), fun a ha => dgP_mono n a h (hp.2 a ha)⟩
theorem dgP_zero : ∀ n d, dgP n (zeroP n) d
 | 0, _ => trivial
 | n + 1, d => ⟨Nat.zero_le _, fun a ha => by simp [zeroP] at ha⟩
theorem dgP_add : ∀ (n : Nat) (p q : PolyF n) {d e : Nat → Nat}, dgP n p d → dgP n q e → dgP n (addP n p q) (fun i => max (d i) (e i))
 | 0, _, _, _, _, _, _ => trivial
 | n + 1, p, q, d, e, hp, hq => by
  refine ⟨?_, ?_⟩
  ·have := addL_len (addP n) p q
   have h1 := hp.1
   have h2 := hq.1
   show (addL (addP n) p q).length ≤ _
   simp only at *
   omega
  ·exact addL_all (P := fun a => dgP n a d) (Q := fun a => dgP n a e) (fun a ha => dgP_mono n a (fun i => Nat.le_max_left _ _) ha) (fun a ha => dgP_mono n a (fun i => Nat.le_max_right _ _) ha)
    (fun a b ha hb => dgP_add n a b ha hb) p q hp.2 hq.2
theorem dgP_neg : ∀ (n : Nat) (p : PolyF n) {d : Nat → Nat}, dgP n p d → dgP n (negP n p) d
 | 0, _, _, _ => trivial
 | n + 1, p, d, hp => by
  refine ⟨?_, ?_⟩
  ·exact Nat.le_trans (Nat.le_of_eq (mapL_len (negP n) p)) hp.1
  ·exact mapL_all (P := fun a => dgP n a d) (fun a ha => dgP_neg n a ha) p hp.2
theorem dgP_c : ∀ (n : Nat) (z : Int), dgP n (cP n z) (fun _ => 1)
 | 0, _ => trivial
 | n + 1, z => ⟨Nat.le_refl 1, fun a ha => by
  simp only [cP, List.mem_singleton] at ha
  subst ha; exact dgP_c n z⟩
theorem dgP_v : ∀ (n : Nat) (i : Nat), dgP n (vP n i) (fun j => if j = i then 2 else 1)
 | 0, _ => trivial
 | n + 1, i => by
  by_cases h : i = n
  ·have e : vP (n + 1) i = [zeroP n, cP n 1] := if_pos h
   rw [e]
   refine ⟨by show 2 ≤ (if n = i then 2 else 1); rw [if_pos h.symm]; exact Nat.le_refl 2, fun a ha => ?_⟩
   replace ha : a = zeroP n ∨ a = cP n 1 := by simpa using ha
   rcases ha with rfl | rfl
   ·exact dgP_zero _ _
   ·exact dgP_mono _ _ (fun j => by split <;> omega) (dgP_c n 1)
  ·have e : vP (n + 1) i = [vP n i] := if_neg h
   rw [e]
   refine ⟨by show 1 ≤ (if n = i then 2 else 1); split <;> omega, fun a ha => ?_⟩
   replace ha : a = vP n i := by simpa using ha
   subst ha; exact dgP_v n i
def bigP (W : Nat → Nat) (d : Nat → Nat) : Nat → Nat
 | 0 => 1
 | n + 1 => bigP W d n * W n ^ d n
theorem evH_le {α : Type} {f : α → Int} {g : α → Nat} {W B : Nat} (hW : 1 ≤ W) : ∀ (l : List α) (k : Nat), l.length ≤ k → (∀ a ∈ l, (f a).natAbs ≤ g a * B) → (evH f W l).natAbs ≤ sumL g l * (B * W ^ k)
 | [], k, _, _ => by simp [evH]
 | a :: l, 0, h, _ => by simp at h
 | a :: l, k + 1, h, hf => by
  have ih := evH_le hW l k (by simpa using h) (fun b hb => hf b (by simp [hb]))
  have h0 := hf a (by simp)
  have h1 := Int.natAbs_add_le (f a) ((W : Int) * evH f W l)
  rw [Int.natAbs_mul, Int.natAbs_natCast] at h1
  have h2 : W * (evH f W l).natAbs ≤ W * (sumL g l * (B * W ^ k)) := Nat.mul_le_mul_left _ ih
  have h3 : g a * B ≤ g a * (B * W ^ (k + 1)) := Nat.mul_le_mul_left _ (Nat.le_mul_of_pos_right _ (Nat.pow_pos hW))
  have h4 : W * (sumL g l * (B * W ^ k)) = sumL g l * (B * W ^ (k + 1)) := by
   rw [Nat.pow_succ, ← Nat.mul_assoc B, Nat.mul_comm W, Nat.mul_assoc]
  simp only [evH, sumL, Nat.add_mul]
  omega
theorem evP_le {W : Nat → Nat} (hW : ∀ i, 1 ≤ W i) : ∀ (n : Nat) (p : PolyF n) {d : Nat → Nat}, dgP n p d → (evP n p (fun i => (W i : Int))).natAbs ≤ nmP n p * bigP W d n
 | 0, p, d, _ => by simp [evP, nmP, bigP]
 | n + 1, p, d, h => evH_le (hW n) p (d n) h.1 (fun a ha => evP_le hW n a (h.2 a ha))
theorem evP_point {W : Nat → Nat} (hW : ∀ i, 1 ≤ W i) : ∀ (n : Nat) (p : PolyF n) {d : Nat → Nat} {N : Nat}, dgP n p d → nmP n p ≤ N → (∀ i, i < n → N * bigP W d i < W i) → evP n p (fun i => (W i : Int)) = 0 → ∀ x, evP n p x = 0
 | 0, p, _, _, _, _, _, h, x => h
 | n + 1, p, d, N, hd, hN, hb, h, x => by
  have key : ∀ l : List (PolyF n), (∀ a ∈ l, dgP n a d) → sumL (nmP n) l ≤ N → evH (fun a => evP n a (fun i => (W i : Int))) (W n : Int) l = 0 → evH (fun a => evP n a x) (x n) l = 0 := by
   intro l
   induction l with
   | nil => intro _ _ _; rfl
   | cons a l ih =>
    intro h1 h2 h3
    simp only [sumL] at h2
    simp only [evH] at h3 ⊢
    have hle := evP_le hW n a (h1 a (by simp))
    have hlt : (evP n a (fun i => (W i : Int))).natAbs < W n := by
     refine Nat.lt_of_le_of_lt (Nat.le_trans hle (Nat.mul_le_mul_right _ ?_)) (hb n (by omega))
     omega
    generalize hc : evP n a (fun i => (W i : Int)) = c at *
    generalize he : evH (fun a => evP n a (fun i => (W i : Int))) (W n : Int) l = r at *
    have hc0 : c = 0 := by
     have hdv : (W n : Int) ∣ c := ⟨-r, by rw [Int.mul_neg]; omega⟩
     have := Int.natAbs_dvd_natAbs.2 hdv
     rw [Int.natAbs_natCast] at this
     rcases Nat.eq_zero_or_pos c.natAbs with h0 | h0
     ·exact Int.natAbs_eq_zero.1 h0
     ·exact absurd (Nat.le_of_dvd h0 this) (by omega)
    subst hc0
    have hr0 : r = 0 := by
     have hWn := hW n
     rcases Int.mul_eq_zero.1 (show (W n : Int) * r = 0 by omega) with h0 | h0
     ·omega
     ·exact h0
    rw [ih (fun b hb => h1 b (by simp [hb])) (by omega) (by first | exact hr0 | exact he.trans hr0), evP_point hW n a (h1 a (by simp)) (show nmP n a ≤ N by omega) (fun i hi => hb i (by omega)) hc x]
    omega
  exact key p hd.2 hN h
end Go.NT

namespace Go.NT
structure Ops (α : Type) where
  add : α → α → α
  sub : α → α → α
  mul : α → α → α
  c : Int → α
structure OpsRel {α β : Type} (R : α → β → Prop) (o : Ops α) (o' : Ops β) : Prop where
  add : ∀ a b a' b', R a a' → R b b' → R (o.add a b) (o'.add a' b')
  sub : ∀ a b a' b', R a a' → R b b' → R (o.sub a b) (o'.sub a' b')
  mul : ∀ a b a' b', R a a' → R b b' → R (o.mul a b) (o'.mul a' b')
  c : ∀ z, R (o.c z) (o'.c z)
def opsInt : Ops Int := ⟨fun a b => a + b, fun a b => a - b, fun a b => a * b, fun z => z⟩
def opsQ {α : Type} (o : Ops α) (f : α) : Ops (α × α) :=
  ⟨fun a b => (o.add a.1 b.1, o.add a.2 b.2), fun a b => (o.sub a.1 b.1, o.sub a.2 b.2),
   fun a b => (o.add (o.mul a.1 b.1) (o.mul f (o.mul a.2 b.2)), o.add (o.mul a.1 b.2) (o.mul a.2 b.1)), fun z => (o.c z, o.c 0)⟩
def pairR {α β : Type} (R : α → β → Prop) (a : α × α) (b : β × β) : Prop := R a.1 b.1 ∧ R a.2 b.2
theorem relPair {α β : Type} {R : α → β → Prop} {o : Ops α} {o' : Ops β} (h : OpsRel R o o') {f : α} {f' : β} (hf : R f f') : OpsRel (pairR R) (opsQ o f) (opsQ o' f') :=
  ⟨fun _ _ _ _ h1 h2 => ⟨h.add _ _ _ _ h1.1 h2.1, h.add _ _ _ _ h1.2 h2.2⟩, fun _ _ _ _ h1 h2 => ⟨h.sub _ _ _ _ h1.1 h2.1, h.sub _ _ _ _ h1.2 h2.2⟩,
   fun _ _ _ _ h1 h2 => ⟨h.add _ _ _ _ (h.mul _ _ _ _ h1.1 h2.1) (h.mul _ _ _ _ hf (h.mul _ _ _ _ h1.2 h2.2)), h.add _ _ _ _ (h.mul _ _ _ _ h1.1 h2.2) (h.mul _ _ _ _ h1.2 h2.1)⟩,
   fun z => ⟨h.c z, h.c 0⟩⟩
def Cg' (m : Nat) (a b : Int) : Prop := (m : Int) ∣ a - b
def rootR {α : Type} (m : Nat) (R : α → Int → Prop) (y : Int) (a : α × α) (z : Int) : Prop := ∃ u v, R a.1 u ∧ R a.2 v ∧ Cg' m z (u + y * v)
theorem relRoot {α : Type} {m : Nat} {R : α → Int → Prop} {o : Ops α} (h : OpsRel R o opsInt) {f : α} {F y : Int} (hf : R f F) (hy : Cg' m (y * y) F) : OpsRel (rootR m R y) (opsQ o f) opsInt := by
  refine ⟨?_, ?_, ?_, ?_⟩
  · rintro a b a' b' ⟨u, v, h1, h2, h3⟩ ⟨u', v', g1, g2, g3⟩
    refine ⟨_, _, h.add _ _ _ _ h1 g1, h.add _ _ _ _ h2 g2, ?_⟩
    obtain ⟨k, hk⟩ := h3
    obtain ⟨l, hl⟩ := g3
    exact ⟨k + l, by simp only [opsInt]; grind⟩
  · rintro a b a' b' ⟨u, v, h1, h2, h3⟩ ⟨u', v', g1, g2, g3⟩
    refine ⟨_, _, h.sub _ _ _ _ h1 g1, h.sub _ _ _ _ h2 g2, ?_⟩
    obtain ⟨k, hk⟩ := h3
    obtain ⟨l, hl⟩ := g3
    exact ⟨k - l, by simp only [opsInt]; grind⟩
  · rintro a b a' b' ⟨u, v, h1, h2, h3⟩ ⟨u', v', g1, g2, g3⟩
    refine ⟨_, _, h.add _ _ _ _ (h.mul _ _ _ _ h1 g1) (h.mul _ _ _ _ hf (h.mul _ _ _ _ h2 g2)), h.add _ _ _ _ (h.mul _ _ _ _ h1 g2) (h.mul _ _ _ _ h2 g1), ?_⟩
    obtain ⟨k, hk⟩ := h3
    obtain ⟨l, hl⟩ := g3
    obtain ⟨r, hr⟩ := hy
    refine ⟨k * b' + l * (u + y * v) + r * v * v', ?_⟩
    simp only [opsInt]
    have e1 : a' = m * k + (u + y * v) := by omega
    have e2 : b' = m * l + (u' + y * v') := by omega
    have e3 : y * y = m * r + F := by omega
    subst e1
    generalize (m : Int) = M at *
    subst e2
    grind
  · intro z
    exact ⟨_, _, h.c z, h.c 0, ⟨0, by simp only [opsInt]; grind⟩⟩
def addO (p q : Option (PolyF 4)) : Option (PolyF 4) := match p, q with
  | none, q => q
  | some p, none => some p
  | some p, some q => some (addP 4 p q)
def negO (p : Option (PolyF 4)) : Option (PolyF 4) := match p with
  | none => none
  | some p => some (negP 4 p)
def mulO (p q : Option (PolyF 4)) : Option (PolyF 4) := match p, q with
  | some p, some q => some (mulP 4 p q)
  | _, _ => none
def cO (z : Int) : Option (PolyF 4) := if z = 0 then none else some (cP 4 z)
def opsP : Ops (Option (PolyF 4)) := ⟨addO, fun p q => addO p (negO q), mulO, cO⟩
def evO (x : Nat → Int) (p : Option (PolyF 4)) : Int := match p with
  | none => 0
  | some p => evP 4 p x
def evR (x : Nat → Int) (p : Option (PolyF 4)) (z : Int) : Prop := evO x p = z
theorem evO_add (x : Nat → Int) (p q : Option (PolyF 4)) : evO x (addO p q) = evO x p + evO x q := by
  cases p <;> cases q <;> simp [addO, evO, evP_add]
theorem evO_neg (x : Nat → Int) (p : Option (PolyF 4)) : evO x (negO p) = - evO x p := by
  cases p <;> simp [negO, evO, evP_neg]
theorem relEv (x : Nat → Int) : OpsRel (evR x) opsP opsInt := by
  refine ⟨?_, ?_, ?_, ?_⟩
  · rintro a b _ _ rfl rfl; exact evO_add x a b
  · rintro a b _ _ rfl rfl
    show evO x (addO a (negO b)) = evO x a - evO x b
    rw [evO_add, evO_neg]; omega
  · rintro a b _ _ rfl rfl
    show evO x (mulO a b) = evO x a * evO x b
    cases a <;> cases b <;> simp [mulO, evO, evP_mul]
  · intro z
    show evO x (cO z) = z
    unfold cO
    split
    · rename_i h; subst h; rfl
    · exact evP_c 4 x z
structure Bd where
  n : Nat
  d0 : Nat
  d1 : Nat
  d2 : Nat
  d3 : Nat
def Bd.d (b : Bd) (i : Nat) : Nat := match i with | 0 => b.d0 | 1 => b.d1 | 2 => b.d2 | _ => b.d3
def addB (p q : Option Bd) : Option Bd := match p, q with
  | none, q => q
  | some p, none => some p
  | some p, some q => some ⟨p.n + q.n, max p.d0 q.d0, max p.d1 q.d1, max p.d2 q.d2, max p.d3 q.d3⟩
def mulB (p q : Option Bd) : Option Bd := match p, q with
  | some p, some q => some ⟨p.n * q.n, p.d0 + q.d0, p.d1 + q.d1, p.d2 + q.d2, p.d3 + q.d3⟩
  | _, _ => none
def cB (z : Int) : Option Bd := if z = 0 then none else some ⟨z.natAbs, 0, 0, 0, 0⟩
def opsB : Ops (Option Bd) := ⟨addB, addB, mulB, cB⟩
def bdR (p : Option (PolyF 4)) (b : Option Bd) : Prop := match p, b with
  | none, _ => True
  | some p, some b => nmP 4 p ≤ b.n ∧ dgP 4 p (fun i => b.d i + 1)
  | some _, none => False
theorem mulL_len2 {α : Type} (add mul : α → α → α) (zero : α) : ∀ (l m : List α) {d e : Nat}, l.length ≤ d + 1 → m.length ≤ e + 1 → (mulL add zero mul l m).length ≤ d + e + 1
  | [], m, d, e, _, _ => by simp [mulL]
  | a :: l, m, d, e, h1, h2 => by
    have h3 := addL_len add (mapL (mul a) m) (zero :: mulL add zero mul l m)
    rw [mapL_len] at h3
    cases d with
    | zero =>
      have hl : l = [] := by
        cases l with
        | nil => rfl
        | cons b l => simp at h1
      subst hl
      simp only [mulL, List.length_cons, List.length_nil] at *
      omega
    | succ d =>
      have h4 := mulL_len2 add mul zero l m (d := d) (e := e) (by simpa using h1) h2
      simp only [mulL, List.length_cons] at *
      omega
theorem dgP_mul2 : ∀ (n : Nat) (p q : PolyF n) {d e : Nat → Nat}, dgP n p (fun i => d i + 1) → dgP n q (fun i => e i + 1) → dgP n (mulP n p q) (fun i => d i + e i + 1)
  | 0, _, _, _, _, _, _ => trivial
  | n + 1, p, q, d, e, hp, hq => by
    refine ⟨mulL_len2 (addP n) (mulP n) (zeroP n) p q hp.1 hq.1, ?_⟩
    have key : ∀ l : List (PolyF n), (∀ a ∈ l, dgP n a (fun i => d i + 1)) → ∀ a ∈ mulL (addP n) (zeroP n) (mulP n) l q, dgP n a (fun i => d i + e i + 1) := by
      intro l
      induction l with
      | nil => intro _ a ha; simp [mulL] at ha
      | cons b l ih =>
        intro h1
        refine addL_all (P := fun a => dgP n a (fun i => d i + e i + 1)) (Q := fun a => dgP n a (fun i => d i + e i + 1)) (fun _ h => h) (fun _ h => h) ?_ _ _ ?_ ?_
        · intro a b ha hb
          exact dgP_mono n _ (fun i => Nat.le_of_eq (Nat.max_self _)) (dgP_add n a b ha hb)
        · exact mapL_all (P := fun a => dgP n a (fun i => e i + 1)) (fun a ha => dgP_mul2 n b a (h1 b (by simp)) ha) q hq.2
        · intro a ha
          simp only [List.mem_cons] at ha
          rcases ha with rfl | ha
          · exact dgP_zero n _
          · exact ih (fun a ha => h1 a (by simp [ha])) a ha
    exact key p hp.2
theorem bd_add {p q : Option (PolyF 4)} {b c : Option Bd} (h1 : bdR p b) (h2 : bdR q c) : bdR (addO p q) (addB b c) := by
  cases p with
  | none =>
    cases q with
    | none => trivial
    | some q =>
      cases c with
      | none => exact h2.elim
      | some c =>
        cases b with
        | none => exact h2
        | some b => exact ⟨Nat.le_trans h2.1 (Nat.le_add_left _ _), dgP_mono 4 q (fun i => by
            unfold Bd.d; split <;> simp only <;> omega) h2.2⟩
  | some p =>
    cases b with
    | none => exact h1.elim
    | some b =>
      cases q with
      | none =>
        cases c with
        | none => exact h1
        | some c => exact ⟨Nat.le_trans h1.1 (Nat.le_add_right _ _), dgP_mono 4 p (fun i => by
            unfold Bd.d; split <;> simp only <;> omega) h1.2⟩
      | some q =>
        cases c with
        | none => exact h2.elim
        | some c =>
          refine ⟨Nat.le_trans (nmP_add 4 p q) (Nat.add_le_add h1.1 h2.1), dgP_mono 4 _ (fun i => ?_) (dgP_add 4 p q h1.2 h2.2)⟩
          unfold Bd.d; split <;> simp only <;> omega
theorem bd_neg {p : Option (PolyF 4)} {b : Option Bd} (h : bdR p b) : bdR (negO p) b := by
  cases p with
  | none => trivial
  | some p =>
    cases b with
    | none => exact h.elim
    | some b => exact ⟨Nat.le_trans (nmP_neg 4 p) h.1, dgP_neg 4 p h.2⟩
theorem relBd : OpsRel bdR opsP opsB := by
  refine ⟨fun _ _ _ _ h1 h2 => bd_add h1 h2, fun _ _ _ _ h1 h2 => bd_add h1 (bd_neg h2), ?_, ?_⟩
  · intro p q b c h1 h2
    cases p with
    | none => trivial
    | some p =>
      cases q with
      | none => trivial
      | some q =>
        cases b with
        | none => exact h1.elim
        | some b =>
          cases c with
          | none => exact h2.elim
          | some c =>
            refine ⟨Nat.le_trans (nmP_mul 4 p q) (Nat.mul_le_mul h1.1 h2.1), dgP_mono 4 _ (fun i => ?_) (dgP_mul2 4 p q (d := b.d) (e := c.d) h1.2 h2.2)⟩
            unfold Bd.d; split <;> simp only <;> omega
  · intro z
    show bdR (cO z) (cB z)
    unfold cO cB
    split
    · trivial
    · refine ⟨Nat.le_of_eq (nmP_c 4 z), dgP_mono 4 _ (fun i => ?_) (dgP_c 4 z)⟩
      unfold Bd.d; split <;> simp
end Go.NT

namespace Go.NT
inductive SOp where
 | add (i j : Nat)
 | sub (i j : Nat)
 | mul (i j : Nat)
 | c (z : Int)
def getL {α : Type} (o : Ops α) : List α → Nat → α
 | [], _ => o.c 0
 | a :: _, 0 => a
 | _ :: l, i + 1 => getL o l i
def stepL {α : Type} (o : Ops α) (l : List α) : SOp → α
 | .add i j => o.add (getL o l i) (getL o l j)
 | .sub i j => o.sub (getL o l i) (getL o l j)
 | .mul i j => o.mul (getL o l i) (getL o l j)
 | .c z => o.c z
def runL {α : Type} (o : Ops α) : List SOp → List α → List α
 | [], l => l
 | p :: ps, l => runL o ps (stepL o l p :: l)
def relL {α β : Type} (R : α → β → Prop) : List α → List β → Prop
 | [], [] => True
 | a :: l, b :: m => R a b ∧ relL R l m
 | _, _ => False
section
variable {α β : Type} {R : α → β → Prop} {o : Ops α} {o' : Ops β} (h : OpsRel R o o')
include h
theorem get_rel : ∀ (l : List α) (m : List β) (i : Nat), relL R l m → R (getL o l i) (getL o' m i)
 | [], [], _, _ => h.c 0
 | [], _ :: _, _, hr => hr.elim
 | _ :: _, [], _, hr => hr.elim
 | _ :: _, _ :: _, 0, hr => hr.1
 | _ :: l, _ :: m, i + 1, hr => get_rel l m i hr.2
theorem step_rel {l : List α} {m : List β} (hr : relL R l m) (p : SOp) : R (stepL o l p) (stepL o' m p) := by
 cases p with
 | add i j => exact h.add _ _ _ _ (get_rel h l m i hr) (get_rel h l m j hr)
 | sub i j => exact h.sub _ _ _ _ (get_rel h l m i hr) (get_rel h l m j hr)
 | mul i j => exact h.mul _ _ _ _ (get_rel h l m i hr) (get_rel h l m j hr)
 | c z => exact h.c z
theorem run_rel : ∀ (ps : List SOp) {l : List α} {m : List β}, relL R l m → relL R (runL o ps l) (runL o' ps m)
 | [], _, _, hr => hr
 | p :: ps, _, _, hr => run_rel ps ⟨step_rel h hr p, hr⟩
theorem head_rel (ps : List SOp) {l : List α} {m : List β} (hr : relL R l m) (i : Nat) : R (getL o (runL o ps l) i) (getL o' (runL o' ps m) i) := get_rel h _ _ i (run_rel h ps hr)
end
def cub {α : Type} (o : Ops α) (x b : α) : α := o.add (o.sub (o.mul (o.mul x x) x) (o.mul (o.c 3) x)) b
def lft {α : Type} (o : Ops α) (a : α) : α × α := (a, o.c 0)
def gen {α : Type} (o : Ops α) : α × α := (o.c 0, o.c 1)
abbrev T2 (α : Type) := (α × α) × (α × α)
abbrev T3 (α : Type) := T2 α × T2 α
structure V4 (α : Type) where
 x1 : α
 x2 : α
 x3 : α
 b : α
def o1 {α : Type} (o : Ops α) (v : V4 α) : Ops (α × α) := opsQ o (cub o v.x1 v.b)
def o2 {α : Type} (o : Ops α) (v : V4 α) : Ops (T2 α) := opsQ (o1 o v) (cub (o1 o v) (lft o v.x2) (lft o v.b))
def o3 {α : Type} (o : Ops α) (v : V4 α) : Ops (T3 α) := opsQ (o2 o v) (cub (o2 o v) (lft (o1 o v) (lft o v.x3)) (lft (o1 o v) (lft o v.b)))
def ins {α : Type} (o : Ops α) (v : V4 α) : List (T3 α) :=
 let L : α → T3 α := fun a => lft (o2 o v) (lft (o1 o v) (lft o a))
 [L v.x1, lft (o2 o v) (lft (o1 o v) (gen o)), L v.x2, lft (o2 o v) (gen (o1 o v)), L v.x3, gen (o2 o v), L v.b]
section
variable {α β : Type} {R : α → β → Prop} {o : Ops α} {o' : Ops β} (h : OpsRel R o o')
include h
theorem cub_rel {x b : α} {x' b' : β} (hx : R x x') (hb : R b b') : R (cub o x b) (cub o' x' b') :=
 h.add _ _ _ _ (h.sub _ _ _ _ (h.mul _ _ _ _ (h.mul _ _ _ _ hx hx) hx) (h.mul _ _ _ _ (h.c 3) hx)) hb
theorem lft_rel {a : α} {a' : β} (ha : R a a') : pairR R (lft o a) (lft o' a') := ⟨ha, h.c 0⟩
theorem gen_rel : pairR R (gen o) (gen o') := ⟨h.c 0, h.c 1⟩
variable {v : V4 α} {v' : V4 β} (h1 : R v.x1 v'.x1) (h2 : R v.x2 v'.x2) (h3 : R v.x3 v'.x3) (hb : R v.b v'.b)
include h1 hb
theorem o1_rel : OpsRel (pairR R) (o1 o v) (o1 o' v') := relPair h (cub_rel h h1 hb)
include h2
theorem o2_rel : OpsRel (pairR (pairR R)) (o2 o v) (o2 o' v') := relPair (o1_rel h h1 hb) (cub_rel (o1_rel h h1 hb) (lft_rel h h2) (lft_rel h hb))
include h3
theorem o3_rel : OpsRel (pairR (pairR (pairR R))) (o3 o v) (o3 o' v') :=
 relPair (o2_rel h h1 h2 hb) (cub_rel (o2_rel h h1 h2 hb) (lft_rel (o1_rel h h1 hb) (lft_rel h h3)) (lft_rel (o1_rel h h1 hb) (lft_rel h hb)))
theorem ins_rel : relL (pairR (pairR (pairR R))) (ins o v) (ins o' v') := by
 have k1 := o1_rel h h1 hb
 have k2 := o2_rel h h1 h2 hb
 have L : ∀ {a a'}, R a a' → pairR (pairR (pairR R)) (lft (o2 o v) (lft (o1 o v) (lft o a))) (lft (o2 o' v') (lft (o1 o' v') (lft o' a'))) := fun ha => lft_rel k2 (lft_rel k1 (lft_rel h ha))
 exact ⟨L h1, lft_rel k2 (lft_rel k1 (gen_rel h)), L h2, lft_rel k2 (gen_rel k1), L h3, gen_rel k2, L hb, trivial⟩
end
def all8 {α : Type} (P : α → Prop) (t : T3 α) : Prop := ((P t.1.1.1 ∧ P t.1.1.2) ∧ (P t.1.2.1 ∧ P t.1.2.2)) ∧ ((P t.2.1.1 ∧ P t.2.1.2) ∧ (P t.2.2.1 ∧ P t.2.2.2))
def all8b {α : Type} (P : α → Bool) (t : T3 α) : Bool := ((P t.1.1.1 && P t.1.1.2) && (P t.1.2.1 && P t.1.2.2)) && ((P t.2.1.1 && P t.2.1.2) && (P t.2.2.1 && P t.2.2.2))
theorem all8b_iff {α : Type} {P : α → Bool} {t : T3 α} : all8b P t = true ↔ all8 (fun a => P a = true) t := by
 simp only [all8b, all8, Bool.and_eq_true]
theorem all8_map {α β : Type} {R : α → β → Prop} {P : α → Prop} {Q : β → Prop} (h : ∀ a b, R a b → P a → Q b) {t : T3 α} {u : T3 β} (hr : pairR (pairR (pairR R)) t u) (ht : all8 P t) : all8 Q u := by
 obtain ⟨⟨⟨r1, r2⟩, ⟨r3, r4⟩⟩, ⟨⟨r5, r6⟩, ⟨r7, r8⟩⟩⟩ := hr
 obtain ⟨⟨⟨p1, p2⟩, ⟨p3, p4⟩⟩, ⟨⟨p5, p6⟩, ⟨p7, p8⟩⟩⟩ := ht
 exact ⟨⟨⟨h _ _ r1 p1, h _ _ r2 p2⟩, ⟨h _ _ r3 p3, h _ _ r4 p4⟩⟩, ⟨⟨h _ _ r5 p5, h _ _ r6 p6⟩, ⟨h _ _ r7 p7, h _ _ r8 p8⟩⟩⟩
theorem all8_map' {α β : Type} {R : α → β → Prop} {P : α → Prop} {Q : β → Prop} (h : ∀ a b, R a b → Q b → P a) {t : T3 α} {u : T3 β} (hr : pairR (pairR (pairR R)) t u) (hu : all8 Q u) : all8 P t := by
 obtain ⟨⟨⟨r1, r2⟩, ⟨r3, r4⟩⟩, ⟨⟨r5, r6⟩, ⟨r7, r8⟩⟩⟩ := hr
 obtain ⟨⟨⟨p1, p2⟩, ⟨p3, p4⟩⟩, ⟨⟨p5, p6⟩, ⟨p7, p8⟩⟩⟩ := hu
 exact ⟨⟨⟨h _ _ r1 p1, h _ _ r2 p2⟩, ⟨h _ _ r3 p3, h _ _ r4 p4⟩⟩, ⟨⟨h _ _ r5 p5, h _ _ r6 p6⟩, ⟨h _ _ r7 p7, h _ _ r8 p8⟩⟩⟩
theorem all8_and {α : Type} {P Q : α → Prop} {t : T3 α} (hp : all8 P t) (hq : all8 Q t) : all8 (fun a => P a ∧ Q a) t := by
 obtain ⟨⟨⟨a1, a2⟩, ⟨a3, a4⟩⟩, ⟨⟨a5, a6⟩, ⟨a7, a8⟩⟩⟩ := hp
 obtain ⟨⟨⟨b1, b2⟩, ⟨b3, b4⟩⟩, ⟨⟨b5, b6⟩, ⟨b7, b8⟩⟩⟩ := hq
 exact ⟨⟨⟨⟨a1, b1⟩, ⟨a2, b2⟩⟩, ⟨⟨a3, b3⟩, ⟨a4, b4⟩⟩⟩, ⟨⟨⟨a5, b5⟩, ⟨a6, b6⟩⟩, ⟨⟨a7, b7⟩, ⟨a8, b8⟩⟩⟩⟩
theorem all8_imp {α : Type} {P Q : α → Prop} (h : ∀ a, P a → Q a) {t : T3 α} (hp : all8 P t) : all8 Q t := by
 obtain ⟨⟨⟨a1, a2⟩, ⟨a3, a4⟩⟩, ⟨⟨a5, a6⟩, ⟨a7, a8⟩⟩⟩ := hp
 exact ⟨⟨⟨h _ a1, h _ a2⟩, ⟨h _ a3, h _ a4⟩⟩, ⟨⟨h _ a5, h _ a6⟩, ⟨h _ a7, h _ a8⟩⟩⟩
theorem dgP_trim : ∀ (n : Nat) (p : PolyF n) {d e : Nat → Nat}, (∀ i, i < n → d i ≤ e i) → dgP n p d → dgP n p e
 | 0, _, _, _, _, _ => trivial
 | n + 1, _, _, _, h, hp => ⟨Nat.le_trans hp.1 (h n (by omega)), fun a ha => dgP_trim n a (fun i hi => h i (by omega)) (hp.2 a ha)⟩
def vPt (x : Nat → Int) : V4 Int := ⟨x 0, x 1, x 2, x 3⟩
def vP4 : V4 (Option (PolyF 4)) := ⟨some (vP 4 0), some (vP 4 1), some (vP 4 2), some (vP 4 3)⟩
def vB4 : V4 (Option Bd) := ⟨some ⟨1, 1, 0, 0, 0⟩, some ⟨1, 0, 1, 0, 0⟩, some ⟨1, 0, 0, 1, 0⟩, some ⟨1, 0, 0, 0, 1⟩⟩
theorem evV (x : Nat → Int) : evR x vP4.x1 (vPt x).x1 ∧ evR x vP4.x2 (vPt x).x2 ∧ evR x vP4.x3 (vPt x).x3 ∧ evR x vP4.b (vPt x).b :=
 ⟨evP_v 4 x 0 (by omega), evP_v 4 x 1 (by omega), evP_v 4 x 2 (by omega), evP_v 4 x 3 (by omega)⟩
theorem bdV : bdR vP4.x1 vB4.x1 ∧ bdR vP4.x2 vB4.x2 ∧ bdR vP4.x3 vB4.x3 ∧ bdR vP4.b vB4.b := by
 refine ⟨⟨nmP_v 4 0, dgP_mono 4 _ (fun i => ?_) (dgP_v 4 0)⟩, ⟨nmP_v 4 1, dgP_mono 4 _ (fun i => ?_) (dgP_v 4 1)⟩, ⟨nmP_v 4 2, dgP_mono 4 _ (fun i => ?_) (dgP_v 4 2)⟩, ⟨nmP_v 4 3, ?_⟩⟩
 ·unfold Bd.d; split <;> split <;> simp_all
 ·unfold Bd.d; split <;> split <;> simp_all
 ·unfold Bd.d; split <;> split <;> simp_all
 ·refine dgP_trim 4 _ (fun i hi => ?_) (dgP_v 4 3)
  match i, hi with
  | 0, _ => exact by decide
  | 1, _ => exact by decide
  | 2, _ => exact by decide
  | 3, _ => exact by decide
  | i + 4, h => exact absurd h (by omega)
end Go.NT

namespace Go.NT
def chkB (W : Nat → Nat) (b : Option Bd) : Bool := match b with
 | none => true
 | some b => decide (b.n * bigP W (fun i => b.d i + 1) 0 < W 0) && (decide (b.n * bigP W (fun i => b.d i + 1) 1 < W 1) && (decide (b.n * bigP W (fun i => b.d i + 1) 2 < W 2) && decide (b.n * bigP W (fun i => b.d i + 1) 3 < W 3)))
theorem point_zero {W : Nat → Nat} (hW : ∀ i, 1 ≤ W i) {p : Option (PolyF 4)} {b : Option Bd} (hb : bdR p b) (hc : chkB W b = true) (h0 : evO (fun i => (W i : Int)) p = 0) (x : Nat → Int) : evO x p = 0 := by
 cases p with
 | none => rfl
 | some p =>
  cases b with
  | none => exact hb.elim
  | some b =>
   simp only [chkB, Bool.and_eq_true, decide_eq_true_iff] at hc
   obtain ⟨c0, c1, c2, c3⟩ := hc
   refine evP_point hW 4 p hb.2 hb.1 (fun i hi => ?_) h0 x
   match i, hi with
   | 0, _ => exact c0
   | 1, _ => exact c1
   | 2, _ => exact c2
   | 3, _ => exact c3
   | i + 4, h => exact absurd h (by omega)
def W4 (k0 k1 k2 k3 : Nat) (i : Nat) : Nat := 2 ^ (match i with | 0 => k0 | 1 => k1 | 2 => k2 | _ => k3)
theorem W4_pos (k0 k1 k2 k3 : Nat) (i : Nat) : 1 ≤ W4 k0 k1 k2 k3 i := Nat.two_pow_pos _
def zTest (W : Nat → Nat) (ps : List SOp) (i : Nat) : Bool :=
 all8b (fun z => decide (z = 0)) (getL (o3 opsInt (vPt fun i => (W i : Int))) (runL (o3 opsInt (vPt fun i => (W i : Int))) ps (ins opsInt (vPt fun i => (W i : Int)))) i)
def bTest (W : Nat → Nat) (ps : List SOp) (i : Nat) : Bool := all8b (chkB W) (getL (o3 opsB vB4) (runL (o3 opsB vB4) ps (ins opsB vB4)) i)
theorem slp_zero {W : Nat → Nat} (hW : ∀ i, 1 ≤ W i) {ps : List SOp} {i : Nat} (hz : zTest W ps i = true) (hb : bTest W ps i = true) {m : Nat} {x1 y1 x2 y2 x3 y3 b : Int}
  (h1 : Cg' m (y1 * y1) (x1 * x1 * x1 - 3 * x1 + b)) (h2 : Cg' m (y2 * y2) (x2 * x2 * x2 - 3 * x2 + b)) (h3 : Cg' m (y3 * y3) (x3 * x3 * x3 - 3 * x3 + b)) :
  Cg' m (getL opsInt (runL opsInt ps [x1, y1, x2, y2, x3, y3, b]) i) 0 := by
 have hf : all8 (fun p => ∀ x, evO x p = 0) (getL (o3 opsP vP4) (runL (o3 opsP vP4) ps (ins opsP vP4)) i) := by
  obtain ⟨e1, e2, e3, e4⟩ := evV (fun i => (W i : Int))
  obtain ⟨d1, d2, d3, d4⟩ := bdV
  have r1 := head_rel (o3_rel (relEv (fun i => (W i : Int))) e1 e2 e3 e4) ps (ins_rel (relEv (fun i => (W i : Int))) e1 e2 e3 e4) i
  have r2 := head_rel (o3_rel relBd d1 d2 d3 d4) ps (ins_rel relBd d1 d2 d3 d4) i
  have hz' := all8b_iff.1 hz
  have hb' := all8b_iff.1 hb
  have a1 := all8_map' (P := fun p => evO (fun i => (W i : Int)) p = 0) (fun p z hr (hq : decide (z = 0) = true) => by
   have := of_decide_eq_true hq
   unfold evR at hr
   rw [hr, this]) r1 hz'
  have a2 := all8_map' (P := fun p => ∃ b, bdR p b ∧ chkB W b = true) (fun p b hr hq => ⟨b, hr, hq⟩) r2 hb'
  exact all8_imp (fun p hp => by
   obtain ⟨c1, b, c2, c3⟩ := hp
   exact fun x => point_zero hW c2 c3 c1 x) (all8_and a1 a2)
 let x : Nat → Int := fun i => match i with | 0 => x1 | 1 => x2 | 2 => x3 | _ => b
 obtain ⟨e1, e2, e3, e4⟩ := evV x
 have r3 := head_rel (o3_rel (relEv x) e1 e2 e3 e4) ps (ins_rel (relEv x) e1 e2 e3 e4) i
 have hx : all8 (fun z : Int => z = 0) (getL (o3 opsInt (vPt x)) (runL (o3 opsInt (vPt x)) ps (ins opsInt (vPt x))) i) :=
  all8_map (fun p z hr (hp : ∀ x, evO x p = 0) => by unfold evR at hr; rw [← hr]; exact hp x) r3 hf
 let R0 : Int → Int → Prop := fun a z => Cg' m z a
 have cr : ∀ a : Int, Cg' m a a := fun a => ⟨0, by omega⟩
 have k0 : OpsRel R0 opsInt opsInt := by
  refine ⟨?_, ?_, ?_, fun z => cr z⟩
  ·rintro a b a' b' ⟨k, hk⟩ ⟨l, hl⟩; exact ⟨k + l, by simp only [opsInt]; grind⟩
  ·rintro a b a' b' ⟨k, hk⟩ ⟨l, hl⟩; exact ⟨k - l, by simp only [opsInt]; grind⟩
  ·rintro a b a' b' ⟨k, hk⟩ ⟨l, hl⟩
   refine ⟨k * b' + l * a, ?_⟩
   simp only [opsInt]
   have e1 : a' = m * k + a := by omega
   have e2 : b' = m * l + b := by omega
   subst e1; generalize (m : Int) = M at *; subst e2; grind
 have l0 : ∀ {α : Type} {R : α → Int → Prop} {o : Ops α} {y : Int} {a : α} {z : Int}, OpsRel R o opsInt → R a z → rootR m R y (lft o a) z := fun h ha => ⟨_, _, ha, h.c 0, ⟨0, by simp only [opsInt]; grind⟩⟩
 have g0 : ∀ {α : Type} {R : α → Int → Prop} {o : Ops α} {y : Int}, OpsRel R o opsInt → rootR m R y (gen o) y := fun h => ⟨_, _, h.c 0, h.c 1, ⟨0, by simp only [opsInt]; grind⟩⟩
 have k1 : OpsRel (rootR m R0 y1) (o1 opsInt (vPt x)) opsInt := relRoot k0 (cub_rel k0 (cr x1) (cr b)) h1
 have k2 : OpsRel (rootR m (rootR m R0 y1) y2) (o2 opsInt (vPt x)) opsInt := relRoot k1 (cub_rel k1 (l0 k0 (cr x2)) (l0 k0 (cr b))) h2
 have k3 : OpsRel (rootR m (rootR m (rootR m R0 y1) y2) y3) (o3 opsInt (vPt x)) opsInt := relRoot k2 (cub_rel k2 (l0 k1 (l0 k0 (cr x3))) (l0 k1 (l0 k0 (cr b)))) h3
 have hin : relL (rootR m (rootR m (rootR m R0 y1) y2) y3) (ins opsInt (vPt x)) [x1, y1, x2, y2, x3, y3, b] :=
  ⟨l0 k2 (l0 k1 (l0 k0 (cr x1))), l0 k2 (l0 k1 (g0 k0)), l0 k2 (l0 k1 (l0 k0 (cr x2))), l0 k2 (g0 k1), l0 k2 (l0 k1 (l0 k0 (cr x3))), g0 k2, l0 k2 (l0 k1 (l0 k0 (cr b))), trivial⟩
 have r4 := head_rel k3 ps hin i
 generalize getL (o3 opsInt (vPt x)) (runL (o3 opsInt (vPt x)) ps (ins opsInt (vPt x))) i = t at *
 generalize getL opsInt (runL opsInt ps [x1, y1, x2, y2, x3, y3, b]) i = z at *
 obtain ⟨u, v, ⟨u1, u2, ⟨u11, u12, p1, p2, p3⟩, ⟨u21, u22, p4, p5, p6⟩, p7⟩, ⟨v1, v2, ⟨v11, v12, q1, q2, q3⟩, ⟨v21, v22, q4, q5, q6⟩, q7⟩, hz1⟩ := r4
 obtain ⟨⟨⟨z1, z2⟩, ⟨z3, z4⟩⟩, ⟨⟨z5, z6⟩, ⟨z7, z8⟩⟩⟩ := hx
 simp only [R0] at p1 p2 p4 p5 q1 q2 q4 q5
 rw [z1] at p1; rw [z2] at p2; rw [z3] at p4; rw [z4] at p5; rw [z5] at q1; rw [z6] at q2; rw [z7] at q4; rw [z8] at q5
 have tr : ∀ {a b c y : Int}, Cg' m a (b + y * c) → Cg' m b 0 → Cg' m c 0 → Cg' m a 0 := by
  rintro a b c y ⟨k, hk⟩ ⟨l, hl⟩ ⟨r, hr⟩
  exact ⟨k + l + y * r, by grind⟩
 exact tr hz1 (tr p7 (tr p3 p1 p2) (tr p6 p4 p5)) (tr q7 (tr q3 q1 q2) (tr q6 q4 q5))
end Go.NT

namespace Go.NT
def wxx (a _b _c d _e _g : Int) : Int := a * d
def wyy (_a b _c _d e _g : Int) : Int := b * e
def wzz (_a _b c _d _e g : Int) : Int := c * g
def wxy (a b _c d e _g : Int) : Int := a * e + b * d
def wyz (_a b c _d e g : Int) : Int := b * g + c * e
def wxz (a _b c d _e g : Int) : Int := a * g + c * d
def wsi (k a b c d e g : Int) : Int := 3 * (wxz a b c d e g - k * wzz a b c d e g)
def wle (k a b c d e g : Int) : Int := wyy a b c d e g - wsi k a b c d e g
def wri (k a b c d e g : Int) : Int := wyy a b c d e g + wsi k a b c d e g
def wz3 (a b c d e g : Int) : Int := 3 * wzz a b c d e g
def wmm (k a b c d e g : Int) : Int := 3 * (k * wxz a b c d e g - wz3 a b c d e g - wxx a b c d e g)
def wnn (a b c d e g : Int) : Int := 3 * wxx a b c d e g - wz3 a b c d e g
def wX (k a b c d e g : Int) : Int := wxy a b c d e g * wri k a b c d e g - wyz a b c d e g * wmm k a b c d e g
def wY (k a b c d e g : Int) : Int := wri k a b c d e g * wle k a b c d e g + wnn a b c d e g * wmm k a b c d e g
def wZ (k a b c d e g : Int) : Int := wyz a b c d e g * wle k a b c d e g + wxy a b c d e g * wnn a b c d e g
def psW : List SOp := [.c 1, .c 3, .mul 2 4, .mul 4 6, .mul 3 3, .mul 5 8, .mul 7 8, .add 1 0, .mul 9 7, .mul 8 12, .add 1 0, .mul 11 10, .mul 11 14, .add 1 0, .mul 20 9, .sub 1 0, .mul 14 0, .sub 13 0, .add 14 1, .mul 17 14, .mul 26 6, .sub 0 1, .sub 0 19, .mul 21 0, .mul 22 21, .sub 0 5, .mul 18 7, .mul 16 3, .sub 1 0, .mul 10 11, .mul 4 6, .add 1 0, .mul 21 14, .mul 25 7, .add 1 0, .mul 6 39, .mul 4 41, .mul 2 36, .mul 9 43, .mul 7 43, .add 1 0, .mul 9 40, .mul 7 47, .add 1 0, .mul 15 43, .mul 10 49, .add 1 0, .mul 53 9, .sub 1 0, .mul 47 0, .sub 13 0, .add 14 1, .mul 50 14, .mul 59 6, .sub 0 1, .sub 0 19, .mul 54 0, .mul 55 21, .sub 0 5, .mul 18 7, .mul 16 3, .sub 1 0, .mul 10 11, .mul 4 6, .add 1 0, .mul 21 14, .mul 25 7, .add 1 0, .mul 70 72, .mul 72 74, .mul 69 69, .mul 73 76, .mul 75 76, .add 1 0, .mul 77 73, .mul 74 80, .add 1 0, .mul 79 76, .mul 77 82, .add 1 0, .mul 86 9, .sub 1 0, .mul 80 0, .sub 13 0, .add 14 1, .mul 83 14, .mul 92 6, .sub 0 1, .sub 0 19, .mul 87 0, .mul 88 21, .sub 0 5, .mul 18 7, .mul 16 3, .sub 1 0, .mul 10 11, .mul 4 6, .add 1 0, .mul 21 14, .mul 25 7, .add 1 0, .mul 101 6, .mul 103 4, .mul 102 2, .mul 104 6, .mul 106 10, .add 1 0, .mul 108 6, .mul 107 10, .add 1 0, .mul 110 9, .mul 110 16, .add 1 0, .mul 119 9, .sub 1 0, .mul 113 0, .sub 13 0, .add 14 1, .mul 116 14, .mul 125 6, .sub 0 1, .sub 0 19, .mul 120 0, .mul 121 21, .sub 0 5, .mul 18 7, .mul 16 3, .sub 1 0, .mul 10 11, .mul 4 6, .add 1 0, .mul 21 14, .mul 25 7, .add 1 0, .mul 72 0, .mul 67 7, .sub 1 0, .mul 72 3, .mul 70 7, .sub 1 0]
def WW : Nat → Nat := W4 64 1024 16384 262144
theorem zW02 : zTest WW psW 3 = true := by decide +kernel
theorem zW12 : zTest WW psW 0 = true := by decide +kernel
theorem bW02 : bTest WW psW 3 = true := by decide +kernel
theorem bW12 : bTest WW psW 0 = true := by decide +kernel
end Go.NT

namespace Go.NT
def W2 : Nat → Nat := W4 128 4096 131072 2097152
def psC : List SOp := [.c 1, .c 3, .mul 2 4, .mul 4 6, .mul 3 3, .mul 5 8, .mul 7 8, .add 1 0, .mul 9 7, .mul 8 12, .add 1 0, .mul 11 10, .mul 11 14, .add 1 0, .mul 20 9, .sub 1 0, .mul 14 0, .sub 13 0, .add 14 1, .mul 17 14, .mul 26 6, .sub 0 1, .sub 0 19, .mul 21 0, .mul 22 21, .sub 0 5, .mul 18 7, .mul 16 3, .sub 1 0, .mul 10 11, .mul 4 6, .add 1 0, .mul 21 14, .mul 25 7, .add 1 0, .mul 3 3, .mul 0 1, .mul 8 8, .mul 0 9, .mul 37 10, .mul 5 5, .mul 1 0, .sub 3 0, .mul 8 8, .mul 0 9, .mul 51 0, .add 3 0, .sub 10 0]
theorem zC : zTest W2 psC 0 = true := by decide +kernel
theorem bC : bTest W2 psC 0 = true := by decide +kernel
theorem idC {m : Nat} {x1 y1 x2 y2 b : Int} (h1 : Cg' m (y1 * y1) (x1 * x1 * x1 - 3 * x1 + b)) (h2 : Cg' m (y2 * y2) (x2 * x2 * x2 - 3 * x2 + b)) :
  Cg' m ((wY b x1 y1 1 x2 y2 1) * (wY b x1 y1 1 x2 y2 1) * (wZ b x1 y1 1 x2 y2 1) - ((wX b x1 y1 1 x2 y2 1) * (wX b x1 y1 1 x2 y2 1) * (wX b x1 y1 1 x2 y2 1) - 3 * (wX b x1 y1 1 x2 y2 1) * ((wZ b x1 y1 1 x2 y2 1) * (wZ b x1 y1 1 x2 y2 1)) + b * ((wZ b x1 y1 1 x2 y2 1) * (wZ b x1 y1 1 x2 y2 1) * (wZ b x1 y1 1 x2 y2 1)))) 0 := slp_zero (W4_pos _ _ _ _) zC bC h1 h2 h1
def psZ : List SOp := [.c 1, .c 3, .mul 2 4, .mul 4 6, .mul 3 3, .mul 5 8, .mul 7 8, .add 1 0, .mul 9 7, .mul 8 12, .add 1 0, .mul 11 10, .mul 11 14, .add 1 0, .mul 20 9, .sub 1 0, .mul 14 0, .sub 13 0, .add 14 1, .mul 17 14, .mul 26 6, .sub 0 1, .sub 0 19, .mul 21 0, .mul 22 21, .sub 0 5, .mul 18 7, .mul 16 3, .sub 1 0, .mul 10 11, .mul 4 6, .add 1 0, .mul 21 14, .mul 25 7, .add 1 0, .sub 35 37, .add 37 39, .mul 1 1, .mul 1 1, .add 39 41, .mul 0 2, .sub 2 0, .mul 42 4, .sub 0 1, .mul 7 0, .mul 7 9, .mul 47 0, .sub 2 0, .add 13 0]
theorem zZ : zTest W2 psZ 0 = true := by decide +kernel
theorem bZ : bTest W2 psZ 0 = true := by decide +kernel
theorem idZ {m : Nat} {x1 y1 x2 y2 b : Int} (h1 : Cg' m (y1 * y1) (x1 * x1 * x1 - 3 * x1 + b)) (h2 : Cg' m (y2 * y2) (x2 * x2 * x2 - 3 * x2 + b)) :
  Cg' m ((wZ b x1 y1 1 x2 y2 1) + ((y1 + y2) * (x1 * ((x1 - x2) * (x1 - x2)) - ((y1 + y2) * (y1 + y2) - (x1 + x2) * ((x1 - x2) * (x1 - x2)))) - y1 * ((x1 - x2) * (x1 - x2) * (x1 - x2)))) 0 := slp_zero (W4_pos _ _ _ _) zZ bZ h1 h2 h1
def psN : List SOp := [.sub 0 2, .add 2 4, .mul 1 1, .mul 1 1, .add 4 6, .mul 0 2, .sub 2 0, .mul 7 4, .sub 0 1, .mul 7 0, .mul 7 9, .mul 12 0, .sub 2 0, .mul 10 10, .mul 1 1, .mul 8 8, .mul 0 9, .c 3, .mul 0 11, .mul 0 5, .sub 3 0, .mul 7 18, .mul 28 0, .add 2 0, .sub 9 0]
theorem zN : zTest W2 psN 0 = true := by decide +kernel
theorem bN : bTest W2 psN 0 = true := by decide +kernel
theorem idN {m : Nat} {x1 y1 x2 y2 b : Int} (h1 : Cg' m (y1 * y1) (x1 * x1 * x1 - 3 * x1 + b)) (h2 : Cg' m (y2 * y2) (x2 * x2 * x2 - 3 * x2 + b)) :
  Cg' m (((y1 + y2) * (x1 * ((x1 - x2) * (x1 - x2)) - ((y1 + y2) * (y1 + y2) - (x1 + x2) * ((x1 - x2) * (x1 - x2)))) - y1 * ((x1 - x2) * (x1 - x2) * (x1 - x2))) * ((y1 + y2) * (x1 * ((x1 - x2) * (x1 - x2)) - ((y1 + y2) * (y1 + y2) - (x1 + x2) * ((x1 - x2) * (x1 - x2)))) - y1 * ((x1 - x2) * (x1 - x2) * (x1 - x2))) - (((y1 + y2) * (y1 + y2) - (x1 + x2) * ((x1 - x2) * (x1 - x2))) * ((y1 + y2) * (y1 + y2) - (x1 + x2) * ((x1 - x2) * (x1 - x2))) * ((y1 + y2) * (y1 + y2) - (x1 + x2) * ((x1 - x2) * (x1 - x2))) - 3 * ((y1 + y2) * (y1 + y2) - (x1 + x2) * ((x1 - x2) * (x1 - x2))) * (((x1 - x2) * (x1 - x2)) * ((x1 - x2) * (x1 - x2))) + b * (((x1 - x2) * (x1 - x2)) * ((x1 - x2) * (x1 - x2)) * ((x1 - x2) * (x1 - x2))))) 0 := slp_zero (W4_pos _ _ _ _) zN bN h1 h2 h1
def psD : List SOp := [.c 1, .c 3, .mul 2 2, .mul 4 4, .mul 3 3, .mul 5 6, .mul 7 6, .add 1 0, .mul 9 7, .mul 8 10, .add 1 0, .mul 11 10, .mul 11 12, .add 1 0, .mul 20 9, .sub 1 0, .mul 14 0, .sub 13 0, .add 14 1, .mul 17 14, .mul 26 6, .sub 0 1, .sub 0 19, .mul 21 0, .mul 22 21, .sub 0 5, .mul 18 7, .mul 16 3, .sub 1 0, .mul 10 11, .mul 4 6, .add 1 0, .mul 21 14, .mul 25 7, .add 1 0, .c 8, .mul 37 37, .mul 0 38, .mul 2 0, .sub 4 0]
theorem zD : zTest W2 psD 0 = true := by decide +kernel
theorem bD : bTest W2 psD 0 = true := by decide +kernel
theorem idD {m : Nat} {x1 y1 x2 y2 b : Int} (h1 : Cg' m (y1 * y1) (x1 * x1 * x1 - 3 * x1 + b)) (h2 : Cg' m (y2 * y2) (x2 * x2 * x2 - 3 * x2 + b)) :
  Cg' m (wZ b x1 y1 1 x1 y1 1 - 8 * (y1 * y1 * y1)) 0 := slp_zero (W4_pos _ _ _ _) zD bD h1 h2 h1
def psO : List SOp := [.c 1, .c 0, .sub 0 3, .c 3, .mul 4 4, .mul 6 2, .mul 5 5, .mul 7 4, .mul 9 8, .add 1 0, .mul 11 9, .mul 10 8, .add 1 0, .mul 13 12, .mul 13 14, .add 1 0, .mul 22 9, .sub 1 0, .mul 14 0, .sub 13 0, .add 14 1, .mul 17 14, .mul 28 6, .sub 0 1, .sub 0 19, .mul 21 0, .mul 22 21, .sub 0 5, .mul 18 7, .mul 16 3, .sub 1 0, .mul 10 11, .mul 4 6, .add 1 0, .mul 21 14, .mul 25 7, .add 1 0, .mul 37 37, .mul 34 0, .sub 0 35, .c 2, .mul 0 42, .mul 0 0, .mul 3 3, .mul 3 44, .mul 0 2, .sub 2 0, .mul 47 4, .sub 0 1, .mul 9 0, .mul 7 8, .mul 52 0, .sub 2 0, .sub 19 0]
theorem zO : zTest W2 psO 0 = true := by decide +kernel
theorem bO : bTest W2 psO 0 = true := by decide +kernel
theorem idO {m : Nat} {x1 y1 x2 y2 b : Int} (h1 : Cg' m (y1 * y1) (x1 * x1 * x1 - 3 * x1 + b)) (h2 : Cg' m (y2 * y2) (x2 * x2 * x2 - 3 * x2 + b)) :
  Cg' m (wY b x1 y1 1 x1 (0 - y1) 1 - ((3 * (x1 * x1) - 3) * (x1 * (2 * y1 * (2 * y1)) - ((3 * (x1 * x1) - 3) * (3 * (x1 * x1) - 3) - 2 * x1 * (2 * y1 * (2 * y1)))) - y1 * ((2 * y1 * (2 * y1)) * (2 * y1)))) 0 := slp_zero (W4_pos _ _ _ _) zO bO h1 h2 h1
def psM : List SOp := [.c 3, .mul 1 1, .mul 1 0, .sub 0 2, .c 2, .mul 0 6, .mul 0 0, .mul 3 3, .mul 3 8, .mul 0 2, .sub 2 0, .mul 11 4, .sub 0 1, .mul 9 0, .mul 7 8, .mul 16 0, .sub 2 0, .mul 10 10, .mul 1 1, .mul 8 8, .mul 0 9, .mul 20 10, .mul 0 4, .sub 2 0, .mul 6 17, .mul 31 0, .add 2 0, .sub 8 0]
theorem zM : zTest W2 psM 0 = true := by decide +kernel
theorem bM : bTest W2 psM 0 = true := by decide +kernel
theorem idM {m : Nat} {x1 y1 x2 y2 b : Int} (h1 : Cg' m (y1 * y1) (x1 * x1 * x1 - 3 * x1 + b)) (h2 : Cg' m (y2 * y2) (x2 * x2 * x2 - 3 * x2 + b)) :
  Cg' m (((3 * (x1 * x1) - 3) * (x1 * (2 * y1 * (2 * y1)) - ((3 * (x1 * x1) - 3) * (3 * (x1 * x1) - 3) - 2 * x1 * (2 * y1 * (2 * y1)))) - y1 * ((2 * y1 * (2 * y1)) * (2 * y1))) * ((3 * (x1 * x1) - 3) * (x1 * (2 * y1 * (2 * y1)) - ((3 * (x1 * x1) - 3) * (3 * (x1 * x1) - 3) - 2 * x1 * (2 * y1 * (2 * y1)))) - y1 * ((2 * y1 * (2 * y1)) * (2 * y1))) - (((3 * (x1 * x1) - 3) * (3 * (x1 * x1) - 3) - 2 * x1 * (2 * y1 * (2 * y1))) * ((3 * (x1 * x1) - 3) * (3 * (x1 * x1) - 3) - 2 * x1 * (2 * y1 * (2 * y1))) * ((3 * (x1 * x1) - 3) * (3 * (x1 * x1) - 3) - 2 * x1 * (2 * y1 * (2 * y1))) - 3 * ((3 * (x1 * x1) - 3) * (3 * (x1 * x1) - 3) - 2 * x1 * (2 * y1 * (2 * y1))) * ((2 * y1 * (2 * y1)) * (2 * y1 * (2 * y1))) + b * ((2 * y1 * (2 * y1)) * (2 * y1 * (2 * y1)) * (2 * y1 * (2 * y1))))) 0 := slp_zero (W4_pos _ _ _ _) zM bM h1 h2 h1
theorem assoc_xz {m : Nat} {x1 y1 x2 y2 x3 y3 b : Int} (h1 : Cg' m (y1 * y1) (x1 * x1 * x1 - 3 * x1 + b)) (h2 : Cg' m (y2 * y2) (x2 * x2 * x2 - 3 * x2 + b)) (h3 : Cg' m (y3 * y3) (x3 * x3 * x3 - 3 * x3 + b)) :
  Cg' m ((wX b (wX b x1 y1 1 x2 y2 1) (wY b x1 y1 1 x2 y2 1) (wZ b x1 y1 1 x2 y2 1) x3 y3 1) * (wZ b x1 y1 1 (wX b x2 y2 1 x3 y3 1) (wY b x2 y2 1 x3 y3 1) (wZ b x2 y2 1 x3 y3 1)) - (wZ b (wX b x1 y1 1 x2 y2 1) (wY b x1 y1 1 x2 y2 1) (wZ b x1 y1 1 x2 y2 1) x3 y3 1) * (wX b x1 y1 1 (wX b x2 y2 1 x3 y3 1) (wY b x2 y2 1 x3 y3 1) (wZ b x2 y2 1 x3 y3 1))) 0 := slp_zero (W4_pos _ _ _ _) zW02 bW02 h1 h2 h3
theorem assoc_yz {m : Nat} {x1 y1 x2 y2 x3 y3 b : Int} (h1 : Cg' m (y1 * y1) (x1 * x1 * x1 - 3 * x1 + b)) (h2 : Cg' m (y2 * y2) (x2 * x2 * x2 - 3 * x2 + b)) (h3 : Cg' m (y3 * y3) (x3 * x3 * x3 - 3 * x3 + b)) :
  Cg' m ((wY b (wX b x1 y1 1 x2 y2 1) (wY b x1 y1 1 x2 y2 1) (wZ b x1 y1 1 x2 y2 1) x3 y3 1) * (wZ b x1 y1 1 (wX b x2 y2 1 x3 y3 1) (wY b x2 y2 1 x3 y3 1) (wZ b x2 y2 1 x3 y3 1)) - (wZ b (wX b x1 y1 1 x2 y2 1) (wY b x1 y1 1 x2 y2 1) (wZ b x1 y1 1 x2 y2 1) x3 y3 1) * (wY b x1 y1 1 (wX b x2 y2 1 x3 y3 1) (wY b x2 y2 1 x3 y3 1) (wZ b x2 y2 1 x3 y3 1))) 0 := slp_zero (W4_pos _ _ _ _) zW12 bW12 h1 h2 h3
end Go.NT

namespace Go.Ev
open Go Go.Proofs Go.RowKit Go.NT
def OnW (x y : Int) : Prop := C1 (y * y) (x * x * x - 3 * x + wB)
theorem y_ne {x y : Int} (h : OnW x y) : ¬ C1 y 0 := fun h0 => no_root (t := x) (h.lc2 h0 (-1) y (by grind))
structure Six (m : Nat) (a b c d e g a' b' c' d' e' g' : Int) : Prop where
 a : Cz m a a'
 b : Cz m b b'
 c : Cz m c c'
 d : Cz m d d'
 e : Cz m e e'
 g : Cz m g g'
section
variable {m : Nat} {k a b c d e g a' b' c' d' e' g' : Int} (h : Six m a b c d e g a' b' c' d' e' g')
include h
theorem cxx : Cz m (wxx a b c d e g) (wxx a' b' c' d' e' g') := h.a.mul h.d
theorem cyy : Cz m (wyy a b c d e g) (wyy a' b' c' d' e' g') := h.b.mul h.e
theorem czz : Cz m (wzz a b c d e g) (wzz a' b' c' d' e' g') := h.c.mul h.g
theorem cxy : Cz m (wxy a b c d e g) (wxy a' b' c' d' e' g') := (h.a.mul h.e).add (h.b.mul h.d)
theorem cyz : Cz m (wyz a b c d e g) (wyz a' b' c' d' e' g') := (h.b.mul h.g).add (h.c.mul h.e)
theorem cxz : Cz m (wxz a b c d e g) (wxz a' b' c' d' e' g') := (h.a.mul h.g).add (h.c.mul h.d)
theorem csi : Cz m (wsi k a b c d e g) (wsi k a' b' c' d' e' g') := (Cz.refl m 3).mul ((cxz h).sub ((Cz.refl m k).mul (czz h)))
theorem cle : Cz m (wle k a b c d e g) (wle k a' b' c' d' e' g') := (cyy h).sub (csi h)
theorem cri : Cz m (wri k a b c d e g) (wri k a' b' c' d' e' g') := (cyy h).add (csi h)
theorem cz3 : Cz m (wz3 a b c d e g) (wz3 a' b' c' d' e' g') := (Cz.refl m 3).mul (czz h)
theorem cmm : Cz m (wmm k a b c d e g) (wmm k a' b' c' d' e' g') := (Cz.refl m 3).mul ((((Cz.refl m k).mul (cxz h)).sub (cz3 h)).sub (cxx h))
theorem cnn : Cz m (wnn a b c d e g) (wnn a' b' c' d' e' g') := ((Cz.refl m 3).mul (cxx h)).sub (cz3 h)
theorem cwX : Cz m (wX k a b c d e g) (wX k a' b' c' d' e' g') := ((cxy h).mul (cri h)).sub ((cyz h).mul (cmm h))
theorem cwY : Cz m (wY k a b c d e g) (wY k a' b' c' d' e' g') := ((cri h).mul (cle h)).add ((cnn h).mul (cmm h))
theorem cwZ : Cz m (wZ k a b c d e g) (wZ k a' b' c' d' e' g') := ((cyz h).mul (cle h)).add ((cxy h).mul (cnn h))
end
theorem sX (k a b c d e g s t : Int) : wX k (s * a) (s * b) (s * c) (t * d) (t * e) (t * g) = s * s * (t * t) * wX k a b c d e g := by
 unfold wX wxy wri wyz wmm wyy wsi wxz wz3 wxx wzz; grind
theorem sY (k a b c d e g s t : Int) : wY k (s * a) (s * b) (s * c) (t * d) (t * e) (t * g) = s * s * (t * t) * wY k a b c d e g := by
 unfold wY wri wle wnn wmm wyy wsi wxz wz3 wxx wzz; grind
theorem sZ (k a b c d e g s t : Int) : wZ k (s * a) (s * b) (s * c) (t * d) (t * e) (t * g) = s * s * (t * t) * wZ k a b c d e g := by
 unfold wZ wyz wle wxy wnn wyy wsi wxz wz3 wxx wzz; grind
theorem root_sc {X w : Int} (hw : ¬ C1 w 0) (h : C1 (X * X * X - 3 * X * (w * w) + wB * (w * w * w)) 0) (hs : ∃ v, w = v * v) : False := by
 have hm := modN_pos 1
 have hc := czN_cz hm w
 have hlt : czN (modN 1) w < modN 1 := by
  unfold czN
  have := Int.emod_lt_of_pos w (show (0 : Int) < (modN 1 : Int) by omega)
  have := Int.emod_nonneg w (show ((modN 1 : Nat) : Int) ≠ 0 by omega)
  omega
 have hi := inv_cz (k := 1) (by decide) hlt (fun h0 => hw (hc.symm.trans h0))
 generalize (invP 1 (czN (modN 1) w) : Int) = i at *
 have hwi : C1 (w * i) 1 := (hc.symm.mul (Cz.refl _ i)).trans hi
 have h2 : C1 (w * i * (w * i)) 1 := (hwi.mul hwi).trans (Cz.of_eq (by omega))
 have h3 : C1 (w * i * (w * i) * (w * i)) 1 := (h2.mul hwi).trans (Cz.of_eq (by omega))
 exact no_root (t := X * i) (h.lc3 h2 h3 (i * i * i) (3 * X * i) (-(wB : Int)) (by grind))
theorem sum_nz {x1 y1 x2 y2 : Int} (h1 : OnW x1 y1) (h2 : OnW x2 y2) : ¬ C1 (wZ wB x1 y1 1 x2 y2 1) 0 ∨ (C1 (wX wB x1 y1 1 x2 y2 1) 0 ∧ ¬ C1 (wY wB x1 y1 1 x2 y2 1) 0 ∧ C1 (wZ wB x1 y1 1 x2 y2 1) 0) := by
 by_cases hx : C1 (x1 - x2) 0
 ·have hy : C1 ((y1 - y2) * (y1 + y2)) 0 := by
   unfold OnW at h1 h2
   exact h1.lc3 h2 hx 1 (-1) (x1 * x1 + x1 * x2 + x2 * x2 - 3) (by grind)
  rcases cz_euclid pr1 hy with hy | hy
  ·left
   have h6 : Six (modN 1) x1 y1 1 x2 y2 1 x1 y1 1 x1 y1 1 := ⟨Cz.refl _ _, Cz.refl _ _, Cz.refl _ _, hx.lc1 (-1) (by omega), hy.lc1 (-1) (by omega), Cz.refl _ _⟩
   intro h0
   have h8 : C1 (wZ wB x1 y1 1 x1 y1 1 - 8 * (y1 * y1 * y1)) 0 := idD (x2 := x1) (y2 := y1) h1 h1
   have h9 := (cwZ (k := wB) h6).symm.trans h0
   have hy1 := y_ne h1
   have h10 := mul_ne1 (mul_ne1 two_ne1 (mul_ne1 two_ne1 two_ne1)) (mul_ne1 (mul_ne1 hy1 hy1) hy1)
   exact h10 (h8.lc2 h9 (-1) 1 (by grind))
  ·right
   have h6 : Six (modN 1) x1 y1 1 x2 y2 1 x1 y1 1 x1 (0 - y1) 1 := ⟨Cz.refl _ _, Cz.refl _ _, Cz.refl _ _, hx.lc1 (-1) (by omega), hy.lc1 1 (by omega), Cz.refl _ _⟩
   have eX : wX wB x1 y1 1 x1 (0 - y1) 1 = 0 := by unfold wX wxy wri wyz wmm wyy wsi wxz wz3 wxx wzz; grind
   have eZ : wZ wB x1 y1 1 x1 (0 - y1) 1 = 0 := by unfold wZ wyz wle wxy wnn wyy wsi wxz wz3 wxx wzz; grind
   refine ⟨(cwX h6).trans (Cz.of_eq eX), ?_, (cwZ h6).trans (Cz.of_eq eZ)⟩
   intro h0
   have h8 := idO (m := modN 1) (x2 := x1) (y2 := y1) h1 h1
   have h9 := idM (m := modN 1) (x2 := x1) (y2 := y1) h1 h1
   have h10 := (cwY (k := wB) h6).symm.trans h0
   generalize wY wB x1 y1 1 x1 (0 - y1) 1 = V at *
   have hw := mul_ne1 (mul_ne1 two_ne1 (y_ne h1)) (mul_ne1 two_ne1 (y_ne h1))
   generalize ((3 * (x1 * x1) - 3) * (x1 * (2 * y1 * (2 * y1)) - ((3 * (x1 * x1) - 3) * (3 * (x1 * x1) - 3) - 2 * x1 * (2 * y1 * (2 * y1)))) - y1 * (2 * y1 * (2 * y1) * (2 * y1))) = N at *
   have hN : C1 N 0 := Cz.lc2 (m := modN 1) h8 h10 (-1) 1 (by grind)
   refine root_sc (X := (3 * (x1 * x1) - 3) * (3 * (x1 * x1) - 3) - 2 * x1 * (2 * y1 * (2 * y1))) hw ?_ ⟨_, rfl⟩
   exact Cz.lc2 (m := modN 1) h9 hN (-1) N (by grind)
 ·left
  intro h0
  have h8 := idZ (m := modN 1) h1 h2
  have h9 := idN (m := modN 1) h1 h2
  have hw := mul_ne1 hx hx
  generalize wZ wB x1 y1 1 x2 y2 1 = V at *
  generalize ((y1 + y2) * (x1 * ((x1 - x2) * (x1 - x2)) - ((y1 + y2) * (y1 + y2) - (x1 + x2) * ((x1 - x2) * (x1 - x2)))) - y1 * ((x1 - x2) * (x1 - x2) * (x1 - x2))) = N at *
  have hN : C1 N 0 := Cz.lc2 (m := modN 1) h8 h0 1 (-1) (by grind)
  refine root_sc (X := (y1 + y2) * (y1 + y2) - (x1 + x2) * ((x1 - x2) * (x1 - x2))) hw ?_ ⟨_, rfl⟩
  exact Cz.lc2 (m := modN 1) h9 hN (-1) N (by grind)
end Go.Ev

namespace Go.Ev
open Go Go.Proofs Go.RowKit Go.NT
abbrev PtI := Option (Int × Int)
def OnO : PtI → Prop
 | none => True
 | some p => OnW p.1 p.2
def EqO : PtI → PtI → Prop
 | none, none => True
 | some p, some q => C1 p.1 q.1 ∧ C1 p.2 q.2
 | _, _ => False
def RepW (X Y Z : Int) : PtI → Prop
 | none => C1 X 0 ∧ ¬ C1 Y 0 ∧ C1 Z 0
 | some p => ¬ C1 Z 0 ∧ C1 X (p.1 * Z) ∧ C1 Y (p.2 * Z)
theorem EqO.symm {p q : PtI} (h : EqO p q) : EqO q p := by
 cases p <;> cases q <;> first | trivial | exact h.elim | exact ⟨h.1.symm, h.2.symm⟩
theorem EqO.trans {p q r : PtI} (h : EqO p q) (h' : EqO q r) : EqO p r := by
 cases p <;> cases q <;> cases r <;> first | trivial | exact h.elim | exact h'.elim | exact ⟨h.1.trans h'.1, h.2.trans h'.2⟩
theorem EqO.refl (p : PtI) : EqO p p := by
 cases p <;> first | trivial | exact ⟨Cz.refl _ _, Cz.refl _ _⟩
theorem rep_uniq {X Y Z X' Y' Z' : Int} {p q : PtI} (h : RepW X Y Z p) (h' : RepW X' Y' Z' q) (hx : C1 (X * Z') (Z * X')) (hy : C1 (Y * Z') (Z * Y')) : EqO p q := by
 cases p with
 | none =>
  obtain ⟨_, h2, h3⟩ := h
  cases q with
  | none => trivial
  | some q =>
   obtain ⟨g1, _, _⟩ := h'
   exact absurd (hy.lc2 h3 1 Y' (by grind)) (mul_ne1 h2 g1)
 | some p =>
  obtain ⟨h1, h2, h3⟩ := h
  cases q with
  | none =>
   obtain ⟨_, g2, g3⟩ := h'
   exact absurd (hy.lc2 g3 (-1) Y (by grind)) (mul_ne1 h1 g2)
  | some q =>
   obtain ⟨g1, g2, g3⟩ := h'
   have hz := mul_ne1 h1 g1
   exact ⟨cz_cancel pr1 (a := Z * Z') (hx.lc3 h2 g2 1 (-Z') Z (by grind)) hz, cz_cancel pr1 (a := Z * Z') (hy.lc3 h3 g3 1 (-Z') Z (by grind)) hz⟩
def cX : PtI → Int
 | none => 0
 | some p => p.1
def cY : PtI → Int
 | none => 1
 | some p => p.2
def cZ : PtI → Int
 | none => 0
 | some _ => 1
theorem rep_canon (p : PtI) : RepW (cX p) (cY p) (cZ p) p := by
 cases p with
 | none => exact ⟨Cz.refl _ _, one_ne1, Cz.refl _ _⟩
 | some p => exact ⟨one_ne1, Cz.of_eq (by show p.1 = p.1 * 1; omega), Cz.of_eq (by show p.2 = p.2 * 1; omega)⟩
theorem canon_eq {p q : PtI} (h : EqO p q) : C1 (cX p) (cX q) ∧ C1 (cY p) (cY q) ∧ C1 (cZ p) (cZ q) := by
 cases p <;> cases q <;> first | exact h.elim | exact ⟨Cz.refl _ _, Cz.refl _ _, Cz.refl _ _⟩ | exact ⟨h.1, h.2, Cz.refl _ _⟩
theorem cY_ne {p : PtI} (h : OnO p) : ¬ C1 (cY p) 0 := by
 cases p with
 | none => exact one_ne1
 | some p => exact y_ne h
theorem rep_scale {X Y Z : Int} {p : PtI} (h : RepW X Y Z p) : ∃ s, ¬ C1 s 0 ∧ C1 X (s * cX p) ∧ C1 Y (s * cY p) ∧ C1 Z (s * cZ p) := by
 cases p with
 | none =>
  obtain ⟨h1, h2, h3⟩ := h
  exact ⟨Y, h2, h1.trans (Cz.of_eq (by show 0 = Y * 0; omega)), Cz.of_eq (by show Y = Y * 1; omega), h3.trans (Cz.of_eq (by show 0 = Y * 0; omega))⟩
 | some p =>
  obtain ⟨h1, h2, h3⟩ := h
  exact ⟨Z, h1, h2.trans (Cz.of_eq (Int.mul_comm _ _)), h3.trans (Cz.of_eq (Int.mul_comm _ _)), Cz.of_eq (by show Z = Z * 1; omega)⟩
theorem rep_mul {X Y Z X' Y' Z' s : Int} {r : PtI} (hs : ¬ C1 s 0) (h : RepW X Y Z r) (hx : C1 X' (s * X)) (hy : C1 Y' (s * Y)) (hz : C1 Z' (s * Z)) : RepW X' Y' Z' r := by
 cases r with
 | none =>
  obtain ⟨h1, h2, h3⟩ := h
  exact ⟨hx.lc2 h1 1 s (by grind), fun h0 => mul_ne1 hs h2 (hy.symm.trans h0), hz.lc2 h3 1 s (by grind)⟩
 | some p =>
  obtain ⟨h1, h2, h3⟩ := h
  exact ⟨fun h0 => mul_ne1 hs h1 (hz.symm.trans h0), hx.lc3 h2 hz 1 s (-p.1) (by grind), hy.lc3 h3 hz 1 s (-p.2) (by grind)⟩
def tX (p q : PtI) : Int := wX wB (cX p) (cY p) (cZ p) (cX q) (cY q) (cZ q)
def tY (p q : PtI) : Int := wY wB (cX p) (cY p) (cZ p) (cX q) (cY q) (cZ q)
def tZ (p q : PtI) : Int := wZ wB (cX p) (cY p) (cZ p) (cX q) (cY q) (cZ q)
def IsS (p q r : PtI) : Prop := RepW (tX p q) (tY p q) (tZ p q) r
theorem rep_wadd {X1 Y1 Z1 X2 Y2 Z2 : Int} {p q r : PtI} (hp : RepW X1 Y1 Z1 p) (hq : RepW X2 Y2 Z2 q) (h : IsS p q r) : RepW (wX wB X1 Y1 Z1 X2 Y2 Z2) (wY wB X1 Y1 Z1 X2 Y2 Z2) (wZ wB X1 Y1 Z1 X2 Y2 Z2) r := by
 obtain ⟨s, s0, s1, s2, s3⟩ := rep_scale hp
 obtain ⟨t, t0, t1, t2, t3⟩ := rep_scale hq
 have h6 : Six (modN 1) X1 Y1 Z1 X2 Y2 Z2 _ _ _ _ _ _ := ⟨s1, s2, s3, t1, t2, t3⟩
 exact rep_mul (mul_ne1 (mul_ne1 s0 s0) (mul_ne1 t0 t0)) h ((cwX h6).trans (Cz.of_eq (sX _ _ _ _ _ _ _ _ _))) ((cwY h6).trans (Cz.of_eq (sY _ _ _ _ _ _ _ _ _))) ((cwZ h6).trans (Cz.of_eq (sZ _ _ _ _ _ _ _ _ _)))
theorem isS_uniq {p q r r' : PtI} (h : IsS p q r) (h' : IsS p q r') : EqO r r' := rep_uniq h h' (Cz.of_eq (Int.mul_comm _ _)) (Cz.of_eq (Int.mul_comm _ _))
theorem isS_comm {p q r : PtI} (h : IsS p q r) : IsS q p r := by
 have e1 : tX q p = tX p q := by unfold tX wX wxy wri wyz wmm wyy wsi wxz wz3 wxx wzz; grind
 have e2 : tY q p = tY p q := by unfold tY wY wri wle wnn wmm wyy wsi wxz wz3 wxx wzz; grind
 have e3 : tZ q p = tZ p q := by unfold tZ wZ wyz wle wxy wnn wyy wsi wxz wz3 wxx wzz; grind
 unfold IsS at *
 rw [e1, e2, e3]; exact h
theorem isS_cong {p q p' q' r : PtI} (h : IsS p q r) (hp : EqO p p') (hq : EqO q q') : IsS p' q' r := by
 obtain ⟨a1, a2, a3⟩ := canon_eq hp
 obtain ⟨b1, b2, b3⟩ := canon_eq hq
 have h6 : Six (modN 1) (cX p') (cY p') (cZ p') (cX q') (cY q') (cZ q') (cX p) (cY p) (cZ p) (cX q) (cY q) (cZ q) := ⟨a1.symm, a2.symm, a3.symm, b1.symm, b2.symm, b3.symm⟩
 exact rep_mul one_ne1 h ((cwX h6).trans (Cz.of_eq (by show tX p q = 1 * tX p q; omega))) ((cwY h6).trans (Cz.of_eq (by show tY p q = 1 * tY p q; omega))) ((cwZ h6).trans (Cz.of_eq (by show tZ p q = 1 * tZ p q; omega)))
theorem isS_none {q : PtI} (hq : OnO q) : IsS none q q := by
 refine rep_mul (cY_ne hq) (rep_canon q) (Cz.of_eq ?_) (Cz.of_eq ?_) (Cz.of_eq ?_)
 ·unfold tX wX wxy wri wyz wmm wyy wsi wxz wz3 wxx wzz; simp only [show cX none = 0 from rfl, show cY none = 1 from rfl, show cZ none = 0 from rfl]; grind
 ·unfold tY wY wri wle wnn wmm wyy wsi wxz wz3 wxx wzz; simp only [show cX none = 0 from rfl, show cY none = 1 from rfl, show cZ none = 0 from rfl]; grind
 ·unfold tZ wZ wyz wle wxy wnn wyy wsi wxz wz3 wxx wzz; simp only [show cX none = 0 from rfl, show cY none = 1 from rfl, show cZ none = 0 from rfl]; grind
theorem isS_ex {p q : PtI} (hp : OnO p) (hq : OnO q) : ∃ r, IsS p q r ∧ OnO r := by
 cases p with
 | none => exact ⟨q, isS_none hq, hq⟩
 | some p =>
  cases q with
  | none => exact ⟨some p, isS_comm (isS_none (q := some p) hp), hp⟩
  | some q =>
   rcases sum_nz hp hq with h | h
   ·have hc := idC (m := modN 1) (x1 := p.1) (y1 := p.2) (x2 := q.1) (y2 := q.2) (b := wB) hp hq
    have hm := modN_pos 1
    have hk := czN_cz hm (tZ (some p) (some q))
    have hlt : czN (modN 1) (tZ (some p) (some q)) < modN 1 := by
     unfold czN
     have := Int.emod_lt_of_pos (tZ (some p) (some q)) (show (0 : Int) < (modN 1 : Int) by omega)
     have := Int.emod_nonneg (tZ (some p) (some q)) (show ((modN 1 : Nat) : Int) ≠ 0 by omega)
     omega
    have hi := inv_cz (k := 1) (by decide) hlt (fun h0 => h (hk.symm.trans h0))
    generalize (invP 1 (czN (modN 1) (tZ (some p) (some q))) : Int) = i at *
    have hzi : C1 (tZ (some p) (some q) * i) 1 := (hk.symm.mul (Cz.refl _ i)).trans hi
    change Cg' (modN 1) (tY (some p) (some q) * tY (some p) (some q) * tZ (some p) (some q) - (tX (some p) (some q) * tX (some p) (some q) * tX (some p) (some q) - 3 * tX (some p) (some q) * (tZ (some p) (some q) * tZ (some p) (some q)) + wB * (tZ (some p) (some q) * tZ (some p) (some q) * tZ (some p) (some q)))) 0 at hc
    change ¬ C1 (tZ (some p) (some q)) 0 at h
    refine ⟨some (tX (some p) (some q) * i, tY (some p) (some q) * i), ⟨h, ?_, ?_⟩, ?_⟩
    ·exact hzi.lc1 (-(tX (some p) (some q))) (by show tX (some p) (some q) - tX (some p) (some q) * i * tZ (some p) (some q) = _; grind)
    ·exact hzi.lc1 (-(tY (some p) (some q))) (by show tY (some p) (some q) - tY (some p) (some q) * i * tZ (some p) (some q) = _; grind)
    ·show OnW (tX (some p) (some q) * i) (tY (some p) (some q) * i)
     unfold OnW
     generalize tX (some p) (some q) = X at *
     generalize tY (some p) (some q) = Y at *
     generalize tZ (some p) (some q) = Z at *
     have h2 : C1 (Z * i * (Z * i)) 1 := (hzi.mul hzi).trans (Cz.of_eq (by omega))
     have h3 : C1 (Z * i * (Z * i) * (Z * i)) 1 := (h2.mul hzi).trans (Cz.of_eq (by omega))
     exact Cz.lc4 (m := modN 1) hc hzi h2 h3 (i * i * i) (-(Y * Y * i * i)) (-(3 * X * i)) (wB : Int) (by grind)
   ·exact ⟨none, h, trivial⟩
theorem isS_assoc {p q s a b c d : PtI} (hp : OnO p) (hq : OnO q) (hs : OnO s) (h1 : IsS p q a) (h2 : IsS a s b) (h3 : IsS q s c) (h4 : IsS p c d) (oc : OnO c) (oa : OnO a) : EqO b d := by
 cases p with
 | none =>
  have e1 := isS_uniq h1 (isS_none hq)
  have e2 := isS_uniq h4 (isS_none oc)
  have h5 := isS_cong h2 e1 (EqO.refl s)
  exact (isS_uniq h5 h3).trans e2.symm
 | some p =>
  cases q with
  | none =>
   have e1 := isS_uniq (isS_comm h1) (isS_none (q := some p) hp)
   have e2 := isS_uniq h3 (isS_none hs)
   exact isS_uniq (isS_cong h2 e1 (EqO.refl s)) (isS_cong h4 (EqO.refl _) e2)
  | some q =>
   cases s with
   | none =>
    have e1 := isS_uniq (isS_comm h2) (isS_none oa)
    have e2 := isS_uniq (isS_comm h3) (isS_none (q := some q) hq)
    exact e1.trans (isS_uniq h1 (isS_cong h4 (EqO.refl _) e2))
   | some s =>
    have r1 := rep_wadd h1 (rep_canon (some s)) h2
    have r2 := rep_wadd (rep_canon (some p)) h3 h4
    have k1 := assoc_xz (m := modN 1) (x1 := p.1) (y1 := p.2) (x2 := q.1) (y2 := q.2) (x3 := s.1) (y3 := s.2) (b := wB) hp hq hs
    have k2 := assoc_yz (m := modN 1) (x1 := p.1) (y1 := p.2) (x2 := q.1) (y2 := q.2) (x3 := s.1) (y3 := s.2) (b := wB) hp hq hs
    exact rep_uniq r1 r2 (Cz.lc1 (m := modN 1) k1 1 (by
     simp only [tX, tY, tZ, cX, cY, cZ]
     omega)) (Cz.lc1 (m := modN 1) k2 1 (by
     simp only [tX, tY, tZ, cX, cY, cZ]
     omega))
theorem isS_neg {x y : Int} (h : OnW x y) : IsS (some (x, y)) (some (x, 0 - y)) none := by
 have h' : OnW x (0 - y) := by
  unfold OnW at *
  exact h.lc1 1 (by grind)
 have eZ : wZ wB x y 1 x (0 - y) 1 = 0 := by unfold wZ wyz wle wxy wnn wyy wsi wxz wz3 wxx wzz; grind
 rcases sum_nz h h' with h0 | h0
 ·exact absurd (Cz.of_eq eZ) h0
 ·exact h0
end Go.Ev

namespace Go.NT
def psJX : List SOp := [.c 1, .c 3, .mul 2 4, .mul 4 6, .mul 3 3, .mul 5 8, .mul 7 8, .add 1 0, .mul 9 7, .mul 8 12, .add 1 0, .mul 11 10, .mul 11 14, .add 1 0, .mul 20 9, .sub 1 0, .mul 14 0, .sub 13 0, .add 14 1, .mul 17 14, .mul 26 6, .sub 0 1, .sub 0 19, .mul 21 0, .mul 22 21, .sub 0 5, .mul 18 7, .mul 16 3, .sub 1 0, .mul 10 11, .mul 4 6, .add 1 0, .mul 21 14, .mul 25 7, .add 1 0, .sub 37 35, .sub 39 37, .mul 1 1, .mul 0 2, .mul 39 1, .mul 3 3, .sub 0 2, .c 2, .mul 0 3, .sub 2 0, .sub 5 0, .mul 9 0, .mul 48 8, .sub 1 0, .mul 20 11, .mul 5 15, .sub 1 0]
theorem zJX : zTest W2 psJX 0 = true := by decide +kernel
theorem bJX : bTest W2 psJX 0 = true := by decide +kernel
theorem idJX {m : Nat} {x1 y1 x2 y2 b : Int} (h1 : Cg' m (y1 * y1) (x1 * x1 * x1 - 3 * x1 + b)) (h2 : Cg' m (y2 * y2) (x2 * x2 * x2 - 3 * x2 + b)) :
  Cg' m ((wX b x1 y1 1 x2 y2 1) * ((x2 - x1) * (x2 - x1)) - ((y2 - y1) * (y2 - y1) - (((x2 - x1) * (x2 - x1)) * (x2 - x1)) - 2 * (x1 * ((x2 - x1) * (x2 - x1)))) * (wZ b x1 y1 1 x2 y2 1)) 0 := slp_zero (W4_pos _ _ _ _) zJX bJX h1 h2 h1
def psJY : List SOp := [.c 1, .c 3, .mul 2 4, .mul 4 6, .mul 3 3, .mul 5 8, .mul 7 8, .add 1 0, .mul 9 7, .mul 8 12, .add 1 0, .mul 11 10, .mul 11 14, .add 1 0, .mul 20 9, .sub 1 0, .mul 14 0, .sub 13 0, .add 14 1, .mul 17 14, .mul 26 6, .sub 0 1, .sub 0 19, .mul 21 0, .mul 22 21, .sub 0 5, .mul 18 7, .mul 16 3, .sub 1 0, .mul 10 11, .mul 4 6, .add 1 0, .mul 21 14, .mul 25 7, .add 1 0, .sub 37 35, .sub 39 37, .mul 1 1, .mul 0 2, .mul 39 1, .mul 3 3, .sub 0 2, .c 2, .mul 0 3, .sub 2 0, .sub 5 0, .mul 9 0, .mul 48 8, .sub 1 0, .mul 17 10, .mul 1 15, .sub 1 0]
theorem zJY : zTest W2 psJY 0 = true := by decide +kernel
theorem bJY : bTest W2 psJY 0 = true := by decide +kernel
theorem idJY {m : Nat} {x1 y1 x2 y2 b : Int} (h1 : Cg' m (y1 * y1) (x1 * x1 * x1 - 3 * x1 + b)) (h2 : Cg' m (y2 * y2) (x2 * x2 * x2 - 3 * x2 + b)) :
  Cg' m ((wY b x1 y1 1 x2 y2 1) * (((x2 - x1) * (x2 - x1)) * (x2 - x1)) - ((y2 - y1) * ((x1 * ((x2 - x1) * (x2 - x1))) - ((y2 - y1) * (y2 - y1) - (((x2 - x1) * (x2 - x1)) * (x2 - x1)) - 2 * (x1 * ((x2 - x1) * (x2 - x1))))) - y1 * (((x2 - x1) * (x2 - x1)) * (x2 - x1))) * (wZ b x1 y1 1 x2 y2 1)) 0 := slp_zero (W4_pos _ _ _ _) zJY bJY h1 h2 h1
def psTX : List SOp := [.c 1, .c 3, .mul 2 2, .mul 4 4, .mul 3 3, .mul 5 6, .mul 7 6, .add 1 0, .mul 9 7, .mul 8 10, .add 1 0, .mul 11 10, .mul 11 12, .add 1 0, .mul 20 9, .sub 1 0, .mul 14 0, .sub 13 0, .add 14 1, .mul 17 14, .mul 26 6, .sub 0 1, .sub 0 19, .mul 21 0, .mul 22 21, .sub 0 5, .mul 18 7, .mul 16 3, .sub 1 0, .mul 10 11, .mul 4 6, .add 1 0, .mul 21 14, .mul 25 7, .add 1 0, .mul 36 36, .c 4, .mul 37 1, .mul 1 0, .sub 39 38, .add 40 39, .mul 1 0, .mul 40 0, .mul 0 0, .c 2, .mul 0 6, .sub 2 0, .sub 8 0, .mul 5 0, .c 8, .mul 14 14, .mul 1 0, .sub 3 0, .mul 8 54, .mul 0 7, .sub 26 0]
theorem zTX : zTest W2 psTX 0 = true := by decide +kernel
theorem bTX : bTest W2 psTX 0 = true := by decide +kernel
theorem idTX {m : Nat} {x1 y1 x2 y2 b : Int} (h1 : Cg' m (y1 * y1) (x1 * x1 * x1 - 3 * x1 + b)) (h2 : Cg' m (y2 * y2) (x2 * x2 * x2 - 3 * x2 + b)) :
  Cg' m (wX b x1 y1 1 x1 y1 1 - 2 * y1 * ((3 * ((x1 - 1) * (x1 + 1))) * (3 * ((x1 - 1) * (x1 + 1))) - 2 * (4 * (x1 * (y1 * y1))))) 0 := slp_zero (W4_pos _ _ _ _) zTX bTX h1 h2 h1
def psTY : List SOp := [.c 1, .c 3, .mul 2 2, .mul 4 4, .mul 3 3, .mul 5 6, .mul 7 6, .add 1 0, .mul 9 7, .mul 8 10, .add 1 0, .mul 11 10, .mul 11 12, .add 1 0, .mul 20 9, .sub 1 0, .mul 14 0, .sub 13 0, .add 14 1, .mul 17 14, .mul 26 6, .sub 0 1, .sub 0 19, .mul 21 0, .mul 22 21, .sub 0 5, .mul 18 7, .mul 16 3, .sub 1 0, .mul 10 11, .mul 4 6, .add 1 0, .mul 21 14, .mul 25 7, .add 1 0, .mul 36 36, .c 4, .mul 37 1, .mul 1 0, .sub 39 38, .add 40 39, .mul 1 0, .mul 40 0, .mul 0 0, .c 2, .mul 0 6, .sub 2 0, .sub 8 0, .mul 5 0, .c 8, .mul 14 14, .mul 1 0, .sub 3 0, .sub 21 0]
theorem zTY : zTest W2 psTY 0 = true := by decide +kernel
theorem bTY : bTest W2 psTY 0 = true := by decide +kernel
theorem idTY {m : Nat} {x1 y1 x2 y2 b : Int} (h1 : Cg' m (y1 * y1) (x1 * x1 * x1 - 3 * x1 + b)) (h2 : Cg' m (y2 * y2) (x2 * x2 * x2 - 3 * x2 + b)) :
  Cg' m (wY b x1 y1 1 x1 y1 1 - ((3 * ((x1 - 1) * (x1 + 1))) * ((4 * (x1 * (y1 * y1))) - ((3 * ((x1 - 1) * (x1 + 1))) * (3 * ((x1 - 1) * (x1 + 1))) - 2 * (4 * (x1 * (y1 * y1))))) - 8 * (y1 * y1 * (y1 * y1)))) 0 := slp_zero (W4_pos _ _ _ _) zTY bTY h1 h2 h1
end Go.NT

namespace Go.Ev
open Go Go.Proofs Go.RowKit Go.NT
def RepJ (X Y Z : Int) : PtI → Prop
 | none => C1 Z 0
 | some p => ¬ C1 Z 0 ∧ C1 X (p.1 * (Z * Z)) ∧ C1 Y (p.2 * (Z * Z * Z))
def jdM (X Z : Int) : Int := 3 * ((X - Z * Z) * (X + Z * Z))
def jdS (X Y : Int) : Int := 4 * (X * (Y * Y))
def jdX (X Y Z : Int) : Int := jdM X Z * jdM X Z - 2 * jdS X Y
def jdY (X Y Z : Int) : Int := jdM X Z * (jdS X Y - jdX X Y Z) - 8 * (Y * Y * (Y * Y))
def jdZ (Y Z : Int) : Int := 2 * (Y * Z)
def jcX (u s t v : Int) : Int := (v - t) * (v - t) - (s - u) * (s - u) * (s - u) - 2 * (u * ((s - u) * (s - u)))
def jcY (u s t v : Int) : Int := (v - t) * (u * ((s - u) * (s - u)) - jcX u s t v) - t * ((s - u) * (s - u) * (s - u))
theorem jdX_sc (x y Z : Int) : jdX (x * (Z * Z)) (y * (Z * Z * Z)) Z = Z * Z * (Z * Z) * (Z * Z * (Z * Z)) * jdX x y 1 := by
 unfold jdX jdM jdS; grind
theorem jdY_sc (x y Z : Int) : jdY (x * (Z * Z)) (y * (Z * Z * Z)) Z = Z * Z * (Z * Z) * (Z * Z * (Z * Z)) * (Z * Z * (Z * Z)) * jdY x y 1 := by
 unfold jdY jdX jdM jdS; grind
theorem jcX_sc (u s t v w : Int) : jcX (u * (w * w)) (s * (w * w)) (t * (w * w * w)) (v * (w * w * w)) = w * w * w * (w * w * w) * jcX u s t v := by
 unfold jcX; grind
theorem jcY_sc (u s t v w : Int) : jcY (u * (w * w)) (s * (w * w)) (t * (w * w * w)) (v * (w * w * w)) = w * w * w * (w * w * w) * (w * w * w) * jcY u s t v := by
 unfold jcY jcX; grind
section
variable {m : Nat} {a b c d a' b' c' d' : Int} (ha : Cz m a a') (hb : Cz m b b')
include ha hb
theorem jdX_c (Z : Int) : Cz m (jdX a b Z) (jdX a' b' Z) := by
 have h1 : Cz m (jdM a Z) (jdM a' Z) := (Cz.refl m 3).mul ((ha.sub (Cz.refl _ _)).mul (ha.add (Cz.refl _ _)))
 have h2 : Cz m (jdS a b) (jdS a' b') := (Cz.refl m 4).mul (ha.mul (hb.mul hb))
 exact (h1.mul h1).sub ((Cz.refl m 2).mul h2)
theorem jdY_c (Z : Int) : Cz m (jdY a b Z) (jdY a' b' Z) := by
 have h1 : Cz m (jdM a Z) (jdM a' Z) := (Cz.refl m 3).mul ((ha.sub (Cz.refl _ _)).mul (ha.add (Cz.refl _ _)))
 have h2 : Cz m (jdS a b) (jdS a' b') := (Cz.refl m 4).mul (ha.mul (hb.mul hb))
 exact (h1.mul (h2.sub (jdX_c ha hb Z))).sub ((Cz.refl m 8).mul ((hb.mul hb).mul (hb.mul hb)))
variable (hc : Cz m c c') (hd : Cz m d d')
include hc hd
theorem jcX_c : Cz m (jcX a b c d) (jcX a' b' c' d') := by
 have h := hb.sub ha
 have k := hd.sub hc
 exact ((k.mul k).sub ((h.mul h).mul h)).sub ((Cz.refl m 2).mul (ha.mul (h.mul h)))
theorem jcY_c : Cz m (jcY a b c d) (jcY a' b' c' d') := by
 have h := hb.sub ha
 have k := hd.sub hc
 exact (k.mul ((ha.mul (h.mul h)).sub (jcX_c ha hb hc hd))).sub (hc.mul ((h.mul h).mul h))
end
theorem repJ_dbl {X Y Z : Int} {p r : PtI} (h : RepJ X Y Z p) (hz : ¬ C1 Z 0) (ho : OnO p) (hs : IsS p p r) : RepJ (jdX X Y Z) (jdY X Y Z) (jdZ Y Z) r := by
 cases p with
 | none => exact absurd h hz
 | some p =>
  obtain ⟨x, y⟩ := p
  obtain ⟨_, hX, hY⟩ := h
  change C1 X (x * (Z * Z)) at hX
  change C1 Y (y * (Z * Z * Z)) at hY
  have ho' : OnW x y := ho
  have hy := y_ne ho'
  have h1 : C1 (tX (some (x, y)) (some (x, y)) - 2 * y * jdX x y 1) 0 := Cz.lc1 (m := modN 1) (idTX (m := modN 1) (x2 := x) (y2 := y) (b := wB) ho' ho') 1 (by unfold jdX jdM jdS tX cX cY cZ; grind)
  have h2 : C1 (tY (some (x, y)) (some (x, y)) - jdY x y 1) 0 := Cz.lc1 (m := modN 1) (idTY (m := modN 1) (x2 := x) (y2 := y) (b := wB) ho' ho') 1 (by unfold jdY jdX jdM jdS tY cX cY cZ; grind)
  have h3 : C1 (tZ (some (x, y)) (some (x, y)) - 8 * (y * y * y)) 0 := idD (m := modN 1) (x2 := x) (y2 := y) (b := wB) ho' ho'
  have h8 : ¬ C1 (8 * (y * y * y)) 0 := fun h0 => mul_ne1 (mul_ne1 two_ne1 (mul_ne1 two_ne1 two_ne1)) (mul_ne1 (mul_ne1 hy hy) hy) (h0.lc1 1 (by omega))
  unfold IsS at hs
  generalize tX (some (x, y)) (some (x, y)) = A at *
  generalize tY (some (x, y)) (some (x, y)) = B at *
  generalize tZ (some (x, y)) (some (x, y)) = C at *
  cases r with
  | none => exact absurd (hs.2.2.lc2 h3 1 (-1) (by omega)) h8
  | some r =>
   obtain ⟨_, g1, g2⟩ := hs
   have k1 : C1 (jdX x y 1) (r.1 * (4 * (y * y))) := by
    refine cz_cancel pr1 (a := 2 * y) ?_ (mul_ne1 two_ne1 hy)
    exact h1.lc3 g1 h3 (-1) 1 r.1 (by grind)
   have k2 : C1 (jdY x y 1) (r.2 * (8 * (y * y * y))) := h2.lc3 g2 h3 (-1) 1 r.2 (by grind)
   have hz2 : C1 (jdZ Y Z) (2 * y * (Z * Z * (Z * Z))) := hY.lc1 (2 * Z) (by unfold jdZ; grind)
   refine ⟨fun h0 => mul_ne1 (mul_ne1 two_ne1 hy) (mul_ne1 (mul_ne1 hz hz) (mul_ne1 hz hz)) (hz2.symm.trans h0), ?_, ?_⟩
   ·refine ((jdX_c hX hY Z).trans (Cz.of_eq (jdX_sc x y Z))).trans ?_
    exact k1.lc2 (hz2.mul hz2) (Z * Z * (Z * Z) * (Z * Z * (Z * Z))) (-r.1) (by grind)
   ·refine ((jdY_c hX hY Z).trans (Cz.of_eq (jdY_sc x y Z))).trans ?_
    exact k2.lc2 ((hz2.mul hz2).mul hz2) (Z * Z * (Z * Z) * (Z * Z * (Z * Z)) * (Z * Z * (Z * Z))) (-r.2) (by grind)
theorem repJ_chord {u s t v w x1 y1 x2 y2 : Int} {r : PtI} (hw : ¬ C1 w 0) (hu : C1 u (x1 * (w * w))) (hs : C1 s (x2 * (w * w))) (ht : C1 t (y1 * (w * w * w))) (hv : C1 v (y2 * (w * w * w)))
  (o1 : OnW x1 y1) (o2 : OnW x2 y2) (hne : ¬ C1 u s) (h : IsS (some (x1, y1)) (some (x2, y2)) r) : RepJ (jcX u s t v) (jcY u s t v) ((s - u) * w) r := by
 have hx : ¬ C1 (x2 - x1) 0 := fun h0 => hne (hu.lc3 hs h0 1 (-1) (-(w * w)) (by grind))
 have h1 : C1 (tX (some (x1, y1)) (some (x2, y2)) * ((x2 - x1) * (x2 - x1)) - jcX x1 x2 y1 y2 * tZ (some (x1, y1)) (some (x2, y2))) 0 := idJX (m := modN 1) (b := wB) o1 o2
 have h2 : C1 (tY (some (x1, y1)) (some (x2, y2)) * ((x2 - x1) * (x2 - x1) * (x2 - x1)) - jcY x1 x2 y1 y2 * tZ (some (x1, y1)) (some (x2, y2))) 0 := idJY (m := modN 1) (b := wB) o1 o2
 unfold IsS at h
 generalize tX (some (x1, y1)) (some (x2, y2)) = A at *
 generalize tY (some (x1, y1)) (some (x2, y2)) = B at *
 generalize tZ (some (x1, y1)) (some (x2, y2)) = C at *
 generalize hH : x2 - x1 = H at *
 have hsu : C1 (s - u) (H * (w * w)) := (hs.sub hu).trans (Cz.of_eq (by grind))
 cases r with
 | none =>
  obtain ⟨_, g1, g2⟩ := h
  have h3 : C1 (B * (H * H * H)) 0 := h2.lc2 g2 1 (jcY x1 x2 y1 y2) (by grind)
  exact absurd h3 (mul_ne1 g1 (mul_ne1 (mul_ne1 hx hx) hx))
 | some r =>
  obtain ⟨g0, g1, g2⟩ := h
  have k1 : C1 (jcX x1 x2 y1 y2) (r.1 * (H * H)) := by
   refine cz_cancel pr1 (a := C) ?_ g0
   exact h1.lc2 g1 (-1) (H * H) (by grind)
  have k2 : C1 (jcY x1 x2 y1 y2) (r.2 * (H * H * H)) := by
   refine cz_cancel pr1 (a := C) ?_ g0
   exact h2.lc2 g2 (-1) (H * H * H) (by grind)
  have hz : C1 ((s - u) * w) (H * (w * w * w)) := hsu.lc1 w (by grind)
  refine ⟨fun h0 => mul_ne1 hx (mul_ne1 (mul_ne1 hw hw) hw) (hz.symm.trans h0), ?_, ?_⟩
  ·refine ((jcX_c hu hs ht hv).trans (Cz.of_eq (jcX_sc x1 x2 y1 y2 w))).trans ?_
   exact k1.lc2 (hz.mul hz) (w * w * w * (w * w * w)) (-r.1) (by grind)
  ·refine ((jcY_c hu hs ht hv).trans (Cz.of_eq (jcY_sc x1 x2 y1 y2 w))).trans ?_
   exact k2.lc2 ((hz.mul hz).mul hz) (w * w * w * (w * w * w) * (w * w * w)) (-r.2) (by grind)
theorem isS_turned {x1 y1 x2 y2 : Int} {r : PtI} (o1 : OnW x1 y1) (o2 : OnW x2 y2) (hx : C1 x1 x2) (hy : ¬ C1 y1 y2) (h : IsS (some (x1, y1)) (some (x2, y2)) r) : r = none := by
 have h3 : C1 ((y1 - y2) * (y1 + y2)) 0 := by
  unfold OnW at o1 o2
  exact o1.lc3 o2 hx 1 (-1) (x1 * x1 + x1 * x2 + x2 * x2 - 3) (by grind)
 rcases cz_euclid pr1 h3 with h4 | h4
 ·exact absurd (h4.lc1 1 (by omega)) hy
 ·have h5 : EqO (some (x2, y2)) (some (x1, 0 - y1)) := ⟨hx.symm, h4.lc1 1 (by show y2 - (0 - y1) = _; omega)⟩
  have := isS_uniq (isS_cong h (EqO.refl _) h5) (isS_neg o1)
  cases r with
  | none => rfl
  | some r => exact this.elim
theorem repJ_down {X Y Z i : Int} {p : Int × Int} (h : RepJ X Y Z (some p)) (hi : C1 (Z * i) 1) : C1 (X * (i * i)) p.1 ∧ C1 (Y * (i * i * i)) p.2 := by
 obtain ⟨_, h1, h2⟩ := h
 have h3 : C1 (Z * i * (Z * i)) 1 := (hi.mul hi).trans (Cz.of_eq (by omega))
 have h4 : C1 (Z * i * (Z * i) * (Z * i)) 1 := (h3.mul hi).trans (Cz.of_eq (by omega))
 exact ⟨h1.lc2 h3 (i * i) p.1 (by grind), h2.lc2 h4 (i * i * i) p.2 (by grind)⟩
theorem repW_down {X Y Z i : Int} {p : Int × Int} (h : RepW X Y Z (some p)) (hi : C1 (Z * i) 1) : C1 (X * i) p.1 ∧ C1 (Y * i) p.2 := by
 obtain ⟨_, h1, h2⟩ := h
 exact ⟨h1.lc2 hi i p.1 (by grind), h2.lc2 hi i p.2 (by grind)⟩
end Go.Ev

namespace Go.Ev
open Go Go.Proofs Go.RowKit Go.NT
noncomputable def dv (a:Nat):Int:=((outN (modN 1) a:Nat):Int)
theorem q1:goodF (modN 1) (facN 1):=good_fac (by decide)
theorem dv_mm {a b:Nat} (ha:a<modN 1) (hb:b<modN 1):C1 (dv (mmN (modN 1) a b)) (dv a*dv b):=by
 have h:=in_mul (k:=1) (by decide) (outN (modN 1) a) (outN (modN 1) b)
 rw[in_out (modN_lt 1) q1 ha,in_out (modN_lt 1) q1 hb] at h
 unfold dv
 rw[h,out_in (modN_lt 1) q1 (mulM_lt (modN_pos 1))]
 exact cz_mul _ _
theorem dv_add {a b:Nat} (ha:a<modN 1) (hb:b<modN 1):C1 (dv (addM (modN 1) a b)) (dv a+dv b):=by
 have h:=in_add (m:=modN 1) (outN (modN 1) a) (outN (modN 1) b)
 rw[in_out (modN_lt 1) q1 ha,in_out (modN_lt 1) q1 hb] at h
 unfold dv
 rw[h,out_in (modN_lt 1) q1 (addM_lt (modN_pos 1))]
 exact cz_add _ _
theorem dv_sub {a b:Nat} (ha:a<modN 1) (hb:b<modN 1):C1 (dv (subM (modN 1) a b)) (dv a-dv b):=by
 have ho:=outN_lt (m:=modN 1) (c:=b) (modN_pos 1)
 have h:=in_sub (m:=modN 1) (modN_pos 1) (a:=outN (modN 1) a) ho
 rw[in_out (modN_lt 1) q1 ha,in_out (modN_lt 1) q1 hb] at h
 unfold dv
 rw[h,out_in (modN_lt 1) q1 (subM_lt (modN_pos 1))]
 exact cz_sub ho
theorem dv_in {x:Nat} (hx:x<modN 1):dv (inN (modN 1) x)=x:=by unfold dv;rw[out_in (modN_lt 1) q1 hx]
theorem dv_0:dv 0=0:=by
 have h:=dv_in (modN_pos 1)
 rw[in_eq,Nat.zero_mul,Nat.zero_mod] at h
 exact h
theorem dv_inj {a b:Nat} (ha:a<modN 1) (hb:b<modN 1) (h:C1 (dv a) (dv b)):a=b:=by
 have h1:=Cz.nat (outN_lt (m:=modN 1) (c:=a) (modN_pos 1)) (outN_lt (m:=modN 1) (c:=b) (modN_pos 1)) h
 rw[←in_out (modN_lt 1) q1 ha,h1,in_out (modN_lt 1) q1 hb]
theorem dv_zero {a:Nat} (ha:a<modN 1):C1 (dv a) 0↔a=0:=by
 constructor
 ·intro h
  rw[←dv_0] at h
  exact dv_inj ha (modN_pos 1) h
 ·rintro rfl
  rw[dv_0];exact Cz.refl _ _
theorem dv_one:dv (inN (modN 1) 1)=1:=dv_in (modN_one 1)
theorem dv_inv {a:Nat} (ha:a<modN 1) (h:a≠0):C1 (dv a*dv (minvN (modN 1) a)) 1:=by
 have ho:=outN_lt (m:=modN 1) (c:=a) (modN_pos 1)
 have h1:=inv_cz (k:=1) (by decide) ho (fun h0=>h ((dv_zero ha).1 h0))
 have e:dv (minvN (modN 1) a)=((invP 1 (outN (modN 1) a):Nat):Int):=by
  unfold minvN
  rw[mpow_in,dv_in (show Go.NT.pwM _ _ _<modN 1 from Nat.mod_lt _ (modN_pos 1))]
  rfl
 rw[e];exact h1
theorem dv_mcr {a b c d e f:Nat} (ha:a<modN 1) (hb:b<modN 1) (hc:c<modN 1) (hd:d<modN 1) (he:e<modN 1) (hf:f<modN 1):C1 (dv (mcr a b c d e f)) ((dv a+dv b)*(dv c+dv d)-(dv e+dv f)):=by
 unfold mcr
 have hm:=modN_pos 1
 exact (dv_sub (mmN_lt hm) (addM_lt hm)).trans (((dv_mm (addM_lt hm) (addM_lt hm)).trans ((dv_add ha hb).mul (dv_add hc hd))).sub (dv_add he hf))
theorem dv_mtr {a:Nat} (ha:a<modN 1):C1 (dv (mtr a)) (3*dv a):=by
 unfold mtr
 have hm:=modN_pos 1
 exact ((dv_add (addM_lt hm) ha).trans ((dv_add ha ha).add (Cz.refl _ _))).trans (Cz.of_eq (by omega))
theorem dv_wB:dv wBi=wB:=dv_in wBN_lt
section
variable {p q:J3} (hp:p.lt) (hq:q.lt)
include hp hq
theorem dXX:C1 (dv (mXX p q)) (wxx (dv p.x) (dv p.y) (dv p.z) (dv q.x) (dv q.y) (dv q.z)):=dv_mm hp.1 hq.1
theorem dYY:C1 (dv (mYY p q)) (wyy (dv p.x) (dv p.y) (dv p.z) (dv q.x) (dv q.y) (dv q.z)):=dv_mm hp.2.1 hq.2.1
theorem dZZ:C1 (dv (mZZ p q)) (wzz (dv p.x) (dv p.y) (dv p.z) (dv q.x) (dv q.y) (dv q.z)):=dv_mm hp.2.2 hq.2.2
theorem dXY:C1 (dv (mXY p q)) (wxy (dv p.x) (dv p.y) (dv p.z) (dv q.x) (dv q.y) (dv q.z)):=
 ((dv_mcr hp.1 hp.2.1 hq.1 hq.2.1 (mmN_lt (modN_pos 1)) (mmN_lt (modN_pos 1))).trans ((Cz.refl _ _).sub ((dXX hp hq).add (dYY hp hq)))).trans (Cz.of_eq (by unfold wxy wxx wyy;grind))
theorem dYZ:C1 (dv (mYZ p q)) (wyz (dv p.x) (dv p.y) (dv p.z) (dv q.x) (dv q.y) (dv q.z)):=
 ((dv_mcr hp.2.1 hp.2.2 hq.2.1 hq.2.2 (mmN_lt (modN_pos 1)) (mmN_lt (modN_pos 1))).trans ((Cz.refl _ _).sub ((dYY hp hq).add (dZZ hp hq)))).trans (Cz.of_eq (by unfold wyz wyy wzz;grind))
theorem dXZ:C1 (dv (mXZ p q)) (wxz (dv p.x) (dv p.y) (dv p.z) (dv q.x) (dv q.y) (dv q.z)):=
 ((dv_mcr hp.1 hp.2.2 hq.1 hq.2.2 (mmN_lt (modN_pos 1)) (mmN_lt (modN_pos 1))).trans ((Cz.refl _ _).sub ((dXX hp hq).add (dZZ hp hq)))).trans (Cz.of_eq (by unfold wxz wxx wzz;grind))
theorem dSi:C1 (dv (mSi p q)) (wsi wB (dv p.x) (dv p.y) (dv p.z) (dv q.x) (dv q.y) (dv q.z)):=by
 have hm:=modN_pos 1
 have h:=(dv_mm wBi_lt (mmN_lt hm)).trans ((Cz.of_eq dv_wB).mul (dZZ hp hq))
 exact (dv_mtr (subM_lt hm)).trans ((Cz.refl _ 3).mul ((dv_sub mcr_lt (mmN_lt hm)).trans ((dXZ hp hq).sub h)))
theorem dLe:C1 (dv (mLe p q)) (wle wB (dv p.x) (dv p.y) (dv p.z) (dv q.x) (dv q.y) (dv q.z)):=(dv_sub (mmN_lt (modN_pos 1)) mtr_lt).trans ((dYY hp hq).sub (dSi hp hq))
theorem dRi:C1 (dv (mRi p q)) (wri wB (dv p.x) (dv p.y) (dv p.z) (dv q.x) (dv q.y) (dv q.z)):=(dv_add (mmN_lt (modN_pos 1)) mtr_lt).trans ((dYY hp hq).add (dSi hp hq))
theorem dZ3:C1 (dv (mZ3 p q)) (wz3 (dv p.x) (dv p.y) (dv p.z) (dv q.x) (dv q.y) (dv q.z)):=(dv_mtr (mmN_lt (modN_pos 1))).trans ((Cz.refl _ 3).mul (dZZ hp hq))
theorem dMM:C1 (dv (mMM p q)) (wmm wB (dv p.x) (dv p.y) (dv p.z) (dv q.x) (dv q.y) (dv q.z)):=by
 have hm:=modN_pos 1
 have h:=(dv_mm wBi_lt mcr_lt).trans ((Cz.of_eq dv_wB).mul (dXZ hp hq))
 exact (dv_mtr (subM_lt hm)).trans ((Cz.refl _ 3).mul ((dv_sub (subM_lt hm) (mmN_lt hm)).trans (((dv_sub (mmN_lt hm) mtr_lt).trans (h.sub (dZ3 hp hq))).sub (dXX hp hq))))
theorem dNN:C1 (dv (mNN p q)) (wnn (dv p.x) (dv p.y) (dv p.z) (dv q.x) (dv q.y) (dv q.z)):=
 (dv_sub mtr_lt mtr_lt).trans (((dv_mtr (mmN_lt (modN_pos 1))).trans ((Cz.refl _ 3).mul (dXX hp hq))).sub (dZ3 hp hq))
theorem dAx:C1 (dv (mAdd p q).x) (wX wB (dv p.x) (dv p.y) (dv p.z) (dv q.x) (dv q.y) (dv q.z)):=by
 have hm:=modN_pos 1
 exact (dv_sub (mmN_lt hm) (mmN_lt hm)).trans (((dv_mm mcr_lt (addM_lt hm)).trans ((dXY hp hq).mul (dRi hp hq))).sub ((dv_mm mcr_lt mtr_lt).trans ((dYZ hp hq).mul (dMM hp hq))))
theorem dAy:C1 (dv (mAdd p q).y) (wY wB (dv p.x) (dv p.y) (dv p.z) (dv q.x) (dv q.y) (dv q.z)):=by
 have hm:=modN_pos 1
 exact (dv_add (mmN_lt hm) (mmN_lt hm)).trans (((dv_mm (addM_lt hm) (subM_lt hm)).trans ((dRi hp hq).mul (dLe hp hq))).add ((dv_mm (subM_lt hm) mtr_lt).trans ((dNN hp hq).mul (dMM hp hq))))
theorem dAz:C1 (dv (mAdd p q).z) (wZ wB (dv p.x) (dv p.y) (dv p.z) (dv q.x) (dv q.y) (dv q.z)):=by
 have hm:=modN_pos 1
 exact (dv_add (mmN_lt hm) (mmN_lt hm)).trans (((dv_mm mcr_lt (subM_lt hm)).trans ((dYZ hp hq).mul (dLe hp hq))).add ((dv_mm mcr_lt (subM_lt hm)).trans ((dXY hp hq).mul (dNN hp hq))))
end
structure Sp where
 x:Nat
 y:Nat
 i:Bool
def Sp.o (s:Sp):PtI:=match s.i with|true=>none|false=>some ((s.x:Int),(s.y:Int))
def Sp.on (s:Sp):Prop:=onS s.x s.y s.i=true
def sNo:Sp:=⟨0,0,true⟩
theorem onW_iff {x y:Nat} (_hx:x<modN 1) (_hy:y<modN 1):eqW x y=true↔OnW x y:=by
 have hm:=modN_pos 1
 rw[eqW_in,decide_eq_true_iff]
 have h1:=cz_mul (m:=modN 1) y y
 have h2:C1 (sqP x:Nat) ((x:Int)*x*x-3*x+wB):=by
  unfold sqP
  exact (cz_add _ _).trans (((cz_sub (addM_lt hm)).trans (((cz_mul _ _).trans ((Cz.refl _ _).mul (cz_mul x x))).sub ((cz_add _ _).trans ((Cz.refl _ _).add (cz_add x x))))).add (Cz.refl _ _)|>.trans (Cz.of_eq (by show (x:Int)*(x*x)-(x+(x+x))+(wB:Int)=_;grind)))
 unfold OnW
 constructor
 ·intro h
  rw[h] at h1
  exact h1.symm.trans h2
 ·intro h
  exact Cz.nat (mulM_lt hm) (sqP_lt x) ((h1.trans h).trans h2.symm)
theorem Sp.on_some {x y:Nat}:Sp.on ⟨x,y,false⟩↔x<modN 1∧y<modN 1∧OnW x y:=by
 unfold Sp.on onS ltW
 simp only[cond_false,Bool.and_eq_true,decide_eq_true_iff]
 constructor
 ·rintro ⟨⟨a,b⟩,c⟩;exact ⟨a,b,(onW_iff a b).1 c⟩
 ·rintro ⟨a,b,c⟩;exact ⟨⟨a,b⟩,(onW_iff a b).2 c⟩
theorem Sp.on_none {x y:Nat}:Sp.on ⟨x,y,true⟩↔x=0∧y=0:=by
 unfold Sp.on onS
 simp only[cond_true,Bool.and_eq_true,decide_eq_true_iff]
theorem sNo_on:sNo.on:=Sp.on_none.2 ⟨rfl,rfl⟩
theorem Sp.on.O {s:Sp} (h:s.on):OnO s.o:=by
 obtain ⟨x,y,i⟩:=s
 cases i with
 |true=>trivial
 |false=>exact (Sp.on_some.1 h).2.2
theorem Sp.on.lt {s:Sp} (h:s.on):s.i=true∨(s.x<modN 1∧s.y<modN 1):=by
 obtain ⟨x,y,i⟩:=s
 cases i with
 |true=>exact .inl rfl
 |false=>exact .inr ⟨(Sp.on_some.1 h).1,(Sp.on_some.1 h).2.1⟩
theorem Sp.on.lx {s:Sp} (h:s.on):s.x<modN 1:=by
 obtain ⟨x,y,i⟩:=s
 cases i with
 |true=>obtain ⟨rfl,rfl⟩:=Sp.on_none.1 h;exact modN_pos 1
 |false=>exact (Sp.on_some.1 h).1
theorem Sp.on.ly {s:Sp} (h:s.on):s.y<modN 1:=by
 obtain ⟨x,y,i⟩:=s
 cases i with
 |true=>obtain ⟨rfl,rfl⟩:=Sp.on_none.1 h;exact modN_pos 1
 |false=>exact (Sp.on_some.1 h).2.1
theorem Sp.on.eq {s t:Sp} (hs:s.on) (ht:t.on) (h:EqO s.o t.o):s=t:=by
 obtain ⟨x,y,i⟩:=s
 obtain ⟨u,v,j⟩:=t
 cases i with
 |true=>
  cases j with
  |true=>
   obtain ⟨rfl,rfl⟩:=Sp.on_none.1 hs
   obtain ⟨rfl,rfl⟩:=Sp.on_none.1 ht
   rfl
  |false=>exact h.elim
 |false=>
  cases j with
  |true=>exact h.elim
  |false=>
   obtain ⟨a,b,_⟩:=Sp.on_some.1 hs
   obtain ⟨c,d,_⟩:=Sp.on_some.1 ht
   rw[Cz.nat a c h.1,Cz.nat b d h.2]
theorem repW_cong {X Y Z:Int} {p q:PtI} (h:RepW X Y Z p) (e:EqO p q):RepW X Y Z q:=by
 cases p with
 |none=>
  cases q with
  |none=>exact h
  |some q=>exact e.elim
 |some p=>
  cases q with
  |none=>exact e.elim
  |some q=>exact ⟨h.1,h.2.1.trans (e.1.mul (Cz.refl _ _)),h.2.2.trans (e.2.mul (Cz.refl _ _))⟩
theorem repW_c {X Y Z X' Y' Z':Int} {p:PtI} (h:RepW X Y Z p) (hx:C1 X' X) (hy:C1 Y' Y) (hz:C1 Z' Z):RepW X' Y' Z' p:=
 rep_mul one_ne1 h (hx.trans (Cz.of_eq (by omega))) (hy.trans (Cz.of_eq (by omega))) (hz.trans (Cz.of_eq (by omega)))
theorem czN_lt1 (z:Int):czN (modN 1) z<modN 1:=by
 have hm:=modN_pos 1
 unfold czN
 have:=Int.emod_lt_of_pos z (show (0:Int)<(modN 1:Int) by omega)
 have:=Int.emod_nonneg z (show ((modN 1:Nat):Int)≠0 by omega)
 omega
theorem sum_ex {s t:Sp} (hs:s.on) (ht:t.on):∃r:Sp,r.on∧IsS s.o t.o r.o:=by
 obtain ⟨r,h,ho⟩:=isS_ex hs.O ht.O
 cases r with
 |none=>exact ⟨sNo,sNo_on,h⟩
 |some r=>
  have h1:=czN_cz (modN_pos 1) r.1
  have h2:=czN_cz (modN_pos 1) r.2
  refine ⟨⟨czN (modN 1) r.1,czN (modN 1) r.2,false⟩,Sp.on_some.2 ⟨czN_lt1 _,czN_lt1 _,?_⟩,repW_cong h ⟨h1.symm,h2.symm⟩⟩
  have ho':OnW r.1 r.2:=ho
  unfold OnW at*
  exact ((h2.mul h2).trans ho').trans ((((h1.mul h1).mul h1).sub ((Cz.refl _ 3).mul h1)).add (Cz.refl _ _)).symm
noncomputable def gsum (s t:Sp):Sp:= @dite Sp (∃r:Sp,r.on∧IsS s.o t.o r.o) (Classical.propDecidable _) (fun h=>Classical.choose h) (fun _=>sNo)
theorem gsum_spec {s t:Sp} (hs:s.on) (ht:t.on):(gsum s t).on∧IsS s.o t.o (gsum s t).o:=by
 have h:=sum_ex hs ht
 unfold gsum
 rw[dif_pos h]
 exact Classical.choose_spec h
theorem gsum_on {s t:Sp} (hs:s.on) (ht:t.on):(gsum s t).on:=(gsum_spec hs ht).1
theorem gsum_is {s t:Sp} (hs:s.on) (ht:t.on):IsS s.o t.o (gsum s t).o:=(gsum_spec hs ht).2
theorem gsum_eq {s t r:Sp} (hs:s.on) (ht:t.on) (hr:r.on) (h:IsS s.o t.o r.o):gsum s t=r:=(gsum_on hs ht).eq hr (isS_uniq (gsum_is hs ht) h)
theorem gsum_comm {s t:Sp} (hs:s.on) (ht:t.on):gsum s t=gsum t s:=gsum_eq hs ht (gsum_on ht hs) (isS_comm (gsum_is ht hs))
theorem gsum_assoc {s t r:Sp} (hs:s.on) (ht:t.on) (hr:r.on):gsum (gsum s t) r=gsum s (gsum t r):=by
 have h1:=gsum_on hs ht
 have h2:=gsum_on ht hr
 exact (gsum_on h1 hr).eq (gsum_on hs h2) (isS_assoc hs.O ht.O hr.O (gsum_is hs ht) (gsum_is h1 hr) (gsum_is ht hr) (gsum_is hs h2) h2.O h1.O)
theorem gsum_no_left {s:Sp} (hs:s.on):gsum sNo s=s:=gsum_eq sNo_on hs hs (isS_none hs.O)
theorem gsum_no {s:Sp} (hs:s.on):gsum s sNo=s:=by rw[gsum_comm hs sNo_on,gsum_no_left hs]
noncomputable def gmul (s:Sp):Nat→Sp
 |0=>sNo
 |k+1=>gsum (gmul s k) s
theorem gmul_on {s:Sp} (h:s.on):∀k,(gmul s k).on
 |0=>sNo_on
 |k+1=>gsum_on (gmul_on h k) h
theorem gmul_add {s:Sp} (h:s.on) (a:Nat):∀b,gmul s (a+b)=gsum (gmul s a) (gmul s b)
 |0=>(gsum_no (gmul_on h a)).symm
 |b+1=>by
  show gsum (gmul s (a+b)) s=gsum (gmul s a) (gsum (gmul s b) s)
  rw[gmul_add h a b,gsum_assoc (gmul_on h a) (gmul_on h b) h]
def RW (x:J3) (s:Sp):Prop:=x.lt∧RepW (dv x.x) (dv x.y) (dv x.z) s.o
def RJ (x:J3) (s:Sp):Prop:=x.lt∧RepJ (dv x.x) (dv x.y) (dv x.z) s.o
theorem rw_add {x y:J3} {s t:Sp} (hs:s.on) (ht:t.on) (hx:RW x s) (hy:RW y t):RW (mAdd x y) (gsum s t):=
 ⟨mAdd_lt x y,repW_c (rep_wadd hx.2 hy.2 (gsum_is hs ht)) (dAx hx.1 hy.1) (dAy hx.1 hy.1) (dAz hx.1 hy.1)⟩
theorem rw_lift {s:Sp} (hs:s.on):RW (wLift s.x s.y s.i) s:=by
 obtain ⟨x,y,i⟩:=s
 refine ⟨wLift_lt _ _ _,?_⟩
 cases i with
 |true=>
  show RepW (dv 0) (dv (inN (modN 1) 1)) (dv 0) none
  rw[dv_0,dv_one]
  exact rep_canon none
 |false=>
  obtain ⟨a,b,c⟩:=Sp.on_some.1 hs
  show RepW (dv (inN (modN 1) x)) (dv (inN (modN 1) y)) (dv (inN (modN 1) 1)) (some ((x:Int),(y:Int)))
  rw[dv_in a,dv_in b,dv_one]
  exact rep_canon (some ((x:Int),(y:Int)))
theorem rw_down {x:J3} {s:Sp} (hs:s.on) (h:RW x s):wDx x=s.x∧wDy x=s.y∧wDi x=s.i:=by
 obtain ⟨u,v,i⟩:=s
 obtain ⟨hl,h⟩:=h
 have hm:=modN_pos 1
 unfold wDx wDy wDi
 cases i with
 |true=>
  obtain ⟨rfl,rfl⟩:=Sp.on_none.1 hs
  rw[decide_eq_true ((dv_zero hl.2.2).1 h.2.2)]
  exact ⟨rfl,rfl,rfl⟩
 |false=>
  obtain ⟨a,b,c⟩:=Sp.on_some.1 hs
  have h0:¬x.z=0:=fun h0=>h.1 ((dv_zero hl.2.2).2 h0)
  have hi:=dv_inv hl.2.2 h0
  obtain ⟨k1,k2⟩:=repW_down h hi
  rw[decide_eq_false h0,cond_false,cond_false]
  refine ⟨?_,?_,rfl⟩
  ·exact Cz.nat (outN_lt hm) a (Cz.trans (dv_mm hl.1 (minvN_lt hm)) k1)
  ·exact Cz.nat (outN_lt hm) b (Cz.trans (dv_mm hl.2.1 (minvN_lt hm)) k2)
end Go.Ev

