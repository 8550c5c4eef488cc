/- U; T; An evaluator of the model's code with values known in part, and its soundness; The law, of every input: TraceMixes holds of every argument -/
import Derived.Test.YtfdldpoamgeopaaPartD
import Derived.Test.YtfdldpoamgeopaaPartC
import Derived.Deep.Strs
import Derived.JoinedOf
import Derived.SizedLaws
namespace Go.Ev
open Go Go.Proofs Go.RowKit
/-! a row that is moved, whatever stands behind it -/
def neB (b c : Nat) : Bool := !Nat.beq c b
def renAV (b b' : Nat) (x : AV) : AV := match x with
  | .val (.one (.sx c n)) => bif Nat.beq c b then .val (.one (.sx b' n)) else bif Nat.beq c b' then .junk else .val (.one (.sx c n))
  | x => bif x.okP (neB b') then x else .junk
def renTs (b b' : Nat) : List AV → List AV → List AV
  | _ :: xs, .junk :: ys => .junk :: renTs b b' xs ys
  | x :: xs, _ :: ys => renAV b b' x :: renTs b b' xs ys
  | _ :: _, [] => [.junk]
  | _, _ => []
theorem renTs_length {b b' : Nat} : ∀ {T T' : List AV}, renTs b b' T T' = T' → T.length = T'.length
  | [], [], _ => rfl
  | [], _ :: _, h => by simp [renTs] at h
  | _ :: _, [], h => by simp [renTs] at h
  | x :: xs, y :: ys, h => by
    cases y <;> simp only [renTs, List.cons.injEq] at h <;> simp [renTs_length h.2]
theorem renTs_get {b b' : Nat} : ∀ {T T' : List AV}, renTs b b' T T' = T' → ∀ (t : Nat) (y : AV), T'[t]? = some y → y ≠ .junk → ∃ x, T[t]? = some x ∧ y = renAV b b' x
  | [], [], _, t, y, h, _ => by simp at h
  | [], _ :: _, h, _, _, _, _ => by simp [renTs] at h
  | _ :: _, [], h, _, _, _, _ => by simp [renTs] at h
  | x :: xs, z :: zs, h, 0, y, hy, hj => by
    simp only [List.getElem?_cons_zero, Option.some.injEq] at hy; subst hy
    cases z with
    | junk => exact absurd rfl hj
    | val v => simp only [renTs, List.cons.injEq] at h; exact ⟨x, rfl, h.1.symm⟩
    | tup v => simp only [renTs, List.cons.injEq] at h; exact ⟨x, rfl, h.1.symm⟩
  | x :: xs, z :: zs, h, t + 1, y, hy, hj => by
    simp only [List.getElem?_cons_succ] at hy ⊢
    refine renTs_get ?_ t y hy hj
    cases z <;> simp only [renTs, List.cons.injEq] at h <;> exact h.2
theorem V1.conc_okF {f : Nat → Bool} {φ φ' : Loc} (h' : ∀ b, f b = true → φ' b = φ b) (x : V1) (hx : x.okP f = true) : x.conc φ' = x.conc φ := by
  rcases x with x | x
  · cases x with
    | ptr b off => simp only [V1.okP] at hx; simp [V1.conc, Atom.conc, h' _ hx]
    | sl b off n c => simp only [V1.okP] at hx; simp [V1.conc, Atom.conc, h' _ hx]
    | sx b n => simp only [V1.okP] at hx; simp [V1.conc, Atom.conc, h' _ hx]
    | v x => rfl
    | u k x => rfl
    | i x => rfl
  · simp only [V1.okP] at hx
    simp only [V1.conc, concs_okP h' x hx]
theorem AV.conc_okF {f : Nat → Bool} {φ φ' : Loc} (h : ∀ b, f b = true → φ' b = φ b) (x : AV) (hx : x.okP f = true) : x.conc φ' = x.conc φ := by
  cases x with
  | val x => rw [okP_val] at hx; exact V1.conc_okF h x hx
  | tup xs =>
    rw [okP_tup] at hx
    simp only [AV.conc]
    congr 2
    refine List.map_congr_left fun v hv => V1.conc_okF h v ?_
    exact List.all_eq_true.1 hx v hv
  | junk => rfl
theorem neB_ne {b c : Nat} (h : neB b c = true) : c ≠ b := by
  intro e; subst e; simp [neB] at h
theorem renAV_conc {b b' : Nat} {φ φ' : Loc} (h1 : ∀ c, c ≠ b' → φ' c = φ c) (h2 : φ' b' = φ b) (x : AV) (hj : renAV b b' x ≠ .junk) : (renAV b b' x).conc φ' = x.conc φ := by
  have key : ∀ x : AV, (bif x.okP (neB b') then x else .junk) ≠ .junk → (bif x.okP (neB b') then x else .junk).conc φ' = x.conc φ := by
    intro x hj
    cases hx : x.okP (neB b') with
    | true => exact AV.conc_okF (f := neB b') (fun c hc => h1 c (neB_ne hc)) x hx
    | false => rw [hx] at hj; exact absurd rfl hj
  unfold renAV at hj ⊢
  split
  · rename_i c n
    dsimp only at hj
    cases e1 : Nat.beq c b with
    | true =>
      have := Nat.eq_of_beq_eq_true e1
      subst this
      simp only [cond_true, AV.conc, V1.conc, Atom.conc, h2]
    | false =>
      rw [e1] at hj
      cases e2 : Nat.beq c b' with
      | true => rw [e2] at hj; exact absurd rfl hj
      | false =>
        have : c ≠ b' := by intro e; subst e; simp at e2
        simp only [cond_false, AV.conc, V1.conc, Atom.conc, h1 c this]
  · rename_i hne
    refine key x ?_
    split at hj
    · exact absurd rfl (hne _ _)
    · exact hj
theorem Rel.ren {w0 w : World} {φ' : Loc} {T1 T' : List AV} {M1 M' : List Blk} {a : Act} (h : Rel w0 φ' T1 M1 a w) (b b' : Nat) (hT : renTs b b' T1 T' = T')
    (hM : ∀ i k, M'[i]? = some k → k.live = true → allPtr (neB b') k.ps = true ∧ ((i ≠ b' ∧ i ≠ b ∧ M1[i]? = some k) ∨ (i = b' ∧ M1[b]? = some k)))
    (hw : wfS T' M' = true) : ∃ φ'' : Loc, (∀ i, i ≠ b' → φ'' i = φ' i) ∧ Rel w0 φ'' T' M' a w := by
  simp only [wfS, Bool.and_eq_true] at hw
  let φ'' : Loc := fun i => if i = b' then φ' b else φ' i
  have e1 : ∀ i, i ≠ b' → φ'' i = φ' i := fun i hi => by simp only [φ'', hi, if_false]
  have e2 : φ'' b' = φ' b := by simp [φ'']
  have hcase : ∀ i k, M'[i]? = some k → k.live = true → ∃ j, M1[j]? = some k ∧ φ'' i = φ' j ∧ concs φ'' k.ps = concs φ' k.ps ∧ ((i ≠ b' ∧ i ≠ b ∧ j = i) ∨ (i = b' ∧ j = b)) := by
    intro i k hk hl
    obtain ⟨hf, h1 | h1⟩ := hM i k hk hl
    · exact ⟨i, h1.2.2, e1 i h1.1, concs_okP (f := neB b') (fun c hc => e1 c (neB_ne hc)) _ hf, .inl ⟨h1.1, h1.2.1, rfl⟩⟩
    · obtain ⟨rfl, h2⟩ := h1
      exact ⟨b, h2, e2, concs_okP (f := neB i) (fun c hc => e1 c (neB_ne hc)) _ hf, .inr ⟨rfl, rfl⟩⟩
  refine ⟨φ'', e1, ⟨?_, ?_⟩, h.defs, tmsWf_mem hw.1, ⟨h.mrel.below, ?_, ?_, ?_, ?_, fun i k hk => memWf_mem hw.2 i k hk⟩⟩
  · rw [h.tmps.size, renTs_length hT]
  · intro t y hy hj
    obtain ⟨x, hx, rfl⟩ := renTs_get hT t y hy hj
    rw [renAV_conc e1 e2 x hj]
    refine h.tmps.get t x hx ?_
    intro e; subst e; exact hj rfl
  · intro i j k k' hk hk' hl hl' hr hr' he
    obtain ⟨i1, q1, q2, _, q3⟩ := hcase i k hk hl
    obtain ⟨j1, r1, r2, _, r3⟩ := hcase j k' hk' hl'
    rw [q2, r2] at he
    have := h.mrel.inj i1 j1 k k' q1 r1 hl hl' hr hr' he
    omega
  · intro i k hk hl hr
    obtain ⟨i1, q1, q2, _, _⟩ := hcase i k hk hl
    rw [q2]; exact h.mrel.own i1 k q1 hl hr
  · intro i k hk hl hr
    obtain ⟨i1, q1, q2, q3, _⟩ := hcase i k hk hl
    rw [q2, q3]; exact h.mrel.old i1 k q1 hl hr
  · intro i k hk hl hr
    obtain ⟨i1, q1, q2, q3, _⟩ := hcase i k hk hl
    rw [q2, q3]; exact h.mrel.blk i1 k q1 hl hr
theorem GoesK.ren {P : Program} {K : Nat} {y : Code} {ex : Ex} {T T1 T' : List AV} {M M1 M' : List Blk} (h : GoesK P K y ex T M T1 M1) (b b' : Nat) (hK : K ≤ b') (hT : renTs b b' T1 T' = T')
    (hM : ∀ i k, M'[i]? = some k → k.live = true → allPtr (neB b') k.ps = true ∧ ((i ≠ b' ∧ i ≠ b ∧ M1[i]? = some k) ∨ (i = b' ∧ M1[b]? = some k)))
    (hw : wfS T' M' = true) : GoesK P K y ex T M T' M' := by
  intro w0 φ a w hr Q hQ
  refine h w0 φ a w hr Q ?_
  intro φ' a' w' hag hr'
  obtain ⟨φ'', h1, h2⟩ := hr'.ren b b' hT hM hw
  exact hQ φ'' a' w' (fun i hi => by rw [h1 i (by omega)]; exact hag i hi) h2
/-! rows -/
theorem sizes_app : ∀ ps qs : List Piece, sizes (ps ++ qs) = sizes ps + sizes qs
  | [], qs => by simp [sizes]
  | p :: ps, qs => by simp [sizes, sizes_app ps qs, Nat.add_assoc]
theorem sizes_fld (c : Cells) : ∀ (sh : List SK) (p : Nat), sizes (fldPs c sh p) = shSz sh
  | [], _ => rfl
  | k :: l, p => by
    simp only [fldPs, sizes, shSz, sizes_fld c l]
    cases k <;> rfl
theorem sizes_row (c : Cells) (sh : List SK) : ∀ (m p : Nat), sizes (rowPs c sh m p) = m * shSz sh
  | 0, _ => by simp [rowPs, sizes]
  | m + 1, p => by simp only [rowPs, sizes_app, sizes_fld, sizes_row c sh m, Nat.succ_mul]; omega
theorem row_app (c : Cells) (sh : List SK) : ∀ (m n p : Nat), rowPs c sh (m + n) p = rowPs c sh m p ++ rowPs c sh n (p + m * shSz sh)
  | 0, n, p => by simp [rowPs]
  | m + 1, n, p => by
    rw [show m + 1 + n = (m + n) + 1 by omega]
    simp only [rowPs]
    rw [row_app c sh m n (p + shSz sh), List.append_assoc, Nat.succ_mul, show p + shSz sh + m * shSz sh = p + (m * shSz sh + shSz sh) by omega]
theorem cellsOk_app : ∀ ps qs : List Piece, cellsOk (ps ++ qs) = (cellsOk ps && cellsOk qs)
  | [], qs => by simp [cellsOk]
  | .a (.v x) :: ps, qs => by simp [cellsOk, cellsOk_app ps qs, Bool.and_assoc]
  | .a (.u _ _) :: ps, qs => by simp [cellsOk, cellsOk_app ps qs]
  | .a (.i _) :: ps, qs => by simp [cellsOk, cellsOk_app ps qs]
  | .a (.ptr _ _) :: ps, qs => by simp [cellsOk, cellsOk_app ps qs]
  | .a (.sl _ _ _ _) :: ps, qs => by simp [cellsOk, cellsOk_app ps qs]
  | .a (.sx _ _) :: ps, qs => by simp [cellsOk, cellsOk_app ps qs]
  | .num _ _ :: ps, qs => by simp [cellsOk, cellsOk_app ps qs]
  | .arr _ _ :: ps, qs => by simp [cellsOk, cellsOk_app ps qs]
theorem cellsOk_row (c : Cells) : ∀ (m p : Nat), cellsOk (rowPs c shR m p) = true
  | 0, _ => rfl
  | m + 1, p => by
    simp only [rowPs, cellsOk_app, cellsOk_row c m, Bool.and_true]
    rfl
theorem dropP_zero (ps : List Piece) : dropP ps 0 = some ps := by cases ps <;> rfl
def allA : List Piece → Prop
  | [] => True
  | .a _ :: ps => allA ps
  | _ :: _ => False
theorem takeP_all : ∀ ps : List Piece, allA ps → takeP ps ps.length = some ps
  | [], _ => rfl
  | .a x :: ps, h => by simp only [List.length_cons, takeP, takeP_all ps h]
  | .num _ _ :: _, h => h.elim
  | .arr _ _ :: _, h => h.elim
theorem allA_app : ∀ ps qs : List Piece, allA ps → allA qs → allA (ps ++ qs)
  | [], _, _, h => h
  | .a _ :: ps, qs, h, h' => allA_app ps qs h h'
  | .num _ _ :: _, _, h, _ => h.elim
  | .arr _ _ :: _, _, h, _ => h.elim
theorem allA_row (c : Cells) : ∀ m p, allA (rowPs c shR m p)
  | 0, _ => trivial
  | m + 1, p => allA_app _ _ (by simp [fldPs, shR, SK.pc, allA]) (allA_row c m _)
theorem len_row (c : Cells) : ∀ m p, (rowPs c shR m p).length = m * 4
  | 0, _ => rfl
  | m + 1, p => by
    simp only [rowPs, List.length_append, len_row c m]
    simp [fldPs, shR]; omega
theorem cut_all {ps : List Piece} {n : Nat} (h : allA ps) (hn : ps.length = n) : cutP ps 0 n = some ps := by
  subst hn
  unfold cutP
  rw [dropP_zero]
  exact takeP_all ps h
/-- rows of one's own. -/
def ownB (c : Cells) (n : Nat) : Blk := ⟨rowPs c shR n 0, 31, true, false, 4⟩
theorem und22 : Try.prog.underlying 22 = some (.slice 31) := by kernel_rfl
theorem i31s : ∃ i, Try.prog.info? 31 = some i ∧ i.size = 4 ∧ i.bytes = 56 := by
  have h : (match Try.prog.info? 31 with | some i => Nat.beq i.size 4 && Nat.beq i.bytes 56 | none => false) = true := by kernel_rfl
  split at h
  · rename_i i hi
    simp only [Bool.and_eq_true, Nat.beq_eq] at h
    exact ⟨i, hi, h.1, h.2⟩
  · simp at h
theorem z31s : ∃ z, zeroA Try.prog 31 = some z ∧ sizes z = 4 := by
  have h : (match zeroA Try.prog 31 with | some z => Nat.beq (sizes z) 4 | none => false) = true := by kernel_rfl
  split at h
  · rename_i z hz
    exact ⟨z, hz, Nat.eq_of_beq_eq_true h⟩
  · simp at h
/-- what is put behind rows of one's own. -/
theorem app_own {mem : List Blk} {A n b j : Nat} {c : Cells} {k : Blk} {y : V1} (hA : mem[A]? = some (ownB c n)) (hy : ownSl y = some (b, 0, j)) (hk : mem[b]? = some k) (hl : k.live = true) (hc : allA k.ps) (hn : k.ps.length = j * 4) (ho : cellsOk k.ps = true) (hf : ∀ f, allPtr f k.ps = true) (hj : 0 < j) (hm : n + j ≤ 1000) :
    appendG Try.prog mem 22 (.one (.sx A n)) y = some ([], .val (.one (.sx mem.length (n + j))), mem.set A ⟨rowPs c shR n 0, 31, false, false, 4⟩ ++ [⟨rowPs c shR n 0 ++ k.ps, 31, true, false, 4⟩]) := by
  obtain ⟨i, hi, hi1, hi2⟩ := i31s
  obtain ⟨z, hz, hz1⟩ := z31s
  have e1 : sizes (rowPs c shR n 0) = n * 4 := by rw [sizes_row]; rfl
  have e2 : oldSl mem 31 4 (.one (.sx A n)) = some (n, rowPs c shR n 0, mem.set A ⟨rowPs c shR n 0, 31, false, false, 4⟩) := by
    simp only [oldSl, hA, ownB, e1]
    simp [Nat.blt]
  have e3 : cutP k.ps 0 (j * 4) = some k.ps := cut_all hc hn
  have e4 : allPtr (ltB mem.length) (rowPs c shR n 0 ++ k.ps) = true := allPtr_app _ _ _ (row_free _ _ _ _ _) (hf _)
  simp only [appendG, appendA, und22, hi, hz, e2, hy, hk, hl, e3, e4, ho, hz1, hi1, hi2]
  have h1 : (n + j) * 56 ≤ 140737488355328 ∧ n + j ≤ 140737488355328 := by omega
  have hb : Nat.ble 1 j = true := Nat.ble_eq_true_of_le hj
  simp [Nat.blt, h1, hb, show Nat.ble 1 4 = true from rfl]
/-- rows behind a full slice of none. -/
theorem app_full {mem : List Blk} {A b j : Nat} {k1 k : Blk} {y : V1} (hA : mem[A]? = some k1) (hl1 : k1.live = true) (hp : k1.ps = []) (hy : ownSl y = some (b, 0, j)) (hk : mem[b]? = some k) (hl : k.live = true) (hc : allA k.ps) (hn : k.ps.length = j * 4) (hf : ∀ f, allPtr f k.ps = true) (hj : 0 < j) (hm : j ≤ 1000) :
    appendG Try.prog mem 22 (.one (.sl A 0 0 0)) y = some ([], .val (.one (.sx mem.length (0 + j))), mem ++ [⟨[] ++ k.ps, 31, true, false, 4⟩]) := by
  obtain ⟨i, hi, hi1, hi2⟩ := i31s
  obtain ⟨z, hz, hz1⟩ := z31s
  have e3 : cutP k.ps 0 (j * 4) = some k.ps := cut_all hc hn
  have e5 : cutP k1.ps 0 (0 * 4) = some [] := by rw [hp]; rfl
  have e4 : allPtr (ltB mem.length) ([] ++ k.ps) = true := hf _
  simp only [appendG, und22, hi, hz, hA, hy, hk, hl, hl1, e3, e5, e4, hz1, hi1, hi2]
  have h1 : j * 56 ≤ 140737488355328 ∧ j ≤ 140737488355328 := by omega
  have hb : Nat.ble 1 j = true := Nat.ble_eq_true_of_le hj
  simp [Nat.blt, h1, hb, hf, show Nat.ble 1 4 = true from rfl]
end Go.Ev

namespace Go.Ev
open Go Go.Proofs Go.RowKit
/-! rows by a path and a place -/
def pcs (p : ByteArray) (c : Cells) (q : Nat) : List Piece := .a (.v (.string p)) :: (fldPs c shR q).tail
def gC (c : Cells) (p : Nat → ByteArray) (ix : Nat → Nat) : Cells :=
  ⟨fun _ => false, fun j => match j % 4 with | 0 => p (j / 4) | r => sA c (0 + ix (j / 4) * 4 + r), fun _ => 0, fun j => nU c (0 + ix (j / 4) * 4 + j % 4)⟩
def p1 : ByteArray := ⟨#[109, 47, 49]⟩
def p2 : ByteArray := ⟨#[109, 47, 50]⟩
def cA (c : Cells) : Cells := gC c (fun _ => p1) (fun k => 2 * k)
def cB (c : Cells) : Cells := gC c (fun _ => p2) (fun k => 2 * k + 1)
/-- mixed, where the second has L. -/
def cM (c : Cells) (L : Nat) : Cells := gC c (fun k => bif Nat.blt k (2 * L) && Nat.beq (k % 2) 0 then p2 else p1) (fun k => bif Nat.blt k (2 * L) then (bif Nat.beq (k % 2) 0 then k + 1 else k - 1) else k)
/-- one behind the other, where the first has n. -/
def cO (c : Cells) (n : Nat) : Cells := gC c (fun k => bif Nat.blt k n then p1 else p2) (fun k => bif Nat.blt k n then 2 * k else 2 * (k - n) + 1)
theorem gC_fld (c : Cells) (p : Nat → ByteArray) (ix : Nat → Nat) (k : Nat) : fldPs (gC c p ix) shR (0 + k * 4) = pcs (p k) c (0 + ix k * 4) := by
  have h0 : (0 + k * 4) % 4 = 0 := by omega
  have d0 : (0 + k * 4) / 4 = k := by omega
  have h1 : (0 + k * 4 + 1) % 4 = 1 := by omega
  have d1 : (0 + k * 4 + 1) / 4 = k := by omega
  have h2 : (0 + k * 4 + 1 + 1) % 4 = 2 := by omega
  have d2 : (0 + k * 4 + 1 + 1) / 4 = k := by omega
  have h3 : (0 + k * 4 + 1 + 1 + 1) % 4 = 3 := by omega
  have d3 : (0 + k * 4 + 1 + 1 + 1) / 4 = k := by omega
  simp only [pcs, fldPs, shR, SK.pc, SK.sz, List.tail_cons, sA, nU, gC, h0, h1, h2, h3, d0, d1, d2, d3]
theorem gC_row (c : Cells) (p : Nat → ByteArray) (ix : Nat → Nat) (n : Nat) : rowPs (gC c p ix) shR (n + 1) 0 = rowPs (gC c p ix) shR n 0 ++ pcs (p n) c (0 + ix n * 4) := by
  rw [row_app _ _ n 1 0]
  congr 1
  show fldPs _ shR (0 + n * 4) ++ [] = _
  rw [List.append_nil, gC_fld]
/-! the environment -/
def ldD (t : TypeId) (g : Nat → Nat → V1) : CT := ⟨3000000 + t, fun vs => match vs with | [.one (.ptr b off)] => some ([False], .val (g b off)) | _ => none⟩
theorem ldD_ok (t : TypeId) (g : Nat → Nat → V1) : CTok (ldD t g) := by
  intro vs ob r h ho
  simp only [ldD] at h
  split at h
  · simp only [Option.some.injEq, Prod.mk.injEq] at h
    obtain ⟨rfl, _⟩ := h
    exact ho.1.elim
  · simp at h
noncomputable def fmX (cF : Nat → Cells) : FuncId → List V1 → List (Option Blk) → Option (List Prop × AV) := fun f vs bs => match vs with
  | [.one (.sl b _ _ _)] => fmR (cF b) (fun n => n) f vs bs
  | [.one (.sx b _)] => fmR (cF b) (fun n => n) f vs bs
  | _ => none
noncomputable def fmY (cF : Nat → Cells) (cE : Cells) (lE : Nat) : FuncId → List V1 → List (Option Blk) → Option (List Prop × AV) := fun f vs bs => match f with
  | 9 => fm9 cE lE vs bs
  | f => fmX cF f vs bs
theorem fmY_ok (cF : Nat → Cells) (cE : Cells) (lE : Nat) : ∀ f vs mem ob r, fmY cF cE lE f vs (blks mem vs) = some (ob, r) → All ob → ∀ w0 φ w, MRel w0 φ mem w → Calls Try.prog f (vs.map (V1.conc φ)).toArray w fun e w' => e = .returned (r.conc φ) ∧ Below w.heap.size w w' := by
  intro f vs mem ob r h ho w0 φ w hm
  unfold fmY at h
  split at h
  · exact fm9_ok h ho hm
  · unfold fmX at h
    split at h
    · exact fmR_ok _ _ _ _ mem ob r h ho w0 φ w hm
    · exact fmR_ok _ _ _ _ mem ob r h ho w0 φ w hm
    · simp at h
noncomputable def L4 (c : Cells) (cF : Nat → Cells) : List CT := [⟨6, fnN⟩, ⟨9, fnN9⟩, ⟨8, bT⟩, ldC 9 (fun off => .one (.v (.string (sA c off)))), ldD 31 (fun b off => .agg (fldPs (cF b) shR off))]
theorem L4_ok (c : Cells) (cF : Nat → Cells) : AllCT (L4 c cF) := ⟨ctN6, ctN9, ctT wakes8, ldC_ok _ _, ldD_ok _ _, trivial⟩
noncomputable def S4 : FuncId → Nat → Bool := fun f t => match f with
  | 4 => [12, 17, 27, 23, 19, 26, 2000024, 32, 37, 39, 47, 52, 59, 70, 63, 74, 2000064, 2000075, 66, 77, 55, 80, 83, 87, 92].any (Nat.beq t)
  | 5 => [12, 15, 23, 31, 39, 2000025, 2000033, 2000041, 27, 35, 43, 18, 45, 50].any (Nat.beq t)
  | _ => false
noncomputable def E4 (c : Cells) (cF : Nat → Cells) (cE : Cells) (lE : Nat) : Env := addM (mkE (L4 c cF) S4) (fmY cF cE lE)
theorem envE4 (c : Cells) (cF : Nat → Cells) (cE : Cells) (lE : Nat) : EnvOK (E4 c cF cE lE) := envAddM (envMk (L4_ok c cF) S4) (fmY_ok cF cE lE)
/-! states -/
def nilA : AV := .val nilV
def sxA (b n : Nat) : AV := .val (.one (.sx b n))
def dedB (c : Cells) (n : Nat) : Blk := ⟨rowPs c shR n 0, 31, false, false, 4⟩
def newB (ps : List Piece) : Blk := ⟨ps, 31, true, false, 4⟩
def tmpB (ps : List Piece) : Blk := ⟨ps, 31, true, false, 0⟩
def TQ (a b : AV) (i : Int) : List AV := slots 97 [(1, pV 2), (2, bV false), (3, a), (4, b), (5, iV i)]
def TW (na nb : Nat) (w : Bool) (x : AV) (i : Int) : List AV := slots 97 [(1, pV 2), (2, bV false), (3, sxA 4 na), (4, sxA 5 nb), (7, bV w), (8, x), (9, iV i)]
/-- the blocks' cells. -/
def cFs (c : Cells) (L n : Nat) : Nat → Cells := fun b => match b with | 0 => c | 4 => cA c | 5 => cB c | 6 => cM c L | _ => cO c n
noncomputable abbrev EL (c cE : Cells) (lE L n : Nat) : Env := E4 c (cFs c L n) cE lE
end Go.Ev

namespace Go.Ev
open Go Go.Proofs Go.RowKit
def apO (mem : List Blk) (A n b : Nat) (c : Cells) (ps : List Piece) : Prop := appendG Try.prog mem 22 (.one (.sx A n)) (.one (.sl b 0 1 1)) = some ([], .val (.one (.sx mem.length (n + 1))), mem.set A (dedB c n) ++ [newB (rowPs c shR n 0 ++ ps)])
theorem qa0 (c : Cells) (m cap : Nat) (cE : Cells) (lE : Nat) (xE : Atom) (z : Int) (L n : Nat) : runTo (EL c cE lE L n) 1000 ((EL c cE lE L n).S 4) (bodyOf Try.prog 4 5) (TQ nilA nilA 0) (M4 c m cap cE lE xE z) [true, true] (TQ (sxA 6 1) nilA 1) 7 =
    some ([decide ((0 : Int) < (m : Int)) = true, (0 : Int) ≤ (0 : Int) ∧ (0 : Int) < (m : Int), LoadsAs Try.prog 31 (rowPs c shR m 0) (0 + 0 * 4) (.agg (fldPs c shR (0 + 0 * 4))), (2 : Int) ≠ 0, decide (((0 % 2 : Nat) : Int) = 0) = true, inI ((0 : Int) + 1)], .normal, TQ (sxA 6 1) nilA 1, M4 c m cap cE lE xE z ++ [tmpB (pcs p1 c (0 + 0 * 4)), tmpB (pcs p1 c (0 + 0 * 4)), newB (pcs p1 c (0 + 0 * 4))]) := by kernel_rfl
theorem qa1 (c : Cells) (m cap : Nat) (cE : Cells) (lE : Nat) (xE : Atom) (z : Int) (L n : Nat) : runTo (EL c cE lE L n) 1000 ((EL c cE lE L n).S 4) (bodyOf Try.prog 4 5) (TQ (sxA 4 1) nilA 1) (M4 c m cap cE lE xE z ++ [ownB (cA c) 1]) [true, false] (TQ (sxA 4 1) (sxA 7 1) 2) 8 =
    some ([decide ((1 : Int) < (m : Int)) = true, (0 : Int) ≤ (1 : Int) ∧ (1 : Int) < (m : Int), LoadsAs Try.prog 31 (rowPs c shR m 0) (0 + 1 * 4) (.agg (fldPs c shR (0 + 1 * 4))), (2 : Int) ≠ 0, decide (((1 % 2 : Nat) : Int) = 0) = false, inI ((1 : Int) + 1)], .normal, TQ (sxA 4 1) (sxA 7 1) 2, M4 c m cap cE lE xE z ++ [ownB (cA c) 1, tmpB (pcs p2 c (0 + 1 * 4)), tmpB (pcs p2 c (0 + 1 * 4)), newB (pcs p2 c (0 + 1 * 4))]) := by kernel_rfl
theorem qaE (c : Cells) (m cap : Nat) (cE : Cells) (lE : Nat) (xE : Atom) (z : Int) (L n : Nat) (x y i : Nat) : runTo (EL c cE lE L n) 1000 ((EL c cE lE L n).S 4) (bodyOf Try.prog 4 5) (TQ (sxA 4 x) (sxA 5 y) (i : Int)) (M4 c m cap cE lE xE z ++ [ownB (cA c) x, ownB (cB c) y]) [true, true] (TQ (sxA 8 (x + 1)) (sxA 5 y) ((i : Int) + 1)) 9 =
    some ([decide ((i : Int) < (m : Int)) = true, (0 : Int) ≤ (i : Int) ∧ (i : Int) < (m : Int), LoadsAs Try.prog 31 (rowPs c shR m 0) (0 + i * 4) (.agg (fldPs c shR (0 + i * 4))), (2 : Int) ≠ 0, decide (((i % 2 : Nat) : Int) = 0) = true, apO (M4 c m cap cE lE xE z ++ [ownB (cA c) x, ownB (cB c) y, tmpB (pcs p1 c (0 + i * 4)), tmpB (pcs p1 c (0 + i * 4))]) 4 x 7 (cA c) (pcs p1 c (0 + i * 4)), inI ((i : Int) + 1)], .normal, TQ (sxA 8 (x + 1)) (sxA 5 y) ((i : Int) + 1), M4 c m cap cE lE xE z ++ [dedB (cA c) x, ownB (cB c) y, tmpB (pcs p1 c (0 + i * 4)), tmpB (pcs p1 c (0 + i * 4)), newB (rowPs (cA c) shR x 0 ++ pcs p1 c (0 + i * 4))]) := by kernel_rfl
theorem qaO (c : Cells) (m cap : Nat) (cE : Cells) (lE : Nat) (xE : Atom) (z : Int) (L n : Nat) (x y i : Nat) : runTo (EL c cE lE L n) 1000 ((EL c cE lE L n).S 4) (bodyOf Try.prog 4 5) (TQ (sxA 4 x) (sxA 5 y) (i : Int)) (M4 c m cap cE lE xE z ++ [ownB (cA c) x, ownB (cB c) y]) [true, false] (TQ (sxA 4 x) (sxA 8 (y + 1)) ((i : Int) + 1)) 9 =
    some ([decide ((i : Int) < (m : Int)) = true, (0 : Int) ≤ (i : Int) ∧ (i : Int) < (m : Int), LoadsAs Try.prog 31 (rowPs c shR m 0) (0 + i * 4) (.agg (fldPs c shR (0 + i * 4))), (2 : Int) ≠ 0, decide (((i % 2 : Nat) : Int) = 0) = false, apO (M4 c m cap cE lE xE z ++ [ownB (cA c) x, ownB (cB c) y, tmpB (pcs p2 c (0 + i * 4)), tmpB (pcs p2 c (0 + i * 4))]) 5 y 7 (cB c) (pcs p2 c (0 + i * 4)), inI ((i : Int) + 1)], .normal, TQ (sxA 4 x) (sxA 8 (y + 1)) ((i : Int) + 1), M4 c m cap cE lE xE z ++ [ownB (cA c) x, dedB (cB c) y, tmpB (pcs p2 c (0 + i * 4)), tmpB (pcs p2 c (0 + i * 4)), newB (rowPs (cB c) shR y 0 ++ pcs p2 c (0 + i * 4))]) := by kernel_rfl
theorem qaX (c : Cells) (m cap : Nat) (cE : Cells) (lE : Nat) (xE : Atom) (z : Int) (L n : Nat) (x y i : Nat) : runTo (EL c cE lE L n) 1000 ((EL c cE lE L n).S 4) (bodyOf Try.prog 4 5) (TQ (sxA 4 x) (sxA 5 y) (i : Int)) (M4 c m cap cE lE xE z ++ [ownB (cA c) x, ownB (cB c) y]) [false] (TQ (sxA 4 x) (sxA 5 y) (i : Int)) 6 =
    some ([decide ((i : Int) < (m : Int)) = false], .exit 0, TQ (sxA 4 x) (sxA 5 y) (i : Int), M4 c m cap cE lE xE z ++ [ownB (cA c) x, ownB (cB c) y]) := by kernel_rfl
theorem qm0 (c : Cells) (m cap : Nat) (cE : Cells) (lE : Nat) (xE : Atom) (z : Int) (L n : Nat) (x y : Nat) (w : Bool) : runTo (EL c cE lE L n) 1000 ((EL c cE lE L n).S 4) (bodyOf Try.prog 4 16) (TW x y w nilA 0) (M4 c m cap cE lE xE z ++ [ownB (cA c) x, ownB (cB c) y]) [true, true, true] (TW x y w (sxA 9 2) 1) 10 =
    some ([decide ((0 : Int) < (x : Int)) = true, decide ((0 : Int) < (y : Int)) = true, (0 : Int) ≤ (0 : Int) ∧ (0 : Int) < (y : Int), LoadsAs Try.prog 31 (rowPs (cB c) shR y 0) (0 + 0 * 4) (.agg (fldPs (cB c) shR (0 + 0 * 4))), decide ((0 : Int) < (x : Int)) = true, (0 : Int) ≤ (0 : Int) ∧ (0 : Int) < (x : Int), LoadsAs Try.prog 31 (rowPs (cA c) shR x 0) (0 + 0 * 4) (.agg (fldPs (cA c) shR (0 + 0 * 4))), appendG Try.prog (M4 c m cap cE lE xE z ++ [ownB (cA c) x, ownB (cB c) y] ++ [tmpB (fldPs (cB c) shR (0 + 0 * 4)), newB (fldPs (cB c) shR (0 + 0 * 4)), tmpB (fldPs (cA c) shR (0 + 0 * 4))]) 22 (.one (.sx 7 1)) (.one (.sl 8 0 1 1)) = some ([], .val (.one (.sx 9 2)), M4 c m cap cE lE xE z ++ [ownB (cA c) x, ownB (cB c) y] ++ [tmpB (fldPs (cB c) shR (0 + 0 * 4)), ⟨fldPs (cB c) shR (0 + 0 * 4), 31, false, false, 4⟩, tmpB (fldPs (cA c) shR (0 + 0 * 4)), newB (fldPs (cB c) shR (0 + 0 * 4) ++ fldPs (cA c) shR (0 + 0 * 4))]), inI ((0 : Int) + 1)], .normal, TW x y w (sxA 9 2) 1, M4 c m cap cE lE xE z ++ [ownB (cA c) x, ownB (cB c) y] ++ [tmpB (fldPs (cB c) shR (0 + 0 * 4)), ⟨fldPs (cB c) shR (0 + 0 * 4), 31, false, false, 4⟩, tmpB (fldPs (cA c) shR (0 + 0 * 4)), newB (fldPs (cB c) shR (0 + 0 * 4) ++ fldPs (cA c) shR (0 + 0 * 4))]) := by kernel_rfl
def apP (mem : List Blk) (A n b : Nat) (ps qs : List Piece) : Prop := appendG Try.prog mem 22 (.one (.sx A n)) (.one (.sl b 0 1 1)) = some ([], .val (.one (.sx mem.length (n + 1))), mem.set A ⟨ps, 31, false, false, 4⟩ ++ [newB (ps ++ qs)])
theorem qm2 (c : Cells) (m cap : Nat) (cE : Cells) (lE : Nat) (xE : Atom) (z : Int) (L n : Nat) (x y t j : Nat) (w : Bool) : runTo (EL c cE lE L n) 1000 ((EL c cE lE L n).S 4) (bodyOf Try.prog 4 16) (TW x y w (sxA 6 t) (j : Int)) (M4 c m cap cE lE xE z ++ [ownB (cA c) x, ownB (cB c) y, ownB (cM c L) t]) [true, true, true] (TW x y w (sxA 10 (t + 1 + 1)) ((j : Int) + 1)) 11 =
    some ([decide ((j : Int) < (x : Int)) = true, decide ((j : Int) < (y : Int)) = true, (0 : Int) ≤ (j : Int) ∧ (j : Int) < (y : Int), LoadsAs Try.prog 31 (rowPs (cB c) shR y 0) (0 + j * 4) (.agg (fldPs (cB c) shR (0 + j * 4))), apP (M4 c m cap cE lE xE z ++ [ownB (cA c) x, ownB (cB c) y, ownB (cM c L) t] ++ [tmpB (fldPs (cB c) shR (0 + j * 4))]) 6 t 7 (rowPs (cM c L) shR t 0) (fldPs (cB c) shR (0 + j * 4)), decide ((j : Int) < (x : Int)) = true, (0 : Int) ≤ (j : Int) ∧ (j : Int) < (x : Int), LoadsAs Try.prog 31 (rowPs (cA c) shR x 0) (0 + j * 4) (.agg (fldPs (cA c) shR (0 + j * 4))), apP (M4 c m cap cE lE xE z ++ [ownB (cA c) x, ownB (cB c) y, dedB (cM c L) t, tmpB (fldPs (cB c) shR (0 + j * 4)), newB (rowPs (cM c L) shR t 0 ++ fldPs (cB c) shR (0 + j * 4)), tmpB (fldPs (cA c) shR (0 + j * 4))]) 8 (t + 1) 9 (rowPs (cM c L) shR t 0 ++ fldPs (cB c) shR (0 + j * 4)) (fldPs (cA c) shR (0 + j * 4)), inI ((j : Int) + 1)], .normal, TW x y w (sxA 10 (t + 1 + 1)) ((j : Int) + 1), M4 c m cap cE lE xE z ++ [ownB (cA c) x, ownB (cB c) y, dedB (cM c L) t, tmpB (fldPs (cB c) shR (0 + j * 4)), ⟨rowPs (cM c L) shR t 0 ++ fldPs (cB c) shR (0 + j * 4), 31, false, false, 4⟩, tmpB (fldPs (cA c) shR (0 + j * 4)), newB ((rowPs (cM c L) shR t 0 ++ fldPs (cB c) shR (0 + j * 4)) ++ fldPs (cA c) shR (0 + j * 4))]) := by kernel_rfl
theorem qm1 (c : Cells) (m cap : Nat) (cE : Cells) (lE : Nat) (xE : Atom) (z : Int) (L n : Nat) (x y t j : Nat) (w : Bool) : runTo (EL c cE lE L n) 1000 ((EL c cE lE L n).S 4) (bodyOf Try.prog 4 16) (TW x y w (sxA 6 t) (j : Int)) (M4 c m cap cE lE xE z ++ [ownB (cA c) x, ownB (cB c) y, ownB (cM c L) t]) [true, false, true] (TW x y w (sxA 8 (t + 1)) ((j : Int) + 1)) 9 =
    some ([decide ((j : Int) < (x : Int)) = true, decide ((j : Int) < (y : Int)) = false, decide ((j : Int) < (x : Int)) = true, (0 : Int) ≤ (j : Int) ∧ (j : Int) < (x : Int), LoadsAs Try.prog 31 (rowPs (cA c) shR x 0) (0 + j * 4) (.agg (fldPs (cA c) shR (0 + j * 4))), apP (M4 c m cap cE lE xE z ++ [ownB (cA c) x, ownB (cB c) y, ownB (cM c L) t] ++ [tmpB (fldPs (cA c) shR (0 + j * 4))]) 6 t 7 (rowPs (cM c L) shR t 0) (fldPs (cA c) shR (0 + j * 4)), inI ((j : Int) + 1)], .normal, TW x y w (sxA 8 (t + 1)) ((j : Int) + 1), M4 c m cap cE lE xE z ++ [ownB (cA c) x, ownB (cB c) y, dedB (cM c L) t, tmpB (fldPs (cA c) shR (0 + j * 4)), newB (rowPs (cM c L) shR t 0 ++ fldPs (cA c) shR (0 + j * 4))]) := by kernel_rfl
theorem qmX (c : Cells) (m cap : Nat) (cE : Cells) (lE : Nat) (xE : Atom) (z : Int) (L n : Nat) (x y t j : Nat) (w : Bool) : runTo (EL c cE lE L n) 1000 ((EL c cE lE L n).S 4) (bodyOf Try.prog 4 16) (TW x y w (sxA 6 t) (j : Int)) (M4 c m cap cE lE xE z ++ [ownB (cA c) x, ownB (cB c) y, ownB (cM c L) t]) [false, false] (TW x y w (sxA 6 t) (j : Int)) 7 =
    some ([decide ((j : Int) < (x : Int)) = false, decide ((j : Int) < (y : Int)) = false], .exit 2, TW x y w (sxA 6 t) (j : Int), M4 c m cap cE lE xE z ++ [ownB (cA c) x, ownB (cB c) y, ownB (cM c L) t]) := by kernel_rfl
end Go.Ev

namespace Go.Ev
open Go Go.Proofs Go.RowKit
theorem memWf_app (n : Nat) : ∀ (A B : List Blk), memWf n A = true → memWf n B = true → memWf n (A ++ B) = true
  | [], _, _, h => h
  | a :: A, B, h, h' => by
    simp only [List.cons_append, memWf, Bool.and_eq_true] at h ⊢
    exact ⟨h.1, memWf_app n A B h.2 h'⟩
theorem memWf_free (n : Nat) : ∀ (l : List Blk), (∀ b ∈ l, Free b) → memWf n l = true
  | [], _ => rfl
  | b :: l, h => by
    simp only [memWf, Bool.and_eq_true]
    exact ⟨h b (by simp) _, memWf_free n l (fun x hx => h x (by simp [hx]))⟩
section
variable {c : Cells} {m cap : Nat} {cE : Cells} {lE : Nat} {xE : Atom} {z : Int}
theorem wfX {k : Nat} {l : List Blk} {t : Nat} {s : List (Nat × AV)} (hx : isE xE) (hl : ∀ b ∈ l, Free b) (hn : l.length = k) (h : tmsWf (4 + k) (slots t s) = true) : wfS (slots t s) (M4 c m cap cE lE xE z ++ l) = true := by
  unfold wfS
  have hlen : (M4 c m cap cE lE xE z ++ l).length = 4 + k := by rw [List.length_append, hn]; rfl
  rw [hlen, h, Bool.true_and]
  refine memWf_app _ _ _ ?_ (memWf_free _ _ hl)
  simp only [M4, memWf, rowB_free _ _ _ _ _, Bool.true_and, Bool.and_true, Bool.and_eq_true]
  exact ⟨bx_wf (by omega) hx, bx_wf (by omega) hx⟩
theorem bx_ne {b : Nat} (hb : 3 ≤ b) (hx : isE xE) : allPtr (neB b) (bx z m cap xE).ps = true := by
  have h0 : neB b 0 = true := by unfold neB; cases b with | zero => omega | succ b => rfl
  have h1 : neB b 1 = true := by unfold neB; rcases b with _ | _ | b; omega; omega; rfl
  rcases hx with rfl | ⟨l, k', rfl⟩ <;> simp [bx, allPtr, h0, h1]
theorem renM {l1 l' : List Blk} {b b' : Nat} (hx : isE xE) (hb : 4 ≤ b) (hb' : 4 ≤ b')
    (h : ∀ i k, l'[i]? = some k → Free k ∧ ((i + 4 ≠ b' ∧ i + 4 ≠ b ∧ l1[i]? = some k) ∨ (i + 4 = b' ∧ l1[b - 4]? = some k))) :
    ∀ i k, (M4 c m cap cE lE xE z ++ l')[i]? = some k → k.live = true → allPtr (neB b') k.ps = true ∧ ((i ≠ b' ∧ i ≠ b ∧ (M4 c m cap cE lE xE z ++ l1)[i]? = some k) ∨ (i = b' ∧ (M4 c m cap cE lE xE z ++ l1)[b]? = some k)) := by
  intro i k hi _
  match i, hi with
  | 0, hi =>
    refine ⟨?_, .inl ⟨by omega, by omega, hi⟩⟩
    simp only [M4, List.cons_append, List.getElem?_cons_zero, Option.some.injEq] at hi
    subst hi
    exact rowB_free _ _ _ _ _
  | 1, hi =>
    refine ⟨?_, .inl ⟨by omega, by omega, hi⟩⟩
    simp only [M4, List.cons_append, List.getElem?_cons_succ, List.getElem?_cons_zero, Option.some.injEq] at hi
    subst hi
    exact rowB_free _ _ _ _ _
  | 2, hi =>
    refine ⟨?_, .inl ⟨by omega, by omega, hi⟩⟩
    simp only [M4, List.cons_append, List.getElem?_cons_succ, List.getElem?_cons_zero, Option.some.injEq] at hi
    subst hi
    exact bx_ne (by omega) hx
  | 3, hi =>
    refine ⟨?_, .inl ⟨by omega, by omega, hi⟩⟩
    simp only [M4, List.cons_append, List.getElem?_cons_succ, List.getElem?_cons_zero, Option.some.injEq] at hi
    subst hi
    exact bx_ne (by omega) hx
  | i + 4, hi =>
    have hi : l'[i]? = some k := hi
    obtain ⟨hf, h1 | h1⟩ := h i k hi
    · exact ⟨hf _, .inl ⟨h1.1, h1.2.1, h1.2.2⟩⟩
    · refine ⟨hf _, .inr ⟨h1.1, ?_⟩⟩
      obtain ⟨d, rfl⟩ : ∃ d, b = d + 4 := ⟨b - 4, by omega⟩
      exact h1.2
theorem own_free (c : Cells) (n : Nat) : Free (ownB c n) := fun f => row_free _ _ f _ _
theorem ded_free (c : Cells) (n : Nat) : Free (dedB c n) := fun f => row_free _ _ f _ _
theorem fld_freeB (c : Cells) (q : Nat) : Free (tmpB (fldPs c shR q)) := fun f => fld_free _ f _ _
theorem fld_freeN (c : Cells) (q : Nat) : Free (newB (fldPs c shR q)) := fun f => fld_free _ f _ _
theorem pcs_free (p : ByteArray) (c : Cells) (q : Nat) : ∀ f, allPtr f (pcs p c q) = true := fun _ => rfl
theorem pcs_freeB (p : ByteArray) (c : Cells) (q : Nat) : Free (tmpB (pcs p c q)) := fun _ => rfl
theorem app_free {ps qs : List Piece} (h : ∀ f, allPtr f ps = true) (h' : ∀ f, allPtr f qs = true) : Free (newB (ps ++ qs)) := fun f => allPtr_app f _ _ (h f) (h' f)
theorem row_fr (c : Cells) (n : Nat) : ∀ f, allPtr f (rowPs c shR n 0) = true := fun f => row_free _ _ f _ _
theorem fld_fr (c : Cells) (q : Nat) : ∀ f, allPtr f (fldPs c shR q) = true := fun f => fld_free _ f _ _
theorem ldR {c : Cells} {m i : Nat} (h : i < m) : LoadsAs Try.prog 31 (rowPs c shR m 0) (0 + i * 4) (.agg (fldPs c shR (0 + i * 4))) :=
  loads_row [] shR [] rfl agg31 sz31 (i := i) h (by simp [shSz, shR, SK.sz])
theorem nwA (c : Cells) (x i : Nat) (h : i = 2 * x) : newB (rowPs (cA c) shR x 0 ++ pcs p1 c (0 + i * 4)) = ownB (cA c) (x + 1) := by
  subst h; unfold newB ownB; rw [cA, gC_row]
theorem nwB (c : Cells) (y i : Nat) (h : i = 2 * y + 1) : newB (rowPs (cB c) shR y 0 ++ pcs p2 c (0 + i * 4)) = ownB (cB c) (y + 1) := by
  subst h; unfold newB ownB; rw [cB, gC_row]
end
end Go.Ev

namespace Go.Ev
open Go Go.Proofs Go.RowKit
section
variable {c : Cells} {m cap : Nat} {cE : Cells} {lE : Nat} {xE : Atom} {z : Int} {L n : Nat}
noncomputable abbrev yA : Code := bodyOf Try.prog 4 5
noncomputable abbrev yM : Code := bodyOf Try.prog 4 16
theorem apO_ok {mem : List Blk} {A x b : Nat} {c : Cells} {ps : List Piece} (hA : mem[A]? = some (ownB c x)) (hk : mem[b]? = some (tmpB ps)) (hc : allA ps) (hn : ps.length = 4) (ho : cellsOk ps = true) (hf : ∀ f, allPtr f ps = true) (hx : x ≤ 500) : apO mem A x b c ps :=
  app_own (y := .one (.sl b 0 1 1)) (k := tmpB ps) hA rfl hk rfl hc hn ho hf (by omega) (by omega)
theorem turnE (hx : isE xE) {x y i : Nat} (hi : i = 2 * x) (hm : i < m) (h2 : m ≤ 200) :
    GoesK Try.prog 4 yA .normal (TQ (sxA 4 x) (sxA 5 y) (i : Int)) (M4 c m cap cE lE xE z ++ [ownB (cA c) x, ownB (cB c) y]) (TQ (sxA 4 (x + 1)) (sxA 5 y) ((i : Int) + 1)) (M4 c m cap cE lE xE z ++ [ownB (cA c) (x + 1), ownB (cB c) y]) := by
  have h0 : Goes Try.prog yA .normal (TQ (sxA 4 x) (sxA 5 y) (i : Int)) (M4 c m cap cE lE xE z ++ [ownB (cA c) x, ownB (cB c) y]) (TQ (sxA 8 (x + 1)) (sxA 5 y) ((i : Int) + 1)) (M4 c m cap cE lE xE z ++ [dedB (cA c) x, ownB (cB c) y, tmpB (pcs p1 c (0 + i * 4)), tmpB (pcs p1 c (0 + i * 4)), newB (rowPs (cA c) shR x 0 ++ pcs p1 c (0 + i * 4))]) := Runs.goes (envE4 c (cFs c 0 0) cE lE) ⟨_, _, qaE c m cap cE lE xE z 0 0 x y i, ⟨decide_eq_true (by omega), by omega, ldR hm, by decide, decide_eq_true (by omega), apO_ok rfl rfl (by simp [pcs, fldPs, shR, SK.pc, allA]) rfl rfl (pcs_free _ _ _) (by omega), by unfold inI; omega, trivial⟩, wfX (k := 5) hx (by
    intro b hb
    simp only [List.mem_cons, List.not_mem_nil, or_false] at hb
    rcases hb with rfl | rfl | rfl | rfl | rfl
    · exact ded_free _ _
    · exact own_free _ _
    · exact pcs_freeB _ _ _
    · exact pcs_freeB _ _ _
    · exact app_free (row_fr _ _) (pcs_free _ _ _)) rfl (by kernel_rfl)⟩
  have h := h0.toK (K := 4) (Nat.le_add_right 4 2)
  rw [nwA c x i hi] at h
  refine h.ren 8 4 (Nat.le_refl _) (by kernel_rfl) (renM hx (by omega) (by omega) ?_) (wfX (k := 2) hx ?_ rfl (by kernel_rfl))
  · intro j k hj
    match j, hj with
    | 0, hj => exact ⟨by simp at hj; subst hj; exact own_free _ _, .inr ⟨rfl, hj⟩⟩
    | 1, hj => exact ⟨by simp at hj; subst hj; exact own_free _ _, .inl ⟨by omega, by omega, hj⟩⟩
    | j + 2, hj => simp at hj
  · intro b hb
    simp only [List.mem_cons, List.not_mem_nil, or_false] at hb
    rcases hb with rfl | rfl <;> exact own_free _ _
theorem turnO (hx : isE xE) {x y i : Nat} (hi : i = 2 * y + 1) (hm : i < m) (h2 : m ≤ 200) :
    GoesK Try.prog 4 yA .normal (TQ (sxA 4 x) (sxA 5 y) (i : Int)) (M4 c m cap cE lE xE z ++ [ownB (cA c) x, ownB (cB c) y]) (TQ (sxA 4 x) (sxA 5 (y + 1)) ((i : Int) + 1)) (M4 c m cap cE lE xE z ++ [ownB (cA c) x, ownB (cB c) (y + 1)]) := by
  have h0 : Goes Try.prog yA .normal (TQ (sxA 4 x) (sxA 5 y) (i : Int)) (M4 c m cap cE lE xE z ++ [ownB (cA c) x, ownB (cB c) y]) (TQ (sxA 4 x) (sxA 8 (y + 1)) ((i : Int) + 1)) (M4 c m cap cE lE xE z ++ [ownB (cA c) x, dedB (cB c) y, tmpB (pcs p2 c (0 + i * 4)), tmpB (pcs p2 c (0 + i * 4)), newB (rowPs (cB c) shR y 0 ++ pcs p2 c (0 + i * 4))]) := Runs.goes (envE4 c (cFs c 0 0) cE lE) ⟨_, _, qaO c m cap cE lE xE z 0 0 x y i, ⟨decide_eq_true (by omega), by omega, ldR hm, by decide, decide_eq_false (by omega), apO_ok rfl rfl (by simp [pcs, fldPs, shR, SK.pc, allA]) rfl rfl (pcs_free _ _ _) (by omega), by unfold inI; omega, trivial⟩, wfX (k := 5) hx (by
    intro b hb
    simp only [List.mem_cons, List.not_mem_nil, or_false] at hb
    rcases hb with rfl | rfl | rfl | rfl | rfl
    · exact own_free _ _
    · exact ded_free _ _
    · exact pcs_freeB _ _ _
    · exact pcs_freeB _ _ _
    · exact app_free (row_fr _ _) (pcs_free _ _ _)) rfl (by kernel_rfl)⟩
  have h := h0.toK (K := 4) (Nat.le_add_right 4 2)
  rw [nwB c y i hi] at h
  refine h.ren 8 5 (by omega) (by kernel_rfl) (renM hx (by omega) (by omega) ?_) (wfX (k := 2) hx ?_ rfl (by kernel_rfl))
  · intro j k hj
    match j, hj with
    | 0, hj => exact ⟨by simp at hj; subst hj; exact own_free _ _, .inl ⟨by omega, by omega, hj⟩⟩
    | 1, hj => exact ⟨by simp at hj; subst hj; exact own_free _ _, .inr ⟨rfl, hj⟩⟩
    | j + 2, hj => simp at hj
  · intro b hb
    simp only [List.mem_cons, List.not_mem_nil, or_false] at hb
    rcases hb with rfl | rfl <;> exact own_free _ _
theorem turn0 (hx : isE xE) (hm : 0 < m) :
    GoesK Try.prog 4 yA .normal (TQ nilA nilA 0) (M4 c m cap cE lE xE z) (TQ (sxA 4 1) nilA 1) (M4 c m cap cE lE xE z ++ [ownB (cA c) 1]) := by
  have h0 : Goes Try.prog yA .normal (TQ nilA nilA 0) (M4 c m cap cE lE xE z) (TQ (sxA 6 1) nilA 1) (M4 c m cap cE lE xE z ++ [tmpB (pcs p1 c (0 + 0 * 4)), tmpB (pcs p1 c (0 + 0 * 4)), newB (pcs p1 c (0 + 0 * 4))]) := Runs.goes (envE4 c (cFs c 0 0) cE lE) ⟨_, _, qa0 c m cap cE lE xE z 0 0, ⟨decide_eq_true (by omega), by omega, ldR hm, by decide, by decide, by unfold inI; omega, trivial⟩, wfX (k := 3) hx (by
    intro b hb
    simp only [List.mem_cons, List.not_mem_nil, or_false] at hb
    rcases hb with rfl | rfl | rfl
    · exact pcs_freeB _ _ _
    · exact pcs_freeB _ _ _
    · exact pcs_free _ _ _) rfl (by kernel_rfl)⟩
  have h := h0.toK (K := 4) (Nat.le_refl 4)
  have e : newB (pcs p1 c (0 + 0 * 4)) = ownB (cA c) 1 := nwA c 0 0 rfl
  rw [e] at h
  refine h.ren 6 4 (by omega) (by kernel_rfl) (renM hx (by omega) (by omega) ?_) (wfX (k := 1) hx ?_ rfl (by kernel_rfl))
  · intro j k hj
    match j, hj with
    | 0, hj => exact ⟨by simp at hj; subst hj; exact own_free _ _, .inr ⟨rfl, hj⟩⟩
    | j + 1, hj => simp at hj
  · intro b hb
    simp only [List.mem_cons, List.not_mem_nil, or_false] at hb
    subst hb; exact own_free _ _
theorem turn1 (hx : isE xE) (hm : 1 < m) :
    GoesK Try.prog 4 yA .normal (TQ (sxA 4 1) nilA 1) (M4 c m cap cE lE xE z ++ [ownB (cA c) 1]) (TQ (sxA 4 1) (sxA 5 1) 2) (M4 c m cap cE lE xE z ++ [ownB (cA c) 1, ownB (cB c) 1]) := by
  have h0 : Goes Try.prog yA .normal (TQ (sxA 4 1) nilA 1) (M4 c m cap cE lE xE z ++ [ownB (cA c) 1]) (TQ (sxA 4 1) (sxA 7 1) 2) (M4 c m cap cE lE xE z ++ [ownB (cA c) 1, tmpB (pcs p2 c (0 + 1 * 4)), tmpB (pcs p2 c (0 + 1 * 4)), newB (pcs p2 c (0 + 1 * 4))]) := Runs.goes (envE4 c (cFs c 0 0) cE lE) ⟨_, _, qa1 c m cap cE lE xE z 0 0, ⟨decide_eq_true (by omega), by omega, ldR hm, by decide, by decide, by unfold inI; omega, trivial⟩, wfX (k := 4) hx (by
    intro b hb
    simp only [List.mem_cons, List.not_mem_nil, or_false] at hb
    rcases hb with rfl | rfl | rfl | rfl
    · exact own_free _ _
    · exact pcs_freeB _ _ _
    · exact pcs_freeB _ _ _
    · exact pcs_free _ _ _) rfl (by kernel_rfl)⟩
  have h := h0.toK (K := 4) (Nat.le_add_right 4 1)
  have e : newB (pcs p2 c (0 + 1 * 4)) = ownB (cB c) 1 := nwB c 0 1 rfl
  rw [e] at h
  refine h.ren 7 5 (by omega) (by kernel_rfl) (renM hx (by omega) (by omega) ?_) (wfX (k := 2) hx ?_ rfl (by kernel_rfl))
  · intro j k hj
    match j, hj with
    | 0, hj => exact ⟨by simp at hj; subst hj; exact own_free _ _, .inl ⟨by omega, by omega, hj⟩⟩
    | 1, hj => exact ⟨by simp at hj; subst hj; exact own_free _ _, .inr ⟨rfl, hj⟩⟩
    | j + 2, hj => simp at hj
  · intro b hb
    simp only [List.mem_cons, List.not_mem_nil, or_false] at hb
    rcases hb with rfl | rfl <;> exact own_free _ _
def TAf : Nat → List AV
  | 0 => TQ nilA nilA 0
  | 1 => TQ (sxA 4 1) nilA 1
  | j + 2 => TQ (sxA 4 ((j + 2 + 1) / 2)) (sxA 5 ((j + 2) / 2)) ((j + 2 : Nat) : Int)
def MAf (c : Cells) (m cap : Nat) (cE : Cells) (lE : Nat) (xE : Atom) (z : Int) : Nat → List Blk
  | 0 => M4 c m cap cE lE xE z
  | 1 => M4 c m cap cE lE xE z ++ [ownB (cA c) 1]
  | j + 2 => M4 c m cap cE lE xE z ++ [ownB (cA c) ((j + 2 + 1) / 2), ownB (cB c) ((j + 2) / 2)]
theorem TAf_ge {j : Nat} (h : 2 ≤ j) : TAf j = TQ (sxA 4 ((j + 1) / 2)) (sxA 5 (j / 2)) (j : Int) := by
  obtain ⟨k, rfl⟩ : ∃ k, j = k + 2 := ⟨j - 2, by omega⟩
  rfl
theorem MAf_ge {j : Nat} (h : 2 ≤ j) : MAf c m cap cE lE xE z j = M4 c m cap cE lE xE z ++ [ownB (cA c) ((j + 1) / 2), ownB (cB c) (j / 2)] := by
  obtain ⟨k, rfl⟩ : ∃ k, j = k + 2 := ⟨j - 2, by omega⟩
  rfl
theorem loopA (hx : isE xE) (h0 : 2 ≤ m) (h2 : m ≤ 200) :
    Goes Try.prog (.loop yA) (.exit 0) (TQ nilA nilA 0) (M4 c m cap cE lE xE z) (TQ (sxA 4 ((m + 1) / 2)) (sxA 5 (m / 2)) (m : Int)) (M4 c m cap cE lE xE z ++ [ownB (cA c) ((m + 1) / 2), ownB (cB c) (m / 2)]) := by
  refine (loop_goesK (K := 4) (N := m) (T := TAf) (M := MAf c m cap cE lE xE z) (by simp) ?_ ?_).out
  · intro j hj
    match j, hj with
    | 0, hj => exact turn0 hx hj
    | 1, hj => exact turn1 hx hj
    | j + 2, hj =>
      rw [TAf_ge (show 2 ≤ j + 2 by omega), TAf_ge (show 2 ≤ j + 2 + 1 by omega), MAf_ge (show 2 ≤ j + 2 by omega), MAf_ge (show 2 ≤ j + 2 + 1 by omega)]
      rcases Nat.mod_two_eq_zero_or_one j with he | he
      · have := turnE (c := c) (m := m) (cap := cap) (cE := cE) (lE := lE) (z := z) hx (x := (j + 2 + 1) / 2) (y := (j + 2) / 2) (i := j + 2) (by omega) hj h2
        rw [show (j + 2 + 1 + 1) / 2 = (j + 2 + 1) / 2 + 1 by omega, show ((j + 2 + 1 : Nat) : Int) = ((j + 2 : Nat) : Int) + 1 by omega]
        rw [show (j + 2 + 1) / 2 = (j + 2) / 2 by omega] at this ⊢
        exact this
      · have := turnO (c := c) (m := m) (cap := cap) (cE := cE) (lE := lE) (z := z) hx (x := (j + 2 + 1) / 2) (y := (j + 2) / 2) (i := j + 2) (by omega) hj h2
        rw [show (j + 2 + 1 + 1) / 2 = (j + 2 + 1) / 2 by omega, show ((j + 2 + 1 : Nat) : Int) = ((j + 2 : Nat) : Int) + 1 by omega]
        rw [show (j + 2) / 2 + 1 = (j + 2 + 1) / 2 by omega] at this
        exact this
  · rw [TAf_ge h0, MAf_ge h0]
    have h : Goes Try.prog yA (.exit 0) (TQ (sxA 4 ((m + 1) / 2)) (sxA 5 (m / 2)) (m : Int)) (M4 c m cap cE lE xE z ++ [ownB (cA c) ((m + 1) / 2), ownB (cB c) (m / 2)]) (TQ (sxA 4 ((m + 1) / 2)) (sxA 5 (m / 2)) (m : Int)) (M4 c m cap cE lE xE z ++ [ownB (cA c) ((m + 1) / 2), ownB (cB c) (m / 2)]) := (Runs.goes (envE4 c (cFs c 0 0) cE lE) ⟨_, _, qaX c m cap cE lE xE z 0 0 _ _ m, ⟨decide_eq_false (by omega), trivial⟩, wfX (k := 2) hx (by
      intro b hb
      simp only [List.mem_cons, List.not_mem_nil, or_false] at hb
      rcases hb with rfl | rfl <;> exact own_free _ _) rfl (by kernel_rfl)⟩)
    exact h.toK (K := 4) (Nat.le_add_right 4 2)
end
end Go.Ev

namespace Go.Ev
open Go Go.Proofs Go.RowKit
section
variable {c : Cells} {m cap : Nat} {cE : Cells} {lE : Nat} {xE : Atom} {z : Int} {L : Nat}
theorem fldA (c : Cells) (k : Nat) : fldPs (cA c) shR (0 + k * 4) = pcs p1 c (0 + 2 * k * 4) := gC_fld _ _ _ _
theorem fldB (c : Cells) (k : Nat) : fldPs (cB c) shR (0 + k * 4) = pcs p2 c (0 + (2 * k + 1) * 4) := gC_fld _ _ _ _
theorem blt_t {a b : Nat} (h : a < b) : Nat.blt a b = true := by rw [Nat.blt]; exact Nat.ble_eq_true_of_le h
theorem blt_f {a b : Nat} (h : b ≤ a) : Nat.blt a b = false := by
  cases e : Nat.blt a b with
  | false => rfl
  | true => rw [Nat.blt] at e; have := Nat.le_of_ble_eq_true e; omega
theorem rowM_b (c : Cells) {L j : Nat} (h : j < L) : rowPs (cM c L) shR (2 * j + 1) 0 = rowPs (cM c L) shR (2 * j) 0 ++ fldPs (cB c) shR (0 + j * 4) := by
  have h1 : Nat.blt (2 * j) (2 * L) = true := blt_t (by omega)
  have h2 : Nat.beq (2 * j % 2) 0 = true := by rw [show 2 * j % 2 = 0 by omega]; rfl
  conv => lhs; rw [cM]
  rw [gC_row, fldB, h1, h2, ← cM]; rfl
theorem rowM_a (c : Cells) {L j : Nat} (h : j < L) : rowPs (cM c L) shR (2 * j + 1 + 1) 0 = rowPs (cM c L) shR (2 * j + 1) 0 ++ fldPs (cA c) shR (0 + j * 4) := by
  have h1 : Nat.blt (2 * j + 1) (2 * L) = true := blt_t (by omega)
  have h2 : Nat.beq ((2 * j + 1) % 2) 0 = false := by rw [show (2 * j + 1) % 2 = 1 by omega]; rfl
  conv => lhs; rw [cM]
  rw [gC_row, fldA, h1, h2, ← cM]; rfl
theorem rowM_e (c : Cells) (L : Nat) : rowPs (cM c L) shR (2 * L + 1) 0 = rowPs (cM c L) shR (2 * L) 0 ++ fldPs (cA c) shR (0 + L * 4) := by
  have h1 : Nat.blt (2 * L) (2 * L) = false := blt_f (Nat.le_refl _)
  conv => lhs; rw [cM]
  rw [gC_row, fldA, h1, ← cM]; rfl
theorem fld_allA (c : Cells) (q : Nat) : allA (fldPs c shR q) := by simp [fldPs, shR, SK.pc, allA]
/-- what is put behind rows, known by their cells. -/
theorem apP_ok {mem : List Blk} {A x b : Nat} {c : Cells} {qs ps : List Piece} (e : ps = rowPs c shR x 0) (hA : mem[A]? = some (newB ps)) (hk : mem[b]? = some (tmpB qs)) (hc : allA qs) (hn : qs.length = 4) (ho : cellsOk qs = true) (hf : ∀ f, allPtr f qs = true) (hx : x ≤ 500) : apP mem A x b ps qs := by
  subst e
  exact app_own (y := .one (.sl b 0 1 1)) (k := tmpB qs) (c := c) hA rfl hk rfl hc hn ho hf (by omega) (by omega)
theorem turnM0 (hx : isE xE) {x y : Nat} {w : Bool} (h1 : 0 < x) (h2 : 0 < y) (hL : 0 < L) :
    GoesK Try.prog 6 yM .normal (TW x y w nilA 0) (M4 c m cap cE lE xE z ++ [ownB (cA c) x, ownB (cB c) y]) (TW x y w (sxA 6 2) 1) (M4 c m cap cE lE xE z ++ [ownB (cA c) x, ownB (cB c) y, ownB (cM c L) (2)]) := by
  have h0 : Goes Try.prog yM .normal (TW x y w nilA 0) (M4 c m cap cE lE xE z ++ [ownB (cA c) x, ownB (cB c) y]) (TW x y w (sxA 9 2) 1) (M4 c m cap cE lE xE z ++ [ownB (cA c) x, ownB (cB c) y, tmpB (fldPs (cB c) shR (0 + 0 * 4)), ⟨fldPs (cB c) shR (0 + 0 * 4), 31, false, false, 4⟩, tmpB (fldPs (cA c) shR (0 + 0 * 4)), newB (fldPs (cB c) shR (0 + 0 * 4) ++ fldPs (cA c) shR (0 + 0 * 4))]) := Runs.goes (envE4 c (cFs c L 0) cE lE) ⟨_, _, qm0 c m cap cE lE xE z L 0 x y w, ⟨decide_eq_true (by omega), decide_eq_true (by omega), by omega, ldR h2, decide_eq_true (by omega), by omega, ldR h1, apP_ok (c := (cM c L)) (x := 1) (rowM_b c (j := 0) hL).symm rfl rfl (fld_allA _ _) rfl rfl (fld_fr _ _) (by omega), by unfold inI; omega, trivial⟩, wfX (k := 6) hx (by
    intro b hb
    simp only [List.mem_cons, List.not_mem_nil, or_false] at hb
    rcases hb with rfl | rfl | rfl | rfl | rfl | rfl
    · exact own_free _ _
    · exact own_free _ _
    · exact fld_freeB _ _
    · exact fun f => fld_free _ f _ _
    · exact fld_freeB _ _
    · exact app_free (fld_fr _ _) (fld_fr _ _)
    ) rfl (by kernel_rfl)⟩
  have h := h0.toK (K := 6) (Nat.le_refl 6)
  have e : newB (fldPs (cB c) shR (0 + 0 * 4) ++ fldPs (cA c) shR (0 + 0 * 4)) = ownB (cM c L) 2 := by
    show newB (([] ++ fldPs (cB c) shR (0 + 0 * 4)) ++ fldPs (cA c) shR (0 + 0 * 4)) = _
    have e1 := rowM_b c (j := 0) hL
    have e2 := rowM_a c (j := 0) hL
    unfold newB ownB
    rw [show (2 : Nat) = 2 * 0 + 1 + 1 from rfl, e2, e1]; rfl
  rw [e] at h
  refine h.ren 9 6 (Nat.le_refl _) (by kernel_rfl) (renM hx (by omega) (by omega) ?_) (wfX (k := 3) hx ?_ rfl (by kernel_rfl))
  · intro j k hj
    match j, hj with
    | 0, hj => exact ⟨by simp at hj; subst hj; exact own_free _ _, .inl ⟨by omega, by omega, hj⟩⟩
    | 1, hj => exact ⟨by simp at hj; subst hj; exact own_free _ _, .inl ⟨by omega, by omega, hj⟩⟩
    | 2, hj => exact ⟨by simp at hj; subst hj; exact own_free _ _, .inr ⟨rfl, hj⟩⟩
    | j + 3, hj => simp at hj
  · intro b hb
    simp only [List.mem_cons, List.not_mem_nil, or_false] at hb
    rcases hb with rfl | rfl | rfl <;> exact own_free _ _
theorem turnM2 (hx : isE xE) {x y j : Nat} {w : Bool} (h1 : j < x) (h2 : j < y) (hL : j < L) (hj : L ≤ 200) :
    GoesK Try.prog 6 yM .normal (TW x y w (sxA 6 (2 * j)) (j : Int)) (M4 c m cap cE lE xE z ++ [ownB (cA c) x, ownB (cB c) y, ownB (cM c L) (2 * j)]) (TW x y w (sxA 6 (2 * j + 1 + 1)) ((j : Int) + 1)) (M4 c m cap cE lE xE z ++ [ownB (cA c) x, ownB (cB c) y, ownB (cM c L) (2 * j + 1 + 1)]) := by
  have h0 : Goes Try.prog yM .normal (TW x y w (sxA 6 (2 * j)) (j : Int)) (M4 c m cap cE lE xE z ++ [ownB (cA c) x, ownB (cB c) y, ownB (cM c L) (2 * j)]) (TW x y w (sxA 10 (2 * j + 1 + 1)) ((j : Int) + 1)) (M4 c m cap cE lE xE z ++ [ownB (cA c) x, ownB (cB c) y, dedB (cM c L) (2 * j), tmpB (fldPs (cB c) shR (0 + j * 4)), ⟨rowPs (cM c L) shR (2 * j) 0 ++ fldPs (cB c) shR (0 + j * 4), 31, false, false, 4⟩, tmpB (fldPs (cA c) shR (0 + j * 4)), newB ((rowPs (cM c L) shR (2 * j) 0 ++ fldPs (cB c) shR (0 + j * 4)) ++ fldPs (cA c) shR (0 + j * 4))]) := Runs.goes (envE4 c (cFs c L 0) cE lE) ⟨_, _, qm2 c m cap cE lE xE z L 0 x y (2 * j) j w, ⟨decide_eq_true (by omega), decide_eq_true (by omega), by omega, ldR h2, apP_ok (c := (cM c L)) rfl rfl rfl (fld_allA _ _) rfl rfl (fld_fr _ _) (by omega), decide_eq_true (by omega), by omega, ldR h1, apP_ok (c := (cM c L)) (rowM_b c hL).symm rfl rfl (fld_allA _ _) rfl rfl (fld_fr _ _) (by omega), by unfold inI; omega, trivial⟩, wfX (k := 7) hx (by
    intro b hb
    simp only [List.mem_cons, List.not_mem_nil, or_false] at hb
    rcases hb with rfl | rfl | rfl | rfl | rfl | rfl | rfl
    · exact own_free _ _
    · exact own_free _ _
    · exact ded_free _ _
    · exact fld_freeB _ _
    · exact fun f => allPtr_app f _ _ (row_free _ _ f _ _) (fld_free _ f _ _)
    · exact fld_freeB _ _
    · exact app_free (fun f => allPtr_app f _ _ (row_free _ _ f _ _) (fld_free _ f _ _)) (fld_fr _ _)
    ) rfl (by kernel_rfl)⟩
  have h := h0.toK (K := 6) (Nat.le_add_right 6 1)
  have e : newB ((rowPs (cM c L) shR (2 * j) 0 ++ fldPs (cB c) shR (0 + j * 4)) ++ fldPs (cA c) shR (0 + j * 4)) = ownB (cM c L) (2 * j + 1 + 1) := by
    unfold newB ownB; rw [rowM_a c hL, rowM_b c hL]
  rw [e] at h
  refine h.ren 10 6 (Nat.le_refl _) (by kernel_rfl) (renM hx (by omega) (by omega) ?_) (wfX (k := 3) hx ?_ rfl (by kernel_rfl))
  · intro j k hj
    match j, hj with
    | 0, hj => exact ⟨by simp at hj; subst hj; exact own_free _ _, .inl ⟨by omega, by omega, hj⟩⟩
    | 1, hj => exact ⟨by simp at hj; subst hj; exact own_free _ _, .inl ⟨by omega, by omega, hj⟩⟩
    | 2, hj => exact ⟨by simp at hj; subst hj; exact own_free _ _, .inr ⟨rfl, hj⟩⟩
    | j + 3, hj => simp at hj
  · intro b hb
    simp only [List.mem_cons, List.not_mem_nil, or_false] at hb
    rcases hb with rfl | rfl | rfl <;> exact own_free _ _
theorem turnM1 (hx : isE xE) {x y : Nat} {w : Bool} (h1 : L < x) (h2 : y ≤ L) (hj : L ≤ 200) :
    GoesK Try.prog 6 yM .normal (TW x y w (sxA 6 (2 * L)) (L : Int)) (M4 c m cap cE lE xE z ++ [ownB (cA c) x, ownB (cB c) y, ownB (cM c L) (2 * L)]) (TW x y w (sxA 6 (2 * L + 1)) ((L : Int) + 1)) (M4 c m cap cE lE xE z ++ [ownB (cA c) x, ownB (cB c) y, ownB (cM c L) (2 * L + 1)]) := by
  have h0 : Goes Try.prog yM .normal (TW x y w (sxA 6 (2 * L)) (L : Int)) (M4 c m cap cE lE xE z ++ [ownB (cA c) x, ownB (cB c) y, ownB (cM c L) (2 * L)]) (TW x y w (sxA 8 (2 * L + 1)) ((L : Int) + 1)) (M4 c m cap cE lE xE z ++ [ownB (cA c) x, ownB (cB c) y, dedB (cM c L) (2 * L), tmpB (fldPs (cA c) shR (0 + L * 4)), newB (rowPs (cM c L) shR (2 * L) 0 ++ fldPs (cA c) shR (0 + L * 4))]) := Runs.goes (envE4 c (cFs c L 0) cE lE) ⟨_, _, qm1 c m cap cE lE xE z L 0 x y (2 * L) L w, ⟨decide_eq_true (by omega), decide_eq_false (by omega), decide_eq_true (by omega), by omega, ldR h1, apP_ok (c := (cM c L)) rfl rfl rfl (fld_allA _ _) rfl rfl (fld_fr _ _) (by omega), by unfold inI; omega, trivial⟩, wfX (k := 5) hx (by
    intro b hb
    simp only [List.mem_cons, List.not_mem_nil, or_false] at hb
    rcases hb with rfl | rfl | rfl | rfl | rfl
    · exact own_free _ _
    · exact own_free _ _
    · exact ded_free _ _
    · exact fld_freeB _ _
    · exact app_free (row_fr _ _) (fld_fr _ _)
    ) rfl (by kernel_rfl)⟩
  have h := h0.toK (K := 6) (Nat.le_add_right 6 1)
  have e : newB (rowPs (cM c L) shR (2 * L) 0 ++ fldPs (cA c) shR (0 + L * 4)) = ownB (cM c L) (2 * L + 1) := by
    unfold newB ownB; rw [rowM_e]
  rw [e] at h
  refine h.ren 8 6 (Nat.le_refl _) (by kernel_rfl) (renM hx (by omega) (by omega) ?_) (wfX (k := 3) hx ?_ rfl (by kernel_rfl))
  · intro j k hj
    match j, hj with
    | 0, hj => exact ⟨by simp at hj; subst hj; exact own_free _ _, .inl ⟨by omega, by omega, hj⟩⟩
    | 1, hj => exact ⟨by simp at hj; subst hj; exact own_free _ _, .inl ⟨by omega, by omega, hj⟩⟩
    | 2, hj => exact ⟨by simp at hj; subst hj; exact own_free _ _, .inr ⟨rfl, hj⟩⟩
    | j + 3, hj => simp at hj
  · intro b hb
    simp only [List.mem_cons, List.not_mem_nil, or_false] at hb
    rcases hb with rfl | rfl | rfl <;> exact own_free _ _
def TBf (m x y : Nat) (w : Bool) : Nat → List AV
  | 0 => TW x y w nilA 0
  | j + 1 => TW x y w (sxA 6 (min (2 * (j + 1)) m)) ((j + 1 : Nat) : Int)
def MBf (c : Cells) (m cap : Nat) (cE : Cells) (lE : Nat) (xE : Atom) (z : Int) (L x y : Nat) : Nat → List Blk
  | 0 => M4 c m cap cE lE xE z ++ [ownB (cA c) x, ownB (cB c) y]
  | j + 1 => M4 c m cap cE lE xE z ++ [ownB (cA c) x, ownB (cB c) y, ownB (cM c L) (min (2 * (j + 1)) m)]
theorem TBf_ge {m x y : Nat} {w : Bool} {j : Nat} (h : 1 ≤ j) : TBf m x y w j = TW x y w (sxA 6 (min (2 * j) m)) (j : Int) := by
  obtain ⟨k, rfl⟩ : ∃ k, j = k + 1 := ⟨j - 1, by omega⟩
  rfl
theorem MBf_ge {x y j : Nat} (h : 1 ≤ j) : MBf c m cap cE lE xE z L x y j = M4 c m cap cE lE xE z ++ [ownB (cA c) x, ownB (cB c) y, ownB (cM c L) (min (2 * j) m)] := by
  obtain ⟨k, rfl⟩ : ∃ k, j = k + 1 := ⟨j - 1, by omega⟩
  rfl
theorem loopX (hx : isE xE) {x y : Nat} {w : Bool} (h0 : 2 ≤ m) (h2 : m ≤ 200) (ex : x = (m + 1) / 2) (ey : y = m / 2) (eL : L = m / 2) :
    Goes Try.prog (.loop yM) (.exit 2) (TW x y w nilA 0) (M4 c m cap cE lE xE z ++ [ownB (cA c) x, ownB (cB c) y]) (TW x y w (sxA 6 m) (x : Int)) (M4 c m cap cE lE xE z ++ [ownB (cA c) x, ownB (cB c) y, ownB (cM c L) (m)]) := by
  refine (loop_goesK (K := 6) (N := x) (T := TBf m x y w) (M := MBf c m cap cE lE xE z L x y) (by simp) ?_ ?_).out
  · intro j hj
    match j, hj with
    | 0, hj =>
      have := turnM0 (c := c) (m := m) (cap := cap) (cE := cE) (lE := lE) (z := z) (L := L) (x := x) (y := y) (w := w) hx (by omega) (by omega) (by omega)
      rw [TBf_ge (show 1 ≤ 0 + 1 by omega), MBf_ge (show 1 ≤ 0 + 1 by omega), show min (2 * (0 + 1)) m = 2 by omega]
      exact this
    | j + 1, hj =>
      rw [TBf_ge (show 1 ≤ j + 1 by omega), MBf_ge (show 1 ≤ j + 1 by omega), TBf_ge (show 1 ≤ j + 1 + 1 by omega), MBf_ge (show 1 ≤ j + 1 + 1 by omega)]
      by_cases hL : j + 1 < L
      · have := turnM2 (c := c) (m := m) (cap := cap) (cE := cE) (lE := lE) (z := z) (L := L) (x := x) (y := y) (j := j + 1) (w := w) hx (by omega) (by omega) hL (by omega)
        rw [show min (2 * (j + 1)) m = 2 * (j + 1) by omega, show min (2 * (j + 1 + 1)) m = 2 * (j + 1) + 1 + 1 by omega, show ((j + 1 + 1 : Nat) : Int) = ((j + 1 : Nat) : Int) + 1 by omega]
        exact this
      · have := turnM1 (c := c) (m := m) (cap := cap) (cE := cE) (lE := lE) (z := z) (L := L) (x := x) (y := y) (w := w) hx (by omega) (by omega) (by omega)
        rw [show min (2 * (j + 1)) m = 2 * L by omega, show min (2 * (j + 1 + 1)) m = 2 * L + 1 by omega, show ((j + 1 + 1 : Nat) : Int) = (L : Int) + 1 by omega, show ((j + 1 : Nat) : Int) = (L : Int) by omega]
        exact this
  · rw [TBf_ge (show 1 ≤ x by omega), MBf_ge (show 1 ≤ x by omega), show min (2 * x) m = m by omega]
    have h : Goes Try.prog yM (.exit 2) (TW x y w (sxA 6 m) (x : Int)) (M4 c m cap cE lE xE z ++ [ownB (cA c) x, ownB (cB c) y, ownB (cM c L) (m)]) (TW x y w (sxA 6 m) (x : Int)) (M4 c m cap cE lE xE z ++ [ownB (cA c) x, ownB (cB c) y, ownB (cM c L) (m)]) := Runs.goes (envE4 c (cFs c L 0) cE lE) ⟨_, _, qmX c m cap cE lE xE z L 0 x y m x w, ⟨decide_eq_false (by omega), decide_eq_false (by omega), trivial⟩, wfX (k := 3) hx (by
      intro b hb
      simp only [List.mem_cons, List.not_mem_nil, or_false] at hb
      rcases hb with rfl | rfl | rfl <;> exact own_free _ _) rfl (by kernel_rfl)⟩
    exact h.toK (K := 6) (Nat.le_add_right 6 1)
end
end Go.Ev

namespace Go.Ev
open Go Go.Proofs Go.RowKit
def sumG (T0 : List AV) (M0 : List Blk) (TF : List AV) (MF : List Blk) (ex : Ex) : List AV → List Blk → List Bool → CoR := fun tm mem c =>
  some ([(fitT T0 tm, mem) = (T0, M0), wfS T0 M0 = true], c, ex, TF, MF)
theorem sumG_ok {P : Program} {y : Code} {T0 TF : List AV} {M0 MF : List Blk} {ex : Ex} (hl : M0.length ≤ MF.length) (h : Goes P y ex T0 M0 TF MF) : SumOK P y (sumG T0 M0 TF MF ex) := by
  intro tm mem c ob c' ex' tm' mem' hf ho w0 φ a w hr Q hQ
  simp only [sumG, Option.some.injEq, Prod.mk.injEq] at hf
  obtain ⟨rfl, rfl, rfl, rfl, rfl⟩ := hf
  obtain ⟨h1, h2, _⟩ := ho
  obtain ⟨h1, rfl⟩ := h1
  refine h w0 φ a w (hr.fit (fits_of (by rw [h1, List.take_length]) h2)) Q ?_
  intro φ' a' w' hag hr'
  exact hQ φ' a' w' hag hl hr'
def MX (c : Cells) (m cap : Nat) (cE : Cells) (lE : Nat) (xE : Atom) (z : Int) (x y : Nat) : List Blk := M4 c m cap cE lE xE z ++ [ownB (cA c) x, ownB (cB c) y]
def MY (c : Cells) (m cap : Nat) (cE : Cells) (lE : Nat) (xE : Atom) (z : Int) (x y L : Nat) : List Blk := M4 c m cap cE lE xE z ++ [ownB (cA c) x, ownB (cB c) y, ownB (cM c L) m]
noncomputable def sumA (c : Cells) (m cap : Nat) (cE : Cells) (lE : Nat) (xE : Atom) (z : Int) (x y : Nat) : List AV → List Blk → List Bool → CoR :=
  sumG (TQ nilA nilA 0) (M4 c m cap cE lE xE z) (TQ (sxA 4 x) (sxA 5 y) (m : Int)) (MX c m cap cE lE xE z x y) (.exit 0)
noncomputable def sumX (c : Cells) (m cap : Nat) (cE : Cells) (lE : Nat) (xE : Atom) (z : Int) (x y L : Nat) (w : Bool) : List AV → List Blk → List Bool → CoR :=
  sumG (TW x y w nilA 0) (MX c m cap cE lE xE z x y) (TW x y w (sxA 6 m) (x : Int)) (MY c m cap cE lE xE z x y L) (.exit 2)
/-- with Heavy's loop. -/
noncomputable def EH4 (c : Cells) (cF : Nat → Cells) (m cap : Nat) (cE : Cells) (lE : Nat) (xE : Atom) (z : Int) : Env := addL (E4 c cF cE lE) 3 (bodyOf Try.prog 5 3) (sumHL c m cap cE lE xE z)
theorem envEH4 {c : Cells} {cF : Nat → Cells} {m cap : Nat} {cE : Cells} {lE : Nat} {xE : Atom} {z : Int} (hx : isE xE) (hm : m ≤ BB) (hB : ∀ j, j < m * 4 → (sA c j).size ≤ BB) : EnvOK (EH4 c cF m cap cE lE xE z) :=
  envAddL (envE4 c cF cE lE) (sumC_ok rfl (heavyL hx hB (Nat.le_trans hm (by decide)) m 0 (m : Int) (by omega) (by omega)).loop)
/-- with all loops: some releases. -/
noncomputable def EM4 (c : Cells) (m cap : Nat) (cE : Cells) (lE : Nat) (xE : Atom) (z : Int) (x y L : Nat) (w : Bool) : Env :=
  addL (addL (EH4 c (cFs c L x) m cap cE lE xE z) 5 yA (sumA c m cap cE lE xE z x y)) 16 yM (sumX c m cap cE lE xE z x y L w)
theorem envEM4 {c : Cells} {m cap : Nat} {cE : Cells} {lE : Nat} {xE : Atom} {z : Int} {w : Bool} (hx : isE xE) (hm : m ≤ BB) (hB : ∀ j, j < m * 4 → (sA c j).size ≤ BB) {x y L : Nat} (h0 : 2 ≤ m) (h2 : m ≤ 200) (ex : x = (m + 1) / 2) (ey : y = m / 2) (eL : L = m / 2) : EnvOK (EM4 c m cap cE lE xE z x y L w) := by
  have h1 := loopA (c := c) (m := m) (cap := cap) (cE := cE) (lE := lE) (z := z) hx h0 h2
  rw [← ex, ← ey] at h1
  have l1 : (M4 c m cap cE lE xE z).length ≤ (MX c m cap cE lE xE z x y).length := Nat.le_add_right 4 2
  have l2 : (MX c m cap cE lE xE z x y).length ≤ (MY c m cap cE lE xE z x y L).length := Nat.le_add_right 6 1
  exact envAddL (envAddL (envEH4 hx hm hB) (sumG_ok l1 h1)) (sumG_ok l2 (loopX hx h0 h2 ex ey eL))
/-- one release, or none: all rows are alike. -/
def cF1 (c : Cells) : Nat → Cells := fun b => match b with | 0 => c | _ => cA c
end Go.Ev

namespace Go.Ev
open Go Go.Proofs Go.RowKit
def fmO (k : Blk) (c : Cells) (n : Nat) : List Prop := [k.live = true, ∀ φ : Loc, concs φ k.ps = concs φ (rowPs c shR n 0), n ≤ n, n ≤ maxLen, All (rowOb c shR n 0)]
def Hd (c : Cells) (m cap : Nat) (cE : Cells) (lE : Nat) (xE : Atom) (z : Int) (a b : Bool) : List Prop :=
  [bodyOf Try.prog 5 3 = bodyOf Try.prog 5 3, (THL (m : Int) ((0 : Nat) : Int), M4 c m cap cE lE xE z) = (THL (m : Int) ((0 : Nat) : Int), M4 c m cap cE lE xE z), wfS (THL (m : Int) ((0 : Nat) : Int)) (M4 c m cap cE lE xE z) = true, decide ((9000 : Int) < hvL c m 0 (m : Int)) = a, decide ((200 : Int) < (m : Int)) = b]
def Hd1 (c : Cells) (m cap : Nat) (cE : Cells) (lE : Nat) (xE : Atom) (z : Int) : List Prop :=
  [bodyOf Try.prog 5 3 = bodyOf Try.prog 5 3, (THL (m : Int) ((0 : Nat) : Int), M4 c m cap cE lE xE z) = (THL (m : Int) ((0 : Nat) : Int), M4 c m cap cE lE xE z), wfS (THL (m : Int) ((0 : Nat) : Int)) (M4 c m cap cE lE xE z) = true, decide ((9000 : Int) < hvL c m 0 (m : Int)) = true]
def HE (cE : Cells) (lE : Nat) : List Prop := [true = true, ∀ φ : Loc, concs φ (rowPs cE shC lE 0) = concs φ (rowPs cE shC lE 0), lE = lE, lE ≤ maxLen, ∀ j, j < lE * 9 → (sA cE j).size ≤ BB]
/-- some releases: what is owed behind Heavy. -/
def Ob2 (c : Cells) (m cap : Nat) (cE : Cells) (lE : Nat) (xE : Atom) (z : Int) (x y L : Nat) (u v w : Bool) : List Prop :=
  [yA = yA, (TQ nilA nilA 0, M4 c m cap cE lE xE z) = (TQ nilA nilA 0, M4 c m cap cE lE xE z), wfS (TQ nilA nilA 0) (M4 c m cap cE lE xE z) = true, risB (cA c) x = u] ++ fmO (ownB (cA c) x) (cA c) x ++ (bif u then fmO (ownB (cB c) y) (cB c) y else []) ++
  [yM = yM, (TW x y v nilA 0, MX c m cap cE lE xE z x y) = (TW x y w nilA 0, MX c m cap cE lE xE z x y), wfS (TW x y w nilA 0) (MX c m cap cE lE xE z x y) = true,
   appendG Try.prog (MY c m cap cE lE xE z x y L ++ [tmpB []]) 22 (.one (.sl 7 0 0 0)) (.one (.sx 4 x)) = some ([], .val (.one (.sx 8 (0 + x))), (MY c m cap cE lE xE z x y L ++ [tmpB []]) ++ [newB ([] ++ rowPs (cA c) shR x 0)]),
   appendG Try.prog (MY c m cap cE lE xE z x y L ++ [tmpB [], newB ([] ++ rowPs (cA c) shR x 0)]) 22 (.one (.sx 8 (0 + x))) (.one (.sx 5 y)) = some ([], .val (.one (.sx 9 (0 + x + y))), MY c m cap cE lE xE z x y L ++ [tmpB [], ⟨[] ++ rowPs (cA c) shR x 0, 31, false, false, 4⟩, newB (([] ++ rowPs (cA c) shR x 0) ++ rowPs (cB c) shR y 0)])] ++
  fmO (ownB (cM c L) m) (cM c L) m ++ [(risB (cM c L) m == w) = true] ++ fmO (newB (([] ++ rowPs (cA c) shR x 0) ++ rowPs (cB c) shR y 0)) (cO c x) (0 + x + y) ++ [(risB (cO c x) (0 + x + y) == w) = true]
def Ob1 (c : Cells) (m cap : Nat) (cE : Cells) (lE : Nat) (xE : Atom) (z : Int) : List Prop :=
  [decide ((0 : Int) < (m : Int)) = true, (0 : Int) ≤ 0 ∧ (0 : Int) < (m : Int), LoadsAs Try.prog 31 (rowPs c shR m 0) (0 + 0 * 4) (.agg (fldPs c shR (0 + 0 * 4))), (2 : Int) ≠ 0, decide (((0 % 2 : Nat) : Int) = 0) = true, inI ((0 : Int) + 1), decide ((0 : Int) + 1 < (m : Int)) = false, risB (cA c) 1 = true] ++ fmO (newB (pcs p1 c (0 + 0 * 4))) (cA c) 1 ++
  [decide ((0 : Int) < ((1 : Nat) : Int)) = true, decide ((0 : Int) < ((0 : Nat) : Int)) = false, decide ((0 : Int) < ((1 : Nat) : Int)) = true, (0 : Int) ≤ 0 ∧ (0 : Int) < ((1 : Nat) : Int), LoadsAs Try.prog 31 (pcs p1 c (0 + 0 * 4)) (0 + 0 * 4) (.agg (fldPs (cA c) shR (0 + 0 * 4))), inI ((0 : Int) + 1), decide ((0 : Int) + 1 < ((1 : Nat) : Int)) = false, decide ((0 : Int) + 1 < ((0 : Nat) : Int)) = false,
   appendG Try.prog (M4 c m cap cE lE xE z ++ [tmpB (pcs p1 c (0 + 0 * 4)), tmpB (pcs p1 c (0 + 0 * 4)), newB (pcs p1 c (0 + 0 * 4)), tmpB (fldPs (cA c) shR (0 + 0 * 4)), newB (fldPs (cA c) shR (0 + 0 * 4)), tmpB []]) 22 (.one (.sl 9 0 0 0)) (.one (.sx 6 1)) = some ([], .val (.one (.sx 10 (0 + 1))), M4 c m cap cE lE xE z ++ [tmpB (pcs p1 c (0 + 0 * 4)), tmpB (pcs p1 c (0 + 0 * 4)), newB (pcs p1 c (0 + 0 * 4)), tmpB (fldPs (cA c) shR (0 + 0 * 4)), newB (fldPs (cA c) shR (0 + 0 * 4)), tmpB [], newB ([] ++ pcs p1 c (0 + 0 * 4))])] ++
  fmO (newB (fldPs (cA c) shR (0 + 0 * 4))) (cA c) 1 ++ [(risB (cA c) 1 == true) = true] ++ fmO (newB ([] ++ pcs p1 c (0 + 0 * 4))) (cA c) (0 + 1) ++ [(risB (cA c) (0 + 1) == true) = true]
def Ob0 (c : Cells) (m : Nat) : List Prop :=
  [decide ((0 : Int) < (m : Int)) = false, true = true, decide ((0 : Int) < ((0 : Nat) : Int)) = false, decide ((0 : Int) < ((0 : Nat) : Int)) = false, (true == true) = true, true = true, ∀ φ : Loc, concs φ [] = concs φ (rowPs (cA c) shR 0 0), 0 ≤ 0, 0 ≤ maxLen, All [], (risB (cA c) 0 == true) = true]
theorem jh1 (c : Cells) (m cap : Nat) (cE : Cells) (lE : Nat) (z : Int) : dropM (callBy (EH4 c (cF1 c) m cap cE lE (.v (.slice none 0 0)) z) (evalC (EH4 c (cF1 c) m cap cE lE (.v (.slice none 0 0)) z) 1000) 4 [V1.agg [.a (.sl 0 0 m cap), .a (.i z), .a (.v (.slice none 0 0))]] (M2 c m cE lE) [true, true]) = some ((true = true) :: Hd1 c m cap cE lE (.v (.slice none 0 0)) z, bV true) := by kernel_rfl
theorem jh2 (c : Cells) (m cap : Nat) (cE : Cells) (lE : Nat) (z : Int) : dropM (callBy (EH4 c (cF1 c) m cap cE lE (.v (.slice none 0 0)) z) (evalC (EH4 c (cF1 c) m cap cE lE (.v (.slice none 0 0)) z) 1000) 4 [V1.agg [.a (.sl 0 0 m cap), .a (.i z), .a (.v (.slice none 0 0))]] (M2 c m cE lE) [false, true, true]) = some ((true = true) :: Hd c m cap cE lE (.v (.slice none 0 0)) z false true, bV true) := by kernel_rfl
theorem jv0 (c : Cells) (m cap : Nat) (cE : Cells) (lE : Nat) (z : Int) : dropM (callBy (EH4 c (cF1 c) m cap cE lE (.v (.slice none 0 0)) z) (evalC (EH4 c (cF1 c) m cap cE lE (.v (.slice none 0 0)) z) 1000) 4 [V1.agg [.a (.sl 0 0 m cap), .a (.i z), .a (.v (.slice none 0 0))]] (M2 c m cE lE) [false, false, false, false, true, false, false, true, true]) = some (((false = false) :: Hd c m cap cE lE (.v (.slice none 0 0)) z false false) ++ Ob0 c m, bV true) := by kernel_rfl
theorem jv1 (c : Cells) (m cap : Nat) (cE : Cells) (lE : Nat) (z : Int) : dropM (callBy (EH4 c (cF1 c) m cap cE lE (.v (.slice none 0 0)) z) (evalC (EH4 c (cF1 c) m cap cE lE (.v (.slice none 0 0)) z) 1000) 4 [V1.agg [.a (.sl 0 0 m cap), .a (.i z), .a (.v (.slice none 0 0))]] (M2 c m cE lE) [false, false, false, true, true, false, true, true, false, true, false, false, true, true]) = some (((false = false) :: Hd c m cap cE lE (.v (.slice none 0 0)) z false false) ++ Ob1 c m cap cE lE (.v (.slice none 0 0)) z, bV true) := by kernel_rfl
theorem jvt (c : Cells) (m cap : Nat) (cE : Cells) (lE : Nat) (z : Int) (x y L : Nat) (w : Bool) : dropM (callBy (EM4 c m cap cE lE (.v (.slice none 0 0)) z x y L w) (evalC (EM4 c m cap cE lE (.v (.slice none 0 0)) z x y L w) 1000) 4 [V1.agg [.a (.sl 0 0 m cap), .a (.i z), .a (.v (.slice none 0 0))]] (M2 c m cE lE) [false, false, false, true, true, true]) = some (((false = false) :: Hd c m cap cE lE (.v (.slice none 0 0)) z false false) ++ Ob2 c m cap cE lE (.v (.slice none 0 0)) z x y L true (risB (cB c) y) w, bV true) := by kernel_rfl
theorem jvf (c : Cells) (m cap : Nat) (cE : Cells) (lE : Nat) (z : Int) (x y L : Nat) (w : Bool) : dropM (callBy (EM4 c m cap cE lE (.v (.slice none 0 0)) z x y L w) (evalC (EM4 c m cap cE lE (.v (.slice none 0 0)) z x y L w) 1000) 4 [V1.agg [.a (.sl 0 0 m cap), .a (.i z), .a (.v (.slice none 0 0))]] (M2 c m cE lE) [false, false, false, false, true, true]) = some (((false = false) :: Hd c m cap cE lE (.v (.slice none 0 0)) z false false) ++ Ob2 c m cap cE lE (.v (.slice none 0 0)) z x y L false false w, bV true) := by kernel_rfl
theorem kh1 (c : Cells) (m cap : Nat) (cE : Cells) (lE kE : Nat) (z : Int) : dropM (callBy (EH4 c (cF1 c) m cap cE lE (.sl 1 0 lE kE) z) (evalC (EH4 c (cF1 c) m cap cE lE (.sl 1 0 lE kE) z) 1000) 4 [V1.agg [.a (.sl 0 0 m cap), .a (.i z), .a (.sl 1 0 lE kE)]] (M2 c m cE lE) [true, true]) = some ((true = true) :: Hd1 c m cap cE lE (.sl 1 0 lE kE) z, bV true) := by kernel_rfl
theorem kh2 (c : Cells) (m cap : Nat) (cE : Cells) (lE kE : Nat) (z : Int) : dropM (callBy (EH4 c (cF1 c) m cap cE lE (.sl 1 0 lE kE) z) (evalC (EH4 c (cF1 c) m cap cE lE (.sl 1 0 lE kE) z) 1000) 4 [V1.agg [.a (.sl 0 0 m cap), .a (.i z), .a (.sl 1 0 lE kE)]] (M2 c m cE lE) [false, true, true]) = some ((true = true) :: Hd c m cap cE lE (.sl 1 0 lE kE) z false true, bV true) := by kernel_rfl
theorem kh3 (c : Cells) (m cap : Nat) (cE : Cells) (lE kE : Nat) (z : Int) : dropM (callBy (EH4 c (cF1 c) m cap cE lE (.sl 1 0 lE kE) z) (evalC (EH4 c (cF1 c) m cap cE lE (.sl 1 0 lE kE) z) 1000) 4 [V1.agg [.a (.sl 0 0 m cap), .a (.i z), .a (.sl 1 0 lE kE)]] (M2 c m cE lE) [false, false, true]) = some ((decide ((9000 : Int) < hv cE lE 0 (lE : Int)) = true) :: (Hd c m cap cE lE (.sl 1 0 lE kE) z false false ++ HE cE lE), bV true) := by kernel_rfl
theorem kv0 (c : Cells) (m cap : Nat) (cE : Cells) (lE kE : Nat) (z : Int) : dropM (callBy (EH4 c (cF1 c) m cap cE lE (.sl 1 0 lE kE) z) (evalC (EH4 c (cF1 c) m cap cE lE (.sl 1 0 lE kE) z) 1000) 4 [V1.agg [.a (.sl 0 0 m cap), .a (.i z), .a (.sl 1 0 lE kE)]] (M2 c m cE lE) [false, false, false, false, true, false, false, true, true]) = some (((decide ((9000 : Int) < hv cE lE 0 (lE : Int)) = false) :: (Hd c m cap cE lE (.sl 1 0 lE kE) z false false ++ HE cE lE)) ++ Ob0 c m, bV true) := by kernel_rfl
theorem kv1 (c : Cells) (m cap : Nat) (cE : Cells) (lE kE : Nat) (z : Int) : dropM (callBy (EH4 c (cF1 c) m cap cE lE (.sl 1 0 lE kE) z) (evalC (EH4 c (cF1 c) m cap cE lE (.sl 1 0 lE kE) z) 1000) 4 [V1.agg [.a (.sl 0 0 m cap), .a (.i z), .a (.sl 1 0 lE kE)]] (M2 c m cE lE) [false, false, false, true, true, false, true, true, false, true, false, false, true, true]) = some (((decide ((9000 : Int) < hv cE lE 0 (lE : Int)) = false) :: (Hd c m cap cE lE (.sl 1 0 lE kE) z false false ++ HE cE lE)) ++ Ob1 c m cap cE lE (.sl 1 0 lE kE) z, bV true) := by kernel_rfl
theorem kvt (c : Cells) (m cap : Nat) (cE : Cells) (lE kE : Nat) (z : Int) (x y L : Nat) (w : Bool) : dropM (callBy (EM4 c m cap cE lE (.sl 1 0 lE kE) z x y L w) (evalC (EM4 c m cap cE lE (.sl 1 0 lE kE) z x y L w) 1000) 4 [V1.agg [.a (.sl 0 0 m cap), .a (.i z), .a (.sl 1 0 lE kE)]] (M2 c m cE lE) [false, false, false, true, true, true]) = some (((decide ((9000 : Int) < hv cE lE 0 (lE : Int)) = false) :: (Hd c m cap cE lE (.sl 1 0 lE kE) z false false ++ HE cE lE)) ++ Ob2 c m cap cE lE (.sl 1 0 lE kE) z x y L true (risB (cB c) y) w, bV true) := by kernel_rfl
theorem kvf (c : Cells) (m cap : Nat) (cE : Cells) (lE kE : Nat) (z : Int) (x y L : Nat) (w : Bool) : dropM (callBy (EM4 c m cap cE lE (.sl 1 0 lE kE) z x y L w) (evalC (EM4 c m cap cE lE (.sl 1 0 lE kE) z x y L w) 1000) 4 [V1.agg [.a (.sl 0 0 m cap), .a (.i z), .a (.sl 1 0 lE kE)]] (M2 c m cE lE) [false, false, false, false, true, true]) = some (((decide ((9000 : Int) < hv cE lE 0 (lE : Int)) = false) :: (Hd c m cap cE lE (.sl 1 0 lE kE) z false false ++ HE cE lE)) ++ Ob2 c m cap cE lE (.sl 1 0 lE kE) z x y L false false w, bV true) := by kernel_rfl
theorem n1v (z : Int) : dropM (callBy (E4 c0 (cF1 c0) c0 0) (evalC (E4 c0 (cF1 c0) c0 0) 1000) 4 [V1.agg [.a (.v (.slice none 0 0)), .a (.i z), .a (.v (.slice none 0 0))]] ([]) [false, false, false, false, false, true, false, false, true, true]) = some ([false = false, decide ((0 : Int) < ((0 : Nat) : Int)) = false, decide ((9000 : Int) < ((0 : Nat) : Int)) = false, decide ((200 : Int) < ((0 : Nat) : Int)) = false] ++ Ob0 c0 0, bV true) := by kernel_rfl
theorem n2v (cE : Cells) (lE kE : Nat) (z : Int) : dropM (callBy (E4 c0 (cF1 c0) cE lE) (evalC (E4 c0 (cF1 c0) cE lE) 1000) 4 [V1.agg [.a (.v (.slice none 0 0)), .a (.i z), .a (.sl 1 0 lE kE)]] ([rowB c0 shR 0 31, rowB cE shC lE 38]) [false, false, false, false, false, true, false, false, true, true]) = some ([decide ((9000 : Int) < hv cE lE 0 (lE : Int)) = false, decide ((0 : Int) < ((0 : Nat) : Int)) = false, decide ((9000 : Int) < ((0 : Nat) : Int)) = false, decide ((200 : Int) < ((0 : Nat) : Int)) = false] ++ HE cE lE ++ Ob0 c0 0, bV true) := by kernel_rfl
theorem n3v (cE : Cells) (lE kE : Nat) (z : Int) : dropM (callBy (E4 c0 (cF1 c0) cE lE) (evalC (E4 c0 (cF1 c0) cE lE) 1000) 4 [V1.agg [.a (.v (.slice none 0 0)), .a (.i z), .a (.sl 1 0 lE kE)]] ([rowB c0 shR 0 31, rowB cE shC lE 38]) [false, false, false, true]) = some ([decide ((9000 : Int) < hv cE lE 0 (lE : Int)) = true, decide ((0 : Int) < ((0 : Nat) : Int)) = false, decide ((9000 : Int) < ((0 : Nat) : Int)) = false, decide ((200 : Int) < ((0 : Nat) : Int)) = false] ++ HE cE lE, bV true) := by kernel_rfl
end Go.Ev

namespace Go.Ev
open Go Go.Proofs Go.RowKit
/-! the plain law -/
theorem gC_pth (c : Cells) (p : Nat → ByteArray) (ix : Nat → Nat) (k : Nat) : pth (gC c p ix) k = p k := by
  have h0 : (0 + k * 4) % 4 = 0 := by omega
  have d0 : (0 + k * 4) / 4 = k := by omega
  simp only [pth, sA, gC, h0, d0]
theorem gC_cnt (c : Cells) (p : Nat → ByteArray) (ix : Nat → Nat) (k : Nat) : cnt (gC c p ix) k = cnt c (ix k) := by
  have h1 : (0 + k * 4 + 1) % 4 = 1 := by omega
  have d1 : (0 + k * 4 + 1) / 4 = k := by omega
  simp only [cnt, nU, gC, h1, d1]
theorem p_ne : p1 ≠ p2 := fun h => absurd (congrArg ByteArray.data h) (by decide)
theorem risA {c : Cells} {x : Nat} : RisP (cA c) x ↔ ∀ i, i < x → ∀ k, k < i → cnt c (2 * k) < cnt c (2 * i) := by
  constructor
  · intro h i hi k hk
    have := h i hi k hk (by rw [cA, gC_pth, gC_pth])
    rwa [cA, gC_cnt, gC_cnt] at this
  · intro h i hi k hk _
    rw [cA, gC_cnt, gC_cnt]; exact h i hi k hk
theorem risBb {c : Cells} {x : Nat} : RisP (cB c) x ↔ ∀ i, i < x → ∀ k, k < i → cnt c (2 * k + 1) < cnt c (2 * i + 1) := by
  constructor
  · intro h i hi k hk
    have := h i hi k hk (by rw [cB, gC_pth, gC_pth])
    rwa [cB, gC_cnt, gC_cnt] at this
  · intro h i hi k hk _
    rw [cB, gC_cnt, gC_cnt]; exact h i hi k hk
theorem mB {c : Cells} {L j : Nat} (h : j < L) : pth (cM c L) (2 * j) = p2 ∧ cnt (cM c L) (2 * j) = cnt c (2 * j + 1) := by
  have h1 : Nat.blt (2 * j) (2 * L) = true := blt_t (by omega)
  have h2 : Nat.beq (2 * j % 2) 0 = true := by rw [show 2 * j % 2 = 0 by omega]; rfl
  rw [cM, gC_pth, gC_cnt, h1, h2]; exact ⟨rfl, rfl⟩
theorem mA {c : Cells} {L j : Nat} (h : j < L) : pth (cM c L) (2 * j + 1) = p1 ∧ cnt (cM c L) (2 * j + 1) = cnt c (2 * j) := by
  have h1 : Nat.blt (2 * j + 1) (2 * L) = true := blt_t (by omega)
  have h2 : Nat.beq ((2 * j + 1) % 2) 0 = false := by rw [show (2 * j + 1) % 2 = 1 by omega]; rfl
  rw [cM, gC_pth, gC_cnt, h1, h2]; exact ⟨rfl, rfl⟩
theorem mE {c : Cells} {L : Nat} : pth (cM c L) (2 * L) = p1 ∧ cnt (cM c L) (2 * L) = cnt c (2 * L) := by
  have h1 : Nat.blt (2 * L) (2 * L) = false := blt_f (Nat.le_refl _)
  rw [cM, gC_pth, gC_cnt, h1]; exact ⟨rfl, rfl⟩
/-- each place of the mixed ones: the second's, or the first's. -/
theorem mCase (c : Cells) {m i : Nat} (h : i < m) : (∃ j, j < m / 2 ∧ i = 2 * j ∧ pth (cM c (m / 2)) i = p2 ∧ cnt (cM c (m / 2)) i = cnt c (2 * j + 1)) ∨ (∃ j, j < (m + 1) / 2 ∧ (i = 2 * j + 1 ∨ (i = 2 * j ∧ j = m / 2)) ∧ pth (cM c (m / 2)) i = p1 ∧ cnt (cM c (m / 2)) i = cnt c (2 * j)) := by
  by_cases hL : i < 2 * (m / 2)
  · rcases Nat.mod_two_eq_zero_or_one i with he | he
    · obtain ⟨j, rfl⟩ : ∃ j, i = 2 * j := ⟨i / 2, by omega⟩
      exact .inl ⟨j, by omega, rfl, mB (by omega)⟩
    · obtain ⟨j, rfl⟩ : ∃ j, i = 2 * j + 1 := ⟨i / 2, by omega⟩
      exact .inr ⟨j, by omega, .inl rfl, mA (by omega)⟩
  · obtain rfl : i = 2 * (m / 2) := by omega
    exact .inr ⟨m / 2, by omega, .inr ⟨rfl, rfl⟩, mE⟩
theorem risM (c : Cells) (m : Nat) : RisP (cM c (m / 2)) m ↔ RisP (cA c) ((m + 1) / 2) ∧ RisP (cB c) (m / 2) := by
  rw [risA, risBb]
  constructor
  · intro h
    refine ⟨fun i hi k hk => ?_, fun i hi k hk => ?_⟩
    · have ek := mA (c := c) (L := m / 2) (j := k) (by omega)
      by_cases hL : i < m / 2
      · have ei := mA (c := c) (L := m / 2) (j := i) hL
        have := h (2 * i + 1) (by omega) (2 * k + 1) (by omega) (by rw [ek.1, ei.1])
        rwa [ek.2, ei.2] at this
      · obtain rfl : i = m / 2 := by omega
        have ei := mE (c := c) (L := m / 2)
        have := h (2 * (m / 2)) (by omega) (2 * k + 1) (by omega) (by rw [ek.1, ei.1])
        rwa [ek.2, ei.2] at this
    · have ek := mB (c := c) (L := m / 2) (j := k) (by omega)
      have ei := mB (c := c) (L := m / 2) (j := i) hi
      have := h (2 * i) (by omega) (2 * k) (by omega) (by rw [ek.1, ei.1])
      rwa [ek.2, ei.2] at this
  · rintro ⟨ha, hb⟩ i hi k hk hp
    rcases mCase c hi with ⟨j, hj, h1, h2, h3⟩ | ⟨j, hj, h1, h2, h3⟩ <;> rcases mCase c (show k < m by omega) with ⟨j', hj', h1', h2', h3'⟩ | ⟨j', hj', h1', h2', h3'⟩
    · rw [h3, h3']; exact hb j hj j' (by omega)
    · rw [h2, h2'] at hp; exact absurd hp p_ne
    · rw [h2, h2'] at hp; exact absurd hp.symm p_ne
    · rw [h3, h3']; exact ha j hj j' (by omega)
theorem oA {c : Cells} {n j : Nat} (h : j < n) : pth (cO c n) j = p1 ∧ cnt (cO c n) j = cnt c (2 * j) := by
  have h1 : Nat.blt j n = true := blt_t h
  rw [cO, gC_pth, gC_cnt, h1]; exact ⟨rfl, rfl⟩
theorem oB' {c : Cells} {n j : Nat} : pth (cO c n) (n + j) = p2 ∧ cnt (cO c n) (n + j) = cnt c (2 * j + 1) := by
  have h1 : Nat.blt (n + j) n = false := blt_f (by omega)
  rw [cO, gC_pth, gC_cnt, h1, show n + j - n = j by omega]; exact ⟨rfl, rfl⟩
theorem risO (c : Cells) (x y : Nat) : RisP (cO c x) (0 + x + y) ↔ RisP (cA c) x ∧ RisP (cB c) y := by
  rw [risA, risBb, Nat.zero_add]
  constructor
  · intro h
    refine ⟨fun i hi k hk => ?_, fun i hi k hk => ?_⟩
    · have ek := oA (c := c) (n := x) (j := k) (by omega)
      have ei := oA (c := c) (n := x) (j := i) hi
      have := h i (by omega) k hk (by rw [ek.1, ei.1])
      rwa [ek.2, ei.2] at this
    · have ek := oB' (c := c) (n := x) (j := k)
      have ei := oB' (c := c) (n := x) (j := i)
      have := h (x + i) (by omega) (x + k) (by omega) (by rw [ek.1, ei.1])
      rwa [ek.2, ei.2] at this
  · rintro ⟨ha, hb⟩ i hi k hk hp
    by_cases h1 : i < x
    · rw [(oA (c := c) (n := x) (j := i) h1).2, (oA (c := c) (n := x) (j := k) (by omega)).2]
      exact ha i h1 k hk
    · obtain ⟨i', rfl⟩ : ∃ i', i = x + i' := ⟨i - x, by omega⟩
      by_cases h2 : k < x
      · rw [(oA (c := c) (n := x) (j := k) h2).1, (oB' (c := c) (n := x) (j := i')).1] at hp
        exact absurd hp p_ne
      · obtain ⟨k', rfl⟩ : ∃ k', k = x + k' := ⟨k - x, by omega⟩
        rw [(oB' (c := c) (n := x) (j := i')).2, (oB' (c := c) (n := x) (j := k')).2]
        exact hb i' (by omega) k' (by omega)
theorem ris_and {P A B : Prop} (h : P ↔ A ∧ B) (p a b : Bool) (hp : p = @decide P (Classical.propDecidable _)) (ha : a = @decide A (Classical.propDecidable _)) (hb : b = @decide B (Classical.propDecidable _)) : p = (a && b) := by
  subst hp ha hb
  by_cases hA : A <;> by_cases hB : B
  · rw [@decide_eq_true _ (Classical.propDecidable _) hA, @decide_eq_true _ (Classical.propDecidable _) hB, @decide_eq_true _ (Classical.propDecidable _) (h.2 ⟨hA, hB⟩)]; rfl
  · rw [@decide_eq_true _ (Classical.propDecidable _) hA, @decide_eq_false _ (Classical.propDecidable _) hB, @decide_eq_false _ (Classical.propDecidable _) (fun x => hB (h.1 x).2)]; rfl
  · rw [@decide_eq_false _ (Classical.propDecidable _) hA, @decide_eq_false _ (Classical.propDecidable P) (fun x => hA (h.1 x).1)]; rfl
  · rw [@decide_eq_false _ (Classical.propDecidable _) hA, @decide_eq_false _ (Classical.propDecidable P) (fun x => hA (h.1 x).1)]; rfl
theorem risM' (c : Cells) (m : Nat) : risB (cM c (m / 2)) m = (risB (cA c) ((m + 1) / 2) && risB (cB c) (m / 2)) := ris_and (risM c m) _ _ _ rfl rfl rfl
theorem risO' (c : Cells) (x y : Nat) : risB (cO c x) (0 + x + y) = (risB (cA c) x && risB (cB c) y) := ris_and (risO c x y) _ _ _ rfl rfl rfl
/-! rows' own bounds -/
theorem rowOb_of {c : Cells} {sh : List SK} : ∀ (n p : Nat), (∀ k, k < n → All (fldOk c sh (p + k * shSz sh))) → All (rowOb c sh n p)
  | 0, _, _ => trivial
  | n + 1, p, h => by
    simp only [rowOb, All_append]
    refine ⟨by simpa using h 0 (by omega), rowOb_of n _ fun k hk => ?_⟩
    have := h (k + 1) (by omega)
    rwa [Nat.succ_mul, show p + (k * shSz sh + shSz sh) = p + shSz sh + k * shSz sh by omega] at this
theorem rowOb_gC {c : Cells} {m : Nat} (hob : All (rowOb c shR m 0)) {p : Nat → ByteArray} {ix : Nat → Nat} {n : Nat} (hp : ∀ k, (p k).size ≤ maxLen) (hi : ∀ k, k < n → ix k < m) : All (rowOb (gC c p ix) shR n 0) := by
  refine rowOb_of n 0 fun k hk => ?_
  have h4 : shSz shR = 4 := rfl
  obtain ⟨h1, h2, h3, h5, _⟩ := rowOb_at c shR m (ix k) 0 (hi k hk) hob
  rw [h4] at h1 h2 h3 h5 ⊢
  have e0 : (0 + k * 4) % 4 = 0 := by omega
  have d0 : (0 + k * 4) / 4 = k := by omega
  have e1 : (0 + k * 4 + 1) % 4 = 1 := by omega
  have d1 : (0 + k * 4 + 1) / 4 = k := by omega
  have e2 : (0 + k * 4 + 1 + 1) % 4 = 2 := by omega
  have d2 : (0 + k * 4 + 1 + 1) / 4 = k := by omega
  have e3 : (0 + k * 4 + 1 + 1 + 1) % 4 = 3 := by omega
  have d3 : (0 + k * 4 + 1 + 1 + 1) / 4 = k := by omega
  refine ⟨?_, ?_, ?_, ?_, trivial⟩
  · show (sA (gC c p ix) (0 + k * 4)).size ≤ maxLen
    simp only [sA, gC, e0, d0]; exact hp k
  · show nU (gC c p ix) (0 + k * 4 + 1) < 18446744073709551616
    simp only [nU, gC, e1, d1]; exact h2
  · show (sA (gC c p ix) (0 + k * 4 + 1 + 1)).size ≤ maxLen
    simp only [sA, gC, e2, d2]; exact h3
  · show (sA (gC c p ix) (0 + k * 4 + 1 + 1 + 1)).size ≤ maxLen
    simp only [sA, gC, e3, d3]; exact h5
theorem p1_le : p1.size ≤ maxLen := by decide
theorem p2_le : p2.size ≤ maxLen := by decide
theorem obA {c : Cells} {m x : Nat} (hob : All (rowOb c shR m 0)) (h : 2 * x ≤ m + 1) : All (rowOb (cA c) shR x 0) := rowOb_gC hob (fun _ => p1_le) (fun k hk => by omega)
theorem obB {c : Cells} {m y : Nat} (hob : All (rowOb c shR m 0)) (h : 2 * y ≤ m) : All (rowOb (cB c) shR y 0) := rowOb_gC hob (fun _ => p2_le) (fun k hk => by omega)
theorem pp_le (b : Bool) : (bif b then p1 else p2).size ≤ maxLen := by cases b; exact p2_le; exact p1_le
theorem pp_le' (b : Bool) : (bif b then p2 else p1).size ≤ maxLen := by cases b; exact p1_le; exact p2_le
theorem obM {c : Cells} {m : Nat} (hob : All (rowOb c shR m 0)) : All (rowOb (cM c (m / 2)) shR m 0) := rowOb_gC hob (fun _ => pp_le' _) (fun k hk => by
  cases h1 : Nat.blt k (2 * (m / 2)) with
  | false => exact hk
  | true =>
    have h1' : k < 2 * (m / 2) := by rw [Nat.blt] at h1; exact Nat.le_of_ble_eq_true h1
    cases h2 : Nat.beq (k % 2) 0 with
    | true => have := Nat.eq_of_beq_eq_true h2; simp only [cond_true]; omega
    | false => simp only [cond_true, cond_false]; omega)
theorem obO {c : Cells} {m x y : Nat} (hob : All (rowOb c shR m 0)) (hx : 2 * x ≤ m + 1) (hy : 2 * y ≤ m) : All (rowOb (cO c x) shR (0 + x + y) 0) := rowOb_gC hob (fun _ => pp_le _) (fun k hk => by
  show (bif Nat.blt k x then 2 * k else 2 * (k - x) + 1) < m
  cases h1 : Nat.blt k x with
  | true =>
    have h1' : k < x := by rw [Nat.blt] at h1; exact Nat.le_of_ble_eq_true h1
    rw [cond_true]; omega
  | false =>
    have h1' : ¬ k < x := fun h => by rw [blt_t h] at h1; cases h1
    rw [cond_false]; omega)
theorem gC_rows_eq {c : Cells} {p p' : Nat → ByteArray} {ix ix' : Nat → Nat} : ∀ n, (∀ k, k < n → p k = p' k ∧ ix k = ix' k) → rowPs (gC c p ix) shR n 0 = rowPs (gC c p' ix') shR n 0
  | 0, _ => rfl
  | n + 1, h => by rw [gC_row, gC_row, gC_rows_eq n (fun k hk => h k (by omega)), (h n (by omega)).1, (h n (by omega)).2]
theorem rowO (c : Cells) (x : Nat) : ∀ y, rowPs (cA c) shR x 0 ++ rowPs (cB c) shR y 0 = rowPs (cO c x) shR (x + y) 0
  | 0 => by
    rw [Nat.add_zero]
    show rowPs (cA c) shR x 0 ++ [] = _
    rw [List.append_nil, cA, cO]
    refine gC_rows_eq x fun k hk => ?_
    rw [blt_t hk]; exact ⟨rfl, rfl⟩
  | y + 1 => by
    have h1 : Nat.blt (x + y) x = false := blt_f (by omega)
    rw [show x + (y + 1) = (x + y) + 1 by omega]
    conv => rhs; rw [cO]
    rw [gC_row, ← cO, ← rowO c x y, h1, show x + y - x = y by omega]
    conv => lhs; rw [cB]
    rw [gC_row, ← cB, List.append_assoc]; rfl
end Go.Ev

namespace Go.Ev
open Go Go.Proofs Go.RowKit
theorem j1 (c : Cells) (m cap : Nat) (cE : Cells) (lE : Nat) (z : Int) : dropM (callBy (E13 c m cap cE lE (.v (.slice none 0 0)) z) (evalC (E13 c m cap cE lE (.v (.slice none 0 0)) z) 1000) 3 [V1.agg [.a (.sl 0 0 m cap), .a (.i z), .a (.v (.slice none 0 0))]] (M2 c m cE lE) [true, true]) =
    some ([true = true, bodyOf Try.prog 5 3 = bodyOf Try.prog 5 3, (THL (m : Int) ((0 : Nat) : Int), M4 c m cap cE lE (.v (.slice none 0 0)) z) = (THL (m : Int) ((0 : Nat) : Int), M4 c m cap cE lE (.v (.slice none 0 0)) z), wfS (THL (m : Int) ((0 : Nat) : Int)) (M4 c m cap cE lE (.v (.slice none 0 0)) z) = true, decide ((9000 : Int) < hvL c m 0 (m : Int)) = true], bV true) := by kernel_rfl
theorem j2 (c : Cells) (m cap : Nat) (cE : Cells) (lE : Nat) (z : Int) : dropM (callBy (E13 c m cap cE lE (.v (.slice none 0 0)) z) (evalC (E13 c m cap cE lE (.v (.slice none 0 0)) z) 1000) 3 [V1.agg [.a (.sl 0 0 m cap), .a (.i z), .a (.v (.slice none 0 0))]] (M2 c m cE lE) [false, true, true]) =
    some ([true = true, bodyOf Try.prog 5 3 = bodyOf Try.prog 5 3, (THL (m : Int) ((0 : Nat) : Int), M4 c m cap cE lE (.v (.slice none 0 0)) z) = (THL (m : Int) ((0 : Nat) : Int), M4 c m cap cE lE (.v (.slice none 0 0)) z), wfS (THL (m : Int) ((0 : Nat) : Int)) (M4 c m cap cE lE (.v (.slice none 0 0)) z) = true, decide ((9000 : Int) < hvL c m 0 (m : Int)) = false, decide ((200 : Int) < (m : Int)) = true], bV true) := by kernel_rfl
theorem j4 (c : Cells) (m cap : Nat) (cE : Cells) (lE : Nat) (z : Int) : dropM (callBy (E13 c m cap cE lE (.v (.slice none 0 0)) z) (evalC (E13 c m cap cE lE (.v (.slice none 0 0)) z) 1000) 3 [V1.agg [.a (.sl 0 0 m cap), .a (.i z), .a (.v (.slice none 0 0))]] (M2 c m cE lE) [false, false, false]) =
    some ([false = false, bodyOf Try.prog 5 3 = bodyOf Try.prog 5 3, (THL (m : Int) ((0 : Nat) : Int), M4 c m cap cE lE (.v (.slice none 0 0)) z) = (THL (m : Int) ((0 : Nat) : Int), M4 c m cap cE lE (.v (.slice none 0 0)) z), wfS (THL (m : Int) ((0 : Nat) : Int)) (M4 c m cap cE lE (.v (.slice none 0 0)) z) = true, decide ((9000 : Int) < hvL c m 0 (m : Int)) = false, decide ((200 : Int) < (m : Int)) = false, bodyOf Try.prog 3 5 = bodyOf Try.prog 3 5, (TM ((0 : Nat) : Int) true, M3 c m cap cE lE (.v (.slice none 0 0)) z) = (TM ((0 : Nat) : Int) true, M3 c m cap cE lE (.v (.slice none 0 0)) z), wfS (TM ((0 : Nat) : Int) true) (M3 c m cap cE lE (.v (.slice none 0 0)) z) = true], bV true) := by kernel_rfl
theorem k1 (c : Cells) (m cap : Nat) (cE : Cells) (lE : Nat) (kE : Nat) (z : Int) : dropM (callBy (E13 c m cap cE lE (.sl 1 0 lE kE) z) (evalC (E13 c m cap cE lE (.sl 1 0 lE kE) z) 1000) 3 [V1.agg [.a (.sl 0 0 m cap), .a (.i z), .a (.sl 1 0 lE kE)]] (M2 c m cE lE) [true, true]) =
    some ([true = true, bodyOf Try.prog 5 3 = bodyOf Try.prog 5 3, (THL (m : Int) ((0 : Nat) : Int), M4 c m cap cE lE (.sl 1 0 lE kE) z) = (THL (m : Int) ((0 : Nat) : Int), M4 c m cap cE lE (.sl 1 0 lE kE) z), wfS (THL (m : Int) ((0 : Nat) : Int)) (M4 c m cap cE lE (.sl 1 0 lE kE) z) = true, decide ((9000 : Int) < hvL c m 0 (m : Int)) = true], bV true) := by kernel_rfl
theorem k2 (c : Cells) (m cap : Nat) (cE : Cells) (lE : Nat) (kE : Nat) (z : Int) : dropM (callBy (E13 c m cap cE lE (.sl 1 0 lE kE) z) (evalC (E13 c m cap cE lE (.sl 1 0 lE kE) z) 1000) 3 [V1.agg [.a (.sl 0 0 m cap), .a (.i z), .a (.sl 1 0 lE kE)]] (M2 c m cE lE) [false, true, true]) =
    some ([true = true, bodyOf Try.prog 5 3 = bodyOf Try.prog 5 3, (THL (m : Int) ((0 : Nat) : Int), M4 c m cap cE lE (.sl 1 0 lE kE) z) = (THL (m : Int) ((0 : Nat) : Int), M4 c m cap cE lE (.sl 1 0 lE kE) z), wfS (THL (m : Int) ((0 : Nat) : Int)) (M4 c m cap cE lE (.sl 1 0 lE kE) z) = true, decide ((9000 : Int) < hvL c m 0 (m : Int)) = false, decide ((200 : Int) < (m : Int)) = true], bV true) := by kernel_rfl
theorem k3 (c : Cells) (m cap : Nat) (cE : Cells) (lE : Nat) (kE : Nat) (z : Int) : dropM (callBy (E13 c m cap cE lE (.sl 1 0 lE kE) z) (evalC (E13 c m cap cE lE (.sl 1 0 lE kE) z) 1000) 3 [V1.agg [.a (.sl 0 0 m cap), .a (.i z), .a (.sl 1 0 lE kE)]] (M2 c m cE lE) [false, false, true]) =
    some ([decide ((9000 : Int) < hv cE lE 0 (lE : Int)) = true, bodyOf Try.prog 5 3 = bodyOf Try.prog 5 3, (THL (m : Int) ((0 : Nat) : Int), M4 c m cap cE lE (.sl 1 0 lE kE) z) = (THL (m : Int) ((0 : Nat) : Int), M4 c m cap cE lE (.sl 1 0 lE kE) z), wfS (THL (m : Int) ((0 : Nat) : Int)) (M4 c m cap cE lE (.sl 1 0 lE kE) z) = true, decide ((9000 : Int) < hvL c m 0 (m : Int)) = false, decide ((200 : Int) < (m : Int)) = false, true = true, ∀ φ : Loc, concs φ (rowPs cE shC lE 0) = concs φ (rowPs cE shC lE 0), lE = lE, lE ≤ maxLen, ∀ j, j < lE * 9 → (sA cE j).size ≤ BB], bV true) := by kernel_rfl
theorem k4 (c : Cells) (m cap : Nat) (cE : Cells) (lE : Nat) (kE : Nat) (z : Int) : dropM (callBy (E13 c m cap cE lE (.sl 1 0 lE kE) z) (evalC (E13 c m cap cE lE (.sl 1 0 lE kE) z) 1000) 3 [V1.agg [.a (.sl 0 0 m cap), .a (.i z), .a (.sl 1 0 lE kE)]] (M2 c m cE lE) [false, false, false]) =
    some ([decide ((9000 : Int) < hv cE lE 0 (lE : Int)) = false, bodyOf Try.prog 5 3 = bodyOf Try.prog 5 3, (THL (m : Int) ((0 : Nat) : Int), M4 c m cap cE lE (.sl 1 0 lE kE) z) = (THL (m : Int) ((0 : Nat) : Int), M4 c m cap cE lE (.sl 1 0 lE kE) z), wfS (THL (m : Int) ((0 : Nat) : Int)) (M4 c m cap cE lE (.sl 1 0 lE kE) z) = true, decide ((9000 : Int) < hvL c m 0 (m : Int)) = false, decide ((200 : Int) < (m : Int)) = false, true = true, ∀ φ : Loc, concs φ (rowPs cE shC lE 0) = concs φ (rowPs cE shC lE 0), lE = lE, lE ≤ maxLen, ∀ j, j < lE * 9 → (sA cE j).size ≤ BB, bodyOf Try.prog 3 5 = bodyOf Try.prog 3 5, (TM ((0 : Nat) : Int) true, M3 c m cap cE lE (.sl 1 0 lE kE) z) = (TM ((0 : Nat) : Int) true, M3 c m cap cE lE (.sl 1 0 lE kE) z), wfS (TM ((0 : Nat) : Int) true) (M3 c m cap cE lE (.sl 1 0 lE kE) z) = true], bV true) := by kernel_rfl
end Go.Ev

namespace Go.Ev
open Go Go.Proofs Go.RowKit
theorem n1 (z : Int) : dropM (callBy (E3 c0 0 c0 0) (evalC (E3 c0 0 c0 0) 1000) 3 [V1.agg [Piece.a (Atom.v (Value.slice none 0 0)), Piece.a (Atom.i z), Piece.a (Atom.v (Value.slice none 0 0))]] [] [false, false, false, false, true, false, true, false, false]) =
    some ([false = false, decide ((0 : Int) < ((0 : Nat) : Int)) = false, decide ((9000 : Int) < ((0 : Nat) : Int)) = false, decide ((200 : Int) < ((0 : Nat) : Int)) = false, decide ((0 : Int) ≤ ((0 : Nat) : Int)) = true, (0 : Int) ≤ (0 : Int) ∧ (0 : Int) ≤ ((0 : Nat) : Int), (0 : Int) ≤ (0 : Int) ∧ (0 : Int) ≤ ((0 : Nat) : Int), (!true == true) = false, true = true, (!true) = false, inI ((0 : Int) + (1 : Int)), decide ((0 : Int) + (1 : Int) ≤ ((0 : Nat) : Int)) = false], AV.val (V1.one (Atom.v (Value.bool true)))) := by kernel_rfl
theorem n2 (cE : Cells) (lE : Nat) (kE : Nat) (z : Int) : dropM (callBy (E3 c0 0 cE lE) (evalC (E3 c0 0 cE lE) 1000) 3 [V1.agg [Piece.a (Atom.v (Value.slice none 0 0)), Piece.a (Atom.i z), Piece.a (Atom.sl 1 0 lE kE)]] [rowB c0 shR 0 31, rowB cE shC lE 38] [false, false, false, false, true, false, true, false, false]) =
    some ([decide ((9000 : Int) < hv cE lE 0 (↑lE : Int)) = false, decide ((0 : Int) < ((0 : Nat) : Int)) = false, decide ((9000 : Int) < ((0 : Nat) : Int)) = false, decide ((200 : Int) < ((0 : Nat) : Int)) = false, true = true, ∀ (φ : Loc), concs φ (Blk.ps (rowB cE shC lE 38)) = concs φ (rowPs cE shC lE 0), lE = lE, lE ≤ 9223372036854775808 - 1, ∀ (j : Nat), j < lE * 9 → ByteArray.size (sA cE j) ≤ BB, decide ((0 : Int) ≤ ((0 : Nat) : Int)) = true, (0 : Int) ≤ (0 : Int) ∧ (0 : Int) ≤ ((0 : Nat) : Int), (0 : Int) ≤ (0 : Int) ∧ (0 : Int) ≤ ((0 : Nat) : Int), (!true == true) = false, true = true, (!true) = false, inI ((0 : Int) + (1 : Int)), decide ((0 : Int) + (1 : Int) ≤ ((0 : Nat) : Int)) = false], AV.val (V1.one (Atom.v (Value.bool true)))) := by kernel_rfl
theorem n3 (cE : Cells) (lE : Nat) (kE : Nat) (z : Int) : dropM (callBy (E3 c0 0 cE lE) (evalC (E3 c0 0 cE lE) 1000) 3 [V1.agg [Piece.a (Atom.v (Value.slice none 0 0)), Piece.a (Atom.i z), Piece.a (Atom.sl 1 0 lE kE)]] [rowB c0 shR 0 31, rowB cE shC lE 38] [false, false, false, true]) =
    some ([decide ((9000 : Int) < hv cE lE 0 (↑lE : Int)) = true, decide ((0 : Int) < ((0 : Nat) : Int)) = false, decide ((9000 : Int) < ((0 : Nat) : Int)) = false, decide ((200 : Int) < ((0 : Nat) : Int)) = false, true = true, ∀ (φ : Loc), concs φ (Blk.ps (rowB cE shC lE 38)) = concs φ (rowPs cE shC lE 0), lE = lE, lE ≤ 9223372036854775808 - 1, ∀ (j : Nat), j < lE * 9 → ByteArray.size (sA cE j) ≤ BB], AV.val (V1.one (Atom.v (Value.bool true)))) := by kernel_rfl
end Go.Ev

namespace Go.Ev
open Go Go.RowKit Go.ChangeShapes Go.WideShapes Go.ChangeAt
section
variable {P : Program}
theorem trod_i64 {H : Type} {enc : TypeId × Value → H} {W : World} {base : Nat} {sp : Nat → Bool} {held : Bool} {t : TypeId} (ht : P.underlying t = some (.int .i64)) {n : Nat} {x : Value} {y : DataW H × List MemPlace} (h : DataW.trod enc P W base sp held n t [x] = some y) : ∃ z, x = .int .i64 z := by
  cases n with
  | zero => simp [DataW.trod] at h
  | succ n =>
    unfold DataW.trod at h
    rw [ht] at h
    split at h <;> simp_all
/-- THE ARGUMENT OF A LAW: a struct of a slice of plain rows, a number, a slice of plain rows. -/
theorem three_open {H : Type} {enc : TypeId × Value → H} {t eA eB : TypeId} {f0 f1 f2 : Field} (shA shB : List SK) {DA DB B : Nat} (ht : P.underlying t = some (.struct #[f0, f1, f2])) (o0 : f0.offset = 0) (o1 : f1.offset = 1) (o2 : f2.offset = 2)
    (hct : P.cellTypes P.depth t = some [f0.type, f1.type, f2.type]) (hc0 : P.cellsOf f0.type = 1) (hc1 : P.cellsOf f1.type = 1) (hc2 : P.cellsOf f2.type = 1) (hcs : P.cellsOf t = 3)
    (hA : P.underlying f0.type = some (.slice eA)) (hkA : kindsT P DA eA = some (shKs shA)) (hsA : sizeA P eA = some (shSz shA)) (hbA : 0 < P.bytesOf eA)
    (hI : P.underlying f1.type = some (.int .i64))
    (hB : P.underlying f2.type = some (.slice eB)) (hkB : kindsT P DB eB = some (shKs shB)) (hsB : sizeA P eB = some (shSz shB)) (hbB : 0 < P.bytesOf eB)
    {r : Reach} {W : World} {base : Nat} {v : Value} {d : DataW H} {ps : List MemPlace} (hval : Value.okWide P W r base t v) (h : DataW.Trod enc P W 0 (fun _ => true) true t v d ps) (hwt : ∀ n ∈ d.weights P t, n ≤ B) :
    ∃ a z b, v = .agg #[a, .int .i64 z, b] ∧ OpenS W shA B a ∧ OpenS W shB B b := by
  unfold Value.okWide at hval
  rw [ht] at hval
  obtain ⟨cs, rfl, hsz, ts, hts, _, hcell⟩ := hval
  rw [hct] at hts
  simp only [Option.some.injEq] at hts
  subst hts
  rw [hcs] at hsz
  have e : cs = #[cs[0], cs[1], cs[2]] := by
    apply Array.ext
    · simpa using hsz
    · intro i h1 h2
      match i, h2 with
      | 0, _ => rfl
      | 1, _ => rfl
      | 2, _ => rfl
  obtain ⟨u0, hu0, hk0⟩ := hcell 0 cs[0] (by rw [Array.getElem?_eq_getElem])
  obtain ⟨u2, hu2, hk2⟩ := hcell 2 cs[2] (by rw [Array.getElem?_eq_getElem])
  have hu0 : f0.type = u0 := by simpa using hu0
  have hu2 : f2.type = u2 := by simpa using hu2
  subst hu0; subst hu2
  generalize cs[0] = a at *
  generalize cs[1] = x at *
  generalize cs[2] = b at *
  subst e
  have va : Value.okWide P W r base f0.type a := by unfold Value.okWide; rw [hA]; exact hk0
  have vb : Value.okWide P W r base f2.type b := by unfold Value.okWide; rw [hB]; exact hk2
  obtain ⟨fuel, hf⟩ := h
  obtain ⟨y0, y1, y2, n, hx, _, h0, h1, h2⟩ := Go.Deep.trod_struct3 ht hf
  simp only [Prod.mk.injEq] at hx
  obtain ⟨rfl, rfl⟩ := hx
  rw [o0, hc0] at h0
  rw [o1, hc1] at h1
  rw [o2, hc2] at h2
  obtain ⟨z, rfl⟩ := trod_i64 hI (x := x) h1
  have ca : a.cells.toList = [a] := by obtain ⟨_, _, _, rfl⟩ := okWide_slice hA va; rfl
  have cb : b.cells.toList = [b] := by obtain ⟨_, _, _, rfl⟩ := okWide_slice hB vb; rfl
  refine ⟨a, z, b, rfl, ?_, ?_⟩
  · refine slice_openW (enc := enc) shA hA hkA hsA hbA va (d := y0.1) (ps := y0.2) ⟨n, ?_⟩ fun q hq => hwt q ?_
    · rw [ca]; exact h0
    · simp only [DataW.weights, ht]
      exact DataW.weights_mem_each (j := 0) (t := f0.type) (d := y0.1) rfl rfl q hq
  · refine slice_openW (enc := enc) shB hB hkB hsB hbB vb (d := y2.1) (ps := y2.2) ⟨n, ?_⟩ fun q hq => hwt q ?_
    · rw [cb]; exact h2
    · simp only [DataW.weights, ht]
      exact DataW.weights_mem_each (j := 2) (t := f2.type) (d := y2.1) rfl rfl q hq
end
end Go.Ev

namespace Go.Ev
open Go Go.Proofs Go.RowKit
def fL : Field := { name := "L", type := 22, offset := 0, embedded := false, tag := "", pkgPath := "", byteOffset := 0 }
def fC : Field := { name := "Curve", type := 3, offset := 1, embedded := false, tag := "", pkgPath := "", byteOffset := 24 }
def fE : Field := { name := "E", type := 23, offset := 2, embedded := false, tag := "", pkgPath := "", byteOffset := 32 }
theorem u25 : Try.prog.underlying 25 = some (.struct #[fL, fC, fE]) := by kernel_rfl
theorem ct25 : Try.prog.cellTypes Try.prog.depth 25 = some [fL.type, fC.type, fE.type] := by kernel_rfl
theorem c22 : Try.prog.cellsOf fL.type = 1 := by kernel_rfl
theorem c3 : Try.prog.cellsOf fC.type = 1 := by kernel_rfl
theorem c23 : Try.prog.cellsOf fE.type = 1 := by kernel_rfl
theorem c25 : Try.prog.cellsOf 25 = 3 := by kernel_rfl
theorem u22 : Try.prog.underlying fL.type = some (.slice 31) := by kernel_rfl
theorem u3 : Try.prog.underlying fC.type = some (.int .i64) := by kernel_rfl
theorem u23 : Try.prog.underlying fE.type = some (.slice 38) := by kernel_rfl
theorem k31 : kindsT Try.prog 20 31 = some (shKs shR) := by kernel_rfl
theorem k38 : kindsT Try.prog 20 38 = some (shKs shC) := by kernel_rfl
theorem s38 : sizeA Try.prog 38 = some (shSz shC) := by kernel_rfl
theorem b31 : 0 < Try.prog.bytesOf 31 := of_decide_eq_true (by kernel_rfl)
theorem b38 : 0 < Try.prog.bytesOf 38 := of_decide_eq_true (by kernel_rfl)
theorem rd25 : Try.prog.readableRec 25 = true := by kernel_rfl
theorem row25 : (25 : Nat) < Try.prog.types.size := of_decide_eq_true (by kernel_rfl)
theorem law_runMD {E : Env} (hE : EnvOK E) {n : Nat} {f : FuncId} {v : V1} {M : List Blk} {c : List Bool} {ob : List Prop}
    (h : dropM (callBy E (evalC E n) f [v] M c) = some (ob, bV true)) (ho : All ob) {w : World} {φ : Loc} (hm : MRel w φ M w) (hv : v.wf M.length = true) : Calls E.P f #[v.conc φ] w (Trues w) := by
  obtain ⟨c', m', h'⟩ := dropM_some h
  exact law_runM hE h' ho hm hv
theorem law_at {w : World} {φ : Loc} {z : Int} {xL xE : Atom} {a b : Value} (ha : a = xL.conc φ) (hb : b = xE.conc φ) (h : Calls Try.prog 3 #[(V1.agg [.a xL, .a (.i z), .a xE]).conc φ] w (Trues w)) : Calls Try.prog 3 #[.agg #[a, .int .i64 z, b]] w (Trues w) := by
  subst ha; subst hb; exact h
theorem inI1 : inI ((0 : Int) + 1) := by unfold inI; decide
set_option maxRecDepth 100000 in
theorem law3 {H : Type} {enc : TypeId × Value → H} {r : Reach} {W : World} {base : Nat} {v : Value} {d : DataW H} {ps : List MemPlace} (hval : Value.okWide Try.prog W r base 25 v) (h : DataW.Trod enc Try.prog W 0 (fun _ => true) true 25 v d ps) (hwt : ∀ n ∈ d.weights Try.prog 25, n ≤ BB) :
    Calls Try.prog 3 #[v] W (Trues W) := by
  obtain ⟨a, z, b, rfl, ha, hb⟩ := three_open shR shC (DA := 20) (DB := 20) (B := BB) u25 rfl rfl rfl ct25 c22 c3 c23 c25 u22 k31 sz31 b31 u3 u23 k38 s38 b38 hval h hwt
  rcases ha with rfl | ⟨c, m, cap, bA, pA, rfl, hmc, hcm, hob, hBA, hmB, hltA, hcA⟩
  · rcases hb with rfl | ⟨cE, lE, kE, bB, pB, rfl, hlk, hkm, hobE, hBE, hlB, hltB, hcB⟩
    · exact law_runMD (φ := fun _ => (0, 0, 0)) (envE3 c0 0 c0 0) (n1 z) ⟨rfl, by decide, by decide, by decide, by decide, by decide, by decide, by decide, rfl, by decide, inI1, by decide, trivial⟩ ⟨Below.refl _ _, by simp, by simp, by simp, by simp, by simp⟩ rfl
    · have hm := mrel_two (W := W) (shA := shR) (shB := shC) (eA := 31) (eB := 38) (cA := c0) (cB := cE) (lA := 0) (lB := lE) (bA := bB) (oA := pB) hltB hltB (fun φ j x hx => by simp [rowPs, concs] at hx) hcB
      have hlM : lE ≤ 9223372036854775808 - 1 := by have := BB_lt; omega
      by_cases hE : (9000 : Int) < hv cE lE 0 (lE : Int)
      · refine law_at (φ := fun i => if i = 0 then (bB, pB, 0) else (bB, pB, 0)) (xL := (.v (.slice none 0 0))) (xE := (.sl 1 0 lE kE)) (by simp [Atom.conc]) (by simp [Atom.conc]) (law_runMD (envE3 c0 0 cE lE) (n3 cE lE kE z) ⟨decide_eq_true hE, by decide, by decide, by decide, rfl, fun _ => rfl, rfl, hlM, hBE, trivial⟩ hm rfl)
      · refine law_at (φ := fun i => if i = 0 then (bB, pB, 0) else (bB, pB, 0)) (xL := (.v (.slice none 0 0))) (xE := (.sl 1 0 lE kE)) (by simp [Atom.conc]) (by simp [Atom.conc]) (law_runMD (envE3 c0 0 cE lE) (n2 cE lE kE z) ⟨decide_eq_false hE, by decide, by decide, by decide, rfl, fun _ => rfl, rfl, hlM, hBE, by decide, by decide, by decide, by decide, rfl, by decide, inI1, by decide, trivial⟩ hm rfl)
  · rcases hb with rfl | ⟨cE, lE, kE, bB, pB, rfl, hlk, hkm, hobE, hBE, hlB, hltB, hcB⟩
    · have hm := mrel_two (W := W) (shA := shR) (shB := shC) (eA := 31) (eB := 38) (cA := c) (cB := c0) (lA := m) (lB := 0) (bB := bA) (oB := pA) hltA hltA hcA (fun φ j x hx => by simp [rowPs, concs] at hx)
      have hx : isE (.v (.slice none 0 0)) := .inl rfl
      have hE13 := envE13 (cap := cap) (cE := c0) (lE := 0) (z := z) hx hob hmB hmc hBA
      by_cases h1 : (9000 : Int) < hvL c m 0 (m : Int)
      · refine law_at (φ := fun i => if i = 0 then (bA, pA, 0) else (bA, pA, 0)) (xL := (.sl 0 0 m cap)) (xE := (.v (.slice none 0 0))) (by simp [Atom.conc]) (by simp [Atom.conc]) (law_runMD hE13 (j1 c m cap c0 0 z) ⟨rfl, rfl, rfl, wf4 hx (by kernel_rfl), decide_eq_true h1, trivial⟩ hm rfl)
      · by_cases h2 : (200 : Int) < (m : Int)
        · refine law_at (φ := fun i => if i = 0 then (bA, pA, 0) else (bA, pA, 0)) (xL := (.sl 0 0 m cap)) (xE := (.v (.slice none 0 0))) (by simp [Atom.conc]) (by simp [Atom.conc]) (law_runMD hE13 (j2 c m cap c0 0 z) ⟨rfl, rfl, rfl, wf4 hx (by kernel_rfl), decide_eq_false h1, decide_eq_true h2, trivial⟩ hm rfl)
        · refine law_at (φ := fun i => if i = 0 then (bA, pA, 0) else (bA, pA, 0)) (xL := (.sl 0 0 m cap)) (xE := (.v (.slice none 0 0))) (by simp [Atom.conc]) (by simp [Atom.conc]) (law_runMD hE13 (j4 c m cap c0 0 z) ⟨rfl, rfl, rfl, wf4 hx (by kernel_rfl), decide_eq_false h1, decide_eq_false h2, rfl, rfl, wf3 hx (by kernel_rfl), trivial⟩ hm rfl)
    · have hm := mrel_two (W := W) (shA := shR) (shB := shC) (eA := 31) (eB := 38) (cA := c) (cB := cE) (lA := m) (lB := lE) hltA hltB hcA hcB
      have hlM : lE ≤ maxLen := by have := BB_lt; have : maxLen = 9223372036854775807 := by decide
                                   omega
      have hx : isE (.sl 1 0 lE kE) := .inr ⟨_, _, rfl⟩
      have hE13 := envE13 (cap := cap) (cE := cE) (lE := lE) (z := z) hx hob hmB hmc hBA
      by_cases h1 : (9000 : Int) < hvL c m 0 (m : Int)
      · refine law_at (φ := fun i => if i = 0 then (bA, pA, 0) else (bB, pB, 0)) (xL := (.sl 0 0 m cap)) (xE := (.sl 1 0 lE kE)) (by simp [Atom.conc]) (by simp [Atom.conc]) (law_runMD hE13 (k1 c m cap cE lE kE z) ⟨rfl, rfl, rfl, wf4 hx (by kernel_rfl), decide_eq_true h1, trivial⟩ hm rfl)
      · by_cases h2 : (200 : Int) < (m : Int)
        · refine law_at (φ := fun i => if i = 0 then (bA, pA, 0) else (bB, pB, 0)) (xL := (.sl 0 0 m cap)) (xE := (.sl 1 0 lE kE)) (by simp [Atom.conc]) (by simp [Atom.conc]) (law_runMD hE13 (k2 c m cap cE lE kE z) ⟨rfl, rfl, rfl, wf4 hx (by kernel_rfl), decide_eq_false h1, decide_eq_true h2, trivial⟩ hm rfl)
        · by_cases hE : (9000 : Int) < hv cE lE 0 (lE : Int)
          · refine law_at (φ := fun i => if i = 0 then (bA, pA, 0) else (bB, pB, 0)) (xL := (.sl 0 0 m cap)) (xE := (.sl 1 0 lE kE)) (by simp [Atom.conc]) (by simp [Atom.conc]) (law_runMD hE13 (k3 c m cap cE lE kE z) ⟨decide_eq_true hE, rfl, rfl, wf4 hx (by kernel_rfl), decide_eq_false h1, decide_eq_false h2, rfl, fun _ => rfl, rfl, hlM, hBE, trivial⟩ hm rfl)
          · refine law_at (φ := fun i => if i = 0 then (bA, pA, 0) else (bB, pB, 0)) (xL := (.sl 0 0 m cap)) (xE := (.sl 1 0 lE kE)) (by simp [Atom.conc]) (by simp [Atom.conc]) (law_runMD hE13 (k4 c m cap cE lE kE z) ⟨decide_eq_false hE, rfl, rfl, wf4 hx (by kernel_rfl), decide_eq_false h1, decide_eq_false h2, rfl, fun _ => rfl, rfl, hlM, hBE, rfl, rfl, wf3 hx (by kernel_rfl), trivial⟩ hm rfl)
end Go.Ev

namespace Go.Ev
open Go Go.Proofs Go.RowKit
section
variable {c : Cells} {m cap : Nat} {cE : Cells} {lE : Nat} {xE : Atom} {z : Int}
theorem Hd_ok (hx : isE xE) {a b : Bool} (h1 : decide ((9000 : Int) < hvL c m 0 (m : Int)) = a) (h2 : decide ((200 : Int) < (m : Int)) = b) : All (Hd c m cap cE lE xE z a b) := ⟨rfl, rfl, wf4 hx (by kernel_rfl), h1, h2, trivial⟩
theorem Hd1_ok (hx : isE xE) (h1 : decide ((9000 : Int) < hvL c m 0 (m : Int)) = true) : All (Hd1 c m cap cE lE xE z) := ⟨rfl, rfl, wf4 hx (by kernel_rfl), h1, trivial⟩
theorem HE_ok (h1 : lE ≤ maxLen) (h2 : ∀ j, j < lE * 9 → (sA cE j).size ≤ BB) : All (HE cE lE) := ⟨rfl, fun _ => rfl, rfl, h1, h2, trivial⟩
theorem fmO_ok {k : Blk} {c : Cells} {n : Nat} (h1 : k.live = true) (h2 : k.ps = rowPs c shR n 0) (h3 : n ≤ maxLen) (h4 : All (rowOb c shR n 0)) : All (fmO k c n) := ⟨h1, fun _ => by rw [h2], Nat.le_refl _, h3, h4, trivial⟩
theorem All_app {l r : List Prop} (h : All l) (h' : All r) : All (l ++ r) := All_append.2 ⟨h, h'⟩
theorem ris0 (c : Cells) : risB c 0 = true := risB_t (RisP.zero c)
theorem ris1 (c : Cells) : risB c 1 = true := risB_t (fun i hi k hk => by omega)
theorem Ob0_ok (h : m = 0) : All (Ob0 c m) := by
  subst h
  exact ⟨by decide, rfl, by decide, by decide, rfl, rfl, fun _ => rfl, Nat.le_refl 0, by decide, trivial, by rw [ris0]; rfl, trivial⟩
theorem Ob1_ok (hob : All (rowOb c shR m 0)) (h : m = 1) : All (Ob1 c m cap cE lE xE z) := by
  subst h
  have hA : All (rowOb (cA c) shR 1 0) := obA hob (by omega)
  have er : pcs p1 c (0 + 0 * 4) = rowPs (cA c) shR 1 0 := by
    have := gC_row c (fun _ => p1) (fun k => 2 * k) 0
    exact this.symm
  have ef : fldPs (cA c) shR (0 + 0 * 4) = rowPs (cA c) shR 1 0 := by rw [fldA]; exact er
  refine All_app (All_app (All_app (All_app (All_app (All_app ⟨by decide, by decide, ldR (by omega), by decide, by decide, by unfold inI; decide, by decide, ris1 _, trivial⟩ ?_) ?_) ?_) ?_) ?_) ?_
  · exact fmO_ok rfl er (by decide) hA
  · refine ⟨by decide, by decide, by decide, by decide, ?_, by unfold inI; decide, by decide, by decide, ?_, trivial⟩
    · rw [er]; exact ldR (by omega)
    · refine app_full (k1 := tmpB []) (k := newB (pcs p1 c (0 + 0 * 4))) rfl rfl rfl rfl rfl rfl ?_ rfl (pcs_free _ _ _) (by omega) (by omega)
      show allA (pcs p1 c (0 + 0 * 4))
      rw [← fldA c 0]; exact fld_allA _ _
  · exact fmO_ok rfl ef (by decide) hA
  · exact ⟨by rw [ris1]; rfl, trivial⟩
  · exact fmO_ok rfl er (by decide) hA
  · exact ⟨by rw [show 0 + 1 = 1 from rfl, ris1]; rfl, trivial⟩
theorem Ob2_ok (hx : isE xE) (hob : All (rowOb c shR m 0)) (h0 : 2 ≤ m) (h2 : m ≤ 200) {u v : Bool} (hu : risB (cA c) ((m + 1) / 2) = u) (hv : v = (bif u then risB (cB c) (m / 2) else false)) : All (Ob2 c m cap cE lE xE z ((m + 1) / 2) (m / 2) (m / 2) u v v) := by
  have hmx : maxLen = 9223372036854775807 := by decide
  have hw : (risB (cA c) ((m + 1) / 2) && risB (cB c) (m / 2)) = v := by
    rw [hv, hu]; cases u <;> rfl
  have eO : [] ++ rowPs (cA c) shR ((m + 1) / 2) 0 ++ rowPs (cB c) shR (m / 2) 0 = rowPs (cO c ((m + 1) / 2)) shR (0 + (m + 1) / 2 + m / 2) 0 := by
    rw [List.nil_append, rowO, Nat.zero_add]
  have hbb : ∀ b : Bool, (b == b) = true := by intro b; cases b <;> rfl
  refine All_app (All_app (All_app (All_app (All_app (All_app (All_app ⟨rfl, rfl, wf4 hx (by kernel_rfl), hu, trivial⟩ ?_) ?_) ?_) ?_) ?_) ?_) ?_
  · exact fmO_ok rfl rfl (by omega) (obA hob (by omega))
  · cases u with
    | true => exact fmO_ok rfl rfl (by omega) (obB hob (by omega))
    | false => trivial
  · refine ⟨rfl, rfl, wfX (k := 2) hx ?_ rfl (by kernel_rfl), ?_, ?_, trivial⟩
    · intro b hb
      simp only [List.mem_cons, List.not_mem_nil, or_false] at hb
      rcases hb with rfl | rfl <;> exact own_free _ _
    · exact app_full (k1 := tmpB []) (k := ownB (cA c) ((m + 1) / 2)) rfl rfl rfl rfl rfl rfl (allA_row _ _ _) (len_row _ _ _) (row_fr _ _) (by omega) (by omega)
    · rw [Nat.zero_add]
      exact app_own (y := .one (.sx 5 (m / 2))) (k := ownB (cB c) (m / 2)) (c := cA c) (n := (m + 1) / 2) rfl rfl rfl rfl (allA_row _ _ _) (len_row _ _ _) (cellsOk_row _ _ _) (row_fr _ _) (by omega) (by omega)
  · exact fmO_ok rfl rfl (by omega) (obM hob)
  · exact ⟨by rw [risM', hw]; exact hbb v, trivial⟩
  · exact fmO_ok rfl eO (by omega) (obO hob (by omega) (by omega))
  · exact ⟨by rw [risO', hw]; exact hbb v, trivial⟩
end
end Go.Ev

namespace Go.Ev
open Go Go.Proofs Go.RowKit
theorem law_at4 {w : World} {φ : Loc} {z : Int} {xL xE : Atom} {a b : Value} (ha : a = xL.conc φ) (hb : b = xE.conc φ) (h : Calls Try.prog 4 #[(V1.agg [.a xL, .a (.i z), .a xE]).conc φ] w (Trues w)) : Calls Try.prog 4 #[.agg #[a, .int .i64 z, b]] w (Trues w) := by
  subst ha; subst hb; exact h
/-- some releases. -/
theorem law_some {c : Cells} {m cap : Nat} {cE : Cells} {lE : Nat} {xE : Atom} {z : Int} (hx : isE xE) (hob : All (rowOb c shR m 0)) (hmB : m ≤ BB) (hBA : ∀ j, j < m * 4 → (sA c j).size ≤ BB) {w : World} {φ : Loc} (hm : MRel w φ (M2 c m cE lE) w) (hd : List Prop) (hhd : All hd)
    (r0 : dropM (callBy (EH4 c (cF1 c) m cap cE lE xE z) (evalC (EH4 c (cF1 c) m cap cE lE xE z) 1000) 4 [V1.agg [.a (.sl 0 0 m cap), .a (.i z), .a xE]] (M2 c m cE lE) [false, false, false, false, true, false, false, true, true]) = some (hd ++ Ob0 c m, bV true))
    (r1 : dropM (callBy (EH4 c (cF1 c) m cap cE lE xE z) (evalC (EH4 c (cF1 c) m cap cE lE xE z) 1000) 4 [V1.agg [.a (.sl 0 0 m cap), .a (.i z), .a xE]] (M2 c m cE lE) [false, false, false, true, true, false, true, true, false, true, false, false, true, true]) = some (hd ++ Ob1 c m cap cE lE xE z, bV true))
    (rt : ∀ (x y L : Nat) (w : Bool), dropM (callBy (EM4 c m cap cE lE xE z x y L w) (evalC (EM4 c m cap cE lE xE z x y L w) 1000) 4 [V1.agg [.a (.sl 0 0 m cap), .a (.i z), .a xE]] (M2 c m cE lE) [false, false, false, true, true, true]) = some (hd ++ Ob2 c m cap cE lE xE z x y L true (risB (cB c) y) w, bV true))
    (rf : ∀ (x y L : Nat) (w : Bool), dropM (callBy (EM4 c m cap cE lE xE z x y L w) (evalC (EM4 c m cap cE lE xE z x y L w) 1000) 4 [V1.agg [.a (.sl 0 0 m cap), .a (.i z), .a xE]] (M2 c m cE lE) [false, false, false, false, true, true]) = some (hd ++ Ob2 c m cap cE lE xE z x y L false false w, bV true))
    (h2 : m ≤ 200) : Calls Try.prog 4 #[(V1.agg [.a (.sl 0 0 m cap), .a (.i z), .a xE]).conc φ] w (Trues w) := by
  have hwf : (V1.agg [.a (.sl 0 0 m cap), .a (.i z), .a xE]).wf (M2 c m cE lE).length = true := by
    rcases hx with rfl | ⟨l, k, rfl⟩ <;> rfl
  by_cases e0 : m = 0
  · exact law_runMD (envEH4 hx hmB hBA) r0 (All_app hhd (Ob0_ok e0)) hm hwf
  · by_cases e1 : m = 1
    · exact law_runMD (envEH4 hx hmB hBA) r1 (All_app hhd (Ob1_ok hob e1)) hm hwf
    · have h0 : 2 ≤ m := by omega
      cases hu : risB (cA c) ((m + 1) / 2) with
      | true => exact law_runMD (envEM4 (w := risB (cB c) (m / 2)) hx hmB hBA h0 h2 rfl rfl rfl) (rt ((m + 1) / 2) (m / 2) (m / 2) (risB (cB c) (m / 2))) (All_app hhd (Ob2_ok hx hob h0 h2 hu rfl)) hm hwf
      | false => exact law_runMD (envEM4 (w := false) hx hmB hBA h0 h2 rfl rfl rfl) (rf ((m + 1) / 2) (m / 2) (m / 2) false) (All_app hhd (Ob2_ok hx hob h0 h2 hu rfl)) hm hwf
theorem All_cons {p : Prop} {l : List Prop} (h : p) (h' : All l) : All (p :: l) := ⟨h, h'⟩
theorem HN_ok (l : List Prop) (hl : All l) {p : Prop} (hp : p) : All ([p, decide ((0 : Int) < ((0 : Nat) : Int)) = false, decide ((9000 : Int) < ((0 : Nat) : Int)) = false, decide ((200 : Int) < ((0 : Nat) : Int)) = false] ++ l) := ⟨hp, by decide, by decide, by decide, hl⟩
theorem law4 {H : Type} {enc : TypeId × Value → H} {r : Reach} {W : World} {base : Nat} {v : Value} {d : DataW H} {ps : List MemPlace} (hval : Value.okWide Try.prog W r base 25 v) (h : DataW.Trod enc Try.prog W 0 (fun _ => true) true 25 v d ps) (hwt : ∀ n ∈ d.weights Try.prog 25, n ≤ BB) :
    Calls Try.prog 4 #[v] W (Trues W) := by
  obtain ⟨a, z, b, rfl, ha, hb⟩ := three_open shR shC (DA := 20) (DB := 20) (B := BB) u25 rfl rfl rfl ct25 c22 c3 c23 c25 u22 k31 sz31 b31 u3 u23 k38 s38 b38 hval h hwt
  rcases ha with rfl | ⟨c, m, cap, bA, pA, rfl, hmc, hcm, hob, hBA, hmB, hltA, hcA⟩
  · rcases hb with rfl | ⟨cE, lE, kE, bB, pB, rfl, hlk, hkm, hobE, hBE, hlB, hltB, hcB⟩
    · exact law_runMD (φ := fun _ => (0, 0, 0)) (envE4 c0 (cF1 c0) c0 0) (n1v z) (HN_ok _ (Ob0_ok rfl) rfl) ⟨Below.refl _ _, by simp, by simp, by simp, by simp, by simp⟩ rfl
    · have hm := mrel_two (W := W) (shA := shR) (shB := shC) (eA := 31) (eB := 38) (cA := c0) (cB := cE) (lA := 0) (lB := lE) (bA := bB) (oA := pB) hltB hltB (fun φ j x hx => by simp [rowPs, concs] at hx) hcB
      have hlM : lE ≤ maxLen := by have := BB_lt; have : maxLen = 9223372036854775807 := by decide
                                   omega
      by_cases hE : (9000 : Int) < hv cE lE 0 (lE : Int)
      · exact law_at4 (φ := fun i => if i = 0 then (bB, pB, 0) else (bB, pB, 0)) (xL := (.v (.slice none 0 0))) (xE := (.sl 1 0 lE kE)) (by simp [Atom.conc]) (by simp [Atom.conc]) (law_runMD (envE4 c0 (cF1 c0) cE lE) (n3v cE lE kE z) (HN_ok _ (HE_ok hlM hBE) (decide_eq_true hE)) hm rfl)
      · exact law_at4 (φ := fun i => if i = 0 then (bB, pB, 0) else (bB, pB, 0)) (xL := (.v (.slice none 0 0))) (xE := (.sl 1 0 lE kE)) (by simp [Atom.conc]) (by simp [Atom.conc]) (law_runMD (envE4 c0 (cF1 c0) cE lE) (n2v cE lE kE z) (All_app (HN_ok _ (HE_ok hlM hBE) (decide_eq_false hE)) (Ob0_ok rfl)) hm rfl)
  · rcases hb with rfl | ⟨cE, lE, kE, bB, pB, rfl, hlk, hkm, hobE, hBE, hlB, hltB, hcB⟩
    · have hm := mrel_two (W := W) (shA := shR) (shB := shC) (eA := 31) (eB := 38) (cA := c) (cB := c0) (lA := m) (lB := 0) (bB := bA) (oB := pA) hltA hltA hcA (fun φ j x hx => by simp [rowPs, concs] at hx)
      have hx : isE (.v (.slice none 0 0)) := .inl rfl
      have hE4 := envEH4 (c := c) (cF := cF1 c) (m := m) (cap := cap) (cE := c0) (lE := 0) (z := z) hx hmB hBA
      by_cases h1 : (9000 : Int) < hvL c m 0 (m : Int)
      · exact law_at4 (φ := fun i => if i = 0 then (bA, pA, 0) else (bA, pA, 0)) (xL := (.sl 0 0 m cap)) (xE := (.v (.slice none 0 0))) (by simp [Atom.conc]) (by simp [Atom.conc]) (law_runMD hE4 (jh1 c m cap c0 0 z) ⟨rfl, Hd1_ok hx (decide_eq_true h1)⟩ hm rfl)
      · by_cases h2 : (200 : Int) < (m : Int)
        · exact law_at4 (φ := fun i => if i = 0 then (bA, pA, 0) else (bA, pA, 0)) (xL := (.sl 0 0 m cap)) (xE := (.v (.slice none 0 0))) (by simp [Atom.conc]) (by simp [Atom.conc]) (law_runMD hE4 (jh2 c m cap c0 0 z) ⟨rfl, Hd_ok hx (decide_eq_false h1) (decide_eq_true h2)⟩ hm rfl)
        · exact law_at4 (φ := fun i => if i = 0 then (bA, pA, 0) else (bA, pA, 0)) (xL := (.sl 0 0 m cap)) (xE := (.v (.slice none 0 0))) (by simp [Atom.conc]) (by simp [Atom.conc]) (law_some hx hob hmB hBA hm _ (All_cons (p := (false = false)) rfl (Hd_ok hx (decide_eq_false h1) (decide_eq_false h2))) (jv0 c m cap c0 0 z) (jv1 c m cap c0 0 z) (jvt c m cap c0 0 z) (jvf c m cap c0 0 z) (by omega))
    · have hm := mrel_two (W := W) (shA := shR) (shB := shC) (eA := 31) (eB := 38) (cA := c) (cB := cE) (lA := m) (lB := lE) hltA hltB hcA hcB
      have hlM : lE ≤ maxLen := by have := BB_lt; have : maxLen = 9223372036854775807 := by decide
                                   omega
      have hx : isE (.sl 1 0 lE kE) := .inr ⟨_, _, rfl⟩
      have hE4 := envEH4 (c := c) (cF := cF1 c) (m := m) (cap := cap) (cE := cE) (lE := lE) (z := z) hx hmB hBA
      by_cases h1 : (9000 : Int) < hvL c m 0 (m : Int)
      · exact law_at4 (φ := fun i => if i = 0 then (bA, pA, 0) else (bB, pB, 0)) (xL := (.sl 0 0 m cap)) (xE := (.sl 1 0 lE kE)) (by simp [Atom.conc]) (by simp [Atom.conc]) (law_runMD hE4 (kh1 c m cap cE lE kE z) ⟨rfl, Hd1_ok hx (decide_eq_true h1)⟩ hm rfl)
      · by_cases h2 : (200 : Int) < (m : Int)
        · exact law_at4 (φ := fun i => if i = 0 then (bA, pA, 0) else (bB, pB, 0)) (xL := (.sl 0 0 m cap)) (xE := (.sl 1 0 lE kE)) (by simp [Atom.conc]) (by simp [Atom.conc]) (law_runMD hE4 (kh2 c m cap cE lE kE z) ⟨rfl, Hd_ok hx (decide_eq_false h1) (decide_eq_true h2)⟩ hm rfl)
        · by_cases hE : (9000 : Int) < hv cE lE 0 (lE : Int)
          · exact law_at4 (φ := fun i => if i = 0 then (bA, pA, 0) else (bB, pB, 0)) (xL := (.sl 0 0 m cap)) (xE := (.sl 1 0 lE kE)) (by simp [Atom.conc]) (by simp [Atom.conc]) (law_runMD hE4 (kh3 c m cap cE lE kE z) ⟨decide_eq_true hE, All_app (Hd_ok hx (decide_eq_false h1) (decide_eq_false h2)) (HE_ok hlM hBE)⟩ hm rfl)
          · exact law_at4 (φ := fun i => if i = 0 then (bA, pA, 0) else (bB, pB, 0)) (xL := (.sl 0 0 m cap)) (xE := (.sl 1 0 lE kE)) (by simp [Atom.conc]) (by simp [Atom.conc]) (law_some hx hob hmB hBA hm _ (All_cons (decide_eq_false hE) (All_app (Hd_ok hx (decide_eq_false h1) (decide_eq_false h2)) (HE_ok hlM hBE))) (kv0 c m cap cE lE kE z) (kv1 c m cap cE lE kE z) (kvt c m cap cE lE kE z) (kvf c m cap cE lE kE z) (by omega))
end Go.Ev

namespace Go.Proofs.Ytfdldpoamgeopaa.Laws
open Go Go.Ev Go.RowKit Go.ChangeShapes Go.WideShapes Go.ChangeAt

set_option maxRecDepth 100000 in
theorem lifted4 (os : Os) (started : os.Started) (H : Type) (enc : TypeId × Value → H) :
    ReturnsInHanded {} Try.checked os 4 .any (Rows.traceMixesSpec.pre6 enc Try.prog Try.f4 Rows.traceMixesRow.domain false) (Rows.traceMixesSpec.post enc Try.prog Try.f4 false true false false) := by
  refine returnsInHanded_of_change_sized (C := Try.checked) own started (by kernel_rfl) Try.func4
    (ChangeSpec.witness6 (enc := enc) (C := Try.checked) false ⟨#[], #[.agg #[.slice none 0 0, .int .i64 0, .slice none 0 0]], []⟩ 8 (by kernel_rfl) (by kernel_rfl) (by kernel_rfl) (by kernel_rfl)) ?_
  intro W base args ds gs before hval0 hW _ hsz0 _
  have hsz : (DataW.weightsEach Try.prog (Try.f4.params.toList ++ Rows.traceMixesSpec.plain.varTypes Try.prog) (ds ++ gs)).all (· ≤ reachBytes) = true := hsz0
  clear hsz0
  have hval : ∀ (j : Nat) t v, Try.f4.params[j]? = some t → args[j]? = some v → Value.okWide Try.prog W .any base t v := hval0
  have hW' := hW
  obtain ⟨p, q, hA0, hV, hbef, hfz, hnd⟩ := hW
  have hp : Try.f4.params = #[25] := by kernel_rfl
  have hA : DataW.TrodAll enc Try.prog W 0 (fun _ => true) true Try.f4.params.toList args.toList ds p := hA0
  rw [hp] at hA hval
  obtain ⟨v0, d0, rfl, rfl, h0⟩ := trodAll_one hA
  obtain ⟨rfl, rfl⟩ := trodVars_none hV
  refine (law4 (hval 0 25 v0 rfl rfl) h0 (fun n hn => by simpa using List.all_eq_true.1 hsz n (DataW.weights_mem_each (j := 0) (t := 25) (by rw [hp]; rfl) rfl n hn))).mono ?_
  rintro e W' ⟨rfl, hb⟩
  exact ⟨_, rfl, post_true (tb := 4) rfl hp (by kernel_rfl) u4 laid rd25 row25 rfl rfl hW' hb⟩

theorem holds4 : Rows.TraceMixesSaid :=
  OpenClaim.holds_of_wide 4 Try.f4 rfl rfl rfl rfl rfl rfl rfl ⟨rfl, rfl, rfl, rfl, rfl⟩ rfl rfl rfl rfl rfl (by kernel_rfl) Try.func4 (by kernel_rfl)
    (of_decide_eq_true (by kernel_rfl)) (by unfold Func.isWrapper; first | (rw [if_pos (by decide +kernel)]; kernel_rfl) | (rw [if_neg (by decide +kernel)]; exact ⟨rfl, rfl⟩))
    (fun os started H enc _ => lifted4 os started H enc)

end Go.Proofs.Ytfdldpoamgeopaa.Laws

namespace Go.Proofs.Ytfdldpoamgeopaa
open Go
theorem traceMixes_holds : Rows.TraceMixesSaid := Laws.holds4
end Go.Proofs.Ytfdldpoamgeopaa

