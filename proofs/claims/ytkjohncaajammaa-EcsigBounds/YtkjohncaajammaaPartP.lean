/- An evaluator of the model's code with values known in part, and its soundness; Bytes of numbers and of points -/
import Derived.Test.YtkjohncaajammaaPartO
import Derived.Test.YtkjohncaajammaaPartK
import Derived.SizedLaws
import Derived.Test.YtkjohncaajammaaPartC
import Derived.Test.YtkjohncaajammaaPartI
namespace Go.Ev
open Go Go.RowKit

theorem limbs_len : ∀ k n, (limbs k n).length = k
  | 0, _ => rfl
  | k + 1, n => by simp [limbs, limbs_len k]
theorem pc_len (c : Cells) (φ : Loc) (p : Nat) (k : SK) : ((k.pc c p).conc φ).length = k.sz := by
  cases k <;> simp [SK.pc, Piece.conc, SK.sz, limbs_len]
theorem fld_len (c : Cells) (φ : Loc) : ∀ (sh : List SK) (p : Nat), (concs φ (fldPs c sh p)).length = shSz sh
  | [], _ => rfl
  | k :: l, p => by simp [fldPs, concs, shSz, pc_len, fld_len c φ l]
theorem fld_app (c : Cells) : ∀ (a b : List SK) (p : Nat), fldPs c (a ++ b) p = fldPs c a p ++ fldPs c b (p + shSz a)
  | [], b, p => by simp [fldPs, shSz]
  | k :: l, b, p => by simp [fldPs, shSz, fld_app c l b, Nat.add_assoc]
theorem row_at (c : Cells) (φ : Loc) (sh : List SK) : ∀ (n i p : Nat), i < n → ∃ tl, (concs φ (rowPs c sh n p)).drop (i * shSz sh) = concs φ (fldPs c sh (p + i * shSz sh)) ++ tl
  | 0, _, _, h => absurd h (Nat.not_lt_zero _)
  | n + 1, 0, p, _ => ⟨concs φ (rowPs c sh n (p + shSz sh)), by simp [rowPs, concs_append]⟩
  | n + 1, i + 1, p, h => by
    obtain ⟨tl, ih⟩ := row_at c φ sh n i (p + shSz sh) (by omega)
    refine ⟨tl, ?_⟩
    rw [show p + (i + 1) * shSz sh = p + shSz sh + i * shSz sh by rw [Nat.succ_mul]; omega, ← ih]
    simp only [rowPs, concs_append]
    rw [List.drop_append, fld_len, List.drop_eq_nil_of_le (by rw [fld_len, Nat.succ_mul]; omega), List.nil_append]
    congr 1
    rw [Nat.succ_mul]; omega
theorem fld_at (c : Cells) (φ : Loc) {sh pre shT post : List SK} (hsh : sh = pre ++ shT ++ post) {n i off : Nat} (hi : i < n) (ho : off = i * shSz sh + shSz pre) :
    ∃ tl, (concs φ (rowPs c sh n 0)).drop off = concs φ (fldPs c shT off) ++ tl := by
  obtain ⟨tl, h⟩ := row_at c φ sh n i 0 hi
  rw [Nat.zero_add] at h
  refine ⟨concs φ (fldPs c post (off + shSz shT)) ++ tl, ?_⟩
  have h2 : (concs φ (rowPs c sh n 0)).drop off = ((concs φ (rowPs c sh n 0)).drop (i * shSz sh)).drop (shSz pre) := by rw [List.drop_drop, ho]
  rw [h2, h]
  have h4 : ∀ q, concs φ (fldPs c sh q) = concs φ (fldPs c pre q) ++ (concs φ (fldPs c shT (q + shSz pre)) ++ concs φ (fldPs c post (q + shSz pre + shSz shT))) := by
    intro q
    rw [hsh, List.append_assoc, fld_app, fld_app, concs_append, concs_append]
  rw [h4, ← ho, List.append_assoc, List.drop_append, fld_len, List.drop_eq_nil_of_le (by rw [fld_len]; exact Nat.le_refl _), Nat.sub_self, List.nil_append, List.drop_zero, List.append_assoc]
theorem loads_row {P : Program} {t : TypeId} {sh : List SK} (pre shT post : List SK) (hsh : sh = pre ++ shT ++ post) (ha : isAggA P t = some true) (hs : sizeA P t = some (shSz shT)) {c : Cells} {n i off : Nat} (hi : i < n) (ho : off = i * shSz sh + shSz pre) :
    LoadsAs P t (rowPs c sh n 0) off (.agg (fldPs c shT off)) := by
  intro φ
  obtain ⟨tl, h⟩ := fld_at c φ hsh hi ho
  refine ⟨ha, _, hs, ?_, fld_len c φ shT off⟩
  rw [h, List.take_append_of_le_length (by rw [fld_len]; exact Nat.le_refl _), List.take_of_length_le (by rw [fld_len]; exact Nat.le_refl _)]
theorem loads_fld {P : Program} {t : TypeId} {sh : List SK} (pre : List SK) (k : SK) (post : List SK) (hsh : sh = pre ++ [k] ++ post) (ha : isAggA P t = some false) {c : Cells} {n i off : Nat} (hi : i < n) (ho : off = i * shSz sh + shSz pre) {x : Atom} (hx : k.pc c off = .a x) :
    LoadsAs P t (rowPs c sh n 0) off (.one x) := by
  intro φ
  obtain ⟨tl, h⟩ := fld_at c φ hsh hi ho
  refine ⟨ha, ?_⟩
  have h0 : (concs φ (rowPs c sh n 0))[off]? = ((concs φ (rowPs c sh n 0)).drop off)[0]? := by rw [List.getElem?_drop, Nat.add_zero]
  rw [h0, h]
  simp [fldPs, concs, hx, Piece.conc]
end Go.Ev

namespace Go.Ev
open Go Go.RowKit Go.ChangeShapes Go.WideShapes Go.ChangeAt

def SzV (B : Nat) (v : Value) : Prop := ∀ s, v = .string s → s.size ≤ B
section
variable {H : Type} {enc : TypeId × Value → H} {P : Program} {w : World} {base : Nat} {spare : Nat → Bool} {held : Bool} {B : Nat}
theorem weights_mem_all {e : TypeId} {d : DataW H} : ∀ {l : List (DataW H)}, d ∈ l → ∀ {n : Nat}, n ∈ d.weights P e → n ∈ DataW.weightsAll P e l
  | [], h, _, _ => by simp at h
  | x :: l, h, n, hn => by
    simp only [DataW.weightsAll, List.mem_append]
    rcases List.mem_cons.1 h with rfl | h
    · exact .inl hn
    · exact .inr (weights_mem_all h hn)
end
section
variable {P : Program} {B : Nat}
theorem rowsW {n0 : Nat} : ∀ (n : Nat) (cs : List Value), cs.length = n * n0 → (∀ i, i < n → ∀ v ∈ (cs.drop (i * n0)).take n0, SzV B v) → ∀ v ∈ cs, SzV B v
  | 0, cs, hl, _ => by
    rw [Nat.zero_mul] at hl
    rw [List.length_eq_zero_iff.1 hl]; simp
  | n + 1, cs, hl, h => by
    have h0 := h 0 (by omega)
    rw [Nat.zero_mul, List.drop_zero] at h0
    have := rowsW (n0 := n0) n (cs.drop n0) (by rw [List.length_drop, hl, Nat.succ_mul]; omega) (fun i hi => by
      rw [List.drop_drop, Nat.add_comm, ← Nat.succ_mul]
      exact h (i + 1) (by omega))
    intro v hv
    rw [← List.take_append_drop n0 cs] at hv
    rcases List.mem_append.1 hv with hv | hv
    · exact h0 v hv
    · exact this v hv
theorem fieldsW {g : TypeId → Option (List Nat)} {r : TypeId → List Value → Prop} (hg : ∀ t ks cs, g t = some ks → r t cs → cs.length = ks.length → ∀ v ∈ cs, SzV B v) : ∀ (fs : List Field) (off : Nat) (ks : List Nat) (cs : List Value),
    kindsF P g fs off = some ks → cs.length = off + ks.length → (∀ f ∈ fs, r f.type ((cs.drop f.offset).take (P.cellsOf f.type))) → ∀ v ∈ cs.drop off, SzV B v
  | [], off, ks, cs, hk, hl, _ => by
    simp only [kindsF, Option.some.injEq] at hk
    subst hk
    rw [List.drop_eq_nil_of_le (by simp at hl; omega)]; simp
  | f :: fs, off, ks, cs, hk, hl, h => by
    simp only [kindsF] at hk
    split at hk
    · rename_i kf n hf hgf hn
      split at hk
      · rename_i r' hlen hr
        simp only [Option.some.injEq] at hk
        subst hk
        simp only [Bool.and_eq_true, Nat.beq_eq] at hf hlen
        obtain ⟨_, hoff⟩ := hf
        rw [List.length_append] at hl
        have h1 := h f (by simp)
        rw [sizeA_cellsOf hn, hoff] at h1
        have h2 := hg _ _ _ hgf h1 (by rw [List.length_take, List.length_drop, hl]; omega)
        have h3 := fieldsW hg fs (off + n) r' cs hr (by omega) (fun f' hf' => h f' (by simp [hf']))
        intro v hv
        rw [← List.take_append_drop n (cs.drop off), List.drop_drop] at hv
        rcases List.mem_append.1 hv with hv | hv
        · exact h2 v hv
        · exact h3 v hv
      · simp at hk
    · simp at hk
end
section
variable {H : Type} {enc : TypeId × Value → H} {P : Program} {w : World} {base : Nat} {spare : Nat → Bool} {held : Bool} {B : Nat}
theorem trod_kindsW : ∀ (d : Nat) (t : TypeId) (ks : List Nat), kindsT P d t = some ks → ∀ (n : Nat) (cs : List Value) (x : DataW H × List MemPlace), DataW.trod enc P w base spare held n t cs = some x → cs.length = ks.length → (∀ m ∈ x.1.weights P t, m ≤ B) → ∀ v ∈ cs, SzV B v
  | 0, t, ks, h, _, _, _, _, _, _ => by simp [kindsT] at h
  | d + 1, t, ks, h, n, cs, x, hx, hl, hw => by
    simp only [kindsT] at h
    split at h
    · rename_i k hk
      cases n with
      | zero => simp [DataW.trod] at hx
      | succ n =>
        unfold DataW.trod at hx
        rw [hk] at hx
        split at hx <;> simp_all
        intro s hs
        simp_all
    · rename_i hk
      cases n with
      | zero => simp [DataW.trod] at hx
      | succ n =>
        unfold DataW.trod at hx
        rw [hk] at hx
        split at hx <;> simp_all
        intro s hs
        simp_all
    · rename_i hk
      cases n with
      | zero => simp [DataW.trod] at hx
      | succ n =>
        unfold DataW.trod at hx
        rw [hk] at hx
        split at hx <;> simp_all
        obtain ⟨_, rfl⟩ := hx
        intro s hs
        simp only [Value.string.injEq] at hs
        subst hs
        simpa [DataW.weights] using hw
    · rename_i len e hk
      split at h
      · rename_i ke m hke hm
        split at h
        · rename_i hkm
          simp only [Option.some.injEq] at h; subst h
          rw [Nat.beq_eq] at hkm
          obtain ⟨xs, m', _, rfl, _, hxl, hi⟩ := DataW.trod_array hk hx
          rw [repK_length] at hl
          refine rowsW len cs hl fun i hil => ?_
          have h1 := hi i hil
          rw [sizeA_cellsOf hm, ← hkm, List.getElem?_eq_getElem (by omega)] at h1
          refine trod_kindsW d e ke hke _ _ _ h1 ?_ ?_
          · rw [List.length_take, List.length_drop, hl]
            have : (i + 1) * ke.length ≤ len * ke.length := Nat.mul_le_mul_right _ hil
            rw [Nat.succ_mul] at this
            omega
          · intro q hq
            refine hw q ?_
            simp only [DataW.weights, hk]
            exact weights_mem_all (List.mem_map.2 ⟨_, List.getElem_mem _, rfl⟩) hq
        · simp at h
      · simp at h
    · rename_i fs hk
      split at h
      · obtain ⟨xs, m', _, rfl, _, hxl, hi⟩ := DataW.trod_struct hk hx
        have := fieldsW (P := P) (B := B) (g := kindsT P d) (r := fun t cs => ∃ y, DataW.trod enc P w base spare held m' t cs = some y ∧ ∀ q ∈ y.1.weights P t, q ≤ B) (fun t ks cs hks ⟨y, hy, hyw⟩ hl => trod_kindsW d t ks hks _ _ _ hy hl hyw) fs.toList 0 ks cs h (by omega)
          (fun f hf => by
            obtain ⟨i, hil, rfl⟩ := List.getElem_of_mem hf
            have h1 := hi i fs.toList[i] (by simp at hil ⊢)
            rw [List.getElem?_eq_getElem (by simp at hil; omega)] at h1
            refine ⟨_, h1, fun q hq => hw q ?_⟩
            simp only [DataW.weights, hk]
            refine DataW.weights_mem_each (j := i) (t := fs.toList[i].type) (d := (xs[i]'(by simp at hil; omega)).1) ?_ ?_ q hq
            · rw [List.getElem?_map, List.getElem?_eq_getElem hil]; rfl
            · rw [List.getElem?_map, List.getElem?_eq_getElem (by simp at hil; omega)]; rfl)
        simpa using this
      · simp at h
    · simp at h
end
section
variable {P : Program}
theorem slice_callsW {H : Type} {enc : TypeId × Value → H} {f : FuncId} {t e : TypeId} {ks : List Nat} {K D B : Nat} (ht : P.underlying t = some (.slice e)) (hk : kindsT P D e = some ks) (hs : sizeA P e = some ks.length)
    {Q : World → Ending → World → Prop}
    (hnil : ∀ w, Calls P f #[.slice none 0 0] w (Q w))
    (hrun : ∀ (c : Cells) (m len cap : Nat), m = min len K → len ≤ cap → cap ≤ maxLen → (∀ i k, (repK m ks)[i]? = some k → okK c k i) → (∀ j, j < m * ks.length → (c.s j).size ≤ B) → ∀ w φ, MRel w φ [window c ks m e] w → Calls P f #[(V1.one (.sl 0 0 len cap)).conc φ] w (Q w))
    {r : Reach} {W : World} {base : Nat} {v : Value} {d : DataW H} {ps : List MemPlace} (hval : Value.okWide P W r base t v) (h : DataW.Trod enc P W 0 (fun _ => true) true t v d ps) (hwt : ∀ n ∈ d.weights P t, n ≤ B) :
    Calls P f #[v] W (Q W) := by
  obtain ⟨a0, len0, cap0, rfl⟩ := okWide_slice ht hval
  obtain ⟨fuel, hf⟩ := h
  rcases Go.Deep.open_slice ht hf with ⟨hcs, _⟩ | ⟨a, len, cap, m, n, DD, Pl, hcs, _, hl, hcap, hm, hxe, hx⟩
  · simp [Value.cells] at hcs
    obtain ⟨rfl, rfl, rfl⟩ := hcs
    exact hnil W
  · simp [Value.cells] at hcs
    obtain ⟨rfl, rfl, rfl⟩ := hcs
    simp only [if_true] at hm
    have hhas : W.has P r base a e cap0 := by
      simp only [Value.okWide, ht, Cell.okWide, Cell.ok] at hval
      exact hval.2.2
    obtain ⟨_, hspot, row, cells, hsh, _⟩ := hhas
    have hblk : a.block < W.heap.size := by
      unfold World.shape? at hsh
      split at hsh
      · rename_i hb
        exact (Array.getElem?_eq_some_iff.1 hb).1
      · simp at hsh
    obtain ⟨b, off, sp⟩ := a
    simp only at hspot; subst hspot
    have hsz := sizeA_cellsOf hs
    let M := min len0 K
    let V : Nat → Value := fun j => (W.cell? ⟨b, off + j, none⟩).getD undef
    let vs : List Value := (List.range (M * ks.length)).map V
    have hDD : ∀ i, i < len0 → ∀ q ∈ (DD i).weights P e, q ≤ B := by
      intro i hi q hq
      simp only [Prod.mk.injEq] at hxe
      refine hwt q ?_
      rw [hxe.1]
      simp only [DataW.weights, ht]
      refine List.mem_cons_of_mem _ (List.mem_append_left _ (weights_mem_all ?_ hq))
      exact List.mem_map.2 ⟨i, List.mem_range.2 hi, rfl⟩
    have hcellW : ∀ i, i < M → ∀ j, j < ks.length → SzV B (V (i * ks.length + j)) := by
      intro i hi j hj
      obtain ⟨cs, h1, h2⟩ := hx i (by omega)
      rw [hsz] at h1
      obtain ⟨_, h3, h4⟩ := World.cells?_some h1
      have h5 := trod_kindsW D e ks hk _ _ _ h2 h3 (hDD i (by omega))
      have h6 : W.cell? ⟨b, off + (i * ks.length + j), none⟩ = cs[j]? := by
        rw [← h4 j hj, Go.Deep.add_add]
        congr 1
        unfold Addr.add
        split
        · rename_i h0; rw [h0, Nat.add_zero]
        · rfl
      have h7 : V (i * ks.length + j) = cs[j]'(by omega) := by
        simp only [V]
        rw [h6, List.getElem?_eq_getElem (by omega)]; rfl
      rw [h7]
      exact h5 _ (List.getElem_mem _)
    have hcell : ∀ i, i < M → ∃ cs, (∀ j, j < ks.length → W.cell? ⟨b, off + (i * ks.length + j), none⟩ = cs[j]?) ∧ cs.length = ks.length ∧ FitK ks cs := by
      intro i hi
      obtain ⟨cs, h1, h2⟩ := hx i (by omega)
      rw [hsz] at h1
      obtain ⟨_, h3, h4⟩ := World.cells?_some h1
      refine ⟨cs, ?_, h3, trod_kinds D e ks hk _ _ _ h2 h3⟩
      intro j hj
      rw [← h4 j hj, Go.Deep.add_add]
      congr 1
      unfold Addr.add
      split
      · rename_i h0; rw [h0, Nat.add_zero]
      · rfl
    have hfit : FitK (repK M ks) vs := by
      refine fit_rows M vs (by simp [vs]) fun i hi => ?_
      obtain ⟨cs, h1, h2, h3⟩ := hcell i hi
      have : (vs.drop (i * ks.length)).take ks.length = cs := by
        apply List.ext_getElem?
        intro j
        by_cases hj : j < ks.length
        · rw [List.getElem?_take_of_lt hj, List.getElem?_drop]
          have hlt : i * ks.length + j < M * ks.length := by
            have : (i + 1) * ks.length ≤ M * ks.length := Nat.mul_le_mul_right _ hi
            rw [Nat.succ_mul] at this; omega
          simp only [vs, List.getElem?_map, List.getElem?_range hlt, Option.map_some, V]
          rw [h1 j hj, List.getElem?_eq_getElem (by omega)]
          rfl
        · rw [List.getElem?_eq_none (by simp; omega), List.getElem?_eq_none (by omega)]
      rw [this]; exact h3
    have hV : ∀ i v, vs[i]? = some v → V (0 + i) = v := by
      intro i v hv
      have hi := lt_of_getElem? hv
      simp only [vs, List.length_map, List.length_range] at hi
      simp only [vs, List.getElem?_map, List.getElem?_range hi, Option.map_some, Option.some.injEq] at hv
      rw [Nat.zero_add]; exact hv
    have hok := atomsK_ok (repK M ks) vs 0 hfit hV
    have hall : ∀ j v, vs[j]? = some v → W.cell? ⟨b, off + j, none⟩ = some v := by
      intro j v hv
      have hj := lt_of_getElem? hv
      simp only [vs, List.length_map, List.length_range] at hj
      by_cases h0 : ks.length = 0
      · simp [h0] at hj
      · have hq : j / ks.length < M := (Nat.div_lt_iff_lt_mul (by omega)).2 hj
        obtain ⟨cs, h1, h2, _⟩ := hcell _ hq
        have := h1 (j % ks.length) (Nat.mod_lt _ (by omega))
        rw [Nat.div_add_mod'] at this
        have hv' := hV j v hv
        rw [Nat.zero_add] at hv'
        rw [← hv']
        simp only [V]
        rw [this, List.getElem?_eq_getElem (by rw [h2]; exact Nat.mod_lt _ (by omega))]
        rfl
    let φ : Loc := fun _ => (b, off, 0)
    have hconc : concs φ (window (cellsOf V) ks M e).ps = vs := atomsK_conc φ (repK M ks) vs 0 hfit hV
    have hmr : MRel W φ [window (cellsOf V) ks M e] W := by
      refine ⟨Below.refl _ _, ?_, ?_, ?_, ?_, ?_⟩
      · intro i j b1 b2 hb1 hb2 _ _ hro _ _
        cases i with
        | zero => simp only [List.getElem?_cons_zero, Option.some.injEq] at hb1; subst hb1; cases hro
        | succ i => simp at hb1
      · intro i b1 hb1 _ hro
        cases i with
        | zero => simp only [List.getElem?_cons_zero, Option.some.injEq] at hb1; subst hb1; cases hro
        | succ i => simp at hb1
      · intro i b1 hb1 _ _
        cases i with
        | zero =>
          simp only [List.getElem?_cons_zero, Option.some.injEq] at hb1; subst hb1
          refine ⟨hblk, ?_⟩
          rw [hconc]
          exact hall
        | succ i => simp at hb1
      · intro i b1 hb1 _ hro
        cases i with
        | zero => simp only [List.getElem?_cons_zero, Option.some.injEq] at hb1; subst hb1; cases hro
        | succ i => simp at hb1
      · intro i b1 hb1
        cases i with
        | zero =>
          simp only [List.getElem?_cons_zero, Option.some.injEq] at hb1; subst hb1
          exact atomsK_free _ _ _ _
        | succ i => simp at hb1
    have := hrun (cellsOf V) M len0 cap0 rfl hl hcap (fun i k hik => by have := hok i k hik; rwa [Nat.zero_add] at this) (fun j hj => by
      have h0 : 0 < ks.length := by
        rcases Nat.eq_zero_or_pos ks.length with h0 | h0
        · rw [h0, Nat.mul_zero] at hj; omega
        · exact h0
      have hq : j / ks.length < M := (Nat.div_lt_iff_lt_mul h0).2 hj
      have h1 := hcellW _ hq (j % ks.length) (Nat.mod_lt _ h0)
      rw [Nat.div_add_mod'] at h1
      show (match V j with | .string s => s | _ => ByteArray.empty).size ≤ B
      split
      · rename_i s hs
        exact h1 s hs
      · exact Nat.zero_le _) W φ hmr
    simpa [V1.conc, Atom.conc, φ] using this
end
theorem rows_calls_sized {P : Program} {H : Type} {enc : TypeId × Value → H} {f : FuncId} {t e : TypeId} (sh : List SK) {D B : Nat} (ht : P.underlying t = some (.slice e)) (hk : kindsT P D e = some (shKs sh)) (hs : sizeA P e = some (shSz sh))
    {Q : World → Ending → World → Prop}
    (hnil : ∀ w, Calls P f #[.slice none 0 0] w (Q w))
    (hrun : ∀ (c : Cells) (len cap : Nat), len ≤ cap → cap ≤ maxLen → All (rowOb c sh len 0) → (∀ j, j < len * shSz sh → (sA c j).size ≤ B) → ∀ w φ, MRel w φ [rowB c sh len e] w → Calls P f #[(V1.one (.sl 0 0 len cap)).conc φ] w (Q w))
    {r : Reach} {W : World} {base : Nat} {v : Value} {d : DataW H} {ps : List MemPlace} (hval : Value.okWide P W r base t v) (h : DataW.Trod enc P W 0 (fun _ => true) true t v d ps) (hwt : ∀ n ∈ d.weights P t, n ≤ B) :
    Calls P f #[v] W (Q W) := by
  refine slice_callsW (K := maxLen) ht hk (by rw [shKs_len]; exact hs) hnil ?_ hval h hwt
  intro c m len cap hm hl hc hok hB w φ hmr
  obtain rfl : m = len := by omega
  have hokk : okKs c (repK m (shKs sh)) 0 := fun i k hi => by rw [Nat.zero_add]; exact hok i k hi
  refine hrun c m cap hl hc (rowsp c φ sh m 0 hokk).2 (fun j hj => hB j (by rw [shKs_len]; exact hj)) w φ (hmr.same ?_ ?_)
  · exact ⟨⟨rfl, rfl, rfl, rfl, fun φ => (rowsp c φ sh m 0 hokk).1.symm⟩, trivial⟩
  · simp only [memWf, List.length_cons, List.length_nil, Bool.and_true]
    exact rowB_fr _ _ _ _ _
end Go.Ev

namespace Go.Ev
open Go Go.RowKit Go.ChangeShapes Go.WideShapes Go.ChangeAt

section
variable {P : Program}
end
end Go.Ev

namespace Go.Ev
open Go Go.Proofs Go.RowKit
noncomputable def addL (E : Env) (k : Nat) (y : Code) (f : List AV → List Blk → List Bool → CoR) : Env :=
  { E with lp := fun j => match Nat.beq j k with | true => some (y, f) | false => E.lp j }
theorem envAddL {E : Env} (hE : EnvOK E) {k : Nat} {y : Code} {f : List AV → List Blk → List Bool → CoR} (h : SumOK E.P (.loop y) f) : EnvOK (addL E k y f) := by
  refine ⟨hE.mixed, hE.fns, hE.fms, ?_, hE.fbs⟩
  intro j y' f' hj
  simp only [addL] at hj
  split at hj
  · simp only [Option.some.injEq, Prod.mk.injEq] at hj
    obtain ⟨rfl, rfl⟩ := hj
    exact h
  · exact hE.lps j y' f' hj
end Go.Ev

namespace Go.Ev
open Go Go.Proofs Go.RowKit
noncomputable def fnUnW (vs : List V1) : Option (List Prop × AV) := match vs with | [.one (.v (.string s))] => some ([], .tup [P3 (wX s) (wY s) false, .one (.i (wE s))]) | _ => none
theorem ct35u : CTok ⟨36, fnUnW⟩ := by
  intro vs ob r h ho
  simp only [fnUnW] at h
  split at h
  · simp only [Option.some.injEq, Prod.mk.injEq] at h
    obtain ⟨_, rfl⟩ := h
    exact spec35u _
  · simp at h
end Go.Ev

namespace Go.Ev
open Go Go.Proofs Go.RowKit
theorem leB_succ (n x : Nat) : leB (n + 1) x = x % 256 :: leB n (x / 256) := by
  unfold leB
  rw [List.range_succ_eq_map, List.map_cons, List.map_map]
  rw [Nat.pow_zero, Nat.div_one]
  congr 1
  refine List.map_congr_left fun j _ => ?_
  show x / 256 ^ (j + 1) % 256 = x / 256 / 256 ^ j % 256
  rw [Nat.pow_succ, Nat.mul_comm, Nat.div_div_eq_div_mul]
theorem leN_leB : ∀ (n x : Nat), leN (leB n x) = x % 256 ^ n
  | 0, x => by simp [leB, leN, Nat.mod_one]
  | n + 1, x => by
    rw [leB_succ]
    show x % 256 + 256 * leN (leB n (x / 256)) = _
    rw [leN_leB n, Nat.pow_succ, Nat.mul_comm (256 ^ n), Nat.mod_mul]
theorem strOf_app (a b : List Nat) : strOf a ++ strOf b = strOf (a ++ b) := by
  apply ByteArray.ext
  simp [strOf, ByteArray.data_append]
theorem strOf_ext (l : List Nat) (a b : Nat) : (strOf l).extract a b = strOf ((l.take b).drop a) := by
  apply ByteArray.ext
  simp [strOf, ByteArray.data_extract, List.extract_eq_take_drop, List.drop_take, List.map_drop, List.map_take]
theorem bgS_eq (x : Nat) : bgS x = strOf (leB 32 x).reverse := by
  unfold bgS revS
  rw [numsB_strOf _ (leB_lt 32 x)]
theorem beS_strOf {l : List Nat} (h : ∀ b ∈ l, b < 256) : beS (strOf l) = leN l.reverse := by
  unfold beS leS
  rw [revS_nums, numsB_strOf l h]
theorem k0_strOf (b : Nat) (l : List Nat) (h : b < 256) : k0 (strOf (b :: l)) = b := by
  unfold k0 strOf
  simp [UInt8.toNat_ofNat', Nat.mod_eq_of_lt h]
theorem rev_lt (n x : Nat) : ∀ b ∈ (leB n x).reverse, b < 256 := fun b h => leB_lt n x b (List.mem_reverse.1 h)
theorem rev_len (n x : Nat) : (leB n x).reverse.length = n := by rw [List.length_reverse, leB_length]
theorem W8_pow {x : Nat} (h : x < 4294967296 ^ 8) : x < 256 ^ 32 := Nat.lt_of_lt_of_le h (by decide)
theorem short_of {k x : Nat} (hk : k < 256) (hx : x < 4294967296 ^ 8) : (strOf (k :: (leB 32 x).reverse)).size = 33 ∧ k0 (strOf (k :: (leB 32 x).reverse)) = k ∧ bx (strOf (k :: (leB 32 x).reverse)) = x := by
  refine ⟨by rw [strOf_size, List.length_cons, rev_len], k0_strOf _ _ hk, ?_⟩
  unfold bx
  rw [strOf_ext, List.take_of_length_le (by rw [List.length_cons, rev_len]; exact Nat.le_refl _)]
  show beS (strOf (leB 32 x).reverse) = x
  rw [beS_strOf (rev_lt 32 x), List.reverse_reverse, leN_leB, Nat.mod_eq_of_lt (W8_pow hx)]
theorem packW_eq (x y : Nat) : packW x y = strOf ((2 + y % 2) :: (leB 32 x).reverse) := by
  unfold packW; rw [bgS_eq, strOf_app]; rfl
end Go.Ev

namespace Go.Ev
open Go Go.Proofs Go.RowKit
theorem pr1d : Go.NT.Pr (modN 1) := by rw [modN_P]; exact Go.NT.primeK (by decide)
theorem modN1_odd : modN 1 % 2 = 1 := by decide +kernel
theorem ev1_even (a : Nat) : evC 1 a % 2 = 0 := Go.NT.evenN_even modN1_odd (by rw [modN_P]; exact Go.NT.candN_lt (by decide))
theorem ev1_sq {a : Nat} (h : sqB 1 a = true) : evC 1 a * evC 1 a % modN 1 = a := by
  unfold evC
  rw [Go.NT.evenN_sq (by rw [modN_P]; exact Go.NT.candN_lt (by decide))]
  exact (isSq_iff 1 a).1 h
theorem sum0 {m z : Nat} (hz : z < 2 * m) (h0 : z % m = 0) : z = 0 ∨ z = m := by
  rcases Nat.lt_or_ge z m with h | h
  · rw [Nat.mod_eq_of_lt h] at h0; exact .inl h0
  · right
    have := Nat.mod_eq_sub_mod h
    rw [this, Nat.mod_eq_of_lt (by omega)] at h0
    omega
theorem ev1_of {x a : Nat} (hx : x < modN 1) (h : x * x % modN 1 = a) : sqB 1 a = true ∧ evC 1 a = if x % 2 = 1 then modN 1 - x else x := by
  have hs : sqB 1 a = true := Go.NT.isSq_of (r := x) (by decide) (by rw [← modN_P]; exact h)
  refine ⟨hs, ?_⟩
  have he := ev1_even a
  have hl : evC 1 a < modN 1 := evC_lt (by decide)
  have hq : evC 1 a * evC 1 a % modN 1 = x * x % modN 1 := by rw [ev1_sq hs, h]
  have hm := modN1_odd
  rcases Go.NT.sq_eq pr1d hl hx hq with h1 | h1
  · split <;> omega
  · rcases sum0 (by omega) h1 with h2 | h2 <;> split <;> omega
theorem onS_iff {x y : Nat} : onS x y false = true ↔ x < modN 1 ∧ y < modN 1 ∧ y * y % modN 1 = sqP x := by
  unfold onS ltW
  rw [cond_false, eqW_in]
  simp only [Bool.and_eq_true, decide_eq_true_iff]
  exact ⟨fun ⟨⟨a, b⟩, c⟩ => ⟨a, b, c⟩, fun ⟨a, b, c⟩ => ⟨⟨a, b⟩, c⟩⟩
theorem subM1 {x : Nat} (h0 : x ≠ 0) (hx : x < modN 1) : subM (modN 1) 0 x = modN 1 - x := by
  unfold subM
  rw [Nat.mod_eq_of_lt (by omega), Nat.zero_add]
theorem unp_short {x y k : Nat} (hon : onS x y false = true) (hk : k = 2 ∨ k = 3) :
    wE (strOf (k :: (leB 32 x).reverse)) = 0 ∧ wX (strOf (k :: (leB 32 x).reverse)) = x ∧ wY (strOf (k :: (leB 32 x).reverse)) = if k = 2 + y % 2 then y else subM (modN 1) 0 y := by
  obtain ⟨hx, hy, hq⟩ := onS_iff.1 hon
  obtain ⟨h1, h2, h3⟩ := short_of (k := k) (x := x) (by omega) (L8 hx)
  generalize strOf (k :: (leB 32 x).reverse) = s at *
  obtain ⟨e1, e2⟩ := ev1_of hy hq
  have hr : rtS (bx s) = true := by rw [h3]; exact e1
  have hev : evW (bx s) = if y % 2 = 1 then modN 1 - y else y := by rw [h3]; exact e2
  have hkk : (decide (k0 s = 2) || decide (k0 s = 3)) = true := by
    rw [h2]
    rcases hk with rfl | rfl <;> rfl
  have hfd : fdE (bx s) = 0 := by unfold fdE; rw [hr, cond_true]
  have he : wE s = 0 := ((wE_33 h1).trans (bbT hkk (by rw [h3]; exact decide_eq_true hx))).trans hfd
  have hx' : wX s = x := by unfold wX; rw [decide_eq_true he, cond_true, h3]
  refine ⟨he, hx', ?_⟩
  have hyy : wY s = bif decide (2 < k) then subM (modN 1) 0 (evW (bx s)) else evW (bx s) := by
    unfold wY fdY
    rw [decide_eq_true he, cond_true, decide_eq_true h1, cond_true, hr, cond_true, h2]
  have hm := modN1_odd
  rw [hyy, hev]
  rcases hk with rfl | rfl
  · rw [show decide (2 < 2) = false from rfl, cond_false]
    by_cases hp : y % 2 = 1
    · rw [if_pos hp, if_neg (by omega), subM1 (by omega) hy]
    · rw [if_neg hp, if_pos (by omega)]
  · rw [show decide (2 < 3) = true from rfl, cond_true]
    by_cases hp : y % 2 = 1
    · rw [if_pos hp, if_pos (by omega), subM1 (by omega) (by omega)]; omega
    · rw [if_neg hp, if_neg (by omega)]
end Go.Ev

