/- An evaluator of the model's code with values known in part, and its soundness -/
import Derived.Test.YtjiiaeljpllahaaGreatPartN
import Derived.Test.YtjiiaeljpllahaaGreatPartK
import Derived.SizedLaws
import Derived.Test.YtjiiaeljpllahaaGreatPartA
namespace Go.Ev
open Go Go.RowKit

theorem limbs_len : ∀ k n, (limbs k n).length = k
  | 0, _ => rfl
  | k + 1, n => by simp [limbs, limbs_len k]
theorem pc_len (c : Cells) (φ : Loc) (p : Nat) (k : SK) : ((k.pc c p).conc φ).length = k.sz := by
  cases k <;> simp [SK.pc, Piece.conc, SK.sz, limbs_len]
theorem fld_len (c : Cells) (φ : Loc) : ∀ (sh : List SK) (p : Nat), (concs φ (fldPs c sh p)).length = shSz sh
  | [], _ => rfl
  | k :: l, p => by simp [fldPs, concs, shSz, pc_len, fld_len c φ l]
theorem fld_app (c : Cells) : ∀ (a b : List SK) (p : Nat), fldPs c (a ++ b) p = fldPs c a p ++ fldPs c b (p + shSz a)
  | [], b, p => by simp [fldPs, shSz]
  | k :: l, b, p => by simp [fldPs, shSz, fld_app c l b, Nat.add_assoc]
theorem row_at (c : Cells) (φ : Loc) (sh : List SK) : ∀ (n i p : Nat), i < n → ∃ tl, (concs φ (rowPs c sh n p)).drop (i * shSz sh) = concs φ (fldPs c sh (p + i * shSz sh)) ++ tl
  | 0, _, _, h => absurd h (Nat.not_lt_zero _)
  | n + 1, 0, p, _ => ⟨concs φ (rowPs c sh n (p + shSz sh)), by simp [rowPs, concs_append]⟩
  | n + 1, i + 1, p, h => by
    obtain ⟨tl, ih⟩ := row_at c φ sh n i (p + shSz sh) (by omega)
    refine ⟨tl, ?_⟩
    rw [show p + (i + 1) * shSz sh = p + shSz sh + i * shSz sh by rw [Nat.succ_mul]; omega, ← ih]
    simp only [rowPs, concs_append]
    rw [List.drop_append, fld_len, List.drop_eq_nil_of_le (by rw [fld_len, Nat.succ_mul]; omega), List.nil_append]
    congr 1
    rw [Nat.succ_mul]; omega
theorem fld_at (c : Cells) (φ : Loc) {sh pre shT post : List SK} (hsh : sh = pre ++ shT ++ post) {n i off : Nat} (hi : i < n) (ho : off = i * shSz sh + shSz pre) :
    ∃ tl, (concs φ (rowPs c sh n 0)).drop off = concs φ (fldPs c shT off) ++ tl := by
  obtain ⟨tl, h⟩ := row_at c φ sh n i 0 hi
  rw [Nat.zero_add] at h
  refine ⟨concs φ (fldPs c post (off + shSz shT)) ++ tl, ?_⟩
  have h2 : (concs φ (rowPs c sh n 0)).drop off = ((concs φ (rowPs c sh n 0)).drop (i * shSz sh)).drop (shSz pre) := by rw [List.drop_drop, ho]
  rw [h2, h]
  have h4 : ∀ q, concs φ (fldPs c sh q) = concs φ (fldPs c pre q) ++ (concs φ (fldPs c shT (q + shSz pre)) ++ concs φ (fldPs c post (q + shSz pre + shSz shT))) := by
    intro q
    rw [hsh, List.append_assoc, fld_app, fld_app, concs_append, concs_append]
  rw [h4, ← ho, List.append_assoc, List.drop_append, fld_len, List.drop_eq_nil_of_le (by rw [fld_len]; exact Nat.le_refl _), Nat.sub_self, List.nil_append, List.drop_zero, List.append_assoc]
theorem loads_row {P : Program} {t : TypeId} {sh : List SK} (pre shT post : List SK) (hsh : sh = pre ++ shT ++ post) (ha : isAggA P t = some true) (hs : sizeA P t = some (shSz shT)) {c : Cells} {n i off : Nat} (hi : i < n) (ho : off = i * shSz sh + shSz pre) :
    LoadsAs P t (rowPs c sh n 0) off (.agg (fldPs c shT off)) := by
  intro φ
  obtain ⟨tl, h⟩ := fld_at c φ hsh hi ho
  refine ⟨ha, _, hs, ?_, fld_len c φ shT off⟩
  rw [h, List.take_append_of_le_length (by rw [fld_len]; exact Nat.le_refl _), List.take_of_length_le (by rw [fld_len]; exact Nat.le_refl _)]
theorem loads_fld {P : Program} {t : TypeId} {sh : List SK} (pre : List SK) (k : SK) (post : List SK) (hsh : sh = pre ++ [k] ++ post) (ha : isAggA P t = some false) {c : Cells} {n i off : Nat} (hi : i < n) (ho : off = i * shSz sh + shSz pre) {x : Atom} (hx : k.pc c off = .a x) :
    LoadsAs P t (rowPs c sh n 0) off (.one x) := by
  intro φ
  obtain ⟨tl, h⟩ := fld_at c φ hsh hi ho
  refine ⟨ha, ?_⟩
  have h0 : (concs φ (rowPs c sh n 0))[off]? = ((concs φ (rowPs c sh n 0)).drop off)[0]? := by rw [List.getElem?_drop, Nat.add_zero]
  rw [h0, h]
  simp [fldPs, concs, hx, Piece.conc]
end Go.Ev

namespace Go.Ev
open Go Go.RowKit Go.ChangeShapes Go.WideShapes Go.ChangeAt

def SzV (B : Nat) (v : Value) : Prop := ∀ s, v = .string s → s.size ≤ B
section
variable {H : Type} {enc : TypeId × Value → H} {P : Program} {w : World} {base : Nat} {spare : Nat → Bool} {held : Bool} {B : Nat}
theorem weights_mem_all {e : TypeId} {d : DataW H} : ∀ {l : List (DataW H)}, d ∈ l → ∀ {n : Nat}, n ∈ d.weights P e → n ∈ DataW.weightsAll P e l
  | [], h, _, _ => by simp at h
  | x :: l, h, n, hn => by
    simp only [DataW.weightsAll, List.mem_append]
    rcases List.mem_cons.1 h with rfl | h
    · exact .inl hn
    · exact .inr (weights_mem_all h hn)
end
section
variable {P : Program} {B : Nat}
theorem rowsW {n0 : Nat} : ∀ (n : Nat) (cs : List Value), cs.length = n * n0 → (∀ i, i < n → ∀ v ∈ (cs.drop (i * n0)).take n0, SzV B v) → ∀ v ∈ cs, SzV B v
  | 0, cs, hl, _ => by
    rw [Nat.zero_mul] at hl
    rw [List.length_eq_zero_iff.1 hl]; simp
  | n + 1, cs, hl, h => by
    have h0 := h 0 (by omega)
    rw [Nat.zero_mul, List.drop_zero] at h0
    have := rowsW (n0 := n0) n (cs.drop n0) (by rw [List.length_drop, hl, Nat.succ_mul]; omega) (fun i hi => by
      rw [List.drop_drop, Nat.add_comm, ← Nat.succ_mul]
      exact h (i + 1) (by omega))
    intro v hv
    rw [← List.take_append_drop n0 cs] at hv
    rcases List.mem_append.1 hv with hv | hv
    · exact h0 v hv
    · exact this v hv
theorem fieldsW {g : TypeId → Option (List Nat)} {r : TypeId → List Value → Prop} (hg : ∀ t ks cs, g t = some ks → r t cs → cs.length = ks.length → ∀ v ∈ cs, SzV B v) : ∀ (fs : List Field) (off : Nat) (ks : List Nat) (cs : List Value),
    kindsF P g fs off = some ks → cs.length = off + ks.length → (∀ f ∈ fs, r f.type ((cs.drop f.offset).take (P.cellsOf f.type))) → ∀ v ∈ cs.drop off, SzV B v
  | [], off, ks, cs, hk, hl, _ => by
    simp only [kindsF, Option.some.injEq] at hk
    subst hk
    rw [List.drop_eq_nil_of_le (by simp at hl; omega)]; simp
  | f :: fs, off, ks, cs, hk, hl, h => by
    simp only [kindsF] at hk
    split at hk
    · rename_i kf n hf hgf hn
      split at hk
      · rename_i r' hlen hr
        simp only [Option.some.injEq] at hk
        subst hk
        simp only [Bool.and_eq_true, Nat.beq_eq] at hf hlen
        obtain ⟨_, hoff⟩ := hf
        rw [List.length_append] at hl
        have h1 := h f (by simp)
        rw [sizeA_cellsOf hn, hoff] at h1
        have h2 := hg _ _ _ hgf h1 (by rw [List.length_take, List.length_drop, hl]; omega)
        have h3 := fieldsW hg fs (off + n) r' cs hr (by omega) (fun f' hf' => h f' (by simp [hf']))
        intro v hv
        rw [← List.take_append_drop n (cs.drop off), List.drop_drop] at hv
        rcases List.mem_append.1 hv with hv | hv
        · exact h2 v hv
        · exact h3 v hv
      · simp at hk
    · simp at hk
end
section
variable {H : Type} {enc : TypeId × Value → H} {P : Program} {w : World} {base : Nat} {spare : Nat → Bool} {held : Bool} {B : Nat}
theorem trod_kindsW : ∀ (d : Nat) (t : TypeId) (ks : List Nat), kindsT P d t = some ks → ∀ (n : Nat) (cs : List Value) (x : DataW H × List MemPlace), DataW.trod enc P w base spare held n t cs = some x → cs.length = ks.length → (∀ m ∈ x.1.weights P t, m ≤ B) → ∀ v ∈ cs, SzV B v
  | 0, t, ks, h, _, _, _, _, _, _ => by simp [kindsT] at h
  | d + 1, t, ks, h, n, cs, x, hx, hl, hw => by
    simp only [kindsT] at h
    split at h
    · rename_i k hk
      cases n with
      | zero => simp [DataW.trod] at hx
      | succ n =>
        unfold DataW.trod at hx
        rw [hk] at hx
        split at hx <;> simp_all
        intro s hs
        simp_all
    · rename_i hk
      cases n with
      | zero => simp [DataW.trod] at hx
      | succ n =>
        unfold DataW.trod at hx
        rw [hk] at hx
        split at hx <;> simp_all
        intro s hs
        simp_all
    · rename_i hk
      cases n with
      | zero => simp [DataW.trod] at hx
      | succ n =>
        unfold DataW.trod at hx
        rw [hk] at hx
        split at hx <;> simp_all
        obtain ⟨_, rfl⟩ := hx
        intro s hs
        simp only [Value.string.injEq] at hs
        subst hs
        simpa [DataW.weights] using hw
    · rename_i len e hk
      split at h
      · rename_i ke m hke hm
        split at h
        · rename_i hkm
          simp only [Option.some.injEq] at h; subst h
          rw [Nat.beq_eq] at hkm
          obtain ⟨xs, m', _, rfl, _, hxl, hi⟩ := DataW.trod_array hk hx
          rw [repK_length] at hl
          refine rowsW len cs hl fun i hil => ?_
          have h1 := hi i hil
          rw [sizeA_cellsOf hm, ← hkm, List.getElem?_eq_getElem (by omega)] at h1
          refine trod_kindsW d e ke hke _ _ _ h1 ?_ ?_
          · rw [List.length_take, List.length_drop, hl]
            have : (i + 1) * ke.length ≤ len * ke.length := Nat.mul_le_mul_right _ hil
            rw [Nat.succ_mul] at this
            omega
          · intro q hq
            refine hw q ?_
            simp only [DataW.weights, hk]
            exact weights_mem_all (List.mem_map.2 ⟨_, List.getElem_mem _, rfl⟩) hq
        · simp at h
      · simp at h
    · rename_i fs hk
      split at h
      · obtain ⟨xs, m', _, rfl, _, hxl, hi⟩ := DataW.trod_struct hk hx
        have := fieldsW (P := P) (B := B) (g := kindsT P d) (r := fun t cs => ∃ y, DataW.trod enc P w base spare held m' t cs = some y ∧ ∀ q ∈ y.1.weights P t, q ≤ B) (fun t ks cs hks ⟨y, hy, hyw⟩ hl => trod_kindsW d t ks hks _ _ _ hy hl hyw) fs.toList 0 ks cs h (by omega)
          (fun f hf => by
            obtain ⟨i, hil, rfl⟩ := List.getElem_of_mem hf
            have h1 := hi i fs.toList[i] (by simp at hil ⊢)
            rw [List.getElem?_eq_getElem (by simp at hil; omega)] at h1
            refine ⟨_, h1, fun q hq => hw q ?_⟩
            simp only [DataW.weights, hk]
            refine DataW.weights_mem_each (j := i) (t := fs.toList[i].type) (d := (xs[i]'(by simp at hil; omega)).1) ?_ ?_ q hq
            · rw [List.getElem?_map, List.getElem?_eq_getElem hil]; rfl
            · rw [List.getElem?_map, List.getElem?_eq_getElem (by simp at hil; omega)]; rfl)
        simpa using this
      · simp at h
    · simp at h
end
section
variable {P : Program}
theorem slice_callsW {H : Type} {enc : TypeId × Value → H} {f : FuncId} {t e : TypeId} {ks : List Nat} {K D B : Nat} (ht : P.underlying t = some (.slice e)) (hk : kindsT P D e = some ks) (hs : sizeA P e = some ks.length)
    {Q : World → Ending → World → Prop}
    (hnil : ∀ w, Calls P f #[.slice none 0 0] w (Q w))
    (hrun : ∀ (c : Cells) (m len cap : Nat), m = min len K → len ≤ cap → cap ≤ maxLen → (∀ i k, (repK m ks)[i]? = some k → okK c k i) → (∀ j, j < m * ks.length → (c.s j).size ≤ B) → ∀ w φ, MRel w φ [window c ks m e] w → Calls P f #[(V1.one (.sl 0 0 len cap)).conc φ] w (Q w))
    {r : Reach} {W : World} {base : Nat} {v : Value} {d : DataW H} {ps : List MemPlace} (hval : Value.okWide P W r base t v) (h : DataW.Trod enc P W 0 (fun _ => true) true t v d ps) (hwt : ∀ n ∈ d.weights P t, n ≤ B) :
    Calls P f #[v] W (Q W) := by
  obtain ⟨a0, len0, cap0, rfl⟩ := okWide_slice ht hval
  obtain ⟨fuel, hf⟩ := h
  rcases Go.Deep.open_slice ht hf with ⟨hcs, _⟩ | ⟨a, len, cap, m, n, DD, Pl, hcs, _, hl, hcap, hm, hxe, hx⟩
  · simp [Value.cells] at hcs
    obtain ⟨rfl, rfl, rfl⟩ := hcs
    exact hnil W
  · simp [Value.cells] at hcs
    obtain ⟨rfl, rfl, rfl⟩ := hcs
    simp only [if_true] at hm
    have hhas : W.has P r base a e cap0 := by
      simp only [Value.okWide, ht, Cell.okWide, Cell.ok] at hval
      exact hval.2.2
    obtain ⟨_, hspot, row, cells, hsh, _⟩ := hhas
    have hblk : a.block < W.heap.size := by
      unfold World.shape? at hsh
      split at hsh
      · rename_i hb
        exact (Array.getElem?_eq_some_iff.1 hb).1
      · simp at hsh
    obtain ⟨b, off, sp⟩ := a
    simp only at hspot; subst hspot
    have hsz := sizeA_cellsOf hs
    let M := min len0 K
    let V : Nat → Value := fun j => (W.cell? ⟨b, off + j, none⟩).getD undef
    let vs : List Value := (List.range (M * ks.length)).map V
    have hDD : ∀ i, i < len0 → ∀ q ∈ (DD i).weights P e, q ≤ B := by
      intro i hi q hq
      simp only [Prod.mk.injEq] at hxe
      refine hwt q ?_
      rw [hxe.1]
      simp only [DataW.weights, ht]
      refine List.mem_cons_of_mem _ (List.mem_append_left _ (weights_mem_all ?_ hq))
      exact List.mem_map.2 ⟨i, List.mem_range.2 hi, rfl⟩
    have hcellW : ∀ i, i < M → ∀ j, j < ks.length → SzV B (V (i * ks.length + j)) := by
      intro i hi j hj
      obtain ⟨cs, h1, h2⟩ := hx i (by omega)
      rw [hsz] at h1
      obtain ⟨_, h3, h4⟩ := World.cells?_some h1
      have h5 := trod_kindsW D e ks hk _ _ _ h2 h3 (hDD i (by omega))
      have h6 : W.cell? ⟨b, off + (i * ks.length + j), none⟩ = cs[j]? := by
        rw [← h4 j hj, Go.Deep.add_add]
        congr 1
        unfold Addr.add
        split
        · rename_i h0; rw [h0, Nat.add_zero]
        · rfl
      have h7 : V (i * ks.length + j) = cs[j]'(by omega) := by
        simp only [V]
        rw [h6, List.getElem?_eq_getElem (by omega)]; rfl
      rw [h7]
      exact h5 _ (List.getElem_mem _)
    have hcell : ∀ i, i < M → ∃ cs, (∀ j, j < ks.length → W.cell? ⟨b, off + (i * ks.length + j), none⟩ = cs[j]?) ∧ cs.length = ks.length ∧ FitK ks cs := by
      intro i hi
      obtain ⟨cs, h1, h2⟩ := hx i (by omega)
      rw [hsz] at h1
      obtain ⟨_, h3, h4⟩ := World.cells?_some h1
      refine ⟨cs, ?_, h3, trod_kinds D e ks hk _ _ _ h2 h3⟩
      intro j hj
      rw [← h4 j hj, Go.Deep.add_add]
      congr 1
      unfold Addr.add
      split
      · rename_i h0; rw [h0, Nat.add_zero]
      · rfl
    have hfit : FitK (repK M ks) vs := by
      refine fit_rows M vs (by simp [vs]) fun i hi => ?_
      obtain ⟨cs, h1, h2, h3⟩ := hcell i hi
      have : (vs.drop (i * ks.length)).take ks.length = cs := by
        apply List.ext_getElem?
        intro j
        by_cases hj : j < ks.length
        · rw [List.getElem?_take_of_lt hj, List.getElem?_drop]
          have hlt : i * ks.length + j < M * ks.length := by
            have : (i + 1) * ks.length ≤ M * ks.length := Nat.mul_le_mul_right _ hi
            rw [Nat.succ_mul] at this; omega
          simp only [vs, List.getElem?_map, List.getElem?_range hlt, Option.map_some, V]
          rw [h1 j hj, List.getElem?_eq_getElem (by omega)]
          rfl
        · rw [List.getElem?_eq_none (by simp; omega), List.getElem?_eq_none (by omega)]
      rw [this]; exact h3
    have hV : ∀ i v, vs[i]? = some v → V (0 + i) = v := by
      intro i v hv
      have hi := lt_of_getElem? hv
      simp only [vs, List.length_map, List.length_range] at hi
      simp only [vs, List.getElem?_map, List.getElem?_range hi, Option.map_some, Option.some.injEq] at hv
      rw [Nat.zero_add]; exact hv
    have hok := atomsK_ok (repK M ks) vs 0 hfit hV
    have hall : ∀ j v, vs[j]? = some v → W.cell? ⟨b, off + j, none⟩ = some v := by
      intro j v hv
      have hj := lt_of_getElem? hv
      simp only [vs, List.length_map, List.length_range] at hj
      by_cases h0 : ks.length = 0
      · simp [h0] at hj
      · have hq : j / ks.length < M := (Nat.div_lt_iff_lt_mul (by omega)).2 hj
        obtain ⟨cs, h1, h2, _⟩ := hcell _ hq
        have := h1 (j % ks.length) (Nat.mod_lt _ (by omega))
        rw [Nat.div_add_mod'] at this
        have hv' := hV j v hv
        rw [Nat.zero_add] at hv'
        rw [← hv']
        simp only [V]
        rw [this, List.getElem?_eq_getElem (by rw [h2]; exact Nat.mod_lt _ (by omega))]
        rfl
    let φ : Loc := fun _ => (b, off, 0)
    have hconc : concs φ (window (cellsOf V) ks M e).ps = vs := atomsK_conc φ (repK M ks) vs 0 hfit hV
    have hmr : MRel W φ [window (cellsOf V) ks M e] W := by
      refine ⟨Below.refl _ _, ?_, ?_, ?_, ?_, ?_⟩
      · intro i j b1 b2 hb1 hb2 _ _ hro _ _
        cases i with
        | zero => simp only [List.getElem?_cons_zero, Option.some.injEq] at hb1; subst hb1; cases hro
        | succ i => simp at hb1
      · intro i b1 hb1 _ hro
        cases i with
        | zero => simp only [List.getElem?_cons_zero, Option.some.injEq] at hb1; subst hb1; cases hro
        | succ i => simp at hb1
      · intro i b1 hb1 _ _
        cases i with
        | zero =>
          simp only [List.getElem?_cons_zero, Option.some.injEq] at hb1; subst hb1
          refine ⟨hblk, ?_⟩
          rw [hconc]
          exact hall
        | succ i => simp at hb1
      · intro i b1 hb1 _ hro
        cases i with
        | zero => simp only [List.getElem?_cons_zero, Option.some.injEq] at hb1; subst hb1; cases hro
        | succ i => simp at hb1
      · intro i b1 hb1
        cases i with
        | zero =>
          simp only [List.getElem?_cons_zero, Option.some.injEq] at hb1; subst hb1
          exact atomsK_free _ _ _ _
        | succ i => simp at hb1
    have := hrun (cellsOf V) M len0 cap0 rfl hl hcap (fun i k hik => by have := hok i k hik; rwa [Nat.zero_add] at this) (fun j hj => by
      have h0 : 0 < ks.length := by
        rcases Nat.eq_zero_or_pos ks.length with h0 | h0
        · rw [h0, Nat.mul_zero] at hj; omega
        · exact h0
      have hq : j / ks.length < M := (Nat.div_lt_iff_lt_mul h0).2 hj
      have h1 := hcellW _ hq (j % ks.length) (Nat.mod_lt _ h0)
      rw [Nat.div_add_mod'] at h1
      show (match V j with | .string s => s | _ => ByteArray.empty).size ≤ B
      split
      · rename_i s hs
        exact h1 s hs
      · exact Nat.zero_le _) W φ hmr
    simpa [V1.conc, Atom.conc, φ] using this
end
theorem rows_calls_sized {P : Program} {H : Type} {enc : TypeId × Value → H} {f : FuncId} {t e : TypeId} (sh : List SK) {D B : Nat} (ht : P.underlying t = some (.slice e)) (hk : kindsT P D e = some (shKs sh)) (hs : sizeA P e = some (shSz sh))
    {Q : World → Ending → World → Prop}
    (hnil : ∀ w, Calls P f #[.slice none 0 0] w (Q w))
    (hrun : ∀ (c : Cells) (len cap : Nat), len ≤ cap → cap ≤ maxLen → All (rowOb c sh len 0) → (∀ j, j < len * shSz sh → (sA c j).size ≤ B) → ∀ w φ, MRel w φ [rowB c sh len e] w → Calls P f #[(V1.one (.sl 0 0 len cap)).conc φ] w (Q w))
    {r : Reach} {W : World} {base : Nat} {v : Value} {d : DataW H} {ps : List MemPlace} (hval : Value.okWide P W r base t v) (h : DataW.Trod enc P W 0 (fun _ => true) true t v d ps) (hwt : ∀ n ∈ d.weights P t, n ≤ B) :
    Calls P f #[v] W (Q W) := by
  refine slice_callsW (K := maxLen) ht hk (by rw [shKs_len]; exact hs) hnil ?_ hval h hwt
  intro c m len cap hm hl hc hok hB w φ hmr
  obtain rfl : m = len := by omega
  have hokk : okKs c (repK m (shKs sh)) 0 := fun i k hi => by rw [Nat.zero_add]; exact hok i k hi
  refine hrun c m cap hl hc (rowsp c φ sh m 0 hokk).2 (fun j hj => hB j (by rw [shKs_len]; exact hj)) w φ (hmr.same ?_ ?_)
  · exact ⟨⟨rfl, rfl, rfl, rfl, fun φ => (rowsp c φ sh m 0 hokk).1.symm⟩, trivial⟩
  · simp only [memWf, List.length_cons, List.length_nil, Bool.and_true]
    exact rowB_fr _ _ _ _ _
end Go.Ev

namespace Go.Ev
open Go Go.RowKit Go.ChangeShapes Go.WideShapes Go.ChangeAt

section
variable {P : Program}
end
end Go.Ev

namespace Go.Ev
open Go Go.RowKit

def GoesK (P : Program) (K : Nat) (y : Code) (ex : Ex) (T : List AV) (M : List Blk) (T' : List AV) (M' : List Blk) : Prop :=
  ∀ w0 φ a w, Rel w0 φ T M a w → ∀ Q : Exit → Act → World → Prop, (∀ φ' a' w', Agree K φ φ' → Rel w0 φ' T' M' a' w' → Q ex.to a' w') → y.wp P Q a w

theorem Goes.toK {P : Program} {y : Code} {ex : Ex} {T T' : List AV} {M M' : List Blk} (h : Goes P y ex T M T' M') {K : Nat} (hK : K ≤ M.length) : GoesK P K y ex T M T' M' :=
  fun w0 φ a w hr Q hQ => h w0 φ a w hr Q fun φ' a' w' hag hr' => hQ φ' a' w' (fun b hb => hag b (by omega)) hr'
theorem GoesK.goes {P : Program} {K : Nat} {y : Code} {ex : Ex} {T T' : List AV} {M M' : List Blk} (h : GoesK P K y ex T M T' M') (hK : M.length = K) : Goes P y ex T M T' M' :=
  fun w0 φ a w hr Q hQ => h w0 φ a w hr Q fun φ' a' w' hag hr' => hQ φ' a' w' (by rw [hK]; exact hag) hr'

def mvT (K b b' : Nat) : List AV → List AV → Prop
  | [], [] => True
  | x :: xs, y :: ys => (y = .junk ∨ (x = y ∧ y.okP (ltB K) = true) ∨ (∃ n, x = .val (.one (.sx b n)) ∧ y = .val (.one (.sx b' n)))) ∧ mvT K b b' xs ys
  | _, _ => False
theorem mvT_length {K b b' : Nat} : ∀ {T T' : List AV}, mvT K b b' T T' → T.length = T'.length
  | [], [], _ => rfl
  | [], _ :: _, h => h.elim
  | _ :: _, [], h => h.elim
  | x :: xs, y :: ys, h => by simp [mvT_length h.2]
theorem mvT_get {K b b' : Nat} : ∀ {T T' : List AV}, mvT K b b' T T' → ∀ (t : Nat) (y : AV), T'[t]? = some y → y ≠ .junk →
    ∃ x, T[t]? = some x ∧ x ≠ .junk ∧ ((x = y ∧ y.okP (ltB K) = true) ∨ (∃ n, x = .val (.one (.sx b n)) ∧ y = .val (.one (.sx b' n))))
  | [], [], _, t, y, h, _ => by simp at h
  | [], _ :: _, h, _, _, _, _ => h.elim
  | _ :: _, [], h, _, _, _, _ => h.elim
  | x :: xs, z :: zs, h, 0, y, hy, hj => by
    simp only [List.getElem?_cons_zero, Option.some.injEq] at hy; subst hy
    refine ⟨x, rfl, ?_, ?_⟩
    · rcases h.1 with h1 | ⟨rfl, _⟩ | ⟨n, rfl, _⟩
      · exact absurd h1 hj
      · exact hj
      · simp
    · rcases h.1 with h1 | h1
      · exact absurd h1 hj
      · exact h1
  | x :: xs, z :: zs, h, t + 1, y, hy, hj => by
    simp only [List.getElem?_cons_succ] at hy ⊢
    exact mvT_get h.2 t y hy hj

theorem V1.conc_okL {K : Nat} {φ φ' : Loc} (h : ∀ b, b < K → φ' b = φ b) (x : V1) (hx : x.okP (ltB K) = true) : x.conc φ' = x.conc φ := by
  have h' : ∀ b, ltB K b = true → φ' b = φ b := fun b hb => h b (by simp only [ltB, Nat.blt, Nat.ble_eq] at hb; omega)
  rcases x with x | x
  · cases x with
    | ptr b off => simp only [V1.okP] at hx; simp [V1.conc, Atom.conc, h' _ hx]
    | sl b off n c => simp only [V1.okP] at hx; simp [V1.conc, Atom.conc, h' _ hx]
    | sx b n => simp only [V1.okP] at hx; simp [V1.conc, Atom.conc, h' _ hx]
    | v x => rfl
    | u k x => rfl
    | i x => rfl
  · simp only [V1.okP] at hx
    simp only [V1.conc, concs_okP h' x hx]
theorem AV.conc_okL {K : Nat} {φ φ' : Loc} (h : ∀ b, b < K → φ' b = φ b) (x : AV) (hx : x.okP (ltB K) = true) : x.conc φ' = x.conc φ := by
  cases x with
  | val x => rw [okP_val] at hx; exact V1.conc_okL h x hx
  | tup xs =>
    rw [okP_tup] at hx
    simp only [AV.conc]
    congr 2
    refine List.map_congr_left fun v hv => V1.conc_okL h v ?_
    exact List.all_eq_true.1 hx v hv
  | junk => rfl

theorem Rel.move {w0 w : World} {φ φ' : Loc} {T1 T' : List AV} {M1 M' : List Blk} {a : Act} (h : Rel w0 φ' T1 M1 a w) {K b b' : Nat} (hag : Agree K φ φ') (hT : mvT K b b' T1 T') (hb' : K ≤ b')
    (hM : ∀ i k, M'[i]? = some k → k.live = true → (∀ f, allPtr f k.ps = true) ∧ ((i < K ∧ M1[i]? = some k) ∨ (i = b' ∧ K ≤ b ∧ M1[b]? = some k)))
    (hw : wfS T' M' = true) : ∃ φ'' : Loc, (∀ i, i ≠ b' → φ'' i = φ i) ∧ Rel w0 φ'' T' M' a w := by
  simp only [wfS, Bool.and_eq_true] at hw
  let φ'' : Loc := fun i => if i = b' then φ' b else φ i
  have e1 : ∀ i, i < K → φ'' i = φ' i := by
    intro i hi
    have : i ≠ b' := by omega
    simp only [φ'', this, if_false]
    exact (hag i hi).symm
  have e2 : φ'' b' = φ' b := by simp [φ'']
  have hfr : ∀ k : Blk, (∀ f, allPtr f k.ps = true) → concs φ'' k.ps = concs φ' k.ps := fun k hk => concs_okP (f := fun _ => false) (fun _ h => by simp at h) _ (hk _)
  have hcase : ∀ i k, M'[i]? = some k → k.live = true → ∃ j, M1[j]? = some k ∧ φ'' i = φ' j ∧ concs φ'' k.ps = concs φ' k.ps ∧ ((i < K ∧ j = i) ∨ (i = b' ∧ j = b ∧ K ≤ b)) := by
    intro i k hk hl
    obtain ⟨hf, h1 | h1⟩ := hM i k hk hl
    · exact ⟨i, h1.2, e1 i h1.1, hfr k hf, .inl ⟨h1.1, rfl⟩⟩
    · obtain ⟨rfl, hKb, h2⟩ := h1
      exact ⟨b, h2, e2, hfr k hf, .inr ⟨rfl, rfl, hKb⟩⟩
  refine ⟨φ'', fun i hi => by simp [φ'', hi], ⟨?_, ?_⟩, h.defs, tmsWf_mem hw.1, ⟨h.mrel.below, ?_, ?_, ?_, ?_, fun i k hk => memWf_mem hw.2 i k hk⟩⟩
  · rw [h.tmps.size, mvT_length hT]
  · intro t y hy hj
    obtain ⟨x, hx, hxj, h1 | ⟨n, rfl, rfl⟩⟩ := mvT_get hT t y hy hj
    · obtain ⟨rfl, hok⟩ := h1
      rw [AV.conc_okL e1 x hok]
      exact h.tmps.get t x hx hxj
    · have := h.tmps.get t _ hx hxj
      rw [this]
      simp only [AV.conc, V1.conc, Atom.conc, e2]
  · intro i j k k' hk hk' hl hl' hr hr' he
    obtain ⟨i1, q1, q2, _, q3⟩ := hcase i k hk hl
    obtain ⟨j1, r1, r2, _, r3⟩ := hcase j k' hk' hl'
    rw [q2, r2] at he
    have := h.mrel.inj i1 j1 k k' q1 r1 hl hl' hr hr' he
    omega
  · intro i k hk hl hr
    obtain ⟨i1, q1, q2, _, _⟩ := hcase i k hk hl
    rw [q2]; exact h.mrel.own i1 k q1 hl hr
  · intro i k hk hl hr
    obtain ⟨i1, q1, q2, q3, _⟩ := hcase i k hk hl
    rw [q2, q3]; exact h.mrel.old i1 k q1 hl hr
  · intro i k hk hl hr
    obtain ⟨i1, q1, q2, q3, _⟩ := hcase i k hk hl
    rw [q2, q3]; exact h.mrel.blk i1 k q1 hl hr

theorem GoesK.move {P : Program} {K : Nat} {y : Code} {ex : Ex} {T T1 T' : List AV} {M M1 M' : List Blk} (h : GoesK P K y ex T M T1 M1) {K' b b' : Nat} (hT : mvT K b b' T1 T') (hK : K' ≤ b') (hKK : K ≤ K')
    (hM : ∀ i k, M'[i]? = some k → k.live = true → (∀ f, allPtr f k.ps = true) ∧ ((i < K ∧ M1[i]? = some k) ∨ (i = b' ∧ K ≤ b ∧ M1[b]? = some k)))
    (hw : wfS T' M' = true) : GoesK P K' y ex T M T' M' := by
  intro w0 φ a w hr Q hQ
  refine h w0 φ a w hr Q ?_
  intro φ' a' w' hag hr'
  obtain ⟨φ'', h1, h2⟩ := hr'.move hag hT (by omega) hM hw
  exact hQ φ'' a' w' (fun i hi => h1 i (by omega)) h2

theorem loop_goesK {P : Program} {K : Nat} {y : Code} {ex : Ex} (hex : ex ≠ .normal) {N : Nat} {T : Nat → List AV} {M : Nat → List Blk} {TF : List AV} {MF : List Blk}
    (hstep : ∀ j, j < N → GoesK P K y .normal (T j) (M j) (T (j + 1)) (M (j + 1))) (hlast : GoesK P K y ex (T N) (M N) TF MF) : GoesK P K (.loop y) ex (T 0) (M 0) TF MF := by
  intro w0 φ a w hr Q hQ
  refine wp_loop_rounds (N + 1) ?_
  have key : ∀ d j, j + d = N → ∀ φ1 a1 w1, Agree K φ φ1 → Rel w0 φ1 (T j) (M j) a1 w1 → Code.rounds P y Q (d + 1) a1 w1 := by
    intro d
    induction d with
    | zero =>
      intro j hj φ1 a1 w1 hag hr1
      obtain rfl : j = N := by omega
      refine hlast w0 φ1 a1 w1 hr1 _ ?_
      intro φ' a' w' hag' hr'
      have := hQ φ' a' w' (hag.trans (Nat.le_refl _) hag') hr'
      cases ex with
      | normal => exact absurd rfl hex
      | exit id => exact this
      | ret => exact this
    | succ d ih =>
      intro j hj φ1 a1 w1 hag hr1
      refine hstep j (by omega) w0 φ1 a1 w1 hr1 _ ?_
      intro φ' a' w' hag' hr'
      exact ih (j + 1) (by omega) φ' a' w' (hag.trans (Nat.le_refl _) hag') hr'
  exact key N 0 (by omega) φ a w (Agree.refl _ _) hr
end Go.Ev

