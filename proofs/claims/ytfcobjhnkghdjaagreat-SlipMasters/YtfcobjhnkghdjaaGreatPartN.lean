/- Sums of numbers, bytes, and spots; Bytes of numbers and of points; SHA-512: the program and the page come to one sum -/
import Derived.Test.YtfcobjhnkghdjaaGreatPartM
import Derived.Test.YtfcobjhnkghdjaaGreatPartL
namespace Go.Ev
open Go Go.Proofs Go.RowKit
def wBN : Nat := 41058363725152142129326129780047268409114441015993725554835256314039467401291
def wXN : Nat := 48439561293906451759052585252797914202762949526041747995844080717082404635286
def wYN : Nat := 36134250956749795798585127919587881956611106672985015071877198253568414405109
theorem wBN_lt : wBN < modN 1 := by decide +kernel
theorem wXN_lt : wXN < modN 1 := by decide +kernel
theorem wYN_lt : wYN < modN 1 := by decide +kernel
def P3 (x y : Nat) (i : Bool) : V1 := .agg [.num 8 x, .num 8 y, .a (.v (.bool i))]
theorem wi70 (a : Nat) : callR E0 1000 128 [] [] =
  some ([], AV.val (V1.agg [Piece.a (Atom.u IntKind.u32 668098635), Piece.a (Atom.u IntKind.u32 1003371582), Piece.a (Atom.u IntKind.u32 3428036854), Piece.a (Atom.u IntKind.u32 1696401072), Piece.a (Atom.u IntKind.u32 1989707452), Piece.a (Atom.u IntKind.u32 3018571093), Piece.a (Atom.u IntKind.u32 2855965671), Piece.a (Atom.u IntKind.u32 1522939352)])) := by kernel_rfl
theorem spec70w : Spec 128 [] (.val (N8 wBN)) := (spec_run envE0 rfl (wi70 0) trivial rfl rfl).congr (fun _ => rfl) (fun _ => by kernel_rfl)
theorem wi19 (a : Nat) : callR E0 1000 66 [] [] =
  some ([], AV.val (V1.agg [Piece.a (Atom.u IntKind.u32 3633889942), Piece.a (Atom.u IntKind.u32 4104206661), Piece.a (Atom.u IntKind.u32 770388896), Piece.a (Atom.u IntKind.u32 1996717441), Piece.a (Atom.u IntKind.u32 1671708914), Piece.a (Atom.u IntKind.u32 4173129445), Piece.a (Atom.u IntKind.u32 3777774151), Piece.a (Atom.u IntKind.u32 1796723186), Piece.a (Atom.u IntKind.u32 935285237), Piece.a (Atom.u IntKind.u32 3417718888), Piece.a (Atom.u IntKind.u32 1798397646), Piece.a (Atom.u IntKind.u32 734933847), Piece.a (Atom.u IntKind.u32 2081398294), Piece.a (Atom.u IntKind.u32 2397563722), Piece.a (Atom.u IntKind.u32 4263149467), Piece.a (Atom.u IntKind.u32 1340293858), Piece.a (Atom.v (Value.bool false))])) := by kernel_rfl
theorem spec19w : Spec 66 [] (.val (P3 wXN wYN false)) := (spec_run envE0 rfl (wi19 0) trivial rfl rfl).congr (fun _ => rfl) (fun _ => by kernel_rfl)
theorem wi28 (a : Nat) : callR E0 1000 50 [] [] =
  some ([], AV.val (V1.agg [Piece.a (Atom.u IntKind.u32 3633889942), Piece.a (Atom.u IntKind.u32 4104206661), Piece.a (Atom.u IntKind.u32 770388896), Piece.a (Atom.u IntKind.u32 1996717441), Piece.a (Atom.u IntKind.u32 1671708914), Piece.a (Atom.u IntKind.u32 4173129445), Piece.a (Atom.u IntKind.u32 3777774151), Piece.a (Atom.u IntKind.u32 1796723186), Piece.a (Atom.u IntKind.u32 935285237), Piece.a (Atom.u IntKind.u32 3417718888), Piece.a (Atom.u IntKind.u32 1798397646), Piece.a (Atom.u IntKind.u32 734933847), Piece.a (Atom.u IntKind.u32 2081398294), Piece.a (Atom.u IntKind.u32 2397563722), Piece.a (Atom.u IntKind.u32 4263149467), Piece.a (Atom.u IntKind.u32 1340293858), Piece.a (Atom.v (Value.bool false))])) := by kernel_rfl
theorem spec28w : Spec 50 [] (.val (P3 wXN wYN false)) := (spec_run envE0 rfl (wi28 0) trivial rfl rfl).congr (fun _ => rfl) (fun _ => by kernel_rfl)
noncomputable def L8a : List CT := [⟨128, cV (.val (N8 wBN))⟩, ⟨66, cV (.val (P3 wXN wYN false))⟩, ⟨50, cV (.val (P3 wXN wYN false))⟩, ⟨105, fnS [.z, .s [.n8]] gFis⟩] ++ L0
theorem L8a_ok : AllCT L8a := ⟨ctV spec70w, ctV spec19w, ctV spec28w, ct85, L0_ok⟩
def rg1 : V1 := rgK 1
noncomputable def wBi : Nat := inN (modN 1) wBN
end Go.Ev

namespace Go.Ev
open Go Go.Proofs Go.RowKit
noncomputable def sqJ (x : Nat) : Nat := addM (modN 1) (subM (modN 1) (mmN (modN 1) x (mmN (modN 1) x x)) (addM (modN 1) x (addM (modN 1) x x))) (inN (modN 1) wBN)
noncomputable def L2a : List CT := [] ++ L8a
theorem L2a_ok : AllCT L2a := L8a_ok
def ltW (x y : Nat) : Bool := decide (x < modN 1) && decide (y < modN 1)
noncomputable def eqW (x y : Nat) : Bool := decide (mmN (modN 1) (inN (modN 1) y) (inN (modN 1) y) = sqJ (inN (modN 1) x))
noncomputable def onS (x y : Nat) (i : Bool) : Bool := bif i then (decide (x = 0) && decide (y = 0)) else (ltW x y && eqW x y)
end Go.Ev

namespace Go.Ev
open Go Go.Proofs Go.RowKit
def sqP (x : Nat) : Nat := addM (modN 1) (subM (modN 1) (mulM (modN 1) x (mulM (modN 1) x x)) (addM (modN 1) x (addM (modN 1) x x))) wBN
theorem sqP_lt (x : Nat) : sqP x < modN 1 := addM_lt (modN_pos 1)
theorem sqJ_in (x : Nat) : sqJ (inN (modN 1) x) = inN (modN 1) (sqP x) := by
 unfold sqJ sqP
 rw [in_mul (by decide), in_mul (by decide), in_add, in_add, in_sub (modN_pos 1) (addM_lt (modN_pos 1)), in_add]
theorem eqW_in {x y : Nat} : eqW x y = decide (mulM (modN 1) y y = sqP x) := by
 unfold eqW
 rw [sqJ_in, in_mul (by decide), Bool.eq_iff_iff, decide_eq_true_iff, decide_eq_true_iff]
 exact ⟨fun h => in_inj (modN_lt 1) (good_fac (by decide)) (mulM_lt (modN_pos 1)) (sqP_lt x) h, fun h => by rw [h]⟩
def aSp : Arg := .s [.n8, .n8, .b]
noncomputable def L3a : List CT := [] ++ L2a
theorem L3a_ok : AllCT L3a := L2a_ok
end Go.Ev

namespace Go.Ev
open Go Go.Proofs Go.RowKit
def revS (s : ByteArray) : ByteArray := strOf (numsB s).reverse
def bgS (x : Nat) : ByteArray := revS (strOf (leB 32 x))
def beS (s : ByteArray) : Nat := leS (revS s)
theorem revS_size (s : ByteArray) : (revS s).size = s.size := by unfold revS; rw [strOf_size, List.length_reverse, numsB_length]
theorem run97a (b : Nat → UInt8) : callR E0 1000 104 [sS (strB 32 b)] [] = some ([], .val (sS (strOf ((List.range 32).map fun j => (b (31 - j)).toNat)))) := by kernel_rfl
theorem rev32 (f : Nat → Nat) : ((List.range 32).map f).reverse = (List.range 32).map fun j => f (31 - j) := rfl
theorem spec97s (s : ByteArray) (h : s.size = 32) : Spec 104 [sS s] (.val (sS (revS s))) := by
 have e := strB_of h
 generalize hb : (fun i => s.data.getD i 0) = b at e
 have h := spec_run envE0 rfl (run97a b) trivial rfl rfl
 have h2 : strOf ((List.range 32).map fun j => (b (31 - j)).toNat) = revS s := by
  unfold revS
  rw [e, numsB_strB, rev32]
 rw [h2] at h
 exact h.congr (fun φ => by rw [e]) (fun φ => rfl)
def fRev (vs : List V1) : Option (List Prop × AV) := match vs with | [.one (.v (.string s))] => some ([s.size = 32], .val (sS (revS s))) | _ => none
theorem ct97s : CTok ⟨104, fRev⟩ := by
 intro vs ob r h ho
 simp only [fRev] at h
 split at h
 ·simp only [Option.some.injEq, Prod.mk.injEq] at h
  obtain ⟨rfl, rfl⟩ := h
  exact spec97s _ ho.1
 ·simp at h
def fOl (vs : List V1) : Option (List Prop × AV) := match vs with | [.one (.v (.string s))] => some ([s.size = 32], .tup [N8 (leS s), .one (.i 0)]) | _ => none
theorem ct99s : CTok ⟨91, fOl⟩ := by
 intro vs ob r h ho
 simp only [fOl] at h
 split at h
 ·simp only [Option.some.injEq, Prod.mk.injEq] at h
  obtain ⟨rfl, rfl⟩ := h
  exact spec99s _ ho.1
 ·simp at h
def fOp (vs : List V1) : Option (List Prop × AV) := match vs with | [.one (.v (.string s))] => some ([s.size = 32], .val (N8 (leS s))) | _ => none
theorem ct102s : CTok ⟨53, fOp⟩ := by
 intro vs ob r h ho
 simp only [fOp] at h
 split at h
 ·simp only [Option.some.injEq, Prod.mk.injEq] at h
  obtain ⟨rfl, rfl⟩ := h
  exact spec102s _ ho.1
 ·simp at h
def fLit : List V1 → Option (List Prop × AV) := fn1 fun a => .val (sS (strOf (leB 32 a)))
theorem ctLit98 : CTok ⟨108, fLit⟩ := fun _ _ _ h ho => fn1_ok (fun a _ => spec98s a) h ho
noncomputable def LBg : List CT := [⟨108, fLit⟩, ⟨104, fRev⟩, ⟨91, fOl⟩, ⟨53, fOp⟩]
theorem LBg_ok : AllCT LBg := ⟨ctLit98, ct97s, ct99s, ct102s, trivial⟩
theorem run59a (x : Nat) : callR (mkE LBg noS) 1000 74 [N8 x] [] = some ([x < 4294967296 ^ 8, (strOf (leB 32 x)).size = 32], .val (sS (bgS x))) := by kernel_rfl
theorem run60a (u : Nat → Nat) : callR E0 1000 36 [C8 u] [] = some ([], .val (sS (strOf ((List.range 32).map fun j => lbt u (31 - j))))) := by kernel_rfl
theorem run61a (s : ByteArray) : callR (mkE LBg noS) 1000 71 [sS s] [] = some ([s.size = 32, (revS s).size = 32], .tup [N8 (beS s), .one (.i 0)]) := by kernel_rfl
theorem run64a (b : Nat → UInt8) : callR (mkE LBg noS) 1000 32 [sS (strB 32 b)] [] = some ([(strOf ((List.range 32).map fun j => (b (31 - j)).toNat)).size = 32], .val (N8 (leS (strOf ((List.range 32).map fun j => (b (31 - j)).toNat))))) := by kernel_rfl
theorem leB_size (n x : Nat) : (strOf (leB n x)).size = n := by rw [strOf_size, leB_length]
theorem spec59s (x : Nat) (h : x < 4294967296 ^ 8) : Spec 74 [N8 x] (.val (sS (bgS x))) := spec_run (envMk LBg_ok noS) rfl (run59a x) ⟨h, leB_size 32 x, trivial⟩ rfl rfl
theorem spec60s (a : Nat) : Spec 36 [N8 a] (.val (sS (bgS a))) := by
 have h := spec_run envE0 rfl (run60a (limb a)) trivial rfl rfl
 have h2 : strOf ((List.range 32).map fun j => lbt (limb a) (31 - j)) = bgS a := by
  unfold bgS revS
  rw [numsB_strOf _ (leB_lt 32 a), ← lbt_leB, rev32]
 rw [h2] at h
 exact h.congr (fun φ => by simp only [List.map_cons, List.map_nil, conc_C8]) (fun φ => rfl)
theorem spec61s (s : ByteArray) (h : s.size = 32) : Spec 71 [sS s] (.tup [N8 (beS s), .one (.i 0)]) := spec_run (envMk LBg_ok noS) rfl (run61a s) ⟨h, by rw [revS_size, h], trivial⟩ rfl rfl
theorem spec64s (s : ByteArray) (h : s.size = 32) : Spec 32 [sS s] (.val (N8 (beS s))) := by
 have e := strB_of h
 generalize hb : (fun i => s.data.getD i 0) = b at e
 have h2 : strOf ((List.range 32).map fun j => (b (31 - j)).toNat) = revS s := by
  unfold revS
  rw [e, numsB_strB, rev32]
 have q := spec_run (envMk LBg_ok noS) rfl (run64a b) ⟨by rw [h2, revS_size, h], trivial⟩ rfl rfl
 rw [h2] at q
 exact q.congr (fun φ => by rw [e]) (fun φ => rfl)
end Go.Ev

namespace Go.Ev.H5
open Go Go.Proofs Go.RowKit
theorem calls65 (e : TypeId) (h : W8) (s : ByteArray) (c : Nat) (hs : 128 ≤ s.size) (hl : s.size ≤ 4611686018427387904) {w : World} {φ : Loc} (hm : MRel w φ [tB e] w) :
  Calls Tryz.prog 81 (([aV h, sS s, slK c] : List V1).map (V1.conc φ)).toArray w fun x w' => x = .returned ((AV.val (aV (blk5 h s))).conc φ) ∧ Below w.heap.size w w' := by
 obtain ⟨c', m', h'⟩ := dropM_some (r65 e h s c)
 refine calls_of_run (envE65M e h s c hs hl) rfl h' ⟨rfl, rfl, wf65a _ _ _ (cB_free _) _ _ _, rfl, rfl, wf65b _ _ _ _ _ _, trivial⟩ rfl hm ?_
 intro v hv
 simp only [List.mem_cons, List.not_mem_nil, or_false] at hv
 rcases hv with rfl | rfl | rfl <;> rfl
noncomputable def fm65 (vs : List V1) (bs : List (Option Blk)) : Option (List Prop × AV) :=
 match vs, bs with
 | [.agg [.a (.u .u64 a), .a (.u .u64 b), .a (.u .u64 c), .a (.u .u64 d), .a (.u .u64 e), .a (.u .u64 f), .a (.u .u64 g), .a (.u .u64 h)], .one (.v (.string s)), .one (.sl _ 0 80 _)], [_, _, some k] =>
  some ([k.ps = cells64 80 0 shaK, 128 ≤ s.size ∧ s.size ≤ 4611686018427387904], .val (aV (blk5 ⟨a, b, c, d, e, f, g, h⟩ s)))
 | _, _ => none
theorem fm65_ok {vs : List V1} {mem : List Blk} {ob : List Prop} {r : AV} (h : fm65 vs (blks mem vs) = some (ob, r)) (ho : All ob) (w0 : World) (φ : Loc) (w : World) (hm : MRel w0 φ mem w) :
  Calls Tryz.prog 81 (vs.map (V1.conc φ)).toArray w fun e w' => e = .returned (r.conc φ) ∧ Below w.heap.size w w' := by
 unfold fm65 at h
 split at h
 ·rename_i a b c d e f g h8 s bl cp y1 y2 k hbs
  simp only [Option.some.injEq, Prod.mk.injEq] at h
  obtain ⟨rfl, rfl⟩ := h
  simp only [blks, List.cons.injEq, and_true] at hbs
  obtain ⟨_, _, hb⟩ := hbs
  replace hb : (match mem[bl]? with | some k => (match k.live with | true => some k | false => none) | none => none) = some k := hb
  split at hb
  ·rename_i k' hk
   split at hb
   ·rename_i hl
    simp only [Option.some.injEq] at hb
    subst hb
    obtain ⟨hps, ⟨h1, h2⟩, _⟩ := ho
    have hw := hm.window hk hl (fun f => by rw [hps]; exact cells64_free _ f _ _)
    rw [hps] at hw
    have := calls65 k'.elem ⟨a, b, c, d, e, f, g, h8⟩ s cp h1 h2 hw
    simpa [aV, W8.cells, sS, slK, V1.conc, Atom.conc, AV.conc, concs, Piece.conc] using this
   ·simp at hb
  ·simp at hb
 ·simp at h
noncomputable def fm5 : FuncId → List V1 → List (Option Blk) → Option (List Prop × AV) := fun f vs bs => match f with | 81 => fm65 vs bs | _ => none
theorem fm5_ok : ∀ f vs mem ob r, fm5 f vs (blks mem vs) = some (ob, r) → All ob → ∀ w0 φ w, MRel w0 φ mem w → Calls Tryz.prog f (vs.map (V1.conc φ)).toArray w fun e w' => e = .returned (r.conc φ) ∧ Below w.heap.size w w' := by
 intro f vs mem ob r h ho w0 φ w hm
 unfold fm5 at h
 split at h
 ·exact fm65_ok h ho w0 φ w hm
 ·simp at h
def zs (n : Nat) : ByteArray := strOf (List.replicate n 0)
theorem zs_size (n : Nat) : (zs n).size = n := by unfold zs; rw [strOf_size, List.length_replicate]
noncomputable def E21 : Env := { E0 with S := fun f t => match f with | 17 => memN t [2000004, 2000005] | _ => false }
theorem envE21 : EnvOK E21 := ⟨mixed, envE0.fns, envE0.fms, envE0.lps, envE0.fbs⟩
theorem run21n (z : Int) : callR E21 1000 17 [.one (.i z)] [] = some ([0 ≤ z ∧ z = z ∧ z ≤ 140737488355328, 0 = 0 ∧ z.toNat = (List.replicate z.toNat 0).length], .val (sS (zs z.toNat))) := by kernel_rfl
def fnZs (vs : List V1) : Option (List Prop × AV) :=
 match vs with
 | [.one (.i z)] => some ([0 ≤ z ∧ z ≤ 1000000], .val (sS (zs z.toNat)))
 | _ => none
theorem ct21z : CTok ⟨17, fnZs⟩ := by
 intro vs ob r h ho
 simp only [fnZs] at h
 split at h
 ·rename_i z
  simp only [Option.some.injEq, Prod.mk.injEq] at h
  obtain ⟨rfl, rfl⟩ := h
  have h1 := ho.1
  exact spec_run envE21 rfl (run21n z) ⟨by omega, ⟨rfl, by simp⟩, trivial⟩ rfl rfl
 ·simp at h
def bytesW (x : Nat) : List Nat := [x / 2 ^ 56 % 256, x / 2 ^ 48 % 256, x / 2 ^ 40 % 256, x / 2 ^ 32 % 256, x / 2 ^ 24 % 256, x / 2 ^ 16 % 256, x / 2 ^ 8 % 256, x / 2 ^ 0 % 256]
def s8 (x : Nat) : Nat := x / 2 ^ 8
theorem run63 (x : Nat) : callR E0 1000 79 [u64 x] [] = some ([], .val (sS (strOf [s8 (s8 (s8 (s8 (s8 (s8 (s8 x)))))) % 256, s8 (s8 (s8 (s8 (s8 (s8 x))))) % 256, s8 (s8 (s8 (s8 (s8 x)))) % 256, s8 (s8 (s8 (s8 x))) % 256, s8 (s8 (s8 x)) % 256, s8 (s8 x) % 256, s8 x % 256, x % 256]))) := by kernel_rfl
theorem s8_list (x : Nat) : [s8 (s8 (s8 (s8 (s8 (s8 (s8 x)))))) % 256, s8 (s8 (s8 (s8 (s8 (s8 x))))) % 256, s8 (s8 (s8 (s8 (s8 x)))) % 256, s8 (s8 (s8 (s8 x))) % 256, s8 (s8 (s8 x)) % 256, s8 (s8 x) % 256, s8 x % 256, x % 256] = bytesW x := by
 unfold s8 bytesW
 simp only [Nat.div_div_eq_div_mul, ← Nat.pow_add, Nat.reduceAdd, Nat.pow_zero, Nat.div_one]
def eightS (x : Nat) : ByteArray := strOf (bytesW x)
theorem spec63 (x : Nat) : Spec 79 [u64 x] (.val (sS (eightS x))) := by
 have h := spec_run envE0 rfl (run63 x) trivial rfl rfl
 rw [s8_list] at h
 exact h
def fn63e (vs : List V1) : Option (List Prop × AV) :=
 match vs with
 | [.one (.u .u64 x)] => some ([], .val (sS (eightS x)))
 | _ => none
theorem ct63e : CTok ⟨79, fn63e⟩ := by
 intro vs ob r h _
 simp only [fn63e] at h
 split at h
 ·simp only [Option.some.injEq, Prod.mk.injEq] at h
  obtain ⟨_, rfl⟩ := h
  exact spec63 _
 ·simp at h
end Go.Ev.H5

namespace Go.Ev.H5
open Go Go.Proofs Go.RowKit
def h0W : W8 := ⟨7640891576956012808, 13503953896175478587, 4354685564936845355, 11912009170470909681, 5840696475078001361, 11170449401992604703, 2270897969802886507, 6620516959819538809⟩
theorem r94 : callR E0 1000 87 [] [] = some ([], .val (aV h0W)) := by kernel_rfl
theorem r64 : callR E0 1000 80 [] [] = some ([], .val (aV h0W)) := by kernel_rfl
theorem ct94 : CTok ⟨87, cV (.val (aV h0W))⟩ := ctV (spec_run envE0 rfl r94 trivial rfl rfl)
theorem ct64 : CTok ⟨80, cV (.val (aV h0W))⟩ := ctV (spec_run envE0 rfl r64 trivial rfl rfl)
noncomputable def L34 : List CT := [⟨17, fnZs⟩, ⟨79, fn63e⟩, ⟨87, cV (.val (aV h0W))⟩, ⟨80, cV (.val (aV h0W))⟩]
theorem L34_ok : AllCT L34 := ⟨ct21z, ct63e, ct94, ct64, trivial⟩
noncomputable def S34 : FuncId → Nat → Bool := fun f t => match f with | 51 => memN t [13, 16, 19, 21, 26, 31, 38, 39, 33, 51] | _ => false
noncomputable def E34 : Env := mkF L34 fm5 S34
theorem envE34 : EnvOK E34 := envMkF L34_ok fm5_ok S34
def T34 (F : ByteArray) (i : Int) : List AV := slots 53 [(0, .val (sS F)), (3, .val (.one (.sl 0 0 80 80))), (5, pV 1), (6, iV i)]
def kB : Blk := ⟨cells64 80 0 shaK, 103, true, false, 0⟩
def M34 (h : W8) : List Blk := [kB, hB h]
theorem r34a (h : W8) (F : ByteArray) (i : Nat) : runTo E34 1000 (Env.S E34 51) (bodyOf Tryz.prog 51 6) (T34 F (↑i : Int)) (M34 h) [true] (T34 F ((↑i : Int) + (128 : Int))) 2 =
  some ([decide ((↑i : Int) < (↑(ByteArray.size F) : Int)) = true, inI ((↑i : Int) + (128 : Int)), (0 : Int) ≤ (↑i : Int) + (128 : Int) ∧ (↑i : Int) + (128 : Int) ≤ (↑(ByteArray.size F) : Int), (0 : Int) ≤ (↑i : Int) ∧ (↑i : Int) ≤ (↑(Int.toNat ((↑i : Int) + (128 : Int))) : Int), Piece.a (Atom.u IntKind.u64 (shaK 0)) :: cells64 (79) (0 + 1) shaK = Piece.a (Atom.u IntKind.u64 (shaK 0)) :: cells64 (79) (0 + 1) shaK, 128 ≤ ByteArray.size (ByteArray.extract F i (Int.toNat ((↑i : Int) + (128 : Int)))) ∧ ByteArray.size (ByteArray.extract F i (Int.toNat ((↑i : Int) + (128 : Int)))) ≤ 4611686018427387904, inI ((↑i : Int) + (128 : Int))], .normal, T34 F ((i : Int) + 128), M34 (blk5 h (F.extract i (i + 128)))) := by kernel_rfl
theorem r34x (h : W8) (F : ByteArray) (i : Nat) : runTo E34 1000 (Env.S E34 51) (bodyOf Tryz.prog 51 6) (T34 F (↑i : Int)) (M34 h) [false] (T34 F (↑i : Int)) 2 =
  some ([decide ((↑i : Int) < (↑(ByteArray.size F) : Int)) = false], (.exit 0), T34 F (i : Int), M34 h) := by kernel_rfl
end Go.Ev.H5

namespace Go.Ev.H5
open Go Go.Proofs Go.RowKit
def x80 : ByteArray := ⟨#[128]⟩
def padZ (n : Nat) : Int := Int.tmod (239 - Int.tmod (n : Int) 128) 128
def lenW (n : Nat) : Nat := 8 * ((n : Int) % 18446744073709551616).toNat % M64
noncomputable def fillQ (s : ByteArray) : ByteArray := (((s ++ x80) ++ zs (padZ s.size).toNat) ++ zs 8) ++ eightS (lenW s.size)
noncomputable def outQ (h : W8) : ByteArray := (((((((⟨#[]⟩ ++ eightS h.a) ++ eightS h.b) ++ eightS h.c) ++ eightS h.d) ++ eightS h.e) ++ eightS h.f) ++ eightS h.g) ++ eightS h.h
noncomputable def E34L (s : ByteArray) (n : Int) (h : W8) : Env := addLp E34 6 (bodyOf Tryz.prog 51 6) (sumC (T34 (fillQ s) ((0 : Nat) : Int)) (M34 h0W) (T34 (fillQ s) n) (M34 h) (.exit 0))
theorem r34 (s : ByteArray) (n : Int) (h : W8) : callR (E34L s n h) 1000 51 [sS s] [] =
  some ([s.size + x80.size ≤ 9223372036854775807, inI (239 - Int.tmod (s.size : Int) 128), 0 ≤ padZ s.size ∧ padZ s.size ≤ 1000000, (s ++ x80).size + (zs (padZ s.size).toNat).size ≤ 9223372036854775807, (0 : Int) ≤ 8 ∧ (8 : Int) ≤ 1000000,
   ((s ++ x80) ++ zs (padZ s.size).toNat).size + (zs 8).size ≤ 9223372036854775807, (((s ++ x80) ++ zs (padZ s.size).toNat) ++ zs 8).size + (eightS (lenW s.size)).size ≤ 9223372036854775807,
   bodyOf Tryz.prog 51 6 = bodyOf Tryz.prog 51 6, (T34 (fillQ s) ((0 : Nat) : Int), M34 h0W) = (T34 (fillQ s) ((0 : Nat) : Int), M34 h0W), wfS (T34 (fillQ s) ((0 : Nat) : Int)) (M34 h0W) = true,
   (⟨#[]⟩ : ByteArray).size + (eightS h.a).size ≤ 9223372036854775807, (⟨#[]⟩ ++ eightS h.a : ByteArray).size + (eightS h.b).size ≤ 9223372036854775807, ((⟨#[]⟩ ++ eightS h.a) ++ eightS h.b : ByteArray).size + (eightS h.c).size ≤ 9223372036854775807,
   (((⟨#[]⟩ ++ eightS h.a) ++ eightS h.b) ++ eightS h.c : ByteArray).size + (eightS h.d).size ≤ 9223372036854775807, ((((⟨#[]⟩ ++ eightS h.a) ++ eightS h.b) ++ eightS h.c) ++ eightS h.d : ByteArray).size + (eightS h.e).size ≤ 9223372036854775807,
   (((((⟨#[]⟩ ++ eightS h.a) ++ eightS h.b) ++ eightS h.c) ++ eightS h.d) ++ eightS h.e : ByteArray).size + (eightS h.f).size ≤ 9223372036854775807, ((((((⟨#[]⟩ ++ eightS h.a) ++ eightS h.b) ++ eightS h.c) ++ eightS h.d) ++ eightS h.e) ++ eightS h.f : ByteArray).size + (eightS h.g).size ≤ 9223372036854775807,
   (((((((⟨#[]⟩ ++ eightS h.a) ++ eightS h.b) ++ eightS h.c) ++ eightS h.d) ++ eightS h.e) ++ eightS h.f) ++ eightS h.g : ByteArray).size + (eightS h.h).size ≤ 9223372036854775807], .val (sS (outQ h))) := by kernel_rfl
theorem eightS_size (x : Nat) : (eightS x).size = 8 := by unfold eightS; rw [strOf_size]; rfl
theorem x80_size : x80.size = 1 := rfl
theorem e0_size : (⟨#[]⟩ : ByteArray).size = 0 := rfl
theorem padZ_eq (n : Nat) : padZ n = (((239 - n % 128) % 128 : Nat) : Int) := by
 unfold padZ
 have e1 : Int.tmod (n : Int) 128 = ((n % 128 : Nat) : Int) := by
  rw [Int.tmod_eq_emod_of_nonneg (by omega)]; omega
 rw [e1, Int.tmod_eq_emod_of_nonneg (by omega)]; omega
def nBl (n : Nat) : Nat := (n + 144) / 128
theorem fillQ_size (s : ByteArray) : (fillQ s).size = 128 * nBl s.size := by
 unfold fillQ nBl
 simp only [ByteArray.size_append, eightS_size, zs_size, x80_size, padZ_eq, Int.toNat_natCast]
 omega
noncomputable def hst (F : ByteArray) : Nat → W8
 | 0 => h0W
 | j + 1 => blk5 (hst F j) (F.extract (128 * j) (128 * j + 128))
noncomputable def sum5 (s : ByteArray) : ByteArray := outQ (hst (fillQ s) (nBl s.size))
theorem M34_free (h : W8) : ∀ b ∈ M34 h, Free b := by
 intro b hb
 simp only [M34, List.mem_cons, List.not_mem_nil, or_false] at hb
 rcases hb with rfl | rfl
 ·exact fun f => cells64_free _ f _ _
 ·exact hB_free _
theorem M34_len (h : W8) : (M34 h).length = 2 := by simp only [M34, List.length_cons, List.length_nil]
theorem wf34 (F : ByteArray) (h : W8) (i : Int) : wfS (T34 F i) (M34 h) = true := wfS_of (M34_free h) (by rw [M34_len]; kernel_rfl)
theorem step34 (F : ByteArray) (h : W8) (j : Nat) (h1 : 128 * j + 128 ≤ F.size) (h2 : F.size ≤ 1000000000000000) : Goes Tryz.prog (bodyOf Tryz.prog 51 6) .normal (T34 F ((128 * j : Nat) : Int)) (M34 h) (T34 F ((128 * (j + 1) : Nat) : Int)) (M34 (blk5 h (F.extract (128 * j) (128 * j + 128)))) := by
 have hr := r34a h F (128 * j)
 rw [show Int.toNat (((128 * j : Nat) : Int) + 128) = 128 * j + 128 by omega] at hr
 rw [show ((128 * (j + 1) : Nat) : Int) = ((128 * j : Nat) : Int) + 128 by omega]
 have hz := cut_size F (128 * j) (128 * j + 128) h1
 exact Runs.goes envE34 ⟨_, _, hr, ⟨decide_eq_true (by omega), by unfold inI; omega, by omega, by omega, rfl, by omega, by unfold inI; omega, trivial⟩, wf34 _ _ _⟩
theorem loop34 (F : ByteArray) (n : Nat) (hn : F.size = 128 * n) (h2 : F.size ≤ 1000000000000000) (V : Nat → W8) (hV : ∀ j, V (j + 1) = blk5 (V j) (F.extract (128 * j) (128 * j + 128))) :
  Goes Tryz.prog (.loop (bodyOf Tryz.prog 51 6)) (.exit 0) (T34 F ((128 * 0 : Nat) : Int)) (M34 (V 0)) (T34 F ((128 * n : Nat) : Int)) (M34 (V n)) := by
 refine loop_goes (N := n) (k := 2) (T := fun j => T34 F ((128 * j : Nat) : Int)) (M := fun j => M34 (V j)) (by simp) (fun _ _ => M34_len _) (fun j hj => ?_) ?_
 ·have := step34 F (V j) j (by omega) h2
  rw [← hV j] at this
  exact this
 ·exact Runs.goes envE34 ⟨_, _, r34x (V n) F (128 * n), ⟨decide_eq_false (by omega), trivial⟩, wf34 _ _ _⟩
theorem goes34 (s : ByteArray) (h2 : s.size ≤ 100000000000000) : Goes Tryz.prog (.loop (bodyOf Tryz.prog 51 6)) (.exit 0) (T34 (fillQ s) ((0 : Nat) : Int)) (M34 h0W) (T34 (fillQ s) ((128 * nBl s.size : Nat) : Int)) (M34 (hst (fillQ s) (nBl s.size))) :=
 loop34 (fillQ s) (nBl s.size) (fillQ_size s) (by rw [fillQ_size]; unfold nBl; omega) (hst (fillQ s)) (fun _ => rfl)
theorem envE34L (s : ByteArray) (h2 : s.size ≤ 100000000000000) : EnvOK (E34L s ((128 * nBl s.size : Nat) : Int) (hst (fillQ s) (nBl s.size))) := envAddLp envE34 (sumC_ok (by rw [M34_len, M34_len]) (goes34 s h2))
theorem spec34s (s : ByteArray) (h2 : s.size ≤ 100000000000000) : Spec 51 [sS s] (.val (sS (sum5 s))) := by
 have hz := padZ_eq s.size
 refine spec_run (envE34L s h2) rfl (r34 s _ _) ⟨?_, ?_, ?_, ?_, by decide, ?_, ?_, rfl, rfl, wf34 _ _ _, ?_, ?_, ?_, ?_, ?_, ?_, ?_, ?_, trivial⟩ rfl rfl
 ·rw [x80_size]; omega
 ·rw [Int.tmod_eq_emod_of_nonneg (by omega)]; unfold inI; omega
 ·omega
 all_goals (simp only [ByteArray.size_append, eightS_size, zs_size, x80_size, e0_size]; omega)
noncomputable def fnS5 (vs : List V1) : Option (List Prop × AV) :=
 match vs with
 | [.one (.v (.string s))] => some ([s.size ≤ 100000000000000], .val (sS (sum5 s)))
 | _ => none
theorem ct34 : CTok ⟨51, fnS5⟩ := by
 intro vs ob r h ho
 simp only [fnS5] at h
 split at h
 ·simp only [Option.some.injEq, Prod.mk.injEq] at h
  obtain ⟨rfl, rfl⟩ := h
  exact spec34s _ ho.1
 ·simp at h
theorem outQ_size (h : W8) : (outQ h).size = 64 := by
 unfold outQ
 simp only [ByteArray.size_append, eightS_size, e0_size]
theorem sum5_size (s : ByteArray) : (sum5 s).size = 64 := outQ_size _
end Go.Ev.H5

namespace Go.Ev.H5
open Go Go.Proofs Go.RowKit
def sumG (T0 : List AV) (M0 : List Blk) (TF : List AV) (MF : List Blk) (ex : Ex) : List AV → List Blk → List Bool → CoR := fun tm mem c =>
 some ([(fitT T0 tm, mem) = (T0, M0), wfS T0 M0 = true], c, ex, TF, MF)
theorem sumG_ok {P : Program} {y : Code} {T0 TF : List AV} {M0 MF : List Blk} {ex : Ex} (hl : M0.length ≤ MF.length) (h : Goes P (.loop y) ex T0 M0 TF MF) : SumOK P (.loop y) (sumG T0 M0 TF MF ex) := by
 intro tm mem c ob c' ex' tm' mem' hf ho w0 φ a w hr Q hQ
 simp only [sumG, Option.some.injEq, Prod.mk.injEq] at hf
 obtain ⟨rfl, rfl, rfl, rfl, rfl⟩ := hf
 obtain ⟨h1, h2, _⟩ := ho
 obtain ⟨h1, rfl⟩ := h1
 refine h w0 φ a w (hr.fit (fits_of (by rw [h1, List.take_length]) h2)) Q ?_
 intro φ' a' w' hag hr'
 exact hQ φ' a' w' hag hl hr'
def slX (b n : Nat) : AV := .val (.one (.sx b n))
def dB (l : List Nat) : Blk := ⟨[.arr .u8 l], 5, false, false, 1⟩
def aB (l : List Nat) : Blk := ⟨[.arr .u8 l], 5, true, false, 1⟩
def oB (x : Nat) : Blk := ⟨[.a (.u .u8 x)], 5, true, false, 0⟩
def T95 (s : ByteArray) (b n : Nat) : List AV := slots 28 [(0, .val (sS s)), (3, slX b n)]
noncomputable def S95 : FuncId → Nat → Bool := fun f t => match f with | 88 => memN t [2000006, 2000008, 12, 2000015, 2000026, 2000027, 9000000] | _ => false
noncomputable def E95 : Env := { E0 with S := S95 }
theorem envE95 : EnvOK E95 := ⟨mixed, envE0.fns, envE0.fms, envE0.lps, envE0.fbs⟩
end Go.Ev.H5

namespace Go.Ev.H5
open Go Go.Proofs Go.RowKit
theorem r95a (s : ByteArray) (l : List Nat) (n : Nat) : runTo E95 1000 (Env.S E95 88) (bodyOf Tryz.prog 88 2) (T95 s 2 n) [dB (numsB s), oB 128, aB l] [true] (T95 s 4 (n + 1)) 5 =
  some ([(!decide (Int.ofNat (n % 128) = (112 : Int))) = true, n = List.length l ∧ 0 < 1 ∧ (n + 1) * 1 ≤ 140737488355328 ∧ n + 1 ≤ 140737488355328], .normal, T95 s 4 (n + 1), [dB (numsB s), oB 128, dB l, oB 0, aB (l ++ [0])]) := by kernel_rfl
theorem r95x (s : ByteArray) (l : List Nat) (n : Nat) : runTo E95 1000 (Env.S E95 88) (bodyOf Tryz.prog 88 2) (T95 s 2 n) [dB (numsB s), oB 128, aB l] [false] (T95 s 2 n) 3 =
  some ([(!decide (Int.ofNat (n % 128) = (112 : Int))) = false], (.exit 0), T95 s 2 n, [dB (numsB s), oB 128, aB l]) := by kernel_rfl
theorem dec_ne {n : Nat} (h : n % 128 ≠ 112) : (!decide (Int.ofNat (n % 128) = (112 : Int))) = true := by
 have : Int.ofNat (n % 128) ≠ (112 : Int) := by simp only [Int.ofNat_eq_natCast]; omega
 rw [decide_eq_false this]; rfl
theorem dec_eq {n : Nat} (h : n % 128 = 112) : (!decide (Int.ofNat (n % 128) = (112 : Int))) = false := by
 have : Int.ofNat (n % 128) = (112 : Int) := by simp only [Int.ofNat_eq_natCast]; omega
 rw [decide_eq_true this]; rfl
theorem free3 (s : ByteArray) (l : List Nat) : ∀ b ∈ [dB (numsB s), oB 128, aB l], Free b := by
 intro b hb
 simp only [List.mem_cons, List.not_mem_nil, or_false] at hb
 rcases hb with rfl | rfl | rfl <;> exact fun _ => rfl
theorem free5 (s : ByteArray) (l : List Nat) : ∀ b ∈ [dB (numsB s), oB 128, dB l, oB 0, aB (l ++ [0])], Free b := by
 intro b hb
 simp only [List.mem_cons, List.not_mem_nil, or_false] at hb
 rcases hb with rfl | rfl | rfl | rfl | rfl <;> exact fun _ => rfl
theorem free4 (s : ByteArray) (l : List Nat) : ∀ b ∈ [dB (numsB s), oB 128, dB [], aB l], Free b := by
 intro b hb
 simp only [List.mem_cons, List.not_mem_nil, or_false] at hb
 rcases hb with rfl | rfl | rfl | rfl <;> exact fun _ => rfl
theorem wf95_3 (s : ByteArray) (l : List Nat) (n : Nat) : wfS (T95 s 2 n) [dB (numsB s), oB 128, aB l] = true := wfS_of (free3 s l) (by show tmsWf 3 _ = true; kernel_rfl)
theorem wf95_5 (s : ByteArray) (l : List Nat) (n : Nat) : wfS (T95 s 4 n) [dB (numsB s), oB 128, dB l, oB 0, aB (l ++ [0])] = true := wfS_of (free5 s l) (by show tmsWf 5 _ = true; kernel_rfl)
theorem wf95_4 (s : ByteArray) (l : List Nat) (n : Nat) : wfS (T95 s 3 n) [dB (numsB s), oB 128, dB [], aB l] = true := wfS_of (free4 s l) (by show tmsWf 4 _ = true; kernel_rfl)
theorem mv95 (s : ByteArray) (b b' n : Nat) : mvT 2 b b' (T95 s b n) (T95 s b' n) := by
 show mvT 2 b b' [_, .junk, .junk, _, .junk, .junk, .junk, .junk, .junk, .junk, .junk, .junk, .junk, .junk, .junk, .junk, .junk, .junk, .junk, .junk, .junk, .junk, .junk, .junk, .junk, .junk, .junk, .junk] [_, .junk, .junk, _, .junk, .junk, .junk, .junk, .junk, .junk, .junk, .junk, .junk, .junk, .junk, .junk, .junk, .junk, .junk, .junk, .junk, .junk, .junk, .junk, .junk, .junk, .junk, .junk]
 simp only [mvT, and_true, true_or, true_and]
 exact ⟨.inr (.inl rfl), .inr (.inr ⟨n, rfl, rfl⟩)⟩
set_option maxRecDepth 100000 in
theorem step95 (s : ByteArray) (l : List Nat) (n : Nat) (hn : n = l.length) (h : n % 128 ≠ 112) (hb : n + 1 ≤ 140737488355328) :
  GoesK Tryz.prog 2 (bodyOf Tryz.prog 88 2) .normal (T95 s 2 n) [dB (numsB s), oB 128, aB l] (T95 s 2 (n + 1)) [dB (numsB s), oB 128, aB (l ++ [0])] := by
 have h1 : Goes Tryz.prog (bodyOf Tryz.prog 88 2) .normal (T95 s 2 n) [dB (numsB s), oB 128, aB l] (T95 s 4 (n + 1)) [dB (numsB s), oB 128, dB l, oB 0, aB (l ++ [0])] := Runs.goes envE95 ⟨_, _, r95a s l n, ⟨dec_ne h, ⟨hn, by decide, by omega, hb⟩, trivial⟩, wf95_5 _ _ _⟩
 refine (h1.toK (K := 2) (by simp only [List.length_cons, List.length_nil]; omega)).move (b := 4) (b' := 2) (mv95 s 4 2 (n + 1)) (by omega) (by omega) ?_ (wf95_3 _ _ _)
 intro i k hk hl
 match i, hk with
 | 0, hk => simp only [List.getElem?_cons_zero, Option.some.injEq] at hk; subst hk; exact absurd hl (by simp [dB])
 | 1, hk => simp only [List.getElem?_cons_succ, List.getElem?_cons_zero, Option.some.injEq] at hk; subst hk; exact ⟨fun _ => rfl, .inl ⟨by omega, rfl⟩⟩
 | 2, hk => simp only [List.getElem?_cons_succ, List.getElem?_cons_zero, Option.some.injEq] at hk; subst hk; exact ⟨fun _ => rfl, .inr ⟨rfl, by omega, rfl⟩⟩
 | i + 3, hk => simp at hk
set_option maxRecDepth 100000 in
theorem loop95 (s : ByteArray) (l : List Nat) (z : Nat) (hz : ∀ j, j < z → (l.length + j) % 128 ≠ 112) (h : (l.length + z) % 128 = 112) (hb : l.length + z ≤ 140737488355328) :
  Goes Tryz.prog (.loop (bodyOf Tryz.prog 88 2)) (.exit 0) (T95 s 2 l.length) [dB (numsB s), oB 128, aB l] (T95 s 3 (l.length + z)) [dB (numsB s), oB 128, dB [], aB (l ++ List.replicate z 0)] := by
 have hK : GoesK Tryz.prog 2 (.loop (bodyOf Tryz.prog 88 2)) (.exit 0) (T95 s 2 (l.length + 0)) [dB (numsB s), oB 128, aB (l ++ List.replicate 0 0)] (T95 s 2 (l.length + z)) [dB (numsB s), oB 128, aB (l ++ List.replicate z 0)] := by
  refine loop_goesK (N := z) (T := fun j => T95 s 2 (l.length + j)) (M := fun j => [dB (numsB s), oB 128, aB (l ++ List.replicate j 0)]) (by simp) (fun j hj => ?_) ?_
  ·have := step95 s (l ++ List.replicate j 0) (l.length + j) (by simp) (hz j hj) (by omega)
   rw [List.append_assoc, ← List.replicate_succ'] at this
   exact this
  ·have h2 : Goes Tryz.prog (bodyOf Tryz.prog 88 2) (.exit 0) (T95 s 2 (l.length + z)) [dB (numsB s), oB 128, aB (l ++ List.replicate z 0)] (T95 s 2 (l.length + z)) [dB (numsB s), oB 128, aB (l ++ List.replicate z 0)] := Runs.goes envE95 ⟨_, _, r95x s (l ++ List.replicate z 0) (l.length + z), ⟨dec_eq h, trivial⟩, wf95_3 _ _ _⟩
   exact h2.toK (by simp only [List.length_cons, List.length_nil]; omega)
 rw [List.replicate_zero, List.append_nil, Nat.add_zero] at hK
 refine GoesK.goes (K := 3) (hK.move (b := 2) (b' := 3) (mv95 s 2 3 (l.length + z)) (by omega) (by omega) ?_ (wf95_4 _ _ _)) (by simp only [List.length_cons, List.length_nil])
 intro i k hk hl
 match i, hk with
 | 0, hk => simp only [List.getElem?_cons_zero, Option.some.injEq] at hk; subst hk; exact absurd hl (by simp [dB])
 | 1, hk => simp only [List.getElem?_cons_succ, List.getElem?_cons_zero, Option.some.injEq] at hk; subst hk; exact ⟨fun _ => rfl, .inl ⟨by omega, rfl⟩⟩
 | 2, hk => simp only [List.getElem?_cons_succ, List.getElem?_cons_zero, Option.some.injEq] at hk; subst hk; exact absurd hl (by simp [dB])
 | 3, hk => simp only [List.getElem?_cons_succ, List.getElem?_cons_zero, Option.some.injEq] at hk; subst hk; exact ⟨fun _ => rfl, .inr ⟨rfl, by omega, rfl⟩⟩
 | i + 4, hk => simp at hk
noncomputable def E95L (s : ByteArray) (n m : Nat) (l l' : List Nat) : Env := addLp E95 1002 (bodyOf Tryz.prog 88 2) (sumG (T95 s 2 n) [dB (numsB s), oB 128, aB l] (T95 s 3 m) [dB (numsB s), oB 128, dB [], aB l'] (.exit 0))
end Go.Ev.H5

namespace Go.Ev.H5
open Go Go.Proofs Go.RowKit
def lenU64 (n : Nat) : Nat := ((n : Int) % 18446744073709551616).toNat
def fillT (n : Nat) : List Nat := bytesW (lenU64 n / 2 ^ 61) ++ bytesW (lenU64 n * 2 ^ 3 % M64)
set_option maxRecDepth 100000 in
theorem r95 (s : ByteArray) (m : Nat) (l' : List Nat) : callR (E95L s (s.size + 1) m (numsB s ++ [128]) l') 1000 88 [sS s] [] =
  some ([s.size ≤ 140737488355328, s.size = (numsB s).length ∧ 0 < 1 ∧ (s.size + 1) * 1 ≤ 140737488355328 ∧ s.size + 1 ≤ 140737488355328, bodyOf Tryz.prog 88 2 = bodyOf Tryz.prog 88 2,
   (T95 s 2 (s.size + 1), [dB (numsB s), oB 128, aB (numsB s ++ [128])]) = (T95 s 2 (s.size + 1), [dB (numsB s), oB 128, aB (numsB s ++ [128])]), wfS (T95 s 2 (s.size + 1)) [dB (numsB s), oB 128, aB (numsB s ++ [128])] = true,
   m = l'.length ∧ 0 < 16 ∧ (m + 16) * 1 ≤ 140737488355328 ∧ m + 16 ≤ 140737488355328, 0 = 0 ∧ m + 16 = (l' ++ fillT s.size).length], .val (sS (strOf (l' ++ fillT s.size)))) := by kernel_rfl
theorem envE95L (s : ByteArray) (l : List Nat) (z : Nat) (hz : ∀ j, j < z → (l.length + j) % 128 ≠ 112) (h : (l.length + z) % 128 = 112) (hb : l.length + z ≤ 140737488355328) : EnvOK (E95L s l.length (l.length + z) l (l ++ List.replicate z 0)) :=
 envAddLp envE95 (sumG_ok (by simp only [List.length_cons, List.length_nil]; omega) (loop95 s l z hz h hb))
theorem numsB_len (s : ByteArray) : (numsB s).length = s.size := by simp [numsB]
theorem strOf_append (a b : List Nat) : strOf (a ++ b) = strOf a ++ strOf b := by
 apply ByteArray.ext
 rw [ByteArray.data_append]
 unfold strOf
 simp
theorem bytesW_zero : bytesW 0 = List.replicate 8 0 := by decide
theorem fill_eq (s : ByteArray) (h : s.size ≤ 100000000000000) : strOf (((numsB s ++ [128]) ++ List.replicate (padZ s.size).toNat 0) ++ fillT s.size) = fillQ s := by
 have e1 : lenU64 s.size = s.size := by unfold lenU64; omega
 have e2 : lenU64 s.size / 2 ^ 61 = 0 := by rw [e1]; exact Nat.div_eq_of_lt (by omega)
 have e3 : lenU64 s.size * 2 ^ 3 % M64 = lenW s.size := by unfold lenW; show lenU64 s.size * 2 ^ 3 % M64 = 8 * lenU64 s.size % M64; rw [show lenU64 s.size * 2 ^ 3 = 8 * lenU64 s.size by omega]
 unfold fillT fillQ
 rw [e2, e3, bytesW_zero]
 rw [strOf_append, strOf_append, strOf_append, strOf_append, strOf_numsB, ← ByteArray.append_assoc]
 rfl
theorem spec95 (s : ByteArray) (h : s.size ≤ 100000000000000) : Spec 88 [sS s] (.val (sS (fillQ s))) := by
 rw [← fill_eq s h]
 have hl : (numsB s ++ [128]).length = s.size + 1 := by rw [List.length_append, numsB_len]; rfl
 have hp := padZ_eq s.size
 have hE := envE95L s (numsB s ++ [128]) (padZ s.size).toNat (by rw [hl]; intro j hj; omega) (by rw [hl]; omega) (by rw [hl]; omega)
 rw [hl] at hE
 have hlen : ((numsB s ++ [128]) ++ List.replicate (padZ s.size).toNat 0).length = s.size + 1 + (padZ s.size).toNat := by rw [List.length_append, hl, List.length_replicate]
 have h16 : (fillT s.size).length = 16 := rfl
 refine spec_run hE rfl (r95 s _ _) ⟨by omega, ⟨(numsB_len s).symm, by decide, by omega, by omega⟩, rfl, rfl, wf95_3 _ _ _, ⟨hlen.symm, by decide, by omega, by omega⟩, ⟨rfl, ?_⟩, trivial⟩ rfl rfl
 rw [List.length_append, hlen, h16]
noncomputable def fn95 (vs : List V1) : Option (List Prop × AV) :=
 match vs with
 | [.one (.v (.string s))] => some ([s.size ≤ 100000000000000], .val (sS (fillQ s)))
 | _ => none
theorem ct95 : CTok ⟨88, fn95⟩ := by
 intro vs ob r h ho
 simp only [fn95] at h
 split at h
 ·simp only [Option.some.injEq, Prod.mk.injEq] at h
  obtain ⟨rfl, rfl⟩ := h
  exact spec95 _ ho.1
 ·simp at h
noncomputable def L54 : List CT := [⟨87, cV (.val (aV h0W))⟩, ⟨88, fn95⟩, ⟨89, fnBlk⟩]
theorem L54_ok : AllCT L54 := ⟨ct94, ct95, ct96, trivial⟩
noncomputable def S54 : FuncId → Nat → Bool := fun f t => match f with | 61 => memN t [8, 13, 10, 9000000] | _ => false
noncomputable def E54 : Env := mkE L54 S54
theorem envE54 : EnvOK E54 := envMk L54_ok _
def T54 (F : ByteArray) : List AV := slots 18 [(0, .val (sS F)), (3, pV 0)]
end Go.Ev.H5

namespace Go.Ev.H5
open Go Go.Proofs Go.RowKit
theorem r54a (h : W8) (F : ByteArray) : runTo E54 1000 (Env.S E54 61) (bodyOf Tryz.prog 61 3) (T54 F) [hB h] [true] (T54 (ByteArray.extract F 128 (ByteArray.size F))) 1 =
  some ([(!ByteArray.toList F == ByteArray.toList (ByteArray.mk #[])) = true, (0 : Int) ≤ (128 : Int) ∧ (128 : Int) ≤ (↑(ByteArray.size F) : Int), 128 ≤ ByteArray.size (ByteArray.extract F 0 128) ∧ ByteArray.size (ByteArray.extract F 0 128) ≤ 4611686018427387904, (0 : Int) ≤ (128 : Int) ∧ (128 : Int) ≤ (↑(ByteArray.size F) : Int)], .normal, T54 (F.extract 128 F.size), [hB (blk5 h (F.extract 0 128))]) := by kernel_rfl
theorem r54x (h : W8) (F : ByteArray) : runTo E54 1000 (Env.S E54 61) (bodyOf Tryz.prog 61 3) (T54 F) [hB h] [false] (T54 F) 1 =
  some ([(!ByteArray.toList F == ByteArray.toList (ByteArray.mk #[])) = false], (.exit 0), T54 F, [hB h]) := by kernel_rfl
def outP (h : W8) : ByteArray := strOf (bytesW h.a ++ bytesW h.b ++ bytesW h.c ++ bytesW h.d ++ bytesW h.e ++ bytesW h.f ++ bytesW h.g ++ bytesW h.h)
noncomputable def E54L (s G : ByteArray) (h : W8) : Env := addLp E54 1003 (bodyOf Tryz.prog 61 3) (sumC (T54 (fillQ s)) [hB h0W] (T54 G) [hB h] (.exit 0))
theorem r54 (s : ByteArray) (G : ByteArray) (h : W8) : callR (E54L s G h) 1000 61 [sS s] [] =
  some ([ByteArray.size s ≤ 100000000000000, bodyOf Tryz.prog 61 3 = bodyOf Tryz.prog 61 3, (T54 (fillQ s), [hB h0W]) = (T54 (fillQ s), [hB h0W]), wfS (T54 (fillQ s)) [hB h0W] = true], .val (sS (outP h))) := by kernel_rfl
theorem wf54 (F : ByteArray) (h : W8) : wfS (T54 F) [hB h] = true := wfS_of (by
 intro b hb
 simp only [List.mem_cons, List.not_mem_nil, or_false] at hb
 subst hb
 exact hB_free _) (by show tmsWf 1 _ = true; kernel_rfl)
theorem toList_inj {a b : ByteArray} (h : a.toList = b.toList) : a = b := by
 rw [ByteArray.toList_eq, ByteArray.toList_eq] at h
 exact ByteArray.ext (Array.ext' h)
theorem ne_empty {F : ByteArray} (h : 0 < F.size) : (!(F.toList == (⟨#[]⟩ : ByteArray).toList)) = true := by
 rw [Bool.not_eq_true', beq_eq_false_iff_ne]
 intro e
 rw [toList_inj e] at h
 exact absurd h (by decide)
theorem size_zero {F : ByteArray} (h : F.size = 0) : F = ⟨#[]⟩ := by
 apply ByteArray.ext
 exact Array.eq_empty_of_size_eq_zero h
theorem is_empty {F : ByteArray} (h : F.size = 0) : (!(F.toList == (⟨#[]⟩ : ByteArray).toList)) = false := by
 rw [size_zero h]; simp
theorem cut_cut (F : ByteArray) (a b c : Nat) (h : a + c ≤ F.size) : (F.extract a F.size).extract b c = F.extract (a + b) (a + c) := by
 apply ByteArray.ext
 rw [ByteArray.data_extract, ByteArray.data_extract, ByteArray.data_extract]
 rw [Array.extract_extract]
 congr 1
 have : F.data.size = F.size := rfl
 omega
theorem cut_all (F : ByteArray) : F.extract 0 F.size = F := by
 apply ByteArray.ext
 rw [ByteArray.data_extract]
 have : F.data.size = F.size := rfl
 rw [← this, Array.extract_size]
theorem step54 (F : ByteArray) (h : W8) (j : Nat) (h1 : 128 * j + 128 ≤ F.size) (h2 : F.size ≤ 1000000000000000) :
  Goes Tryz.prog (bodyOf Tryz.prog 61 3) .normal (T54 (F.extract (128 * j) F.size)) [hB h] (T54 (F.extract (128 * (j + 1)) F.size)) [hB (blk5 h (F.extract (128 * j) (128 * j + 128)))] := by
 have hr := r54a h (F.extract (128 * j) F.size)
 have hz := cut_size F (128 * j) F.size (Nat.le_refl _)
 have hz2 : (F.extract (128 * j) (128 * j + 128)).size = 128 := by rw [cut_size F (128 * j) (128 * j + 128) h1]; omega
 rw [hz, cut_cut F _ _ _ (by omega), cut_cut F _ _ _ (by omega), show 128 * j + (F.size - 128 * j) = F.size by omega, show 128 * j + 0 = 128 * j by omega, show 128 * j + 128 = 128 * (j + 1) by omega] at hr
 rw [show 128 * j + 128 = 128 * (j + 1) by omega] at hz2 ⊢
 exact Runs.goes envE54 ⟨_, _, hr, ⟨ne_empty (by rw [hz]; omega), by omega, ⟨by rw [hz2]; omega, by rw [hz2]; omega⟩, by omega, trivial⟩, wf54 _ _⟩
theorem loop54 (F : ByteArray) (n : Nat) (hn : F.size = 128 * n) (h2 : F.size ≤ 1000000000000000) (V : Nat → W8) (hV : ∀ j, V (j + 1) = blk5 (V j) (F.extract (128 * j) (128 * j + 128))) :
  Goes Tryz.prog (.loop (bodyOf Tryz.prog 61 3)) (.exit 0) (T54 (F.extract (128 * 0) F.size)) [hB (V 0)] (T54 (F.extract (128 * n) F.size)) [hB (V n)] := by
 refine loop_goes (N := n) (k := 1) (T := fun j => T54 (F.extract (128 * j) F.size)) (M := fun j => [hB (V j)]) (by simp) (fun _ _ => by simp only [List.length_cons, List.length_nil]) (fun j hj => ?_) ?_
 ·have := step54 F (V j) j (by omega) h2
  rw [← hV j] at this
  exact this
 ·exact Runs.goes envE54 ⟨_, _, r54x (V n) _, ⟨is_empty (by rw [cut_size F _ _ (Nat.le_refl _)]; omega), trivial⟩, wf54 _ _⟩
theorem goes54 (s : ByteArray) (h2 : s.size ≤ 100000000000000) : Goes Tryz.prog (.loop (bodyOf Tryz.prog 61 3)) (.exit 0) (T54 (fillQ s)) [hB h0W] (T54 ((fillQ s).extract (128 * nBl s.size) (fillQ s).size)) [hB (hst (fillQ s) (nBl s.size))] := by
 have h := loop54 (fillQ s) (nBl s.size) (fillQ_size s) (by rw [fillQ_size]; unfold nBl; omega) (hst (fillQ s)) (fun _ => rfl)
 rw [Nat.mul_zero, cut_all] at h
 exact h
theorem envE54L (s : ByteArray) (h2 : s.size ≤ 100000000000000) : EnvOK (E54L s ((fillQ s).extract (128 * nBl s.size) (fillQ s).size) (hst (fillQ s) (nBl s.size))) :=
 envAddLp envE54 (sumC_ok (by simp only [List.length_cons, List.length_nil]) (goes54 s h2))
theorem e0_append (s : ByteArray) : (⟨#[]⟩ : ByteArray) ++ s = s := by apply ByteArray.ext; rw [ByteArray.data_append]; simp
theorem outP_eq (h : W8) : outP h = outQ h := by
 unfold outP outQ eightS
 rw [e0_append]
 simp only [strOf_append]
theorem spec54 (s : ByteArray) (h2 : s.size ≤ 100000000000000) : Spec 61 [sS s] (.val (sS (sum5 s))) := by
 have h := spec_run (envE54L s h2) rfl (r54 s _ _) ⟨h2, rfl, rfl, wf54 _ _, trivial⟩ rfl rfl
 rw [outP_eq] at h
 exact h
theorem ct54 : CTok ⟨61, fnS5⟩ := by
 intro vs ob r h ho
 simp only [fnS5] at h
 split at h
 ·simp only [Option.some.injEq, Prod.mk.injEq] at h
  obtain ⟨rfl, rfl⟩ := h
  exact spec54 _ ho.1
 ·simp at h
end Go.Ev.H5

