/- Keyed sums, nodes, and the law, of every input -/
import Derived.Test.YtfcobjhnkghdjaaGreatPartP
import Derived.Test.YtfcobjhnkghdjaaGreatPartN
namespace Go.Ev.H5
open Go Go.Proofs Go.RowKit
set_option maxRecDepth 100000
theorem r39 (k s : ByteArray) : callR (mkE LHm SHm) 1000 39 [sS k, sS s] [false] =
  some ([decide ((128 : Int) < (k.size : Int)) = false, (128 : Int) = 128, k.size ≤ 128, (128 : Int) = 128, k.size ≤ 128, (padS k 54).size + s.size ≤ 9223372036854775807, (padS k 54 ++ s).size ≤ 100000000000000, (padS k 92).size + (sum5 (padS k 54 ++ s)).size ≤ 9223372036854775807, (padS k 92 ++ sum5 (padS k 54 ++ s)).size ≤ 100000000000000], .val (sS (hmac k s))) := by kernel_rfl
theorem r31 (k s : ByteArray) : callR (mkE LHm SHm) 1000 31 [sS k, sS s] [false] =
  some ([decide ((128 : Int) < (k.size : Int)) = false, (128 : Int) = 128, k.size ≤ 128, (128 : Int) = 128, k.size ≤ 128, (padS k 54).size + s.size ≤ 9223372036854775807, (padS k 54 ++ s).size ≤ 100000000000000, (padS k 92).size + (sum5 (padS k 54 ++ s)).size ≤ 9223372036854775807, (padS k 92 ++ sum5 (padS k 54 ++ s)).size ≤ 100000000000000], .val (sS (hmac k s))) := by kernel_rfl
theorem hmac_size (k s : ByteArray) : (hmac k s).size = 64 := sum5_size _
theorem hm_ob {k s : ByteArray} (hk : k.size ≤ 128) (hs : s.size ≤ 10000000000000) : All [decide ((128 : Int) < (k.size : Int)) = false, (128 : Int) = 128, k.size ≤ 128, (128 : Int) = 128, k.size ≤ 128, (padS k 54).size + s.size ≤ 9223372036854775807, (padS k 54 ++ s).size ≤ 100000000000000, (padS k 92).size + (sum5 (padS k 54 ++ s)).size ≤ 9223372036854775807, (padS k 92 ++ sum5 (padS k 54 ++ s)).size ≤ 100000000000000] := by
 have e1 := padS_size k 54
 have e2 := padS_size k 92
 have e3 := sum5_size (padS k 54 ++ s)
 have e4 : (padS k 54 ++ s).size = 128 + s.size := by rw [ByteArray.size_append, e1]
 have e5 : (padS k 92 ++ sum5 (padS k 54 ++ s)).size = 192 := by rw [ByteArray.size_append, e2, e3]
 exact ⟨decide_eq_false (by omega), rfl, hk, rfl, hk, by omega, by omega, by omega, by omega, trivial⟩
noncomputable def fnHm (vs : List V1) : Option (List Prop × AV) := match vs with | [.one (.v (.string k)), .one (.v (.string s))] => some ([k.size ≤ 128, s.size ≤ 10000000000000], .val (sS (hmac k s))) | _ => none
theorem ct39 : CTok ⟨39, fnHm⟩ := by
 intro vs ob r h ho
 simp only [fnHm] at h
 split at h
 ·simp only [Option.some.injEq, Prod.mk.injEq] at h
  obtain ⟨rfl, rfl⟩ := h
  obtain ⟨h1, h2, _⟩ := ho
  exact spec_run (envMk LHm_ok SHm) rfl (r39 _ _) (hm_ob h1 h2) rfl rfl
 ·simp at h
theorem ct31 : CTok ⟨31, fnHm⟩ := by
 intro vs ob r h ho
 simp only [fnHm] at h
 split at h
 ·simp only [Option.some.injEq, Prod.mk.injEq] at h
  obtain ⟨rfl, rfl⟩ := h
  obtain ⟨h1, h2, _⟩ := ho
  exact spec_run (envMk LHm_ok SHm) rfl (r31 _ _) (hm_ob h1 h2) rfl rfl
 ·simp at h
noncomputable def LKy : List CT := ⟨39, fnHm⟩ :: ⟨31, fnHm⟩ :: ⟨74, fBg⟩ :: ⟨36, fBg⟩ :: ⟨71, fBe61⟩ :: ⟨32, fBe64⟩ :: ⟨105, fnS [.z, .s [.n8]] gFis⟩ :: ⟨17, fnZs⟩ :: L0
theorem LKy_ok : AllCT LKy := ⟨ct39, ct31, ct59b, ct60b, ct61b, ct64b, ct85, ct21z, L0_ok⟩
noncomputable def SKy : FuncId → Nat → Bool := fun f t => match f with
 | 72 => memN t [5] | 47 => memN t [5] | 106 => memN t [12, 17] | 33 => memN t [7, 21] | 28 => memN t [7] | _ => false
end Go.Ev.H5

namespace Go.Ev.H5
open Go Go.Proofs Go.RowKit
set_option maxRecDepth 100000
def gd (a : Nat) : Bool := !isZ a && decide (a < modN 3)
theorem r72z (a : Nat) : callR (mkE LKy SKy) 1000 72 [N8 a] [false] = some ([(!isZ a) = false], bV false) := by kernel_rfl
theorem r72n (a : Nat) : callR (mkE LKy SKy) 1000 72 [N8 a] [true] = some ([(!isZ a) = true, a < 4294967296 ^ 8], bV (decide (a < modN 3))) := by kernel_rfl
theorem r47z (a : Nat) : callR (mkE LKy SKy) 1000 47 [N8 a] [false] = some ([(!isZ a) = false], bV false) := by kernel_rfl
theorem r47n (a : Nat) : callR (mkE LKy SKy) 1000 47 [N8 a] [true, true, true] = some ([(!isZ a) = true, modB 3 = true, (0 : Int) ≤ 3 ∧ (3 : Int) < 4, decide (a < modN 3) = true, a < 4294967296 ^ 8, modN 3 < 4294967296 ^ 8], bV true) := by kernel_rfl
theorem r47f (a : Nat) : callR (mkE LKy SKy) 1000 47 [N8 a] [true, true, false] = some ([(!isZ a) = true, modB 3 = true, (0 : Int) ≤ 3 ∧ (3 : Int) < 4, decide (a < modN 3) = false, a < 4294967296 ^ 8, modN 3 < 4294967296 ^ 8], bV false) := by kernel_rfl
theorem spec72 (a : Nat) (h : a < 4294967296 ^ 8) : Spec 72 [N8 a] (bV (gd a)) := by
 unfold gd
 cases hz : isZ a with
 | true => exact spec_run (envMk LKy_ok SKy) rfl (r72z a) ⟨by rw [hz]; rfl, trivial⟩ rfl rfl
 | false => exact spec_run (envMk LKy_ok SKy) rfl (r72n a) ⟨by rw [hz]; rfl, h, trivial⟩ rfl rfl
theorem spec47k (a : Nat) (h : a < 4294967296 ^ 8) : Spec 47 [N8 a] (bV (gd a)) := by
 unfold gd
 cases hz : isZ a with
 | true => exact spec_run (envMk LKy_ok SKy) rfl (r47z a) ⟨by rw [hz]; rfl, trivial⟩ rfl rfl
 | false =>
  cases hd : decide (a < modN 3) with
  | true => exact spec_run (envMk LKy_ok SKy) rfl (r47n a) ⟨by rw [hz]; rfl, by decide, by omega, hd, h, modN_lt 3, trivial⟩ rfl rfl
  | false => exact spec_run (envMk LKy_ok SKy) rfl (r47f a) ⟨by rw [hz]; rfl, by decide, by omega, hd, h, modN_lt 3, trivial⟩ rfl rfl
noncomputable def gGd : List V1 → Option (List Prop × AV) := fn1 fun a => bV (gd a)
noncomputable def LKz : List CT := ⟨72, gGd⟩ :: ⟨47, gGd⟩ :: LKy
theorem LKz_ok : AllCT LKz := ⟨fun _ _ _ h ho => fn1_ok spec72 h ho, fun _ _ _ h ho => fn1_ok spec47k h ho, LKy_ok⟩
noncomputable def SKz : FuncId → Nat → Bool := fun f t => match f with
 | 28 => memN t [7] | 26 => memN t [14, 20, 29] | 37 => memN t [4, 7] | 19 => memN t [4, 7] | 11 => memN t [19, 25, 29] | 38 => memN t [4, 6] | 106 => memN t [12, 17] | 45 => memN t [31] | _ => false
def node (k c : ByteArray) : V1 := .agg [.a (.v (.string k)), .a (.v (.string c))]
end Go.Ev.H5

namespace Go.Ev.H5
open Go Go.Proofs Go.RowKit
set_option maxRecDepth 100000
theorem r43 (s : ByteArray) : callR (mkE LKz SKz) 1000 43 [sS s] [] = some ([s.size = 32, beS s < 4294967296 ^ 8], .tup [N8 (beS s), .one (.v (.bool (gd (beS s))))]) := by kernel_rfl
theorem r28 (s : ByteArray) : callR (mkE LKz SKz) 1000 28 [sS s] [false] = some ([(!decide ((s.size : Int) = 32)) = false, s.size = 32, beS s < 4294967296 ^ 8], .tup [N8 (beS s), .one (.v (.bool (gd (beS s))))]) := by kernel_rfl
theorem beS_lt {s : ByteArray} (h : s.size = 32) : beS s < 4294967296 ^ 8 := by
 have := leS_lt (revS s)
 rw [revS_size, h] at this
 exact Nat.lt_of_lt_of_le this (by decide)
theorem dec32 {n : Nat} (h : n = 32) : (!decide ((n : Int) = 32)) = false := by subst h; rfl
theorem dec32n {n : Nat} (h : n ≠ 32) : (!decide ((n : Int) = 32)) = true := by
 have : ¬ ((n : Int) = 32) := by omega
 rw [decide_eq_false this]; rfl
def fnKy (vs : List V1) : Option (List Prop × AV) := match vs with | [.one (.v (.string s))] => some ([s.size = 32], .tup [N8 (beS s), .one (.v (.bool (gd (beS s))))]) | _ => none
theorem ct43 : CTok ⟨43, fnKy⟩ := by
 intro vs ob r h ho
 simp only [fnKy] at h
 split at h
 ·simp only [Option.some.injEq, Prod.mk.injEq] at h
  obtain ⟨rfl, rfl⟩ := h
  obtain ⟨h1, _⟩ := ho
  exact spec_run (envMk LKz_ok SKz) rfl (r43 _) ⟨h1, beS_lt h1, trivial⟩ rfl rfl
 ·simp at h
theorem r38 (s : ByteArray) : callR (mkE LKz SKz) 1000 38 [sS s] [] = some ([(0 : Int) ≤ 32 ∧ (32 : Int) ≤ (s.size : Int), (0 : Int) ≤ 32 ∧ (32 : Int) ≤ (s.size : Int)], .val (node (s.extract 0 32) (s.extract 32 s.size))) := by kernel_rfl
def fnNode (vs : List V1) : Option (List Prop × AV) := match vs with | [.one (.v (.string s))] => some ([s.size = 64], .val (node (s.extract 0 32) (s.extract 32 64))) | _ => none
theorem ct38 : CTok ⟨38, fnNode⟩ := by
 intro vs ob r h ho
 simp only [fnNode] at h
 split at h
 ·rename_i s
  simp only [Option.some.injEq, Prod.mk.injEq] at h
  obtain ⟨rfl, rfl⟩ := h
  obtain ⟨h1, _⟩ := ho
  have := spec_run (envMk LKz_ok SKz) rfl (r38 s) ⟨by omega, by omega, trivial⟩ rfl rfl
  rw [h1] at this
  exact this
 ·simp at h
def ixS (a : Nat) : ByteArray := strOf [a / 16777216 % 256, a / 65536 % 256, a / 256 % 256, a % 256]
theorem ixS_size (a : Nat) : (ixS a).size = 4 := by unfold ixS; rw [strOf_size]; rfl
theorem r29 (a : Nat) : callR (mkE LKz SKz) 1000 29 [u32 a] [] = some ([], .val (sS (ixS a))) := by kernel_rfl
theorem r46 (a : Nat) : callR (mkE LKz SKz) 1000 46 [u32 a] [] = some ([], .val (sS (ixS a))) := by kernel_rfl
def fnIx (vs : List V1) : Option (List Prop × AV) := match vs with | [.one (.u .u32 a)] => some ([], .val (sS (ixS a))) | _ => none
theorem ct29 : CTok ⟨29, fnIx⟩ := by
 intro vs ob r h ho
 simp only [fnIx] at h
 split at h
 ·simp only [Option.some.injEq, Prod.mk.injEq] at h
  obtain ⟨rfl, rfl⟩ := h
  exact spec_run (envMk LKz_ok SKz) rfl (r29 _) trivial rfl rfl
 ·simp at h
theorem ct46 : CTok ⟨46, fnIx⟩ := by
 intro vs ob r h ho
 simp only [fnIx] at h
 split at h
 ·simp only [Option.some.injEq, Prod.mk.injEq] at h
  obtain ⟨rfl, rfl⟩ := h
  exact spec_run (envMk LKz_ok SKz) rfl (r46 _) trivial rfl rfl
 ·simp at h
theorem r45y (s t : ByteArray) : callR (mkE LKz SKz) 1000 45 [sS s, sS t] [true, true, true] =
  some ([s.size = 32, t.size = 32, ok1 3 (beS s) = true, beS s < 4294967296 ^ 8, ok1 3 (beS t) = true, beS t < 4294967296 ^ 8, (0 : Int) ≤ 3 ∧ (3 : Int) < 4, modN 3 < 4294967296 ^ 8, beS s < modN 3, beS t < modN 3, beS s < 4294967296 ^ 8, beS t < 4294967296 ^ 8, addM (modN 3) (beS s) (beS t) < 4294967296 ^ 8, decide ((0 : Int) = 0) = true, addM (modN 3) (beS s) (beS t) < 4294967296 ^ 8], .tup [sS (bgS (addM (modN 3) (beS s) (beS t))), .one (.v (.bool (gd (addM (modN 3) (beS s) (beS t)))))]) := by kernel_rfl
theorem r45n (s t : ByteArray) : callR (mkE LKz SKz) 1000 45 [sS s, sS t] [true, false, false] =
  some ([s.size = 32, t.size = 32, ok1 3 (beS s) = true, beS s < 4294967296 ^ 8, ok1 3 (beS t) = false, beS t < 4294967296 ^ 8, 0 < 4294967296, 0 < 4294967296, 0 < 4294967296, 0 < 4294967296, 0 < 4294967296, 0 < 4294967296, 0 < 4294967296, 0 < 4294967296, decide ((1 : Int) = 0) = false], .tup [sS (bgS (valU 8 0 (fun _ => 0))), .one (.v (.bool false))]) := by kernel_rfl
theorem ok13 {x : Nat} : ok1 3 x = decide (x < modN 3) := by unfold ok1 lessB; rfl
def smV (a b : Nat) : Nat := bif decide (b < modN 3) then addM (modN 3) a b else 0
def smB (a b : Nat) : Bool := decide (b < modN 3) && gd (addM (modN 3) a b)
theorem spec45 (s t : ByteArray) (hs : s.size = 32) (ht : t.size = 32) (ha : beS s < modN 3) : Spec 45 [sS s, sS t] (.tup [sS (bgS (smV (beS s) (beS t))), .one (.v (.bool (smB (beS s) (beS t))))]) := by
 have h8 : addM (modN 3) (beS s) (beS t) < 4294967296 ^ 8 := Nat.lt_trans (Nat.mod_lt _ (Nat.lt_of_le_of_lt (Nat.zero_le _) ha)) (modN_lt 3)
 unfold smV smB
 by_cases hb : beS t < modN 3
 ·rw [decide_eq_true hb, cond_true, Bool.true_and]
  exact spec_run (envMk LKz_ok SKz) rfl (r45y s t) ⟨hs, ht, by rw [ok13]; exact decide_eq_true ha, beS_lt hs, by rw [ok13]; exact decide_eq_true hb, beS_lt ht, by omega, modN_lt 3, ha, hb, beS_lt hs, beS_lt ht, h8, by decide, h8, trivial⟩ rfl rfl
 ·rw [decide_eq_false hb, cond_false, Bool.false_and]
  exact spec_run (envMk LKz_ok SKz) rfl (r45n s t) ⟨hs, ht, by rw [ok13]; exact decide_eq_true ha, beS_lt hs, by rw [ok13]; exact decide_eq_false hb, beS_lt ht, by decide, by decide, by decide, by decide, by decide, by decide, by decide, by decide, by decide, trivial⟩ rfl rfl
def fnSm (vs : List V1) : Option (List Prop × AV) := match vs with | [.one (.v (.string s)), .one (.v (.string t))] => some ([s.size = 32, t.size = 32, beS s < modN 3], .tup [sS (bgS (smV (beS s) (beS t))), .one (.v (.bool (smB (beS s) (beS t))))]) | _ => none
theorem ct45 : CTok ⟨45, fnSm⟩ := by
 intro vs ob r h ho
 simp only [fnSm] at h
 split at h
 ·simp only [Option.some.injEq, Prod.mk.injEq] at h
  obtain ⟨rfl, rfl⟩ := h
  obtain ⟨h1, h2, h3, _⟩ := ho
  exact spec45 _ _ h1 h2 h3
 ·simp at h
noncomputable def LNd : List CT := ⟨43, fnKy⟩ :: ⟨38, fnNode⟩ :: ⟨29, fnIx⟩ :: ⟨46, fnIx⟩ :: ⟨45, fnSm⟩ :: LKz
theorem LNd_ok : AllCT LNd := ⟨ct43, ct38, ct29, ct46, ct45, LKz_ok⟩
end Go.Ev.H5

namespace Go.Ev.H5
open Go Go.Proofs Go.RowKit
set_option maxRecDepth 100000
def mayB (z:Int) (k c:ByteArray):Bool:=(decide (z=1)||decide (z=2))&&(decide (k.size=32)&&(decide (c.size=32)&&(decide (z=1)||gd (beS k))))
theorem r26a (z:Int) (k c:ByteArray):callR (mkE LNd SKz) 1000 26 [.one (.i z),node k c] [false,false]=some ([decide (z=1)=false,decide (z=2)=false],.val (.one (.v (.bool (false))))):=by kernel_rfl
theorem r26b (z:Int) (k c:ByteArray):callR (mkE LNd SKz) 1000 26 [.one (.i z),node k c] [true,true]=some ([decide (z=1)=true,(!decide ((k.size:Int)=32))=true],.val (.one (.v (.bool (false))))):=by kernel_rfl
theorem r26c (z:Int) (k c:ByteArray):callR (mkE LNd SKz) 1000 26 [.one (.i z),node k c] [true,false,true]=some ([decide (z=1)=true,(!decide ((k.size:Int)=32))=false,(!decide ((c.size:Int)=32))=true],.val (.one (.v (.bool (false))))):=by kernel_rfl
theorem r26d (z:Int) (k c:ByteArray):callR (mkE LNd SKz) 1000 26 [.one (.i z),node k c] [true,false,false,true]=some ([decide (z=1)=true,(!decide ((k.size:Int)=32))=false,(!decide ((c.size:Int)=32))=false,k.size=32,decide (z=1)=true],.val (.one (.v (.bool (true))))):=by kernel_rfl
theorem r26b2 (z:Int) (k c:ByteArray):callR (mkE LNd SKz) 1000 26 [.one (.i z),node k c] [false,true,true]=some ([decide (z=1)=false,decide (z=2)=true,(!decide ((k.size:Int)=32))=true],.val (.one (.v (.bool (false))))):=by kernel_rfl
theorem r26c2 (z:Int) (k c:ByteArray):callR (mkE LNd SKz) 1000 26 [.one (.i z),node k c] [false,true,false,true]=some ([decide (z=1)=false,decide (z=2)=true,(!decide ((k.size:Int)=32))=false,(!decide ((c.size:Int)=32))=true],.val (.one (.v (.bool (false))))):=by kernel_rfl
theorem r26e (z:Int) (k c:ByteArray):callR (mkE LNd SKz) 1000 26 [.one (.i z),node k c] [false,true,false,false,false]=some ([decide (z=1)=false,decide (z=2)=true,(!decide ((k.size:Int)=32))=false,(!decide ((c.size:Int)=32))=false,k.size=32,decide (z=1)=false],.val (.one (.v (.bool (gd (beS k)))))):=by kernel_rfl
theorem r11a (z:Int) (k c:ByteArray):callR (mkE LNd SKz) 1000 11 [.one (.i z),node k c] [true,false,false]=some ([(!decide ((k.size:Int)=32))=true,decide (z=1)=false,decide (z=2)=false],.val (.one (.v (.bool (false))))):=by kernel_rfl
theorem r11b (z:Int) (k c:ByteArray):callR (mkE LNd SKz) 1000 11 [.one (.i z),node k c] [true,true,false]=some ([(!decide ((k.size:Int)=32))=true,decide (z=1)=true,decide ((k.size:Int)=32)=false],.val (.one (.v (.bool (false))))):=by kernel_rfl
theorem r11b2 (z:Int) (k c:ByteArray):callR (mkE LNd SKz) 1000 11 [.one (.i z),node k c] [true,false,true,false]=some ([(!decide ((k.size:Int)=32))=true,decide (z=1)=false,decide (z=2)=true,decide ((k.size:Int)=32)=false],.val (.one (.v (.bool (false))))):=by kernel_rfl
theorem r11a2 (z:Int) (k c:ByteArray):callR (mkE LNd SKz) 1000 11 [.one (.i z),node k c] [false,false,false]=some ([(!decide ((k.size:Int)=32))=false,k.size=32,beS k<4294967296^8,decide (z=1)=false,decide (z=2)=false],.val (.one (.v (.bool (false))))):=by kernel_rfl
theorem r11c (z:Int) (k c:ByteArray):callR (mkE LNd SKz) 1000 11 [.one (.i z),node k c] [false,true,true,false]=some ([(!decide ((k.size:Int)=32))=false,k.size=32,beS k<4294967296^8,decide (z=1)=true,decide ((k.size:Int)=32)=true,decide ((c.size:Int)=32)=false],.val (.one (.v (.bool (false))))):=by kernel_rfl
theorem r11d (z:Int) (k c:ByteArray):callR (mkE LNd SKz) 1000 11 [.one (.i z),node k c] [false,true,true,true,true]=some ([(!decide ((k.size:Int)=32))=false,k.size=32,beS k<4294967296^8,decide (z=1)=true,decide ((k.size:Int)=32)=true,decide ((c.size:Int)=32)=true,decide (z=1)=true],.val (.one (.v (.bool (true))))):=by kernel_rfl
theorem r11c2 (z:Int) (k c:ByteArray):callR (mkE LNd SKz) 1000 11 [.one (.i z),node k c] [false,false,true,true,false]=some ([(!decide ((k.size:Int)=32))=false,k.size=32,beS k<4294967296^8,decide (z=1)=false,decide (z=2)=true,decide ((k.size:Int)=32)=true,decide ((c.size:Int)=32)=false],.val (.one (.v (.bool (false))))):=by kernel_rfl
theorem r11e (z:Int) (k c:ByteArray):callR (mkE LNd SKz) 1000 11 [.one (.i z),node k c] [false,false,true,true,true,false]=some ([(!decide ((k.size:Int)=32))=false,k.size=32,beS k<4294967296^8,decide (z=1)=false,decide (z=2)=true,decide ((k.size:Int)=32)=true,decide ((c.size:Int)=32)=true,decide (z=1)=false],.val (.one (.v (.bool (gd (beS k)))))):=by kernel_rfl
theorem deq {n:Nat} (h:n=32):decide ((n:Int)=32)=true:=by subst h;rfl
theorem dne {n:Nat} (h:n≠32):decide ((n:Int)=32)=false:=decide_eq_false (by omega)
theorem spec26 (z:Int) (k c:ByteArray):Spec 26 [.one (.i z),node k c] (bV (mayB z k c)):=by
 unfold mayB
 have run:=fun {ob:List Prop} {ch:List Bool} {r:AV} (h:callR (mkE LNd SKz) 1000 26 [.one (.i z),node k c] ch=some (ob,r)) (ho:All ob) (hr:r.wf 0=true)=>spec_run (envMk LNd_ok SKz) rfl h ho hr rfl
 by_cases h1:z=1
 ·rw[decide_eq_true h1]
  by_cases hk:k.size=32
  ·rw[decide_eq_true hk]
   by_cases hc:c.size=32
   ·rw[decide_eq_true hc]
    exact run (r26d z k c) ⟨decide_eq_true h1,dec32 hk,dec32 hc,hk,decide_eq_true h1,trivial⟩ rfl
   ·rw[decide_eq_false hc]
    exact run (r26c z k c) ⟨decide_eq_true h1,dec32 hk,dec32n hc,trivial⟩ rfl
  ·rw[decide_eq_false hk]
   exact run (r26b z k c) ⟨decide_eq_true h1,dec32n hk,trivial⟩ rfl
 ·rw[decide_eq_false h1,Bool.false_or,Bool.false_or]
  by_cases h2:z=2
  ·rw[decide_eq_true h2]
   by_cases hk:k.size=32
   ·rw[decide_eq_true hk]
    by_cases hc:c.size=32
    ·rw[decide_eq_true hc]
     exact run (r26e z k c) ⟨decide_eq_false h1,decide_eq_true h2,dec32 hk,dec32 hc,hk,decide_eq_false h1,trivial⟩ rfl
    ·rw[decide_eq_false hc]
     exact run (r26c2 z k c) ⟨decide_eq_false h1,decide_eq_true h2,dec32 hk,dec32n hc,trivial⟩ rfl
   ·rw[decide_eq_false hk]
    exact run (r26b2 z k c) ⟨decide_eq_false h1,decide_eq_true h2,dec32n hk,trivial⟩ rfl
  ·rw[decide_eq_false h2]
   exact run (r26a z k c) ⟨decide_eq_false h1,decide_eq_false h2,trivial⟩ rfl
theorem spec11k (z:Int) (k c:ByteArray):Spec 11 [.one (.i z),node k c] (bV (mayB z k c)):=by
 unfold mayB
 have run:=fun {ob:List Prop} {ch:List Bool} {r:AV} (h:callR (mkE LNd SKz) 1000 11 [.one (.i z),node k c] ch=some (ob,r)) (ho:All ob) (hr:r.wf 0=true)=>spec_run (envMk LNd_ok SKz) rfl h ho hr rfl
 by_cases hk:k.size=32
 ·rw[decide_eq_true hk]
  by_cases h1:z=1
  ·rw[decide_eq_true h1]
   by_cases hc:c.size=32
   ·rw[decide_eq_true hc]
    exact run (r11d z k c) ⟨dec32 hk,hk,beS_lt hk,decide_eq_true h1,deq hk,deq hc,decide_eq_true h1,trivial⟩ rfl
   ·rw[decide_eq_false hc]
    exact run (r11c z k c) ⟨dec32 hk,hk,beS_lt hk,decide_eq_true h1,deq hk,dne hc,trivial⟩ rfl
  ·rw[decide_eq_false h1,Bool.false_or,Bool.false_or]
   by_cases h2:z=2
   ·rw[decide_eq_true h2]
    by_cases hc:c.size=32
    ·rw[decide_eq_true hc]
     exact run (r11e z k c) ⟨dec32 hk,hk,beS_lt hk,decide_eq_false h1,decide_eq_true h2,deq hk,deq hc,decide_eq_false h1,trivial⟩ rfl
    ·rw[decide_eq_false hc]
     exact run (r11c2 z k c) ⟨dec32 hk,hk,beS_lt hk,decide_eq_false h1,decide_eq_true h2,deq hk,dne hc,trivial⟩ rfl
   ·rw[decide_eq_false h2]
    exact run (r11a2 z k c) ⟨dec32 hk,hk,beS_lt hk,decide_eq_false h1,decide_eq_false h2,trivial⟩ rfl
 ·rw[decide_eq_false hk]
  by_cases h1:z=1
  ·rw[decide_eq_true h1]
   exact run (r11b z k c) ⟨dec32n hk,decide_eq_true h1,dne hk,trivial⟩ rfl
  ·rw[decide_eq_false h1,Bool.false_or,Bool.false_or]
   by_cases h2:z=2
   ·rw[decide_eq_true h2]
    exact run (r11b2 z k c) ⟨dec32n hk,decide_eq_false h1,decide_eq_true h2,dne hk,trivial⟩ rfl
   ·rw[decide_eq_false h2]
    exact run (r11a z k c) ⟨dec32n hk,decide_eq_false h1,decide_eq_false h2,trivial⟩ rfl
def fnMay (vs:List V1):Option (List Prop×AV):=match vs with|[.one (.i z),.agg [.a (.v (.string k)),.a (.v (.string c))]]=>some ([],bV (mayB z k c))|_=>none
theorem ct26:CTok ⟨26,fnMay⟩:=by
 intro vs ob r h ho
 simp only[fnMay] at h
 split at h
 ·simp only[Option.some.injEq,Prod.mk.injEq] at h
  obtain ⟨rfl,rfl⟩:=h
  exact spec26 _ _ _
 ·simp at h
theorem ct11:CTok ⟨11,fnMay⟩:=by
 intro vs ob r h ho
 simp only[fnMay] at h
 split at h
 ·simp only[Option.some.injEq,Prod.mk.injEq] at h
  obtain ⟨rfl,rfl⟩:=h
  exact spec11k _ _ _
 ·simp at h
noncomputable def LMy:List CT:=⟨26,fnMay⟩::⟨11,fnMay⟩::LNd
theorem LMy_ok:AllCT LMy:=⟨ct26,ct11,LNd_ok⟩
def nB (k c:ByteArray):Blk:=⟨[.a (.v (.string k)),.a (.v (.string c))],25,true,false,0⟩
def e0:ByteArray:=⟨#[]⟩
def wE:ByteArray:=⟨#[101,100,50,53,53,49,57,32,115,101,101,100]⟩
def wP:ByteArray:=⟨#[78,105,115,116,50,53,54,112,49,32,115,101,101,100]⟩
noncomputable def SMs:FuncId→Nat→Bool:=fun f t=>match f with
 |22=>memN t [4,7,13,18,22,27,34,36]|37=>memN t [4,7]|16=>memN t [11,14,16,21,23,27]
 |27=>memN t [13,16,23,40,47,50,51]|12=>memN t [14,17,22,25,27,35,33,37,45,47,50,54,63,67,70,71,74]|33=>memN t [7,21]|44=>memN t [8,11,14,24]|10=>memN t [10]|_=>false
def T22 (s:ByteArray) (j:Int):List AV:=slots 38 [(0,iV 2),(1,.val (sS s)),(4,pV 0),(26,iV j)]
def T22x:List AV:=slots 38 [(4,pV 0)]
def T22r:List AV:=slots 38 [(4,pV 0),(5,iV 0)]
def T16 (w s:ByteArray) (j:Int):List AV:=slots 30 [(0,iV 2),(4,pV 0),(6,.val (sS w)),(7,.val (sS s)),(8,iV j)]
def T16x:List AV:=slots 30 [(4,pV 0)]
def u32V (i:Nat):AV:= .val (u32 i)
def T27 (s:ByteArray) (i:Nat) (j:Int):List AV:=slots 53 [(0,iV 2),(2,u32V i),(4,pV 0),(6,pV 1),(8,.val (sS s)),(22,iV j)]
def T27x:List AV:=slots 53 [(6,pV 1)]
def T27r:List AV:=slots 53 [(6,pV 1),(7,iV 0)]
def T12 (s:ByteArray) (i:Nat) (j:Int):List AV:=slots 76 [(0,iV 2),(2,u32V i),(4,pV 0),(6,pV 1),(8,.val (sS s)),(9,iV j)]
def T12x:List AV:=slots 76 [(6,pV 1)]
def T12r:List AV:=slots 76 [(6,pV 1),(7,iV 0)]
def T16r:List AV:=slots 30 [(4,pV 0),(5,iV 0)]
end Go.Ev.H5

namespace Go.Ev.H5
open Go Go.Proofs Go.RowKit
set_option maxRecDepth 100000
noncomputable def hL (c s : ByteArray) : ByteArray := (hmac c s).extract 0 32
noncomputable def hR (c s : ByteArray) : ByteArray := (hmac c s).extract 32 64
noncomputable def hR' (c s : ByteArray) : ByteArray := (hmac c s).extract 32 (hmac c s).size
theorem hR'_eq (c s : ByteArray) : hR' c s = hR c s := by unfold hR' hR; rw [hmac_size]
theorem hL_size (c s : ByteArray) : (hL c s).size = 32 := by unfold hL; rw [cut_size _ _ _ (by rw [hmac_size]; omega)]
theorem hR_size (c s : ByteArray) : (hR c s).size = 32 := by unfold hR; rw [cut_size _ _ _ (by rw [hmac_size]; omega)]
theorem t22y (s : ByteArray) (j : Nat) : runTo (mkE LMy SMs) 1000 ((mkE LMy SMs).S 22) (bodyOf Tryz.prog 22 6) (T22 s (j : Int)) [nB e0 e0] [true, true] T22r 1 =
  some ([decide ((j : Int) < 8) = true, wP.size ≤ 128, s.size ≤ 10000000000000, (hmac wP s).size = 64, mayB 2 (hL wP s) (hR wP s) = true], .ret, T22r, [nB (hL wP s) (hR wP s)]) := by kernel_rfl
theorem t22n (s : ByteArray) (j : Nat) : runTo (mkE LMy SMs) 1000 ((mkE LMy SMs).S 22) (bodyOf Tryz.prog 22 6) (T22 s (j : Int)) [nB e0 e0] [true, false] (T22 (hmac wP s) ((j : Int) + 1)) 1 =
  some ([decide ((j : Int) < 8) = true, wP.size ≤ 128, s.size ≤ 10000000000000, (hmac wP s).size = 64, mayB 2 (hL wP s) (hR wP s) = false, inI ((j : Int) + 1)], .normal, T22 (hmac wP s) ((j : Int) + 1), [nB e0 e0]) := by kernel_rfl
theorem t22x (s : ByteArray) (j : Nat) : runTo (mkE LMy SMs) 1000 ((mkE LMy SMs).S 22) (bodyOf Tryz.prog 22 6) (T22 s (j : Int)) [nB e0 e0] [false] T22x 1 =
  some ([decide ((j : Int) < 8) = false], .exit 0, T22x, [nB e0 e0]) := by kernel_rfl
theorem t16y (w s : ByteArray) (j : Nat) : runTo (mkE LMy SMs) 1000 ((mkE LMy SMs).S 16) (bodyOf Tryz.prog 16 6) (T16 w s (j : Int)) [nB e0 e0] [true, true] T16r 1 =
  some ([decide ((j : Int) < 8) = true, w.size ≤ 128, s.size ≤ 10000000000000, (0 : Int) ≤ 32 ∧ (32 : Int) ≤ ((hmac w s).size : Int), (0 : Int) ≤ 32 ∧ (32 : Int) ≤ ((hmac w s).size : Int), mayB 2 (hL w s) (hR' w s) = true], .ret, T16r, [nB (hL w s) (hR' w s)]) := by kernel_rfl
theorem t16n (w s : ByteArray) (j : Nat) : runTo (mkE LMy SMs) 1000 ((mkE LMy SMs).S 16) (bodyOf Tryz.prog 16 6) (T16 w s (j : Int)) [nB e0 e0] [true, false] (T16 w (hmac w s) ((j : Int) + 1)) 1 =
  some ([decide ((j : Int) < 8) = true, w.size ≤ 128, s.size ≤ 10000000000000, (0 : Int) ≤ 32 ∧ (32 : Int) ≤ ((hmac w s).size : Int), (0 : Int) ≤ 32 ∧ (32 : Int) ≤ ((hmac w s).size : Int), mayB 2 (hL w s) (hR' w s) = false, inI ((j : Int) + 1)], .normal, T16 w (hmac w s) ((j : Int) + 1), [nB e0 e0]) := by kernel_rfl
theorem t16x (w s : ByteArray) (j : Nat) : runTo (mkE LMy SMs) 1000 ((mkE LMy SMs).S 16) (bodyOf Tryz.prog 16 6) (T16 w s (j : Int)) [nB e0 e0] [false] T16x 1 =
  some ([decide ((j : Int) < 8) = false], .exit 0, T16x, [nB e0 e0]) := by kernel_rfl
def one1 : ByteArray := ⟨#[1]⟩
def zer1 : ByteArray := ⟨#[0]⟩
theorem t27y (k c s : ByteArray) (i j : Nat) : runTo (mkE LMy SMs) 1000 ((mkE LMy SMs).S 27) (bodyOf Tryz.prog 27 5) (T27 s i (j : Int)) [nB k c, nB e0 e0] [true, true] T27r 2 =
  some ([decide ((j : Int) < 8) = true, c.size ≤ 128, s.size ≤ 10000000000000, (hmac c s).size = 64, k.size = 32, (hL c s).size = 32, beS k < modN 3, smB (beS k) (beS (hL c s)) = true], .ret, T27r, [nB k c, nB (bgS (smV (beS k) (beS (hL c s)))) (hR c s)]) := by kernel_rfl
theorem t27n (k c s : ByteArray) (i j : Nat) : runTo (mkE LMy SMs) 1000 ((mkE LMy SMs).S 27) (bodyOf Tryz.prog 27 5) (T27 s i (j : Int)) [nB k c, nB e0 e0] [true, false] (T27 (one1 ++ hR c s ++ ixS i) i ((j : Int) + 1)) 2 =
  some ([decide ((j : Int) < 8) = true, c.size ≤ 128, s.size ≤ 10000000000000, (hmac c s).size = 64, k.size = 32, (hL c s).size = 32, beS k < modN 3, smB (beS k) (beS (hL c s)) = false, 1 + (hR c s).size ≤ 9223372036854775807, (one1 ++ hR c s).size + (ixS i).size ≤ 9223372036854775807, inI ((j : Int) + 1)], .normal, T27 (one1 ++ hR c s ++ ixS i) i ((j : Int) + 1), [nB k c, nB e0 e0]) := by kernel_rfl
theorem t27x (k c s : ByteArray) (i j : Nat) : runTo (mkE LMy SMs) 1000 ((mkE LMy SMs).S 27) (bodyOf Tryz.prog 27 5) (T27 s i (j : Int)) [nB k c, nB e0 e0] [false] T27x 2 =
  some ([decide ((j : Int) < 8) = false], .exit 0, T27x, [nB k c, nB e0 e0]) := by kernel_rfl
def adV (a b : Nat) : Nat := addM (modN 3) b a
def ob12 (k c s : ByteArray) : List Prop := [(0 : Int) ≤ 3 ∧ (3 : Int) < 4, k.size = 32, okR (modN 3) (facR (limb (modN 3) 0)) (r2N (modN 3)), beS (hL c s) < modN 3, beS k < modN 3, beS (hL c s) < 4294967296 ^ 8, beS k < 4294967296 ^ 8]
def obH (c s : ByteArray) (b : Bool) : List Prop := [c.size ≤ 128, s.size ≤ 10000000000000, (0 : Int) ≤ 32 ∧ (32 : Int) ≤ ((hmac c s).size : Int), (hL c s).size = 32, b = b, modB 3 = true, (0 : Int) ≤ 3 ∧ (3 : Int) < 4, decide (beS (hL c s) < modN 3) = b, beS (hL c s) < 4294967296 ^ 8, modN 3 < 4294967296 ^ 8]
def obT (c s : ByteArray) (i j : Nat) : List Prop := [(0 : Int) ≤ 32 ∧ (32 : Int) ≤ ((hmac c s).size : Int), 1 + (hR' c s).size ≤ 9223372036854775807, (one1 ++ hR' c s).size + (ixS i).size ≤ 9223372036854775807, inI ((j : Int) + 1)]
theorem t12y (k c s : ByteArray) (i j : Nat) : runTo (mkE LMy SMs) 1000 ((mkE LMy SMs).S 12) (bodyOf Tryz.prog 12 7) (T12 s i (j : Int)) [nB k c, nB e0 e0] [true, true, true, true, true] T12r 2 =
  some ([decide ((j : Int) < 8) = true] ++ obH c s true ++ ob12 k c s ++ [(!isZ (adV (beS k) (beS (hL c s)))) = true, adV (beS k) (beS (hL c s)) < 4294967296 ^ 8, (0 : Int) ≤ 32 ∧ (32 : Int) ≤ ((hmac c s).size : Int)], .ret, T12r, [nB k c, nB (bgS (adV (beS k) (beS (hL c s)))) (hR' c s)]) := by kernel_rfl
theorem t12z (k c s : ByteArray) (i j : Nat) : runTo (mkE LMy SMs) 1000 ((mkE LMy SMs).S 12) (bodyOf Tryz.prog 12 7) (T12 s i (j : Int)) [nB k c, nB e0 e0] [true, true, true, true, false] (T12 (one1 ++ hR' c s ++ ixS i) i ((j : Int) + 1)) 2 =
  some ([decide ((j : Int) < 8) = true] ++ obH c s true ++ ob12 k c s ++ [(!isZ (adV (beS k) (beS (hL c s)))) = false] ++ obT c s i j, .normal, T12 (one1 ++ hR' c s ++ ixS i) i ((j : Int) + 1), [nB k c, nB e0 e0]) := by kernel_rfl
theorem t12n (k c s : ByteArray) (i j : Nat) : runTo (mkE LMy SMs) 1000 ((mkE LMy SMs).S 12) (bodyOf Tryz.prog 12 7) (T12 s i (j : Int)) [nB k c, nB e0 e0] [true, true, false, false] (T12 (one1 ++ hR' c s ++ ixS i) i ((j : Int) + 1)) 2 =
  some ([decide ((j : Int) < 8) = true] ++ obH c s false ++ obT c s i j, .normal, T12 (one1 ++ hR' c s ++ ixS i) i ((j : Int) + 1), [nB k c, nB e0 e0]) := by kernel_rfl
theorem t12x (k c s : ByteArray) (i j : Nat) : runTo (mkE LMy SMs) 1000 ((mkE LMy SMs).S 12) (bodyOf Tryz.prog 12 7) (T12 s i (j : Int)) [nB k c, nB e0 e0] [false] T12x 2 =
  some ([decide ((j : Int) < 8) = false], .exit 0, T12x, [nB k c, nB e0 e0]) := by kernel_rfl
end Go.Ev.H5

