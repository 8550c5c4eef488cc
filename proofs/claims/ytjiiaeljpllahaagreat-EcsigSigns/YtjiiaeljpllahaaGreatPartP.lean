/- SHA-512: the program and the page come to one sum -/
import Derived.Test.YtjiiaeljpllahaaGreatPartO
import Derived.Test.YtjiiaeljpllahaaGreatPartJ
import Derived.Test.YtjiiaeljpllahaaGreatPartN
import Derived.Test.YtjiiaeljpllahaaGreatPartL
namespace Go.Ev.H5
open Go Go.Proofs Go.RowKit
def u64 (n : Nat) : V1 := .one (.u .u64 n)
def byteAt (s : ByteArray) (i : Nat) : Nat := (s.data.getD i 0).toNat
def M64 : Nat := 18446744073709551616
def ixD (i d : Nat) : Nat := 0 + ((i : Int) - (d : Int)).toNat * 1
end Go.Ev.H5

namespace Go.Ev.H5
open Go Go.Proofs Go.RowKit
end Go.Ev.H5

namespace Go.Ev.H5
open Go Go.Proofs Go.RowKit
theorem cut_size (s : ByteArray) (a b : Nat) (hb : b ≤ s.size) : (s.extract a b).size = b - a := by
  rw [ByteArray.size_extract]; omega
def cells64 : Nat → Nat → (Nat → Nat) → List Piece
  | 0, _, _ => []
  | n + 1, j, u => .a (.u .u64 (u j)) :: cells64 n (j + 1) u
theorem cells64_conc (φ : Loc) (u : Nat → Nat) : ∀ n j, concs φ (cells64 n j u) = (List.range' j n).map fun i => Value.int .u64 ((u i : Nat) : Int)
  | 0, _ => rfl
  | n + 1, j => by
    rw [List.range'_succ, List.map_cons, ← cells64_conc φ u n (j + 1)]
    rfl
theorem cells64_free (u : Nat → Nat) (f : Nat → Bool) : ∀ n j, allPtr f (cells64 n j u) = true
  | 0, _ => rfl
  | n + 1, j => cells64_free u f n (j + 1)
def zW (_ : Nat) : Nat := 0
end Go.Ev.H5

namespace Go.Ev.H5
open Go Go.Proofs Go.RowKit
structure W8 where
  (a b c d e f g h : Nat)
def shaL : List Nat := [4794697086780616226, 8158064640168781261, 13096744586834688815, 16840607885511220156, 4131703408338449720, 6480981068601479193, 10538285296894168987, 12329834152419229976, 15566598209576043074, 1334009975649890238, 2608012711638119052, 6128411473006802146, 8268148722764581231, 9286055187155687089, 11230858885718282805, 13951009754708518548, 16472876342353939154, 17275323862435702243, 1135362057144423861, 2597628984639134821, 3308224258029322869, 5365058923640841347, 6679025012923562964, 8573033837759648693, 10970295158949994411, 12119686244451234320, 12683024718118986047, 13788192230050041572, 14330467153632333762, 15395433587784984357, 489312712824947311, 1452737877330783856, 2861767655752347644, 3322285676063803686, 5560940570517711597, 5996557281743188959, 7280758554555802590, 8532644243296465576, 9350256976987008742, 10552545826968843579, 11727347734174303076, 12113106623233404929, 14000437183269869457, 14369950271660146224, 15101387698204529176, 15463397548674623760, 17586052441742319658, 1182934255886127544, 1847814050463011016, 2177327727835720531, 2830643537854262169, 3796741975233480872, 4115178125766777443, 5681478168544905931, 6601373596472566643, 7507060721942968483, 8399075790359081724, 8693463985226723168, 9568029438360202098, 10144078919501101548, 10430055236837252648, 11840083180663258601, 13761210420658862357, 14299343276471374635, 14566680578165727644, 15097957966210449927, 16922976911328602910, 17689382322260857208, 500013540394364858, 748580250866718886, 1242879168328830382, 1977374033974150939, 2944078676154940804, 3659926193048069267, 4368137639120453308, 4836135668995329356, 5532061633213252278, 6448918945643986474, 6902733635092675308, 7801388544844847127]
def shaK (i : Nat) : Nat := shaL.getD i 0
def z8W : W8 := ⟨0, 0, 0, 0, 0, 0, 0, 0⟩
end Go.Ev.H5

namespace Go.Ev.H5
open Go Go.Proofs Go.RowKit
def iT (i : Nat) : Nat := 0 + (i : Int).toNat * 1
theorem iT_eq (i : Nat) : iT i = i := by unfold iT; omega
end Go.Ev.H5

namespace Go.Ev.H5
open Go Go.Proofs Go.RowKit
def tB (e : TypeId) : Blk := ⟨cells64 80 0 shaK, e, true, true, 0⟩
end Go.Ev.H5

namespace Go.Ev
open Go Go.Proofs Go.RowKit
def dropM : Option (List Prop × List Bool × AV × List Blk) → Option (List Prop × AV)
  | some (o, _, r, _) => some (o, r)
  | none => none
theorem dropM_some {x : Option (List Prop × List Bool × AV × List Blk)} {o : List Prop} {r : AV} (h : dropM x = some (o, r)) : ∃ c m, x = some (o, c, r, m) := by
  unfold dropM at h
  split at h
  · rename_i o' c r' m
    simp only [Option.some.injEq, Prod.mk.injEq] at h
    obtain ⟨rfl, rfl⟩ := h
    exact ⟨c, m, rfl⟩
  · simp at h
end Go.Ev

namespace Go.Ev.H5
open Go Go.Proofs Go.RowKit
noncomputable def addLp (E : Env) (k : Nat) (y : Code) (f : List AV → List Blk → List Bool → CoR) : Env := { E with lp := fun j => match Nat.beq j k with | true => some (y, f) | false => E.lp j }
theorem envAddLp {E : Env} (hE : EnvOK E) {k : Nat} {y : Code} {f : List AV → List Blk → List Bool → CoR} (h : SumOK E.P (.loop y) f) : EnvOK (addLp E k y f) := by
  refine ⟨hE.mixed, hE.fns, hE.fms, ?_, hE.fbs⟩
  intro j y' f' hj
  simp only [addLp] at hj
  split at hj
  · simp only [Option.some.injEq, Prod.mk.injEq] at hj
    obtain ⟨rfl, rfl⟩ := hj
    exact h
  · exact hE.lps j y' f' hj
def slK (c : Nat) : V1 := .one (.sl 0 0 80 c)
end Go.Ev.H5

