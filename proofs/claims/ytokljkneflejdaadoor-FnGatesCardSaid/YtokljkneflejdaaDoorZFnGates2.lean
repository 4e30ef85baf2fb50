/- Part 2 of the proof of FnGates: what functions compute, shown step by step, and what that says (the claim's last text states the law). -/
import Derived.Test.YtokljkneflejdaaDoorProg
import Derived.Test.YtokljkneflejdaaDoorVWords
import Derived.Test.YtokljkneflejdaaDoorVMore
import Derived.Test.YtokljkneflejdaaDoorVLast
import Derived.Test.YtokljkneflejdaaDoorVTab
import Derived.Test.YtokljkneflejdaaDoorVQPut
import Derived.Test.YtokljkneflejdaaDoorVApart
import Derived.Test.YtokljkneflejdaaDoorVArr
import Derived.Test.YtokljkneflejdaaDoorVZeros
import Derived.Test.YtokljkneflejdaaDoorVFoot
import Derived.Test.YtokljkneflejdaaDoorVKept
import Derived.Test.YtokljkneflejdaaDoorVShare
import Derived.Test.YtokljkneflejdaaDoorVN
import Derived.Test.YtokljkneflejdaaDoorVFootNe
import Derived.Test.YtokljkneflejdaaDoorVEqStruct
import Derived.Test.YtokljkneflejdaaDoorVRepsOne
import Derived.Test.YtokljkneflejdaaDoorVInv
import Derived.Test.YtokljkneflejdaaDoorVInvWords
import Derived.Test.YtokljkneflejdaaDoorVNEv
import Derived.Test.YtokljkneflejdaaDoorCards
import Derived.Test.YtokljkneflejdaaDoorTie
import Derived.JoinedOf
import Derived.WalkKit
import Derived.ProofKit
import Derived.OpenShut
import Derived.ShutString
import Derived.ChangeOld
import Derived.Below
import Derived.SizedLaws
import Derived.Deep.Slices
import Derived.ChangeArms
import Derived.Deep.Draws
import Derived.Deep.AppendLies
import Derived.Maps.AppendAt
import Derived.OwnWalk
import Derived.Laws.BytesArg
import Derived.Laws.MakeOwn
import Derived.Laws.OwnMore
import Derived.Deep.OwnRows
import Derived.Tactics
import Derived.Lib.ConvBytes
import Derived.Laws.Slices
import Derived.KernelRfl
import Derived.RowKit3
import Derived.Deep.LoopGhost
import Derived.Deep.QuietTactic
import Derived.BigQuiet
import Derived.WideLaws
import Derived.Deep.DeepCutAuto
import Derived.Deep.CutBlock
import Derived.Deep.RegionHeld3
import Derived.Laws.Rows
import Derived.Lib.AppendStr
import Derived.ArgAppend
import Derived.Laws.IdiomCopy
import Derived.OrdersHeld
import Derived.Laws.BitsLemmas
import Derived.RowKit
import Derived.StillTailTactics
import Derived.Deep.DeepMust
import Derived.Laws.CopyOwn
import Derived.Shelf.Utf8.RuneCount
import Derived.Shelf.Strconv.Atoi
import Derived.Shelf.Strconv.Itoa0
import Derived.Shelf.Strconv.Itoa1
import Derived.Shelf.LaysM
import Derived.Shelf.Strconv.Itoa2
import Derived.Shelf.Strconv.Itoa3
import Derived.Shelf.Strconv.AtoiErrFast
import Derived.Shelf.Strconv.ParseIntEmpty
import Derived.Shelf.Strconv.AtoiFail
import Derived.Shelf.Strconv.Clone
import Derived.Shelf.Strconv.SyntaxError
import Derived.Shelf.LaysC
import Derived.Shelf.Strconv.ToError
import Derived.Shelf.Strconv.Lower
import Derived.Shelf.Strconv.ParseUint10
import Derived.Shelf.Strconv.ParseUint10Empty
import Derived.Shelf.Strconv.ParseUint10Any
import Derived.Shelf.Strconv.ParseInt10
import Derived.Shelf.Strconv.AtoiLong
import Derived.Shelf.Strconv.AtoiInnerAll
import Derived.Shelf.Strconv.RangeError
import Derived.Shelf.Strconv.ToErrorRange
import Derived.Shelf.Strconv.AtoiAll
import Derived.Shelf.Strconv.ErrVarAll
import Derived.Shelf.Strings.Search1
import Derived.Shelf.Strings.Search2
import Derived.Shelf.Strings.Search3
import Derived.Shelf.Strings.Count
import Derived.Shelf.Strings.Shaped
import Derived.Shelf.Strings.Prefix
import Derived.Shelf.Strings.Split
import Derived.Shelf.Strings.SplitShaped
import Derived.Shelf.Unicode.Decode
import Derived.Shelf.Strings.RuneCount
import Derived.Shelf.Strings.Explode
import Derived.Shelf.Unicode.DecodeSlow
import Derived.Shelf.Unicode.DecodeAny
import Derived.Shelf.Slices.Turned
import Derived.Ground.SlgfProg
import Derived.Shelf.SlicesE.IndexFunc
import Derived.Shelf.SlicesE.DeleteFunc
import Derived.Lib.SplitLaws
import Derived.Lib.AtoiTie
import Derived.Lib.ItoaMem
import Derived.Lib.ItoaLen
import Derived.Lib.Strings
import Derived.Lib.LaidTab
import Derived.Lib.AppendIntMem
import Derived.Lib.OwnBridge
import Derived.Deep.DeepHandedRow
import Derived.Stop.LaidErr
import Derived.Shelf.Vars
import Derived.Test.YtokljkneflejdaaDoorZFnGates1
section
namespace Go.Proofs.YtokljkneflejdaaDoor.PT
open Go.RowKit Go.Proofs.YtokljkneflejdaaDoorW.PrintWords Go.Proofs.YtokljkneflejdaaDoorW.PrintLast Go.Proofs.YtokljkneflejdaaDoorW.PrintMore
attribute [local go_sem] max2_int min2_int max_two min_two max_three min_three max_four min_four   -- for this text's walks alone
set_option linter.unusedVariables false
set_option linter.unusedSimpArgs false
def spec_GateText.f (k : Nat) (a0_0 : Int) (a0_1 : Int) (a0_2 : Int) (a0_3 : Int) : Option (ByteArray × Int) := (spec_l11Gate.f k a0_0 a0_1 a0_2 a0_3 15).bind fun t102 => (if t102 = true then ((spec_l11Names.f).bind fun t103 => (if 0 ≤ a0_0 then (if a0_0 < (t103.length : Int) then ((spec_l11Uses.f a0_0).bind fun t107 => (if t107 = 2 then ((spec_l00Digits.f k a0_1).bind fun t108 => (if 1 + t108.size ≤ 9223372036854775807 then (if ((⟨#[32]⟩ : ByteArray) ++ t108).size + 1 ≤ 9223372036854775807 then ((spec_l00Digits.f k a0_2).bind fun t109 => (if (((⟨#[32]⟩ : ByteArray) ++ t108) ++ (⟨#[32]⟩ : ByteArray)).size + t109.size ≤ 9223372036854775807 then (if (rdOf ByteArray.empty t103 a0_0).size + ((((⟨#[32]⟩ : ByteArray) ++ t108) ++ (⟨#[32]⟩ : ByteArray)) ++ t109).size ≤ 9223372036854775807 then (some ((rdOf ByteArray.empty t103 a0_0) ++ ((((⟨#[32]⟩ : ByteArray) ++ t108) ++ (⟨#[32]⟩ : ByteArray)) ++ t109), 0)) else (none)) else (none))) else (none)) else (none))) else (if t107 = 1 then ((spec_l00Digits.f k a0_1).bind fun t110 => (if 1 + t110.size ≤ 9223372036854775807 then (if (rdOf ByteArray.empty t103 a0_0).size + ((⟨#[32]⟩ : ByteArray) ++ t110).size ≤ 9223372036854775807 then (some ((rdOf ByteArray.empty t103 a0_0) ++ ((⟨#[32]⟩ : ByteArray) ++ t110), 0)) else (none)) else (none))) else (if a0_0 = 3 then ((spec_l00Digits.f k a0_3).bind fun t111 => (if 1 + t111.size ≤ 9223372036854775807 then (if (rdOf ByteArray.empty t103 a0_0).size + ((⟨#[32]⟩ : ByteArray) ++ t111).size ≤ 9223372036854775807 then (some ((rdOf ByteArray.empty t103 a0_0) ++ ((⟨#[32]⟩ : ByteArray) ++ t111), 0)) else (none)) else (none))) else (some (rdOf ByteArray.empty t103 a0_0, 0)))))) else (none)) else (none))) else (some ((⟨#[]⟩ : ByteArray), 1)))
theorem spec_GateText.mono : ∀ a0 a1 a2 a3 k, LeO (spec_GateText.f k a0 a1 a2 a3) (spec_GateText.f (k + 1) a0 a1 a2 a3) := by
 intro a0 a1 a2 a3 k
 unfold spec_GateText.f
 repeat' first
   | (with_reducible exact spec_l00Digits.mono _ _)
   | (with_reducible exact spec_l11Gate.mono _ _ _ _ _ _)
   | (with_reducible exact LeO.refl _)
   | (with_reducible exact LeO.none _)
   | (with_reducible refine LeO.ite ?_ ?_)
   | (with_reducible refine LeO.bind ?_ (fun _ => ?_))
   | exact spec_l00Digits.mono _ _
   | exact spec_l11Gate.mono _ _ _ _ _ _
   | exact LeO.none _
   | refine LeO.ite ?_ ?_
   | refine LeO.bind ?_ (fun _ => ?_)
def spec_GateText.T8 : Bool × List (List Nat × List Nat) := (true, [([], []), ([], []), ([1], [1]), ([2], [2]), ([3], [3]), ([4], [4]), ([], []), ([6], [6]), ([7, 3], [7]), ([5, 8], [5, 8]), ([0, 9], [0, 9]), ([10, 8, 0, 1, 2, 3, 4, 5, 6, 7, 8, 9, 10], [0, 10])])
def spec_GateText.B8 : List Nat := [0, 0, 2, 6, 14, 30, 0, 64, 206, 510, 1023, 2047]
theorem spec_GateText.tab8 : rtab .any (opsOf Tryd.f7 8) = spec_GateText.T8 := by kernel_rfl
theorem spec_GateText.bits8 : waitsOk spec_GateText.T8.2 spec_GateText.B8 = true := by kernel_rfl
set_option maxHeartbeats 8000000 in
set_option maxRecDepth 100000 in
theorem spec_GateText.calls (k : Nat) (a0_0 : Int) (a0_1 : Int) (a0_2 : Int) (a0_3 : Int) (r1 : ByteArray) (r2 : Int) (w : World) (h : spec_GateText.f k a0_0 a0_1 a0_2 a0_3 = some (r1, r2)) :
  Calls Tryd.prog 7 #[.agg #[.int .i64 a0_0, .int .i64 a0_1, .int .i64 a0_2, .int .i64 a0_3]] w fun e w' => e = .returned (.tuple #[.string r1, .int .i64 r2]) ∧ Below w.heap.size w w' := by
 have hu30 := Tryd.underlying30
 have HB := am_ (Below.refl w.heap.size w)
 have H : ((spec_l11Gate.f k a0_0 a0_1 a0_2 a0_3 15).bind fun t102 => (if t102 = true then ((spec_l11Names.f).bind fun t103 => (if 0 ≤ a0_0 then (if a0_0 < (t103.length : Int) then ((spec_l11Uses.f a0_0).bind fun t107 => (if t107 = 2 then ((spec_l00Digits.f k a0_1).bind fun t108 => (if 1 + t108.size ≤ 9223372036854775807 then (if ((⟨#[32]⟩ : ByteArray) ++ t108).size + 1 ≤ 9223372036854775807 then ((spec_l00Digits.f k a0_2).bind fun t109 => (if (((⟨#[32]⟩ : ByteArray) ++ t108) ++ (⟨#[32]⟩ : ByteArray)).size + t109.size ≤ 9223372036854775807 then (if (rdOf ByteArray.empty t103 a0_0).size + ((((⟨#[32]⟩ : ByteArray) ++ t108) ++ (⟨#[32]⟩ : ByteArray)) ++ t109).size ≤ 9223372036854775807 then (some ((rdOf ByteArray.empty t103 a0_0) ++ ((((⟨#[32]⟩ : ByteArray) ++ t108) ++ (⟨#[32]⟩ : ByteArray)) ++ t109), 0)) else (none)) else (none))) else (none)) else (none))) else (if t107 = 1 then ((spec_l00Digits.f k a0_1).bind fun t110 => (if 1 + t110.size ≤ 9223372036854775807 then (if (rdOf ByteArray.empty t103 a0_0).size + ((⟨#[32]⟩ : ByteArray) ++ t110).size ≤ 9223372036854775807 then (some ((rdOf ByteArray.empty t103 a0_0) ++ ((⟨#[32]⟩ : ByteArray) ++ t110), 0)) else (none)) else (none))) else (if a0_0 = 3 then ((spec_l00Digits.f k a0_3).bind fun t111 => (if 1 + t111.size ≤ 9223372036854775807 then (if (rdOf ByteArray.empty t103 a0_0).size + ((⟨#[32]⟩ : ByteArray) ++ t111).size ≤ 9223372036854775807 then (some ((rdOf ByteArray.empty t103 a0_0) ++ ((⟨#[32]⟩ : ByteArray) ++ t111), 0)) else (none)) else (none))) else (some (rdOf ByteArray.empty t103 a0_0, 0)))))) else (none)) else (none))) else (some ((⟨#[]⟩ : ByteArray), 1)))) = some (r1, r2) := h
 clear h
 replace H := Option.bind_eq_some_iff.mp H
 obtain ⟨t102, A20, H⟩ := H
 replace H : (if t102 = true then ((spec_l11Names.f).bind fun t103 => (if 0 ≤ a0_0 then (if a0_0 < (t103.length : Int) then ((spec_l11Uses.f a0_0).bind fun t107 => (if t107 = 2 then ((spec_l00Digits.f k a0_1).bind fun t108 => (if 1 + t108.size ≤ 9223372036854775807 then (if ((⟨#[32]⟩ : ByteArray) ++ t108).size + 1 ≤ 9223372036854775807 then ((spec_l00Digits.f k a0_2).bind fun t109 => (if (((⟨#[32]⟩ : ByteArray) ++ t108) ++ (⟨#[32]⟩ : ByteArray)).size + t109.size ≤ 9223372036854775807 then (if (rdOf ByteArray.empty t103 a0_0).size + ((((⟨#[32]⟩ : ByteArray) ++ t108) ++ (⟨#[32]⟩ : ByteArray)) ++ t109).size ≤ 9223372036854775807 then (some ((rdOf ByteArray.empty t103 a0_0) ++ ((((⟨#[32]⟩ : ByteArray) ++ t108) ++ (⟨#[32]⟩ : ByteArray)) ++ t109), 0)) else (none)) else (none))) else (none)) else (none))) else (if t107 = 1 then ((spec_l00Digits.f k a0_1).bind fun t110 => (if 1 + t110.size ≤ 9223372036854775807 then (if (rdOf ByteArray.empty t103 a0_0).size + ((⟨#[32]⟩ : ByteArray) ++ t110).size ≤ 9223372036854775807 then (some ((rdOf ByteArray.empty t103 a0_0) ++ ((⟨#[32]⟩ : ByteArray) ++ t110), 0)) else (none)) else (none))) else (if a0_0 = 3 then ((spec_l00Digits.f k a0_3).bind fun t111 => (if 1 + t111.size ≤ 9223372036854775807 then (if (rdOf ByteArray.empty t103 a0_0).size + ((⟨#[32]⟩ : ByteArray) ++ t111).size ≤ 9223372036854775807 then (some ((rdOf ByteArray.empty t103 a0_0) ++ ((⟨#[32]⟩ : ByteArray) ++ t111), 0)) else (none)) else (none))) else (some (rdOf ByteArray.empty t103 a0_0, 0)))))) else (none)) else (none))) else (some ((⟨#[]⟩ : ByteArray), 1))) = some (r1, r2) := H
 have A2 := am_ A20
 clear A20
 by_cases c3 : t102 = true
 ·
  subst c3
  have H1 : ((spec_l11Names.f).bind fun t103 => (if 0 ≤ a0_0 then (if a0_0 < (t103.length : Int) then ((spec_l11Uses.f a0_0).bind fun t107 => (if t107 = 2 then ((spec_l00Digits.f k a0_1).bind fun t108 => (if 1 + t108.size ≤ 9223372036854775807 then (if ((⟨#[32]⟩ : ByteArray) ++ t108).size + 1 ≤ 9223372036854775807 then ((spec_l00Digits.f k a0_2).bind fun t109 => (if (((⟨#[32]⟩ : ByteArray) ++ t108) ++ (⟨#[32]⟩ : ByteArray)).size + t109.size ≤ 9223372036854775807 then (if (rdOf ByteArray.empty t103 a0_0).size + ((((⟨#[32]⟩ : ByteArray) ++ t108) ++ (⟨#[32]⟩ : ByteArray)) ++ t109).size ≤ 9223372036854775807 then (some ((rdOf ByteArray.empty t103 a0_0) ++ ((((⟨#[32]⟩ : ByteArray) ++ t108) ++ (⟨#[32]⟩ : ByteArray)) ++ t109), 0)) else (none)) else (none))) else (none)) else (none))) else (if t107 = 1 then ((spec_l00Digits.f k a0_1).bind fun t110 => (if 1 + t110.size ≤ 9223372036854775807 then (if (rdOf ByteArray.empty t103 a0_0).size + ((⟨#[32]⟩ : ByteArray) ++ t110).size ≤ 9223372036854775807 then (some ((rdOf ByteArray.empty t103 a0_0) ++ ((⟨#[32]⟩ : ByteArray) ++ t110), 0)) else (none)) else (none))) else (if a0_0 = 3 then ((spec_l00Digits.f k a0_3).bind fun t111 => (if 1 + t111.size ≤ 9223372036854775807 then (if (rdOf ByteArray.empty t103 a0_0).size + ((⟨#[32]⟩ : ByteArray) ++ t111).size ≤ 9223372036854775807 then (some ((rdOf ByteArray.empty t103 a0_0) ++ ((⟨#[32]⟩ : ByteArray) ++ t111), 0)) else (none)) else (none))) else (some (rdOf ByteArray.empty t103 a0_0, 0)))))) else (none)) else (none))) = some (r1, r2) := by rw [if_pos rfl] at H; exact H
  clear H
  have H := H1
  clear H1
  replace H := Option.bind_eq_some_iff.mp H
  obtain ⟨t103, A40, H⟩ := H
  replace H : (if 0 ≤ a0_0 then (if a0_0 < (t103.length : Int) then ((spec_l11Uses.f a0_0).bind fun t107 => (if t107 = 2 then ((spec_l00Digits.f k a0_1).bind fun t108 => (if 1 + t108.size ≤ 9223372036854775807 then (if ((⟨#[32]⟩ : ByteArray) ++ t108).size + 1 ≤ 9223372036854775807 then ((spec_l00Digits.f k a0_2).bind fun t109 => (if (((⟨#[32]⟩ : ByteArray) ++ t108) ++ (⟨#[32]⟩ : ByteArray)).size + t109.size ≤ 9223372036854775807 then (if (rdOf ByteArray.empty t103 a0_0).size + ((((⟨#[32]⟩ : ByteArray) ++ t108) ++ (⟨#[32]⟩ : ByteArray)) ++ t109).size ≤ 9223372036854775807 then (some ((rdOf ByteArray.empty t103 a0_0) ++ ((((⟨#[32]⟩ : ByteArray) ++ t108) ++ (⟨#[32]⟩ : ByteArray)) ++ t109), 0)) else (none)) else (none))) else (none)) else (none))) else (if t107 = 1 then ((spec_l00Digits.f k a0_1).bind fun t110 => (if 1 + t110.size ≤ 9223372036854775807 then (if (rdOf ByteArray.empty t103 a0_0).size + ((⟨#[32]⟩ : ByteArray) ++ t110).size ≤ 9223372036854775807 then (some ((rdOf ByteArray.empty t103 a0_0) ++ ((⟨#[32]⟩ : ByteArray) ++ t110), 0)) else (none)) else (none))) else (if a0_0 = 3 then ((spec_l00Digits.f k a0_3).bind fun t111 => (if 1 + t111.size ≤ 9223372036854775807 then (if (rdOf ByteArray.empty t103 a0_0).size + ((⟨#[32]⟩ : ByteArray) ++ t111).size ≤ 9223372036854775807 then (some ((rdOf ByteArray.empty t103 a0_0) ++ ((⟨#[32]⟩ : ByteArray) ++ t111), 0)) else (none)) else (none))) else (some (rdOf ByteArray.empty t103 a0_0, 0)))))) else (none)) else (none)) = some (r1, r2) := H
  have A4 := am_ A40
  clear A40
  by_cases c5 : 0 ≤ a0_0
  ·
   rw [if_pos c5] at H
   have c5b0 : decide (0 ≤ a0_0) = true := decide_eq_true c5
   clear c5
   by_cases c6 : a0_0 < (t103.length : Int)
   ·
    rw [if_pos c6] at H
    have c6b0 : decide (a0_0 < (t103.length : Int)) = true := decide_eq_true c6
    clear c6
    replace H := Option.bind_eq_some_iff.mp H
    obtain ⟨t107, A70, H⟩ := H
    replace H : (if t107 = 2 then ((spec_l00Digits.f k a0_1).bind fun t108 => (if 1 + t108.size ≤ 9223372036854775807 then (if ((⟨#[32]⟩ : ByteArray) ++ t108).size + 1 ≤ 9223372036854775807 then ((spec_l00Digits.f k a0_2).bind fun t109 => (if (((⟨#[32]⟩ : ByteArray) ++ t108) ++ (⟨#[32]⟩ : ByteArray)).size + t109.size ≤ 9223372036854775807 then (if (rdOf ByteArray.empty t103 a0_0).size + ((((⟨#[32]⟩ : ByteArray) ++ t108) ++ (⟨#[32]⟩ : ByteArray)) ++ t109).size ≤ 9223372036854775807 then (some ((rdOf ByteArray.empty t103 a0_0) ++ ((((⟨#[32]⟩ : ByteArray) ++ t108) ++ (⟨#[32]⟩ : ByteArray)) ++ t109), 0)) else (none)) else (none))) else (none)) else (none))) else (if t107 = 1 then ((spec_l00Digits.f k a0_1).bind fun t110 => (if 1 + t110.size ≤ 9223372036854775807 then (if (rdOf ByteArray.empty t103 a0_0).size + ((⟨#[32]⟩ : ByteArray) ++ t110).size ≤ 9223372036854775807 then (some ((rdOf ByteArray.empty t103 a0_0) ++ ((⟨#[32]⟩ : ByteArray) ++ t110), 0)) else (none)) else (none))) else (if a0_0 = 3 then ((spec_l00Digits.f k a0_3).bind fun t111 => (if 1 + t111.size ≤ 9223372036854775807 then (if (rdOf ByteArray.empty t103 a0_0).size + ((⟨#[32]⟩ : ByteArray) ++ t111).size ≤ 9223372036854775807 then (some ((rdOf ByteArray.empty t103 a0_0) ++ ((⟨#[32]⟩ : ByteArray) ++ t111), 0)) else (none)) else (none))) else (some (rdOf ByteArray.empty t103 a0_0, 0))))) = some (r1, r2) := H
    have A7 := am_ A70
    clear A70
    by_cases c8 : t107 = 2
    ·
     rw [if_pos c8] at H
     have c8b0 : (t107 == 2) = true := beq_iff_eq.mpr c8
     have c8b1 : (t107 != 2) = false := bne_eq_false_iff_eq.mpr c8
     clear c8
     replace H := Option.bind_eq_some_iff.mp H
     obtain ⟨t108, A90, H⟩ := H
     replace H : (if 1 + t108.size ≤ 9223372036854775807 then (if ((⟨#[32]⟩ : ByteArray) ++ t108).size + 1 ≤ 9223372036854775807 then ((spec_l00Digits.f k a0_2).bind fun t109 => (if (((⟨#[32]⟩ : ByteArray) ++ t108) ++ (⟨#[32]⟩ : ByteArray)).size + t109.size ≤ 9223372036854775807 then (if (rdOf ByteArray.empty t103 a0_0).size + ((((⟨#[32]⟩ : ByteArray) ++ t108) ++ (⟨#[32]⟩ : ByteArray)) ++ t109).size ≤ 9223372036854775807 then (some ((rdOf ByteArray.empty t103 a0_0) ++ ((((⟨#[32]⟩ : ByteArray) ++ t108) ++ (⟨#[32]⟩ : ByteArray)) ++ t109), 0)) else (none)) else (none))) else (none)) else (none)) = some (r1, r2) := H
     have A9 := am_ A90
     clear A90
     by_cases c10 : 1 + t108.size ≤ 9223372036854775807
     ·
      rw [if_pos c10] at H
      have c10b0 := eq_true c10
      have c10b1 : decide (1 + t108.size ≤ 9223372036854775807) = true := decide_eq_true c10
      try have c10b2 : (9223372036854775807 < 1 + t108.size) = False := eq_false (Nat.not_lt.2 c10)
      by_cases c11 : ((⟨#[32]⟩ : ByteArray) ++ t108).size + 1 ≤ 9223372036854775807
      ·
       rw [if_pos c11] at H
       have c11b0 := eq_true c11
       have c11b1 : decide (((⟨#[32]⟩ : ByteArray) ++ t108).size + 1 ≤ 9223372036854775807) = true := decide_eq_true c11
       try have c11b2 : (9223372036854775807 < ((⟨#[32]⟩ : ByteArray) ++ t108).size + 1) = False := eq_false (Nat.not_lt.2 c11)
       try (have c11b2s := c11b2; simp only [ByteArray.size_append, show (⟨#[32]⟩ : ByteArray).size = 1 from rfl] at c11b2s)
       try have c11b3 : (9223372036854775807 < 1 + t108.size + 1) = False := eq_false (Nat.not_lt.2 (by have h_ := c11; simp only [ByteArray.size_append] at h_; exact h_))
       replace H := Option.bind_eq_some_iff.mp H
       obtain ⟨t109, A120, H⟩ := H
       replace H : (if (((⟨#[32]⟩ : ByteArray) ++ t108) ++ (⟨#[32]⟩ : ByteArray)).size + t109.size ≤ 9223372036854775807 then (if (rdOf ByteArray.empty t103 a0_0).size + ((((⟨#[32]⟩ : ByteArray) ++ t108) ++ (⟨#[32]⟩ : ByteArray)) ++ t109).size ≤ 9223372036854775807 then (some ((rdOf ByteArray.empty t103 a0_0) ++ ((((⟨#[32]⟩ : ByteArray) ++ t108) ++ (⟨#[32]⟩ : ByteArray)) ++ t109), 0)) else (none)) else (none)) = some (r1, r2) := H
       have A12 := am_ A120
       clear A120
       by_cases c13 : (((⟨#[32]⟩ : ByteArray) ++ t108) ++ (⟨#[32]⟩ : ByteArray)).size + t109.size ≤ 9223372036854775807
       ·
        rw [if_pos c13] at H
        have c13b0 := eq_true c13
        have c13b1 : decide ((((⟨#[32]⟩ : ByteArray) ++ t108) ++ (⟨#[32]⟩ : ByteArray)).size + t109.size ≤ 9223372036854775807) = true := decide_eq_true c13
        try have c13b2 : (9223372036854775807 < (((⟨#[32]⟩ : ByteArray) ++ t108) ++ (⟨#[32]⟩ : ByteArray)).size + t109.size) = False := eq_false (Nat.not_lt.2 c13)
        try (have c13b2s := c13b2; simp only [ByteArray.size_append, show (⟨#[32]⟩ : ByteArray).size = 1 from rfl] at c13b2s)
        try have c13b3 : (9223372036854775807 < 1 + t108.size + 1 + t109.size) = False := eq_false (Nat.not_lt.2 (by have h_ := c13; simp only [ByteArray.size_append] at h_; exact h_))
        by_cases c14 : (rdOf ByteArray.empty t103 a0_0).size + ((((⟨#[32]⟩ : ByteArray) ++ t108) ++ (⟨#[32]⟩ : ByteArray)) ++ t109).size ≤ 9223372036854775807
        ·
         rw [if_pos c14] at H
         have c14b0 := eq_true c14
         have c14b1 : decide ((rdOf ByteArray.empty t103 a0_0).size + ((((⟨#[32]⟩ : ByteArray) ++ t108) ++ (⟨#[32]⟩ : ByteArray)) ++ t109).size ≤ 9223372036854775807) = true := decide_eq_true c14
         try have c14b2 : (9223372036854775807 < (rdOf ByteArray.empty t103 a0_0).size + ((((⟨#[32]⟩ : ByteArray) ++ t108) ++ (⟨#[32]⟩ : ByteArray)) ++ t109).size) = False := eq_false (Nat.not_lt.2 c14)
         try (have c14b2s := c14b2; simp only [ByteArray.size_append, show (⟨#[32]⟩ : ByteArray).size = 1 from rfl] at c14b2s)
         try have c14b3 : (9223372036854775807 < (rdOf ByteArray.empty t103 a0_0).size + (1 + t108.size + 1 + t109.size)) = False := eq_false (Nat.not_lt.2 (by have h_ := c14; simp only [ByteArray.size_append] at h_; exact h_))
         simp only [Option.some.injEq, Prod.mk.injEq] at H
         obtain ⟨rfl, rfl⟩ := H
         go_enter Tryd.func7, Tryd.ntmps7
         try go_wp2_with (first | ((with_reducible refine gate_dst (N := 1) rfl ?_); refine box_event ?hg (N := 1) ?hd (cs := #[.int .i64 a0_0, .int .i64 a0_1, .int .i64 a0_2, .int .i64 a0_3]) (t := 30) ?hr ?_; (case hd => rfl); (case hg => rfl); (case hr => first | (go_simp; done) | (go_simp; rfl)); intro gb101 hg w15 hbox hb; have n0_ := am_ (below_step qz3_ hb); have n1_ := am_ (hbox); have n2_ := am_ ((by rw [hg]; exact (below_size qz3_) : w.heap.size ≤ gb101)); have n3_ := am_ ((by rw [hg]; exact (below_size qz3_) : w.heap.size ≤ gb101)); clear HB; have HB := n0_; have BK101 := n1_; have GW101 := n2_; have GE101 := n3_; clear n0_ n1_ n2_ n3_; clear hb hbox hg; have hcz16_0 : w15.cell? ⟨gb101, 0, none⟩ = some (.int .i64 a0_0) := (blk_cell BK101.out 0).trans rfl; have hcz16_1 : w15.cell? ⟨gb101, 1, none⟩ = some (.int .i64 a0_1) := (blk_cell BK101.out 1).trans rfl; have hcz16_2 : w15.cell? ⟨gb101, 2, none⟩ = some (.int .i64 a0_2) := (blk_cell BK101.out 2).trans rfl; have hcz16_3 : w15.cell? ⟨gb101, 3, none⟩ = some (.int .i64 a0_3) := (blk_cell BK101.out 3).trans rfl; have hfz16_0 := blk_frozen BK101.out 0; have hfz16_1 := blk_frozen BK101.out 1; have hfz16_2 := blk_frozen BK101.out 2; have hfz16_3 := blk_frozen BK101.out 3) | ((with_reducible refine gate_callee (f := 17) rfl ?_); refine goesL_ (some 6) rfl rfl Tryd.func17 (by kernel_rfl) rfl #[.agg #[.int .i64 a0_0, .int .i64 a0_1, .int .i64 a0_2, .int .i64 a0_3], .int .i64 15] rfl qz2_ ?_; (with_reducible refine (spec_l11Gate.calls k a0_0 a0_1 a0_2 a0_3 15 true _ A2.out).mono ?_); rintro e w17 ⟨rfl, hb⟩; refine ⟨_, rfl, ?_⟩; have n0_ := am_ (blk_below (g := gb101) (o := .cells #[.int .i64 a0_0, .int .i64 a0_1, .int .i64 a0_2, .int .i64 a0_3] 30 (0, 0)) qz4_ hb); have n1_ := am_ (below_step qz9_ hb); clear BK101; clear HB; have BK101 := n0_; have HB := n1_; clear n0_ n1_; (try clear hb); (try clear hb2); (try clear hk); (try clear hi)))
         have n0_ := am_ (blk_drew BK101.out)
         have n1_ := am_ (below_drew1 HB.out)
         clear BK101
         clear HB
         have BK101 := n0_
         have HB := n1_
         clear n0_ n1_
         refine start_ (n := 6) (S := fun w' => w'.cell? ⟨gb101, 0, none⟩ = some (.int .i64 a0_0) ∧ w'.cell? ⟨gb101, 1, none⟩ = some (.int .i64 a0_1) ∧ w'.cell? ⟨gb101, 2, none⟩ = some (.int .i64 a0_2) ∧ w'.cell? ⟨gb101, 3, none⟩ = some (.int .i64 a0_3)) (ds := []) #[false, false, false, false, false, false] (by kernel_rfl) rfl rfl ⟨(blk_cell BK101.out 0).trans rfl, (blk_cell BK101.out 1).trans rfl, (blk_cell BK101.out 2).trans rfl, (blk_cell BK101.out 3).trans rfl⟩ (fun hHeld => ?_)
         generalize w17.drew = w18 at BK101 HB hHeld ⊢
         refine pure_ (i := 1) (N := some 9) (v := ?_) (a' := ?_) #[false, true, false, false, false, false] rfl rfl (by kernel_rfl) (fun _ _ _ h => h) (Or.inl ⟨(by rfl), ?_⟩) ?_ ?_
         rotate_left
         ·
          intro w'
          go_simp
          with_reducible rfl
         rotate_left
         ·
          exact ap_
         refine take_ (i := 2) (N := some 10) (v := ?_) (a' := ?_) #[false, true, true, false, false, false] rfl rfl (by kernel_rfl) (fun _ _ _ h => h) (Or.inl ⟨(by rfl), ?_⟩) hHeld ?_ ?_
         rotate_left
         ·
          rintro w' ⟨s0, s1, s2, s3⟩
          go_simp
          with_reducible rfl
         rotate_left
         ·
          exact ap_
         refine one_ (i := 0) (N := some 8) #[true, true, true, false, false, false] rfl rfl (by kernel_rfl) (by decide) (fun K hK => ?_)
         refine goes_ Tryd.func18 (by kernel_rfl) rfl #[] (by rfl) rfl rfl qz2_ ?_
         with_reducible refine (spec_l11Names.calls  t103 _ A4.out).mono ?_
         rintro e w19 ⟨v104, rfl, ho0, hb⟩
         refine ⟨_, rfl, ?_⟩
         have n0_ := am_ (Kd.R_lower ho0 (below_size qz9_))
         have n1_ := am_ (blk_below (g := gb101) (o := .cells #[.int .i64 a0_0, .int .i64 a0_1, .int .i64 a0_2, .int .i64 a0_3] 30 (0, 0)) qz4_ hb)
         have n2_ := am_ (below_step qz9_ hb)
         clear BK101
         clear HB
         have HO105 := n0_
         have BK101 := n1_
         have HB := n2_
         clear n0_ n1_ n2_
         (try clear hb)
         (try clear hb2)
         (try clear hk)
         (try clear hi)
         (try clear ho0)
         obtain ⟨Ao20, co20, eo20⟩ := Kd.R_slice HO105.out
         (first | subst eo20 | (injection eo20 with f1_ f2_ f3_; have f4_ := f1_.symm; have f5_ := f3_.symm; clear f1_ f2_ f3_; subst f4_; subst f5_))
         have p106 : 0 ≤ (a0_0 : Int) := of_decide_eq_true qz11_
         have q106 : a0_0 < (t103.length : Int) := of_decide_eq_true qz11_
         obtain ⟨ad106, e106, hx106_0⟩ := Kd.at_string (Kd.R_reads' HO105.out).2.2 a0_0 p106 q106
         cases e106
         replace p106 := eq_true p106
         replace q106 := eq_true q106
         refine hK.out _ _ ⟨(blk_cell BK101.out 0).trans rfl, (blk_cell BK101.out 1).trans rfl, (blk_cell BK101.out 2).trans rfl, (blk_cell BK101.out 3).trans rfl⟩ (fun hHeld => ?_)
         clear hK K
         refine norm_ (a' := ?_) ?_ ?_
         rotate_left
         ·
          show Act.put _ (some 8) _ = _
          exact ap_
         refine pure_ (i := 3) (N := some 11) (v := ?_) (a' := ?_) #[true, true, true, true, false, false] rfl rfl (by kernel_rfl) (fun _ _ _ h => h) (Or.inl ⟨(by rfl), ?_⟩) ?_ ?_
         rotate_left
         ·
          intro w'
          go_simp
          with_reducible rfl
         rotate_left
         ·
          exact ap_
         refine one_ (i := 4) (N := some 12) #[true, true, true, true, true, false] rfl rfl (by kernel_rfl) (by decide) (fun K hK => ?_)
         refine value_ (w1 := ?_) (v := ?_) (by rfl) rfl ?_ ?_
         rotate_left 2
         ·
          go_simp
          constructor
          ·
           rfl
          ·
           rfl
         refine hK.out _ _ hHeld (fun hHeld => ?_)
         clear hK K
         refine norm_ (a' := ?_) ?_ ?_
         rotate_left
         ·
          show Act.put _ (some 12) _ = _
          exact ap_
         refine pure_ (i := 5) (N := some 4) (v := ?_) (a' := ?_) #[true, true, true, true, true, true] rfl rfl (by kernel_rfl) (fun _ _ _ h => h) (Or.inl ⟨(by rfl), ?_⟩) ?_ ?_
         rotate_left
         ·
          intro w'
          go_simp
          with_reducible rfl
         rotate_left
         ·
          exact ap_
         refine done_ (by kernel_rfl) ?_
         have hcz21_0 : w19.cell? ⟨gb101, 0, none⟩ = some (.int .i64 a0_0) := (blk_cell BK101.out 0).trans rfl
         have hcz21_1 : w19.cell? ⟨gb101, 1, none⟩ = some (.int .i64 a0_1) := (blk_cell BK101.out 1).trans rfl
         have hcz21_2 : w19.cell? ⟨gb101, 2, none⟩ = some (.int .i64 a0_2) := (blk_cell BK101.out 2).trans rfl
         have hcz21_3 : w19.cell? ⟨gb101, 3, none⟩ = some (.int .i64 a0_3) := (blk_cell BK101.out 3).trans rfl
         have hfz21_0 := blk_frozen BK101.out 0
         have hfz21_1 := blk_frozen BK101.out 1
         have hfz21_2 := blk_frozen BK101.out 2
         have hfz21_3 := blk_frozen BK101.out 3
         try go_wp2_with (first | ((with_reducible refine gate_callee (f := 19) rfl ?_); refine goesL_ (some 15) rfl rfl Tryd.func19 (by kernel_rfl) rfl #[.int .i64 a0_0] rfl qz2_ ?_; (with_reducible refine (spec_l11Uses.calls a0_0 t107 _ A7.out).mono ?_); rintro e w' ⟨rfl, ⟨nd, rfl⟩⟩; refine ⟨_, rfl, ?_⟩))
         (try (rw [drewN_self w19]; generalize hq_ : World.drewN w19 _ = w19; have n0_ : Aside0 (Kd.R Kd.string 9 w19 w.heap.size (fun _ => True) (.slice (some ad106) t103.length co20) t103) := ⟨(by rw [← hq_]; exact (by (with_reducible repeat (first | apply Kd.R_alloc | apply Kd.R_drewN | apply Kd.R_drew)); exact HO105.out))⟩; have n1_ : Aside0 (w19.heap[gb101]? = some (.cells #[.int .i64 a0_0, .int .i64 a0_1, .int .i64 a0_2, .int .i64 a0_3] 30 (0, 0))) := ⟨(by rw [← hq_]; exact qz4_)⟩; have n2_ : Aside0 (Below w.heap.size w w19) := ⟨(by rw [← hq_]; exact qz9_)⟩; clear HO105 BK101 HB hq_; have HO105 := n0_; have BK101 := n1_; have HB := n2_; clear n0_ n1_ n2_))
         have n0_ := am_ (Kd.R_drew HO105.out)
         have n1_ := am_ (blk_drew BK101.out)
         have n2_ := am_ (below_drew1 HB.out)
         clear HO105
         clear BK101
         clear HB
         have HO105 := n0_
         have BK101 := n1_
         have HB := n2_
         clear n0_ n1_ n2_
         refine start_ (n := 12) (S := fun w' => w'.cell? ⟨gb101, 0, none⟩ = some (.int .i64 a0_0) ∧ w'.cell? ⟨gb101, 1, none⟩ = some (.int .i64 a0_1) ∧ w'.cell? ⟨gb101, 2, none⟩ = some (.int .i64 a0_2) ∧ w'.cell? ⟨gb101, 3, none⟩ = some (.int .i64 a0_3)) (ds := []) #[false, false, false, false, false, false, false, false, false, false, false, false] (by kernel_rfl) rfl rfl ⟨(blk_cell BK101.out 0).trans rfl, (blk_cell BK101.out 1).trans rfl, (blk_cell BK101.out 2).trans rfl, (blk_cell BK101.out 3).trans rfl⟩ (fun hHeld => ?_); refine with_tabW spec_GateText.tab8 spec_GateText.bits8 (fun HT_ HW_ => ?_)
         generalize w19.drew = w22 at HO105 BK101 HB hHeld ⊢
         refine pure_ (i := 0) (N := some 27) (v := ?_) (a' := ?_) #[true, false, false, false, false, false, false, false, false, false, false, false] rfl rfl (any_of HT_.out (by kernel_rfl)) (fun _ _ _ h => h) (Or.inl ⟨(by rfl), ?_⟩) ?_ ?_
         rotate_left
         ·
          intro w'
          go_simp
          with_reducible rfl
         rotate_left
         ·
          exact ap_
         refine pure_ (i := 1) (N := some 28) (v := ?_) (a' := ?_) #[true, true, false, false, false, false, false, false, false, false, false, false] rfl rfl (any_of HT_.out (by kernel_rfl)) (fun _ _ _ h => h) (Or.inl ⟨(by rfl), ?_⟩) ?_ ?_
         rotate_left
         ·
          intro w'
          go_simp
          with_reducible rfl
         rotate_left
         ·
          exact ap_
         refine pure_ (i := 6) (N := some 33) (v := ?_) (a' := ?_) #[true, true, false, false, false, false, true, false, false, false, false, false] rfl rfl (any_of HT_.out (by kernel_rfl)) (fun _ _ _ h => h) (Or.inl ⟨(by rfl), ?_⟩) ?_ ?_
         rotate_left
         ·
          intro w'
          go_simp
          with_reducible rfl
         rotate_left
         ·
          exact ap_
         refine take_ (i := 2) (N := some 29) (v := ?_) (a' := ?_) #[true, true, true, false, false, false, true, false, false, false, false, false] rfl rfl (take_ofW HT_.out HW_.out (by kernel_rfl)) (fun _ _ _ h => h) (Or.inl ⟨(by rfl), ?_⟩) hHeld ?_ ?_
         rotate_left
         ·
          rintro w' ⟨s0, s1, s2, s3⟩
          go_simp
          with_reducible rfl
         rotate_left
         ·
          exact ap_
         refine take_ (i := 7) (N := some 34) (v := ?_) (a' := ?_) #[true, true, true, false, false, false, true, true, false, false, false, false] rfl rfl (take_ofW HT_.out HW_.out (by kernel_rfl)) (fun _ _ _ h => h) (Or.inl ⟨(by rfl), ?_⟩) hHeld ?_ ?_
         rotate_left
         ·
          rintro w' ⟨s0, s1, s2, s3⟩
          go_simp
          with_reducible rfl
         rotate_left
         ·
          exact ap_
         refine one_ (i := 3) (N := some 30) #[true, true, true, true, false, false, true, true, false, false, false, false] rfl rfl (one_of HT_.out (by kernel_rfl)) (by decide) (fun K hK => ?_)
         refine goes_ Tryd.func20 (by kernel_rfl) rfl #[.int .i64 a0_1] (by rfl) rfl rfl qz2_ ?_
         with_reducible refine (spec_l00Digits.calls k a0_1 t108 _ A9.out).mono ?_
         rintro e w23 ⟨rfl, hb⟩
         refine ⟨_, rfl, ?_⟩
         have n0_ := am_ (Kd.R_below (by (with_reducible repeat (first | apply Kd.R_alloc | apply Kd.R_drewN | apply Kd.R_drew)); exact HO105.out) hb)
         have n1_ := am_ (blk_below (g := gb101) (o := .cells #[.int .i64 a0_0, .int .i64 a0_1, .int .i64 a0_2, .int .i64 a0_3] 30 (0, 0)) qz4_ hb)
         have n2_ := am_ (below_step qz9_ hb)
         clear HO105
         clear BK101
         clear HB
         have HO105 := n0_
         have BK101 := n1_
         have HB := n2_
         clear n0_ n1_ n2_
         (try clear hb)
         (try clear hb2)
         (try clear hk)
         (try clear hi)
         refine hK.out _ _ ⟨(blk_cell BK101.out 0).trans rfl, (blk_cell BK101.out 1).trans rfl, (blk_cell BK101.out 2).trans rfl, (blk_cell BK101.out 3).trans rfl⟩ (fun hHeld => ?_)
         clear hK K
         refine norm_ (a' := ?_) ?_ ?_
         rotate_left
         ·
          show Act.put _ (some 30) _ = _
          exact ap_
         refine pure_ (i := 4) (N := some 31) (v := ?_) (a' := ?_) #[true, true, true, true, true, false, true, true, false, false, false, false] rfl rfl (any_of HT_.out (by kernel_rfl)) (fun _ _ _ h => h) (Or.inl ⟨(by rfl), ?_⟩) ?_ ?_
         rotate_left
         ·
          intro w'
          go_simp
          with_reducible rfl
         rotate_left
         ·
          exact ap_
         refine pure_ (i := 5) (N := some 32) (v := ?_) (a' := ?_) #[true, true, true, true, true, true, true, true, false, false, false, false] rfl rfl (any_of HT_.out (by kernel_rfl)) (fun _ _ _ h => h) (Or.inl ⟨(by rfl), ?_⟩) ?_ ?_
         rotate_left
         ·
          intro w'
          go_simp
          with_reducible rfl
         rotate_left
         ·
          exact ap_
         refine one_ (i := 8) (N := some 35) #[true, true, true, true, true, true, true, true, true, false, false, false] rfl rfl (one_of HT_.out (by kernel_rfl)) (by decide) (fun K hK => ?_)
         refine goes_ Tryd.func20 (by kernel_rfl) rfl #[.int .i64 a0_2] (by rfl) rfl rfl qz2_ ?_
         with_reducible refine (spec_l00Digits.calls k a0_2 t109 _ A12.out).mono ?_
         rintro e w24 ⟨rfl, hb⟩
         refine ⟨_, rfl, ?_⟩
         have n0_ := am_ (Kd.R_below (by (with_reducible repeat (first | apply Kd.R_alloc | apply Kd.R_drewN | apply Kd.R_drew)); exact HO105.out) hb)
         have n1_ := am_ (blk_below (g := gb101) (o := .cells #[.int .i64 a0_0, .int .i64 a0_1, .int .i64 a0_2, .int .i64 a0_3] 30 (0, 0)) qz4_ hb)
         have n2_ := am_ (below_step qz9_ hb)
         clear HO105
         clear BK101
         clear HB
         have HO105 := n0_
         have BK101 := n1_
         have HB := n2_
         clear n0_ n1_ n2_
         (try clear hb)
         (try clear hb2)
         (try clear hk)
         (try clear hi)
         refine hK.out _ _ ⟨(blk_cell BK101.out 0).trans rfl, (blk_cell BK101.out 1).trans rfl, (blk_cell BK101.out 2).trans rfl, (blk_cell BK101.out 3).trans rfl⟩ (fun hHeld => ?_)
         clear hK K
         refine norm_ (a' := ?_) ?_ ?_
         rotate_left
         ·
          show Act.put _ (some 35) _ = _
          exact ap_
         refine pure_ (i := 9) (N := some 36) (v := ?_) (a' := ?_) #[true, true, true, true, true, true, true, true, true, true, false, false] rfl rfl (any_of HT_.out (by kernel_rfl)) (fun _ _ _ h => h) (Or.inl ⟨(by rfl), ?_⟩) ?_ ?_
         rotate_left
         ·
          intro w'
          go_simp
          with_reducible rfl
         rotate_left
         ·
          exact ap_
         refine pure_ (i := 10) (N := some 37) (v := ?_) (a' := ?_) #[true, true, true, true, true, true, true, true, true, true, true, false] rfl rfl (any_of HT_.out (by kernel_rfl)) (fun _ _ _ h => h) (Or.inl ⟨(by rfl), ?_⟩) ?_ ?_
         rotate_left
         ·
          intro w'
          go_simp
          with_reducible rfl
         rotate_left
         ·
          exact ap_
         refine pure_ (i := 11) (N := some 4) (v := ?_) (a' := ?_) #[true, true, true, true, true, true, true, true, true, true, true, true] rfl rfl (any_of HT_.out (by kernel_rfl)) (fun _ _ _ h => h) (Or.inl ⟨(by rfl), ?_⟩) ?_ ?_
         rotate_left
         ·
          intro w'
          go_simp
          with_reducible rfl
         rotate_left
         ·
          exact ap_
         refine done_ (done_of HT_.out (by kernel_rfl)) ?_
         try go_wp2
         go_ret2
         exact ⟨qz5_, qz9_⟩
        ·
         rw [if_neg c14] at H
         exact absurd H (by simp)
       ·
        rw [if_neg c13] at H
        exact absurd H (by simp)
      ·
       rw [if_neg c11] at H
       exact absurd H (by simp)
     ·
      rw [if_neg c10] at H
      exact absurd H (by simp)
    ·
     rw [if_neg c8] at H
     have c8b0 : (t107 == 2) = false := beq_eq_false_iff_ne.mpr c8
     have c8b1 : (t107 != 2) = true := bne_iff_ne.mpr c8
     by_cases c25 : t107 = 1
     ·
      rw [if_pos c25] at H
      have c25b0 : (t107 == 1) = true := beq_iff_eq.mpr c25
      have c25b1 : (t107 != 1) = false := bne_eq_false_iff_eq.mpr c25
      clear c25
      replace H := Option.bind_eq_some_iff.mp H
      obtain ⟨t110, A260, H⟩ := H
      replace H : (if 1 + t110.size ≤ 9223372036854775807 then (if (rdOf ByteArray.empty t103 a0_0).size + ((⟨#[32]⟩ : ByteArray) ++ t110).size ≤ 9223372036854775807 then (some ((rdOf ByteArray.empty t103 a0_0) ++ ((⟨#[32]⟩ : ByteArray) ++ t110), 0)) else (none)) else (none)) = some (r1, r2) := H
      have A26 := am_ A260
      clear A260
      by_cases c27 : 1 + t110.size ≤ 9223372036854775807
      ·
       rw [if_pos c27] at H
       have c27b0 := eq_true c27
       have c27b1 : decide (1 + t110.size ≤ 9223372036854775807) = true := decide_eq_true c27
       try have c27b2 : (9223372036854775807 < 1 + t110.size) = False := eq_false (Nat.not_lt.2 c27)
       by_cases c28 : (rdOf ByteArray.empty t103 a0_0).size + ((⟨#[32]⟩ : ByteArray) ++ t110).size ≤ 9223372036854775807
       ·
        rw [if_pos c28] at H
        have c28b0 := eq_true c28
        have c28b1 : decide ((rdOf ByteArray.empty t103 a0_0).size + ((⟨#[32]⟩ : ByteArray) ++ t110).size ≤ 9223372036854775807) = true := decide_eq_true c28
        try have c28b2 : (9223372036854775807 < (rdOf ByteArray.empty t103 a0_0).size + ((⟨#[32]⟩ : ByteArray) ++ t110).size) = False := eq_false (Nat.not_lt.2 c28)
        try (have c28b2s := c28b2; simp only [ByteArray.size_append, show (⟨#[32]⟩ : ByteArray).size = 1 from rfl] at c28b2s)
        try have c28b3 : (9223372036854775807 < (rdOf ByteArray.empty t103 a0_0).size + (1 + t110.size)) = False := eq_false (Nat.not_lt.2 (by have h_ := c28; simp only [ByteArray.size_append] at h_; exact h_))
        simp only [Option.some.injEq, Prod.mk.injEq] at H
        obtain ⟨rfl, rfl⟩ := H
        go_enter Tryd.func7, Tryd.ntmps7
        try go_wp2_with (first | ((with_reducible refine gate_dst (N := 1) rfl ?_); refine box_event ?hg (N := 1) ?hd (cs := #[.int .i64 a0_0, .int .i64 a0_1, .int .i64 a0_2, .int .i64 a0_3]) (t := 30) ?hr ?_; (case hd => rfl); (case hg => rfl); (case hr => first | (go_simp; done) | (go_simp; rfl)); intro gb101 hg w29 hbox hb; have n0_ := am_ (below_step qz3_ hb); have n1_ := am_ (hbox); have n2_ := am_ ((by rw [hg]; exact (below_size qz3_) : w.heap.size ≤ gb101)); have n3_ := am_ ((by rw [hg]; exact (below_size qz3_) : w.heap.size ≤ gb101)); clear HB; have HB := n0_; have BK101 := n1_; have GW101 := n2_; have GE101 := n3_; clear n0_ n1_ n2_ n3_; clear hb hbox hg; have hcz30_0 : w29.cell? ⟨gb101, 0, none⟩ = some (.int .i64 a0_0) := (blk_cell BK101.out 0).trans rfl; have hcz30_1 : w29.cell? ⟨gb101, 1, none⟩ = some (.int .i64 a0_1) := (blk_cell BK101.out 1).trans rfl; have hcz30_2 : w29.cell? ⟨gb101, 2, none⟩ = some (.int .i64 a0_2) := (blk_cell BK101.out 2).trans rfl; have hcz30_3 : w29.cell? ⟨gb101, 3, none⟩ = some (.int .i64 a0_3) := (blk_cell BK101.out 3).trans rfl; have hfz30_0 := blk_frozen BK101.out 0; have hfz30_1 := blk_frozen BK101.out 1; have hfz30_2 := blk_frozen BK101.out 2; have hfz30_3 := blk_frozen BK101.out 3) | ((with_reducible refine gate_callee (f := 17) rfl ?_); refine goesL_ (some 6) rfl rfl Tryd.func17 (by kernel_rfl) rfl #[.agg #[.int .i64 a0_0, .int .i64 a0_1, .int .i64 a0_2, .int .i64 a0_3], .int .i64 15] rfl qz2_ ?_; (with_reducible refine (spec_l11Gate.calls k a0_0 a0_1 a0_2 a0_3 15 true _ A2.out).mono ?_); rintro e w31 ⟨rfl, hb⟩; refine ⟨_, rfl, ?_⟩; have n0_ := am_ (blk_below (g := gb101) (o := .cells #[.int .i64 a0_0, .int .i64 a0_1, .int .i64 a0_2, .int .i64 a0_3] 30 (0, 0)) qz4_ hb); have n1_ := am_ (below_step qz9_ hb); clear BK101; clear HB; have BK101 := n0_; have HB := n1_; clear n0_ n1_; (try clear hb); (try clear hb2); (try clear hk); (try clear hi)))
        have n0_ := am_ (blk_drew BK101.out)
        have n1_ := am_ (below_drew1 HB.out)
        clear BK101
        clear HB
        have BK101 := n0_
        have HB := n1_
        clear n0_ n1_
        refine start_ (n := 6) (S := fun w' => w'.cell? ⟨gb101, 0, none⟩ = some (.int .i64 a0_0) ∧ w'.cell? ⟨gb101, 1, none⟩ = some (.int .i64 a0_1) ∧ w'.cell? ⟨gb101, 2, none⟩ = some (.int .i64 a0_2) ∧ w'.cell? ⟨gb101, 3, none⟩ = some (.int .i64 a0_3)) (ds := []) #[false, false, false, false, false, false] (by kernel_rfl) rfl rfl ⟨(blk_cell BK101.out 0).trans rfl, (blk_cell BK101.out 1).trans rfl, (blk_cell BK101.out 2).trans rfl, (blk_cell BK101.out 3).trans rfl⟩ (fun hHeld => ?_)
        generalize w31.drew = w32 at BK101 HB hHeld ⊢
        refine pure_ (i := 1) (N := some 9) (v := ?_) (a' := ?_) #[false, true, false, false, false, false] rfl rfl (by kernel_rfl) (fun _ _ _ h => h) (Or.inl ⟨(by rfl), ?_⟩) ?_ ?_
        rotate_left
        ·
         intro w'
         go_simp
         with_reducible rfl
        rotate_left
        ·
         exact ap_
        refine take_ (i := 2) (N := some 10) (v := ?_) (a' := ?_) #[false, true, true, false, false, false] rfl rfl (by kernel_rfl) (fun _ _ _ h => h) (Or.inl ⟨(by rfl), ?_⟩) hHeld ?_ ?_
        rotate_left
        ·
         rintro w' ⟨s0, s1, s2, s3⟩
         go_simp
         with_reducible rfl
        rotate_left
        ·
         exact ap_
        refine one_ (i := 0) (N := some 8) #[true, true, true, false, false, false] rfl rfl (by kernel_rfl) (by decide) (fun K hK => ?_)
        refine goes_ Tryd.func18 (by kernel_rfl) rfl #[] (by rfl) rfl rfl qz2_ ?_
        with_reducible refine (spec_l11Names.calls  t103 _ A4.out).mono ?_
        rintro e w33 ⟨v104, rfl, ho0, hb⟩
        refine ⟨_, rfl, ?_⟩
        have n0_ := am_ (Kd.R_lower ho0 (below_size qz9_))
        have n1_ := am_ (blk_below (g := gb101) (o := .cells #[.int .i64 a0_0, .int .i64 a0_1, .int .i64 a0_2, .int .i64 a0_3] 30 (0, 0)) qz4_ hb)
        have n2_ := am_ (below_step qz9_ hb)
        clear BK101
        clear HB
        have HO105 := n0_
        have BK101 := n1_
        have HB := n2_
        clear n0_ n1_ n2_
        (try clear hb)
        (try clear hb2)
        (try clear hk)
        (try clear hi)
        (try clear ho0)
        obtain ⟨Ao34, co34, eo34⟩ := Kd.R_slice HO105.out
        (first | subst eo34 | (injection eo34 with f1_ f2_ f3_; have f4_ := f1_.symm; have f5_ := f3_.symm; clear f1_ f2_ f3_; subst f4_; subst f5_))
        have p106 : 0 ≤ (a0_0 : Int) := of_decide_eq_true qz11_
        have q106 : a0_0 < (t103.length : Int) := of_decide_eq_true qz11_
        obtain ⟨ad106, e106, hx106_0⟩ := Kd.at_string (Kd.R_reads' HO105.out).2.2 a0_0 p106 q106
        cases e106
        replace p106 := eq_true p106
        replace q106 := eq_true q106
        refine hK.out _ _ ⟨(blk_cell BK101.out 0).trans rfl, (blk_cell BK101.out 1).trans rfl, (blk_cell BK101.out 2).trans rfl, (blk_cell BK101.out 3).trans rfl⟩ (fun hHeld => ?_)
        clear hK K
        refine norm_ (a' := ?_) ?_ ?_
        rotate_left
        ·
         show Act.put _ (some 8) _ = _
         exact ap_
        refine pure_ (i := 3) (N := some 11) (v := ?_) (a' := ?_) #[true, true, true, true, false, false] rfl rfl (by kernel_rfl) (fun _ _ _ h => h) (Or.inl ⟨(by rfl), ?_⟩) ?_ ?_
        rotate_left
        ·
         intro w'
         go_simp
         with_reducible rfl
        rotate_left
        ·
         exact ap_
        refine one_ (i := 4) (N := some 12) #[true, true, true, true, true, false] rfl rfl (by kernel_rfl) (by decide) (fun K hK => ?_)
        refine value_ (w1 := ?_) (v := ?_) (by rfl) rfl ?_ ?_
        rotate_left 2
        ·
         go_simp
         constructor
         ·
          rfl
         ·
          rfl
        refine hK.out _ _ hHeld (fun hHeld => ?_)
        clear hK K
        refine norm_ (a' := ?_) ?_ ?_
        rotate_left
        ·
         show Act.put _ (some 12) _ = _
         exact ap_
        refine pure_ (i := 5) (N := some 4) (v := ?_) (a' := ?_) #[true, true, true, true, true, true] rfl rfl (by kernel_rfl) (fun _ _ _ h => h) (Or.inl ⟨(by rfl), ?_⟩) ?_ ?_
        rotate_left
        ·
         intro w'
         go_simp
         with_reducible rfl
        rotate_left
        ·
         exact ap_
        refine done_ (by kernel_rfl) ?_
        have hcz35_0 : w33.cell? ⟨gb101, 0, none⟩ = some (.int .i64 a0_0) := (blk_cell BK101.out 0).trans rfl
        have hcz35_1 : w33.cell? ⟨gb101, 1, none⟩ = some (.int .i64 a0_1) := (blk_cell BK101.out 1).trans rfl
        have hcz35_2 : w33.cell? ⟨gb101, 2, none⟩ = some (.int .i64 a0_2) := (blk_cell BK101.out 2).trans rfl
        have hcz35_3 : w33.cell? ⟨gb101, 3, none⟩ = some (.int .i64 a0_3) := (blk_cell BK101.out 3).trans rfl
        have hfz35_0 := blk_frozen BK101.out 0
        have hfz35_1 := blk_frozen BK101.out 1
        have hfz35_2 := blk_frozen BK101.out 2
        have hfz35_3 := blk_frozen BK101.out 3
        try go_wp2_with (first | ((with_reducible refine gate_callee (f := 19) rfl ?_); refine goesL_ (some 15) rfl rfl Tryd.func19 (by kernel_rfl) rfl #[.int .i64 a0_0] rfl qz2_ ?_; (with_reducible refine (spec_l11Uses.calls a0_0 t107 _ A7.out).mono ?_); rintro e w' ⟨rfl, ⟨nd, rfl⟩⟩; refine ⟨_, rfl, ?_⟩) | ((with_reducible refine gate_callee (f := 20) rfl ?_); refine goesL_ (some 43) rfl rfl Tryd.func20 (by kernel_rfl) rfl #[.int .i64 a0_1] rfl qz2_ ?_; (with_reducible refine (spec_l00Digits.calls k a0_1 t110 _ A26.out).mono ?_); rintro e w36 ⟨rfl, hb⟩; refine ⟨_, rfl, ?_⟩; have n0_ := am_ (Kd.R_below (by (with_reducible repeat (first | apply Kd.R_alloc | apply Kd.R_drewN | apply Kd.R_drew)); exact HO105.out) hb); have n1_ := am_ (blk_below (g := gb101) (o := .cells #[.int .i64 a0_0, .int .i64 a0_1, .int .i64 a0_2, .int .i64 a0_3] 30 (0, 0)) qz4_ hb); have n2_ := am_ (below_step qz9_ hb); clear HO105; clear BK101; clear HB; have HO105 := n0_; have BK101 := n1_; have HB := n2_; clear n0_ n1_ n2_; (try clear hb); (try clear hb2); (try clear hk); (try clear hi)))
        go_ret2
        exact ⟨qz5_, qz9_⟩
       ·
        rw [if_neg c28] at H
        exact absurd H (by simp)
      ·
       rw [if_neg c27] at H
       exact absurd H (by simp)
     ·
      rw [if_neg c25] at H
      have c25b0 : (t107 == 1) = false := beq_eq_false_iff_ne.mpr c25
      have c25b1 : (t107 != 1) = true := bne_iff_ne.mpr c25
      by_cases c37 : a0_0 = 3
      ·
       rw [if_pos c37] at H
       have c37b0 : (a0_0 == 3) = true := beq_iff_eq.mpr c37
       have c37b1 : (a0_0 != 3) = false := bne_eq_false_iff_eq.mpr c37
       clear c37
       replace H := Option.bind_eq_some_iff.mp H
       obtain ⟨t111, A380, H⟩ := H
       replace H : (if 1 + t111.size ≤ 9223372036854775807 then (if (rdOf ByteArray.empty t103 a0_0).size + ((⟨#[32]⟩ : ByteArray) ++ t111).size ≤ 9223372036854775807 then (some ((rdOf ByteArray.empty t103 a0_0) ++ ((⟨#[32]⟩ : ByteArray) ++ t111), 0)) else (none)) else (none)) = some (r1, r2) := H
       have A38 := am_ A380
       clear A380
       by_cases c39 : 1 + t111.size ≤ 9223372036854775807
       ·
        rw [if_pos c39] at H
        have c39b0 := eq_true c39
        have c39b1 : decide (1 + t111.size ≤ 9223372036854775807) = true := decide_eq_true c39
        try have c39b2 : (9223372036854775807 < 1 + t111.size) = False := eq_false (Nat.not_lt.2 c39)
        by_cases c40 : (rdOf ByteArray.empty t103 a0_0).size + ((⟨#[32]⟩ : ByteArray) ++ t111).size ≤ 9223372036854775807
        ·
         rw [if_pos c40] at H
         have c40b0 := eq_true c40
         have c40b1 : decide ((rdOf ByteArray.empty t103 a0_0).size + ((⟨#[32]⟩ : ByteArray) ++ t111).size ≤ 9223372036854775807) = true := decide_eq_true c40
         try have c40b2 : (9223372036854775807 < (rdOf ByteArray.empty t103 a0_0).size + ((⟨#[32]⟩ : ByteArray) ++ t111).size) = False := eq_false (Nat.not_lt.2 c40)
         try (have c40b2s := c40b2; simp only [ByteArray.size_append, show (⟨#[32]⟩ : ByteArray).size = 1 from rfl] at c40b2s)
         try have c40b3 : (9223372036854775807 < (rdOf ByteArray.empty t103 a0_0).size + (1 + t111.size)) = False := eq_false (Nat.not_lt.2 (by have h_ := c40; simp only [ByteArray.size_append] at h_; exact h_))
         simp only [Option.some.injEq, Prod.mk.injEq] at H
         obtain ⟨rfl, rfl⟩ := H
         go_enter Tryd.func7, Tryd.ntmps7
         try go_wp2_with (first | ((with_reducible refine gate_dst (N := 1) rfl ?_); refine box_event ?hg (N := 1) ?hd (cs := #[.int .i64 a0_0, .int .i64 a0_1, .int .i64 a0_2, .int .i64 a0_3]) (t := 30) ?hr ?_; (case hd => rfl); (case hg => rfl); (case hr => first | (go_simp; done) | (go_simp; rfl)); intro gb101 hg w41 hbox hb; have n0_ := am_ (below_step qz3_ hb); have n1_ := am_ (hbox); have n2_ := am_ ((by rw [hg]; exact (below_size qz3_) : w.heap.size ≤ gb101)); have n3_ := am_ ((by rw [hg]; exact (below_size qz3_) : w.heap.size ≤ gb101)); clear HB; have HB := n0_; have BK101 := n1_; have GW101 := n2_; have GE101 := n3_; clear n0_ n1_ n2_ n3_; clear hb hbox hg; have hcz42_0 : w41.cell? ⟨gb101, 0, none⟩ = some (.int .i64 a0_0) := (blk_cell BK101.out 0).trans rfl; have hcz42_1 : w41.cell? ⟨gb101, 1, none⟩ = some (.int .i64 a0_1) := (blk_cell BK101.out 1).trans rfl; have hcz42_2 : w41.cell? ⟨gb101, 2, none⟩ = some (.int .i64 a0_2) := (blk_cell BK101.out 2).trans rfl; have hcz42_3 : w41.cell? ⟨gb101, 3, none⟩ = some (.int .i64 a0_3) := (blk_cell BK101.out 3).trans rfl; have hfz42_0 := blk_frozen BK101.out 0; have hfz42_1 := blk_frozen BK101.out 1; have hfz42_2 := blk_frozen BK101.out 2; have hfz42_3 := blk_frozen BK101.out 3) | ((with_reducible refine gate_callee (f := 17) rfl ?_); refine goesL_ (some 6) rfl rfl Tryd.func17 (by kernel_rfl) rfl #[.agg #[.int .i64 a0_0, .int .i64 a0_1, .int .i64 a0_2, .int .i64 a0_3], .int .i64 15] rfl qz2_ ?_; (with_reducible refine (spec_l11Gate.calls k a0_0 a0_1 a0_2 a0_3 15 true _ A2.out).mono ?_); rintro e w43 ⟨rfl, hb⟩; refine ⟨_, rfl, ?_⟩; have n0_ := am_ (blk_below (g := gb101) (o := .cells #[.int .i64 a0_0, .int .i64 a0_1, .int .i64 a0_2, .int .i64 a0_3] 30 (0, 0)) qz4_ hb); have n1_ := am_ (below_step qz9_ hb); clear BK101; clear HB; have BK101 := n0_; have HB := n1_; clear n0_ n1_; (try clear hb); (try clear hb2); (try clear hk); (try clear hi)))
         have n0_ := am_ (blk_drew BK101.out)
         have n1_ := am_ (below_drew1 HB.out)
         clear BK101
         clear HB
         have BK101 := n0_
         have HB := n1_
         clear n0_ n1_
         refine start_ (n := 6) (S := fun w' => w'.cell? ⟨gb101, 0, none⟩ = some (.int .i64 a0_0) ∧ w'.cell? ⟨gb101, 1, none⟩ = some (.int .i64 a0_1) ∧ w'.cell? ⟨gb101, 2, none⟩ = some (.int .i64 a0_2) ∧ w'.cell? ⟨gb101, 3, none⟩ = some (.int .i64 a0_3)) (ds := []) #[false, false, false, false, false, false] (by kernel_rfl) rfl rfl ⟨(blk_cell BK101.out 0).trans rfl, (blk_cell BK101.out 1).trans rfl, (blk_cell BK101.out 2).trans rfl, (blk_cell BK101.out 3).trans rfl⟩ (fun hHeld => ?_)
         generalize w43.drew = w44 at BK101 HB hHeld ⊢
         refine pure_ (i := 1) (N := some 9) (v := ?_) (a' := ?_) #[false, true, false, false, false, false] rfl rfl (by kernel_rfl) (fun _ _ _ h => h) (Or.inl ⟨(by rfl), ?_⟩) ?_ ?_
         rotate_left
         ·
          intro w'
          go_simp
          with_reducible rfl
         rotate_left
         ·
          exact ap_
         refine take_ (i := 2) (N := some 10) (v := ?_) (a' := ?_) #[false, true, true, false, false, false] rfl rfl (by kernel_rfl) (fun _ _ _ h => h) (Or.inl ⟨(by rfl), ?_⟩) hHeld ?_ ?_
         rotate_left
         ·
          rintro w' ⟨s0, s1, s2, s3⟩
          go_simp
          with_reducible rfl
         rotate_left
         ·
          exact ap_
         refine one_ (i := 0) (N := some 8) #[true, true, true, false, false, false] rfl rfl (by kernel_rfl) (by decide) (fun K hK => ?_)
         refine goes_ Tryd.func18 (by kernel_rfl) rfl #[] (by rfl) rfl rfl qz2_ ?_
         with_reducible refine (spec_l11Names.calls  t103 _ A4.out).mono ?_
         rintro e w45 ⟨v104, rfl, ho0, hb⟩
         refine ⟨_, rfl, ?_⟩
         have n0_ := am_ (Kd.R_lower ho0 (below_size qz9_))
         have n1_ := am_ (blk_below (g := gb101) (o := .cells #[.int .i64 a0_0, .int .i64 a0_1, .int .i64 a0_2, .int .i64 a0_3] 30 (0, 0)) qz4_ hb)
         have n2_ := am_ (below_step qz9_ hb)
         clear BK101
         clear HB
         have HO105 := n0_
         have BK101 := n1_
         have HB := n2_
         clear n0_ n1_ n2_
         (try clear hb)
         (try clear hb2)
         (try clear hk)
         (try clear hi)
         (try clear ho0)
         obtain ⟨Ao46, co46, eo46⟩ := Kd.R_slice HO105.out
         (first | subst eo46 | (injection eo46 with f1_ f2_ f3_; have f4_ := f1_.symm; have f5_ := f3_.symm; clear f1_ f2_ f3_; subst f4_; subst f5_))
         have p106 : 0 ≤ (a0_0 : Int) := of_decide_eq_true qz11_
         have q106 : a0_0 < (t103.length : Int) := of_decide_eq_true qz11_
         obtain ⟨ad106, e106, hx106_0⟩ := Kd.at_string (Kd.R_reads' HO105.out).2.2 a0_0 p106 q106
         cases e106
         replace p106 := eq_true p106
         replace q106 := eq_true q106
         refine hK.out _ _ ⟨(blk_cell BK101.out 0).trans rfl, (blk_cell BK101.out 1).trans rfl, (blk_cell BK101.out 2).trans rfl, (blk_cell BK101.out 3).trans rfl⟩ (fun hHeld => ?_)
         clear hK K
         refine norm_ (a' := ?_) ?_ ?_
         rotate_left
         ·
          show Act.put _ (some 8) _ = _
          exact ap_
         refine pure_ (i := 3) (N := some 11) (v := ?_) (a' := ?_) #[true, true, true, true, false, false] rfl rfl (by kernel_rfl) (fun _ _ _ h => h) (Or.inl ⟨(by rfl), ?_⟩) ?_ ?_
         rotate_left
         ·
          intro w'
          go_simp
          with_reducible rfl
         rotate_left
         ·
          exact ap_
         refine one_ (i := 4) (N := some 12) #[true, true, true, true, true, false] rfl rfl (by kernel_rfl) (by decide) (fun K hK => ?_)
         refine value_ (w1 := ?_) (v := ?_) (by rfl) rfl ?_ ?_
         rotate_left 2
         ·
          go_simp
          constructor
          ·
           rfl
          ·
           rfl
         refine hK.out _ _ hHeld (fun hHeld => ?_)
         clear hK K
         refine norm_ (a' := ?_) ?_ ?_
         rotate_left
         ·
          show Act.put _ (some 12) _ = _
          exact ap_
         refine pure_ (i := 5) (N := some 4) (v := ?_) (a' := ?_) #[true, true, true, true, true, true] rfl rfl (by kernel_rfl) (fun _ _ _ h => h) (Or.inl ⟨(by rfl), ?_⟩) ?_ ?_
         rotate_left
         ·
          intro w'
          go_simp
          with_reducible rfl
         rotate_left
         ·
          exact ap_
         refine done_ (by kernel_rfl) ?_
         have hcz47_0 : w45.cell? ⟨gb101, 0, none⟩ = some (.int .i64 a0_0) := (blk_cell BK101.out 0).trans rfl
         have hcz47_1 : w45.cell? ⟨gb101, 1, none⟩ = some (.int .i64 a0_1) := (blk_cell BK101.out 1).trans rfl
         have hcz47_2 : w45.cell? ⟨gb101, 2, none⟩ = some (.int .i64 a0_2) := (blk_cell BK101.out 2).trans rfl
         have hcz47_3 : w45.cell? ⟨gb101, 3, none⟩ = some (.int .i64 a0_3) := (blk_cell BK101.out 3).trans rfl
         have hfz47_0 := blk_frozen BK101.out 0
         have hfz47_1 := blk_frozen BK101.out 1
         have hfz47_2 := blk_frozen BK101.out 2
         have hfz47_3 := blk_frozen BK101.out 3
         try go_wp2_with (first | ((with_reducible refine gate_callee (f := 19) rfl ?_); refine goesL_ (some 15) rfl rfl Tryd.func19 (by kernel_rfl) rfl #[.int .i64 a0_0] rfl qz2_ ?_; (with_reducible refine (spec_l11Uses.calls a0_0 t107 _ A7.out).mono ?_); rintro e w' ⟨rfl, ⟨nd, rfl⟩⟩; refine ⟨_, rfl, ?_⟩) | ((with_reducible refine gate_callee (f := 20) rfl ?_); refine goesL_ (some 22) rfl rfl Tryd.func20 (by kernel_rfl) rfl #[.int .i64 a0_3] rfl qz2_ ?_; (with_reducible refine (spec_l00Digits.calls k a0_3 t111 _ A38.out).mono ?_); rintro e w48 ⟨rfl, hb⟩; refine ⟨_, rfl, ?_⟩; have n0_ := am_ (Kd.R_below (by (with_reducible repeat (first | apply Kd.R_alloc | apply Kd.R_drewN | apply Kd.R_drew)); exact HO105.out) hb); have n1_ := am_ (blk_below (g := gb101) (o := .cells #[.int .i64 a0_0, .int .i64 a0_1, .int .i64 a0_2, .int .i64 a0_3] 30 (0, 0)) qz4_ hb); have n2_ := am_ (below_step qz9_ hb); clear HO105; clear BK101; clear HB; have HO105 := n0_; have BK101 := n1_; have HB := n2_; clear n0_ n1_ n2_; (try clear hb); (try clear hb2); (try clear hk); (try clear hi)))
         go_ret2
         exact ⟨qz5_, qz9_⟩
        ·
         rw [if_neg c40] at H
         exact absurd H (by simp)
       ·
        rw [if_neg c39] at H
        exact absurd H (by simp)
      ·
       rw [if_neg c37] at H
       have c37b0 : (a0_0 == 3) = false := beq_eq_false_iff_ne.mpr c37
       have c37b1 : (a0_0 != 3) = true := bne_iff_ne.mpr c37
       simp only [Option.some.injEq, Prod.mk.injEq] at H
       obtain ⟨rfl, rfl⟩ := H
       go_enter Tryd.func7, Tryd.ntmps7
       try go_wp2_with (first | ((with_reducible refine gate_dst (N := 1) rfl ?_); refine box_event ?hg (N := 1) ?hd (cs := #[.int .i64 a0_0, .int .i64 a0_1, .int .i64 a0_2, .int .i64 a0_3]) (t := 30) ?hr ?_; (case hd => rfl); (case hg => rfl); (case hr => first | (go_simp; done) | (go_simp; rfl)); intro gb101 hg w49 hbox hb; have n0_ := am_ (below_step qz3_ hb); have n1_ := am_ (hbox); have n2_ := am_ ((by rw [hg]; exact (below_size qz3_) : w.heap.size ≤ gb101)); have n3_ := am_ ((by rw [hg]; exact (below_size qz3_) : w.heap.size ≤ gb101)); clear HB; have HB := n0_; have BK101 := n1_; have GW101 := n2_; have GE101 := n3_; clear n0_ n1_ n2_ n3_; clear hb hbox hg; have hcz50_0 : w49.cell? ⟨gb101, 0, none⟩ = some (.int .i64 a0_0) := (blk_cell BK101.out 0).trans rfl; have hcz50_1 : w49.cell? ⟨gb101, 1, none⟩ = some (.int .i64 a0_1) := (blk_cell BK101.out 1).trans rfl; have hcz50_2 : w49.cell? ⟨gb101, 2, none⟩ = some (.int .i64 a0_2) := (blk_cell BK101.out 2).trans rfl; have hcz50_3 : w49.cell? ⟨gb101, 3, none⟩ = some (.int .i64 a0_3) := (blk_cell BK101.out 3).trans rfl; have hfz50_0 := blk_frozen BK101.out 0; have hfz50_1 := blk_frozen BK101.out 1; have hfz50_2 := blk_frozen BK101.out 2; have hfz50_3 := blk_frozen BK101.out 3) | ((with_reducible refine gate_callee (f := 17) rfl ?_); refine goesL_ (some 6) rfl rfl Tryd.func17 (by kernel_rfl) rfl #[.agg #[.int .i64 a0_0, .int .i64 a0_1, .int .i64 a0_2, .int .i64 a0_3], .int .i64 15] rfl qz2_ ?_; (with_reducible refine (spec_l11Gate.calls k a0_0 a0_1 a0_2 a0_3 15 true _ A2.out).mono ?_); rintro e w51 ⟨rfl, hb⟩; refine ⟨_, rfl, ?_⟩; have n0_ := am_ (blk_below (g := gb101) (o := .cells #[.int .i64 a0_0, .int .i64 a0_1, .int .i64 a0_2, .int .i64 a0_3] 30 (0, 0)) qz4_ hb); have n1_ := am_ (below_step qz9_ hb); clear BK101; clear HB; have BK101 := n0_; have HB := n1_; clear n0_ n1_; (try clear hb); (try clear hb2); (try clear hk); (try clear hi)))
       have n0_ := am_ (blk_drew BK101.out)
       have n1_ := am_ (below_drew1 HB.out)
       clear BK101
       clear HB
       have BK101 := n0_
       have HB := n1_
       clear n0_ n1_
       refine start_ (n := 6) (S := fun w' => w'.cell? ⟨gb101, 0, none⟩ = some (.int .i64 a0_0) ∧ w'.cell? ⟨gb101, 1, none⟩ = some (.int .i64 a0_1) ∧ w'.cell? ⟨gb101, 2, none⟩ = some (.int .i64 a0_2) ∧ w'.cell? ⟨gb101, 3, none⟩ = some (.int .i64 a0_3)) (ds := []) #[false, false, false, false, false, false] (by kernel_rfl) rfl rfl ⟨(blk_cell BK101.out 0).trans rfl, (blk_cell BK101.out 1).trans rfl, (blk_cell BK101.out 2).trans rfl, (blk_cell BK101.out 3).trans rfl⟩ (fun hHeld => ?_)
       generalize w51.drew = w52 at BK101 HB hHeld ⊢
       refine pure_ (i := 1) (N := some 9) (v := ?_) (a' := ?_) #[false, true, false, false, false, false] rfl rfl (by kernel_rfl) (fun _ _ _ h => h) (Or.inl ⟨(by rfl), ?_⟩) ?_ ?_
       rotate_left
       ·
        intro w'
        go_simp
        with_reducible rfl
       rotate_left
       ·
        exact ap_
       refine take_ (i := 2) (N := some 10) (v := ?_) (a' := ?_) #[false, true, true, false, false, false] rfl rfl (by kernel_rfl) (fun _ _ _ h => h) (Or.inl ⟨(by rfl), ?_⟩) hHeld ?_ ?_
       rotate_left
       ·
        rintro w' ⟨s0, s1, s2, s3⟩
        go_simp
        with_reducible rfl
       rotate_left
       ·
        exact ap_
       refine one_ (i := 0) (N := some 8) #[true, true, true, false, false, false] rfl rfl (by kernel_rfl) (by decide) (fun K hK => ?_)
       refine goes_ Tryd.func18 (by kernel_rfl) rfl #[] (by rfl) rfl rfl qz2_ ?_
       with_reducible refine (spec_l11Names.calls  t103 _ A4.out).mono ?_
       rintro e w53 ⟨v104, rfl, ho0, hb⟩
       refine ⟨_, rfl, ?_⟩
       have n0_ := am_ (Kd.R_lower ho0 (below_size qz9_))
       have n1_ := am_ (blk_below (g := gb101) (o := .cells #[.int .i64 a0_0, .int .i64 a0_1, .int .i64 a0_2, .int .i64 a0_3] 30 (0, 0)) qz4_ hb)
       have n2_ := am_ (below_step qz9_ hb)
       clear BK101
       clear HB
       have HO105 := n0_
       have BK101 := n1_
       have HB := n2_
       clear n0_ n1_ n2_
       (try clear hb)
       (try clear hb2)
       (try clear hk)
       (try clear hi)
       (try clear ho0)
       obtain ⟨Ao54, co54, eo54⟩ := Kd.R_slice HO105.out
       (first | subst eo54 | (injection eo54 with f1_ f2_ f3_; have f4_ := f1_.symm; have f5_ := f3_.symm; clear f1_ f2_ f3_; subst f4_; subst f5_))
       have p106 : 0 ≤ (a0_0 : Int) := of_decide_eq_true qz11_
       have q106 : a0_0 < (t103.length : Int) := of_decide_eq_true qz11_
       obtain ⟨ad106, e106, hx106_0⟩ := Kd.at_string (Kd.R_reads' HO105.out).2.2 a0_0 p106 q106
       cases e106
       replace p106 := eq_true p106
       replace q106 := eq_true q106
       refine hK.out _ _ ⟨(blk_cell BK101.out 0).trans rfl, (blk_cell BK101.out 1).trans rfl, (blk_cell BK101.out 2).trans rfl, (blk_cell BK101.out 3).trans rfl⟩ (fun hHeld => ?_)
       clear hK K
       refine norm_ (a' := ?_) ?_ ?_
       rotate_left
       ·
        show Act.put _ (some 8) _ = _
        exact ap_
       refine pure_ (i := 3) (N := some 11) (v := ?_) (a' := ?_) #[true, true, true, true, false, false] rfl rfl (by kernel_rfl) (fun _ _ _ h => h) (Or.inl ⟨(by rfl), ?_⟩) ?_ ?_
       rotate_left
       ·
        intro w'
        go_simp
        with_reducible rfl
       rotate_left
       ·
        exact ap_
       refine one_ (i := 4) (N := some 12) #[true, true, true, true, true, false] rfl rfl (by kernel_rfl) (by decide) (fun K hK => ?_)
       refine value_ (w1 := ?_) (v := ?_) (by rfl) rfl ?_ ?_
       rotate_left 2
       ·
        go_simp
        constructor
        ·
         rfl
        ·
         rfl
       refine hK.out _ _ hHeld (fun hHeld => ?_)
       clear hK K
       refine norm_ (a' := ?_) ?_ ?_
       rotate_left
       ·
        show Act.put _ (some 12) _ = _
        exact ap_
       refine pure_ (i := 5) (N := some 4) (v := ?_) (a' := ?_) #[true, true, true, true, true, true] rfl rfl (by kernel_rfl) (fun _ _ _ h => h) (Or.inl ⟨(by rfl), ?_⟩) ?_ ?_
       rotate_left
       ·
        intro w'
        go_simp
        with_reducible rfl
       rotate_left
       ·
        exact ap_
       refine done_ (by kernel_rfl) ?_
       have hcz55_0 : w53.cell? ⟨gb101, 0, none⟩ = some (.int .i64 a0_0) := (blk_cell BK101.out 0).trans rfl
       have hcz55_1 : w53.cell? ⟨gb101, 1, none⟩ = some (.int .i64 a0_1) := (blk_cell BK101.out 1).trans rfl
       have hcz55_2 : w53.cell? ⟨gb101, 2, none⟩ = some (.int .i64 a0_2) := (blk_cell BK101.out 2).trans rfl
       have hcz55_3 : w53.cell? ⟨gb101, 3, none⟩ = some (.int .i64 a0_3) := (blk_cell BK101.out 3).trans rfl
       have hfz55_0 := blk_frozen BK101.out 0
       have hfz55_1 := blk_frozen BK101.out 1
       have hfz55_2 := blk_frozen BK101.out 2
       have hfz55_3 := blk_frozen BK101.out 3
       try go_wp2_with (first | ((with_reducible refine gate_callee (f := 19) rfl ?_); refine goesL_ (some 15) rfl rfl Tryd.func19 (by kernel_rfl) rfl #[.int .i64 a0_0] rfl qz2_ ?_; (with_reducible refine (spec_l11Uses.calls a0_0 t107 _ A7.out).mono ?_); rintro e w' ⟨rfl, ⟨nd, rfl⟩⟩; refine ⟨_, rfl, ?_⟩))
       go_ret2
       exact ⟨qz5_, qz9_⟩
   ·
    rw [if_neg c6] at H
    exact absurd H (by simp)
  ·
   rw [if_neg c5] at H
   exact absurd H (by simp)
 ·
  replace c3 := Bool.eq_false_iff.mpr c3
  subst c3
  have H1 : (some ((⟨#[]⟩ : ByteArray), 1)) = some (r1, r2) := by rw [if_neg (show ¬ (false = true) by decide)] at H; exact H
  clear H
  have H := H1
  clear H1
  simp only [Option.some.injEq, Prod.mk.injEq] at H
  obtain ⟨rfl, rfl⟩ := H
  go_enter Tryd.func7, Tryd.ntmps7
  go_wp2_with (first | ((with_reducible refine gate_dst (N := 1) rfl ?_); refine box_event ?hg (N := 1) ?hd (cs := #[.int .i64 a0_0, .int .i64 a0_1, .int .i64 a0_2, .int .i64 a0_3]) (t := 30) ?hr ?_; (case hd => rfl); (case hg => rfl); (case hr => first | (go_simp; done) | (go_simp; rfl)); intro gb101 hg w56 hbox hb; have n0_ := am_ (below_step qz3_ hb); have n1_ := am_ (hbox); have n2_ := am_ ((by rw [hg]; exact (below_size qz3_) : w.heap.size ≤ gb101)); have n3_ := am_ ((by rw [hg]; exact (below_size qz3_) : w.heap.size ≤ gb101)); clear HB; have HB := n0_; have BK101 := n1_; have GW101 := n2_; have GE101 := n3_; clear n0_ n1_ n2_ n3_; clear hb hbox hg; have hcz57_0 : w56.cell? ⟨gb101, 0, none⟩ = some (.int .i64 a0_0) := (blk_cell BK101.out 0).trans rfl; have hcz57_1 : w56.cell? ⟨gb101, 1, none⟩ = some (.int .i64 a0_1) := (blk_cell BK101.out 1).trans rfl; have hcz57_2 : w56.cell? ⟨gb101, 2, none⟩ = some (.int .i64 a0_2) := (blk_cell BK101.out 2).trans rfl; have hcz57_3 : w56.cell? ⟨gb101, 3, none⟩ = some (.int .i64 a0_3) := (blk_cell BK101.out 3).trans rfl; have hfz57_0 := blk_frozen BK101.out 0; have hfz57_1 := blk_frozen BK101.out 1; have hfz57_2 := blk_frozen BK101.out 2; have hfz57_3 := blk_frozen BK101.out 3) | ((with_reducible refine gate_callee (f := 17) rfl ?_); refine goesL_ (some 6) rfl rfl Tryd.func17 (by kernel_rfl) rfl #[.agg #[.int .i64 a0_0, .int .i64 a0_1, .int .i64 a0_2, .int .i64 a0_3], .int .i64 15] rfl qz2_ ?_; (with_reducible refine (spec_l11Gate.calls k a0_0 a0_1 a0_2 a0_3 15 false _ A2.out).mono ?_); rintro e w58 ⟨rfl, hb⟩; refine ⟨_, rfl, ?_⟩; have n0_ := am_ (blk_below (g := gb101) (o := .cells #[.int .i64 a0_0, .int .i64 a0_1, .int .i64 a0_2, .int .i64 a0_3] 30 (0, 0)) qz4_ hb); have n1_ := am_ (below_step qz9_ hb); clear BK101; clear HB; have BK101 := n0_; have HB := n1_; clear n0_ n1_; (try clear hb); (try clear hb2); (try clear hk); (try clear hi)))
  go_ret2
  exact ⟨qz5_, qz9_⟩

end Go.Proofs.YtokljkneflejdaaDoor.PT
end
section
/- A gate's text, and what is read out of it: the gate. -/
namespace Go.Proofs.YtokljkneflejdaaDoor.PT
open Go.RowKit Go.Proofs.YtokljkneflejdaaDoorW.PrintWords Go.Proofs.YtokljkneflejdaaDoorW.PrintLast Go.Proofs.YtokljkneflejdaaDoorW.PrintMore
set_option linter.unusedVariables false
set_option linter.unusedSimpArgs false
def dtx (u : Nat) : ByteArray := ⟨(Go.Lib.decDigits u).toArray⟩
theorem dtx_size (u : Nat) (h : u ≤ 9223372036854775807) : (dtx u).size ≤ 21 := by
 have h2 := Go.Lib.itoa_length_le (u : Int) (by omega) (by omega)
 rw [Go.Lib.itoa_nonneg] at h2
 exact h2
theorem dtx_step {u : Nat} (h : ¬ u < 10) : dtx u = dtx (u / 10) ++ strOfNums [((48 + u % 10 : Nat) : Int)] := by
 have e : Go.Lib.decDigits u = Go.Lib.decDigits (u / 10) ++ [UInt8.ofNat (48 + u % 10)] := by rw [Go.Lib.decDigits, dif_neg h]
 apply ByteArray.ext
 unfold dtx
 rw [e, ByteArray.data_append]
 simp only [strOfNums, List.map_cons, List.map_nil, Int.toNat_natCast, List.append_toArray]
theorem dtx_one {u : Nat} (h : u < 10) : dtx u = strOfNums [((48 + u : Nat) : Int)] := by
 unfold dtx strOfNums
 rw [Go.Lib.decDigits, dif_pos h]
 rfl
theorem digits_eq : ∀ (k u : Nat), 1 ≤ k → u < 10 ^ k → u ≤ 9000000000000000000 → spec_l00Digits.f k (u : Int) = some (dtx u) := by
 intro k
 induction k with
 | zero => intro u h; omega
 | succ k ih =>
  intro u _ hu hb
  rw [spec_l00Digits.f, if_neg (by omega), if_neg (by omega)]
  by_cases h : u < 10
  ·
   rw [if_pos (by omega), dtx_one h, w64 (by omega) (by omega), show (48 + (u : Int)) % 256 = ((48 + u : Nat) : Int) by omega]
  ·
   rw [if_neg (by omega), tdiv_nn (by omega), tmod_nn (by omega), show (u : Int) / 10 = ((u / 10 : Nat) : Int) by omega, w64 (by omega) (by omega)]
   have hk : 1 ≤ k := by
    cases k with
    | zero => exact absurd hu (by simp; omega)
    | succ k => omega
   rw [ih (u / 10) hk (by rw [Nat.pow_succ] at hu; omega) (by omega)]
   simp only [bS]
   rw [w64 (by omega) (by omega), show (48 + (u : Int) % 10) % 256 = ((48 + u % 10 : Nat) : Int) by omega]
   have hz := dtx_size (u / 10) (by omega)
   rw [if_pos (by rw [strOfNums_size]; show (dtx (u / 10)).size + 1 ≤ _; omega), dtx_step h]
theorem digits_at {n : Int} (h0 : 0 ≤ n) (h1 : n ≤ 2147483647) : spec_l00Digits.f 20 n = some (dtx n.toNat) := by
 obtain ⟨u, rfl⟩ := Int.eq_ofNat_of_zero_le h0
 rw [Int.toNat_natCast]
 exact digits_eq 20 u (by omega) (Nat.lt_of_le_of_lt (show u ≤ 2147483647 by omega) (by decide)) (by omega)
theorem step_at {n : Int} (h0 : 0 ≤ n) (h1 : n ≤ 2147483647) {t : ByteArray} (ht : t.size ≤ 1000) : impl_GateText.step t n = some (t ++ ((⟨#[32]⟩ : ByteArray) ++ dtx n.toNat)) := by
 obtain ⟨u, rfl⟩ := Int.eq_ofNat_of_zero_le h0
 have hz := dtx_size u (by omega)
 unfold impl_GateText.step
 rw [show Go.Lib.itoa (u : Int) = Go.Lib.decDigits u from Go.Lib.itoa_nonneg u]
 change (if _ then (if 1 + (dtx u).size ≤ _ then (if t.size + (1 + (dtx u).size) ≤ _ then some (t ++ ((⟨#[32]⟩ : ByteArray) ++ dtx u)) else none) else none) else none) = _
 rw [if_pos ⟨(by omega), (by omega)⟩, if_pos (by omega), if_pos (by omega)]
 rfl
theorem names_at {op : Int} (h : 1 ≤ op ∧ op ≤ 8) : ∃ ns ws t, spec_l11Names.f = some ns ∧ impl_opWords.f = some ws ∧ ns.length = 9 ∧ ws.length = 8 ∧ rdOf ByteArray.empty ns op = t ∧ rdOf ByteArray.empty ws (op - 1) = t ∧ t.size ≤ 10 := by
 rcases (show op = 1 ∨ op = 2 ∨ op = 3 ∨ op = 4 ∨ op = 5 ∨ op = 6 ∨ op = 7 ∨ op = 8 by omega) with rfl | rfl | rfl | rfl | rfl | rfl | rfl | rfl <;> exact ⟨_, _, _, rfl, rfl, rfl, rfl, rfl, rfl, (by decide)⟩
theorem sp_size (u : Nat) (h : u ≤ 9223372036854775807) : ((⟨#[32]⟩ : ByteArray) ++ dtx u).size ≤ 22 := by
 have hz := dtx_size u h
 rw [ByteArray.size_append]
 show 1 + (dtx u).size ≤ 22
 omega
theorem texts_same (x : S30) : ∃ r c, spec_GateText.f 20 x.f0 x.f1 x.f2 x.f3 = some (r, c) ∧ impl_GateText.f 20 x.f0 x.f1 x.f2 x.f3 = some (r, c) := by
 unfold spec_GateText.f impl_GateText.f
 rw [l11Gate_eq x (by omega) (by omega) (by omega), isGate_eq x (by omega) (by omega) (by omega)]
 simp only [bS]
 cases hg : gateB x 15 with
 | false => exact ⟨_, _, rfl, rfl⟩
 | true =>
  obtain ⟨a, b, c, d⟩ := x
  unfold gateB at hg
  simp only at hg ⊢
  rw [Bool.and_eq_true] at hg
  obtain ⟨g1, g2⟩ := hg
  have g1 := of_decide_eq_true g1
  obtain ⟨ns, ws, t, e1, e2, l1, l2, t1, t2, hz⟩ := names_at g1
  rw [e1, e2]
  simp only [bS, if_true]
  rw [w64 (n := a - 1) (by omega) (by omega), if_pos (show 0 ≤ a by omega), if_pos (show a < (ns.length : Int) by omega), if_pos (show 0 ≤ a - 1 by omega), if_pos (show a - 1 < (ws.length : Int) by omega), t1, t2]
  unfold spec_l11Uses.f
  rw [spec_l01In_eq]
  simp only [bS]
  by_cases h4 : 4 ≤ a ∧ a ≤ 7
  ·
   rw [if_pos h4] at g2
   simp only [Bool.and_eq_true, decide_eq_true_eq] at g2
   obtain ⟨⟨gb, gc⟩, gd⟩ := g2
   rw [decide_eq_true h4, show impl_Gate_nums.offs a = [1, 2] by unfold impl_Gate_nums.offs; rw [if_neg (show ¬ a = 3 by omega), if_pos h4]]
   simp only [bS, if_true, impl_GateText.go]
   rw [digits_at (n := b) (by omega) (by omega), digits_at (n := c) (by omega) (by omega)]
   simp only [bS]
   have zb := dtx_size b.toNat (by omega)
   have zc := dtx_size c.toNat (by omega)
   have s1 := sp_size b.toNat (by omega)
   have s2 := sp_size c.toNat (by omega)
   have hs1 : (((⟨#[32]⟩ : ByteArray) ++ dtx b.toNat) ++ (⟨#[32]⟩ : ByteArray)).size ≤ 23 := by rw [ByteArray.size_append]; show _ + 1 ≤ 23; omega
   have hs2 : ((((⟨#[32]⟩ : ByteArray) ++ dtx b.toNat) ++ (⟨#[32]⟩ : ByteArray)) ++ dtx c.toNat).size ≤ 44 := by rw [ByteArray.size_append]; omega
   rw [if_pos (by omega), if_pos (by omega), if_pos (by omega), if_pos (by omega)]
   rw [show impl_GateText.val b c d 1 = b from rfl, show impl_GateText.val b c d 2 = c from rfl, step_at (n := b) (by omega) (by omega) (by omega)]
   simp only [bS]
   rw [step_at (n := c) (by omega) (by omega) (by rw [ByteArray.size_append]; omega)]
   simp only [bS]
   refine ⟨_, _, rfl, ?_⟩
   rw [ByteArray.append_assoc, ByteArray.append_assoc, ByteArray.append_assoc, ByteArray.append_assoc]
  ·
   rw [if_neg h4] at g2
   rw [decide_eq_false h4, if_neg (show ¬ false = true by decide)]
   by_cases h8 : a = 8
   ·
    rw [if_pos h8] at g2
    simp only [Bool.and_eq_true, decide_eq_true_eq] at g2
    obtain ⟨⟨gb, gc⟩, gd⟩ := g2
    rw [if_pos h8, show impl_Gate_nums.offs a = [1] by unfold impl_Gate_nums.offs; rw [if_neg (show ¬ a = 3 by omega), if_neg h4, if_pos h8]]
    simp only [bS, impl_GateText.go]
    rw [if_neg (show ¬ (1 : Int) = 2 by decide), if_pos trivial, digits_at (n := b) (by omega) (by omega)]
    simp only [bS]
    have zb := dtx_size b.toNat (by omega)
    have s1 := sp_size b.toNat (by omega)
    rw [if_pos (by omega), if_pos (by omega), show impl_GateText.val b c d 1 = b from rfl, step_at (n := b) (by omega) (by omega) (by omega)]
    exact ⟨_, _, rfl, rfl⟩
   ·
    rw [if_neg h8] at g2
    rw [if_neg h8]
    simp only [bS]
    rw [if_neg (show ¬ (0 : Int) = 2 by decide), if_neg (show ¬ (0 : Int) = 1 by decide)]
    by_cases h3 : a = 3
    ·
     rw [if_pos h3] at g2
     simp only [Bool.and_eq_true, decide_eq_true_eq] at g2
     obtain ⟨⟨gb, gc⟩, gd⟩ := g2
     unfold inF at gd
     rw [if_pos h3, show impl_Gate_nums.offs a = [3] by unfold impl_Gate_nums.offs; rw [if_pos h3], digits_at (n := d) (by omega) (by omega)]
     simp only [bS, impl_GateText.go]
     have zb := dtx_size d.toNat (by omega)
     have s1 := sp_size d.toNat (by omega)
     rw [if_pos (by omega), if_pos (by omega), show impl_GateText.val b c d 3 = d from rfl, step_at (n := d) (by omega) (by omega) (by omega)]
     exact ⟨_, _, rfl, rfl⟩
    ·
     rw [if_neg h3, show impl_Gate_nums.offs a = [] by unfold impl_Gate_nums.offs; rw [if_neg h3, if_neg h4, if_neg h8]]
     exact ⟨_, _, rfl, rfl⟩
def numsG (x : S30) : List Int := if x.f0 = 3 then [x.f3] else if 4 ≤ x.f0 ∧ x.f0 ≤ 7 then [x.f1, x.f2] else if x.f0 = 8 then [x.f1] else []
def tailN : List Int → List UInt8
 | [] => []
 | n :: ns => 32 :: (Go.Lib.decDigits n.toNat ++ tailN ns)
theorem digit_bytes (u : Nat) : ∀ b ∈ Go.Lib.decDigits u, 48 ≤ b.toNat ∧ b.toNat ≤ 57 := by
 induction u using Nat.strongRecOn with
 | ind u ih =>
  intro b hb
  have key : ∀ d, d < 10 → 48 ≤ (UInt8.ofNat (48 + d)).toNat ∧ (UInt8.ofNat (48 + d)).toNat ≤ 57 := fun d hd => by
   have e : (UInt8.ofNat (48 + d)).toNat = 48 + d := by simp; omega
   omega
  rw [Go.Lib.decDigits] at hb
  by_cases h : u < 10
  ·
   rw [dif_pos h, List.mem_singleton] at hb
   subst hb
   exact key u h
  ·
   rw [dif_neg h] at hb
   rcases List.mem_append.1 hb with h1 | h1
   ·
    exact ih (u / 10) (by omega) b h1
   ·
    rw [List.mem_singleton] at h1
    subst h1
    exact key _ (by omega)
theorem digit_no32 (u : Nat) : (32 : UInt8) ∉ Go.Lib.decDigits u := fun h => by
 have := digit_bytes u 32 h
 simp at this
theorem cutL_word : ∀ (w cur rest : List UInt8), (32 : UInt8) ∉ w → cutL cur (w ++ 32 :: rest) = (cur ++ w) :: cutL [] rest
 | [], cur, rest, _ => by rw [List.nil_append, cutL, if_pos rfl, List.append_nil]
 | c :: w, cur, rest, h => by
  have hc : ¬ c = 32 := by rintro rfl; exact h List.mem_cons_self
  rw [List.cons_append, cutL, if_neg hc, cutL_word w (cur ++ [c]) rest (fun hm => h (List.mem_cons_of_mem _ hm)), List.append_assoc]
  rfl
theorem cutL_end : ∀ (w cur : List UInt8), (32 : UInt8) ∉ w → cutL cur w = [cur ++ w]
 | [], cur, _ => by rw [cutL, List.append_nil]
 | c :: w, cur, h => by
  have hc : ¬ c = 32 := by rintro rfl; exact h List.mem_cons_self
  rw [cutL, if_neg hc, cutL_end w (cur ++ [c]) (fun hm => h (List.mem_cons_of_mem _ hm)), List.append_assoc]
  rfl
theorem cutL_nums : ∀ (ns : List Int) (w : List UInt8), (32 : UInt8) ∉ w → cutL [] (w ++ tailN ns) = w :: ns.map fun n => Go.Lib.decDigits n.toNat
 | [], w, h => by rw [tailN, List.append_nil, cutL_end w [] h]; rfl
 | n :: ns, w, h => by rw [tailN, cutL_word w [] _ h, cutL_nums ns _ (digit_no32 _)]; rfl
theorem digits_len : ∀ (k u : Nat), 1 ≤ k → u < 10 ^ k → (Go.Lib.decDigits u).length ≤ k
 | 0, _, h, _ => absurd h (by omega)
 | k + 1, u, _, hu => by
  rw [Go.Lib.decDigits]
  by_cases h : u < 10
  ·
   rw [dif_pos h]; simp
  ·
   rw [dif_neg h, List.length_append, List.length_singleton]
   have hk : 1 ≤ k := by
    cases k with
    | zero => exact absurd hu (by simp; omega)
    | succ k => omega
   have := digits_len k (u / 10) hk (by rw [Nat.pow_succ] at hu; omega)
   omega
theorem numA_digits {n : Int} (h0 : 0 ≤ n) (h1 : n ≤ 2147483647) : numA (Go.Lib.decDigits n.toNat) = some n := by
 obtain ⟨u, rfl⟩ := Int.eq_ofNat_of_zero_le h0
 rw [Int.toNat_natCast, numA_eq]
 have hl : (Go.Lib.decDigits u).length ≤ 10 := digits_len 10 u (by omega) (Nat.lt_of_le_of_lt (show u ≤ 2147483647 by omega) (by decide))
 have hc := canonL_digits (u := u) (by omega)
 have hb := digit_bytes u
 cases hd : Go.Lib.decDigits u with
 | nil => exact absurd hd (digits_ne u)
 | cons c r =>
  rw [hd] at hc hb
  have hc45 : c ≠ 45 := by
   rintro rfl
   have := hb 45 List.mem_cons_self
   simp at this
  unfold numL
  simp only
  rw [if_neg hc45, hc]
  rfl
theorem numsOf_digits : ∀ (ns : List Int), (∀ n ∈ ns, 0 ≤ n ∧ n ≤ 2147483647) → numsOf (ns.map fun n => dtx n.toNat) = some ns
 | [], _ => rfl
 | n :: ns, h => by
  have h1 := h n List.mem_cons_self
  rw [List.map_cons, numsOf, show (dtx n.toNat).data.toList = Go.Lib.decDigits n.toNat from rfl, numA_digits h1.1 h1.2, numsOf_digits ns (fun m hm => h m (List.mem_cons_of_mem _ hm))]
  rfl
theorem app_data (a b : ByteArray) : (a ++ b).data.toList = a.data.toList ++ b.data.toList := by rw [ByteArray.data_append]; simp
theorem gate_nums {x : S30} (h : gateB x 15 = true) : (1 ≤ x.f0 ∧ x.f0 ≤ 8) ∧ (∀ n ∈ numsG x, 0 ≤ n ∧ n ≤ 2147483647) ∧ (numsG x).length = usesN x.f0 ∧ gateOf x.f0 (numsG x) = x := by
 obtain ⟨a, b, c, d⟩ := x
 unfold gateB at h
 simp only at h
 rw [Bool.and_eq_true] at h
 obtain ⟨g1, g2⟩ := h
 have q1 := of_decide_eq_true g1
 unfold numsG usesN gateOf
 simp only
 by_cases c4 : 4 ≤ a ∧ a ≤ 7
 ·
  rw [if_pos c4] at g2
  simp only [Bool.and_eq_true, decide_eq_true_eq, beq_iff_eq] at g2
  obtain ⟨⟨gb, gc⟩, gd⟩ := g2
  subst gd
  rw [if_neg (show ¬ a = 3 by omega), if_neg (show ¬ a = 3 by omega), if_neg (show ¬ a = 3 by omega), if_pos c4, if_pos c4, if_pos c4]
  exact ⟨q1, fun n hn => by simp only [List.mem_cons, List.not_mem_nil, or_false] at hn; rcases hn with rfl | rfl <;> omega, rfl, rfl⟩
 ·
  rw [if_neg c4] at g2
  by_cases c8 : a = 8
  ·
   subst c8
   rw [if_pos rfl] at g2
   simp only [Bool.and_eq_true, decide_eq_true_eq, beq_iff_eq] at g2
   obtain ⟨⟨gb, gc⟩, gd⟩ := g2
   subst gc gd
   refine ⟨q1, fun n hn => ?_, rfl, rfl⟩
   have hn2 : n ∈ [b] := hn
   rw [List.mem_singleton] at hn2
   subst hn2
   omega
  ·
   rw [if_neg c8] at g2
   by_cases c3 : a = 3
   ·
    rw [if_pos c3] at g2
    simp only [Bool.and_eq_true, beq_iff_eq, decide_eq_true_eq] at g2
    obtain ⟨⟨gb, gc⟩, gd⟩ := g2
    subst gb gc c3
    unfold inF at gd
    refine ⟨q1, fun n hn => ?_, rfl, rfl⟩
    have hn2 : n ∈ [d] := hn
    rw [List.mem_singleton] at hn2
    subst hn2
    omega
   ·
    rw [if_neg c3] at g2
    simp only [Bool.and_eq_true, beq_iff_eq] at g2
    obtain ⟨⟨gb, gc⟩, gd⟩ := g2
    subst gb gc gd
    rw [if_neg c3, if_neg c3, if_neg c3, if_neg c4, if_neg c4, if_neg c4, if_neg c8, if_neg c8, if_neg c8]
    exact ⟨q1, (fun n hn => by simp at hn), rfl, rfl⟩
theorem go_text (a b c : Int) : ∀ (js : List Nat) (t : ByteArray), t.size + 22 * js.length ≤ 900 → (∀ j ∈ js, 0 ≤ impl_GateText.val a b c j ∧ impl_GateText.val a b c j ≤ 2147483647) →
  ∃ r, impl_GateText.go a b c js t = some r ∧ r.data.toList = t.data.toList ++ tailN (js.map (impl_GateText.val a b c)) ∧ r.size ≤ t.size + 22 * js.length
 | [], t, _, _ => ⟨t, rfl, (by simp [tailN]), (by simp)⟩
 | j :: js, t, hs, h => by
  have h1 := h j List.mem_cons_self
  have z1 := sp_size (impl_GateText.val a b c j).toNat (by omega)
  rw [List.length_cons] at hs ⊢
  have hz : (t ++ ((⟨#[32]⟩ : ByteArray) ++ dtx (impl_GateText.val a b c j).toNat)).size ≤ t.size + 22 := by rw [ByteArray.size_append]; omega
  obtain ⟨r, e1, e2, e3⟩ := go_text a b c js (t ++ ((⟨#[32]⟩ : ByteArray) ++ dtx (impl_GateText.val a b c j).toNat)) (by omega) (fun i hi => h i (List.mem_cons_of_mem _ hi))
  refine ⟨r, ?_, ?_, (by omega)⟩
  ·
   rw [impl_GateText.go, step_at h1.1 h1.2 (by omega)]
   exact e1
  ·
   rw [e2, app_data, app_data, List.map_cons, tailN, List.append_assoc]
   rfl
theorem val_nums (x : S30) : (impl_Gate_nums.offs x.f0).map (impl_GateText.val x.f1 x.f2 x.f3) = numsG x := by
 unfold impl_Gate_nums.offs numsG
 split
 ·
  rfl
 ·
  split
  ·
   rfl
  ·
   split <;> rfl
theorem name_at {op : Int} (h : 1 ≤ op ∧ op ≤ 8) : ∃ t : ByteArray, rdOf ByteArray.empty opNames (op - 1) = t ∧ t.size ≤ 10 ∧ (32 : UInt8) ∉ t.data.toList ∧ t.data.toList ≠ [] ∧ opOf t.data.toList = op := by
 rcases (show op = 1 ∨ op = 2 ∨ op = 3 ∨ op = 4 ∨ op = 5 ∨ op = 6 ∨ op = 7 ∨ op = 8 by omega) with rfl | rfl | rfl | rfl | rfl | rfl | rfl | rfl <;> exact ⟨_, rfl, (by decide), (by decide), (by decide), (by decide)⟩
theorem text_back (x : S30) (h : gateB x 15 = true) : ∃ t, impl_GateText.f 20 x.f0 x.f1 x.f2 x.f3 = some (t, 0) ∧ spec_GateText.f 20 x.f0 x.f1 x.f2 x.f3 = some (t, 0) ∧ impl_ReadGate.f 30 t = some (x.f0, x.f1, x.f2, x.f3, 0) := by
 obtain ⟨g1, g2, g3, g4⟩ := gate_nums h
 obtain ⟨nm, e1, e2, e3, e3b, e4⟩ := name_at g1
 have hval : ∀ j ∈ impl_Gate_nums.offs x.f0, 0 ≤ impl_GateText.val x.f1 x.f2 x.f3 j ∧ impl_GateText.val x.f1 x.f2 x.f3 j ≤ 2147483647 := fun j hj => g2 _ (by rw [← val_nums]; exact List.mem_map_of_mem hj)
 have hu : (impl_Gate_nums.offs x.f0).length ≤ 2 := by rw [offs_len]; unfold usesN; split <;> (try split) <;> (try split) <;> omega
 obtain ⟨t, t1, t2, t3⟩ := go_text x.f1 x.f2 x.f3 (impl_Gate_nums.offs x.f0) nm (by omega) hval
 have hi : impl_GateText.f 20 x.f0 x.f1 x.f2 x.f3 = some (t, 0) := by
  unfold impl_GateText.f
  rw [isGate_eq x (by omega) (by omega) (by omega), h]
  simp only [bS, if_true]
  rw [names_impl]
  simp only [bS]
  rw [w64 (n := x.f0 - 1) (by omega) (by omega), if_pos (by omega), if_pos (by show x.f0 - 1 < 8; omega), e1, t1]
  rfl
 obtain ⟨r, c, s1, s2⟩ := texts_same x
 rw [hi] at s2
 injection s2 with s2
 injection s2 with s2 s3
 subst s2 s3
 refine ⟨t, hi, s1, ?_⟩
 have hw : wordsB t = nm :: (numsG x).map fun n => dtx n.toNat := by
  apply map_data_inj
  rw [wordsB_data, t2, val_nums]
  unfold wordsL
  rw [cutL_nums _ _ e3, List.map_cons, List.map_map]
  have hne : ∀ y ∈ (nm.data.toList :: (numsG x).map fun n => Go.Lib.decDigits n.toNat), (!y.isEmpty) = true := by
   intro y hy
   rcases List.mem_cons.1 hy with rfl | hy
   ·
    cases hq : nm.data.toList with
    | nil => exact absurd hq e3b
    | cons _ _ => rfl
   ·
    obtain ⟨n, _, rfl⟩ := List.mem_map.1 hy
    cases hq : Go.Lib.decDigits n.toNat with
    | nil => exact absurd hq (digits_ne _)
    | cons _ _ => rfl
  rw [List.filter_eq_self.2 hne]
  rfl
 rw [impl_at t (by omega), if_neg (by omega), hw, readW_some (numsOf_digits _ g2), e4, if_neg (by rw [g3]; intro h; rcases h with h | h; exact absurd h (by omega); exact h rfl), g4, if_pos h]
 rfl
theorem gate_word : impl_ReadGate.f 30 (⟨#[103, 97, 116, 101]⟩ : ByteArray) = some (0, 0, 0, 0, 3) := by
 have hw : wordsB (⟨#[103, 97, 116, 101]⟩ : ByteArray) = [(⟨#[103, 97, 116, 101]⟩ : ByteArray)] := by
  apply map_data_inj
  rw [wordsB_data]
  decide
 rw [impl_at _ (by omega), if_neg (by decide), hw, readW_some (vs := []) rfl, if_pos (.inl (by decide))]
 rfl
end Go.Proofs.YtokljkneflejdaaDoor.PT
end
section
/- The law's walk: FnGates. -/
namespace Go.Proofs.YtokljkneflejdaaDoor.PT
open Go Go.RowKit Go.Proofs.YtokljkneflejdaaDoorW.PrintWords Go.Proofs.YtokljkneflejdaaDoorW.PrintLast Go.Proofs.YtokljkneflejdaaDoorW.PrintMore
set_option linter.unusedVariables false
set_option linter.unusedSimpArgs false
theorem eqA30 (d : Nat) (w : World) (x0 y0 : Int) (x1 y1 : Int) (x2 y2 : Int) (x3 y3 : Int) :
  (Op.equalIn (d + 2) 30 (.agg #[.int .i64 x0, .int .i64 x1, .int .i64 x2, .int .i64 x3]) (.agg #[.int .i64 y0, .int .i64 y1, .int .i64 y2, .int .i64 y3])).run Tryd.prog w = .ok (x0 == y0 && (x1 == y1 && (x2 == y2 && (x3 == y3)))) w := by
 refine eqA_of Tryd.underlying30 (by kernel_rfl) ?_
 refine eqf_cons (by rfl) (by go_simp; rfl) (by go_simp; rfl) (by go_simp) ?_
 refine eqf_cons (by rfl) (by go_simp; rfl) (by go_simp; rfl) (by go_simp) ?_
 refine eqf_cons (by rfl) (by go_simp; rfl) (by go_simp; rfl) (by go_simp) ?_
 exact eqf_last (by rfl) (by go_simp; rfl) (by go_simp; rfl) (by go_simp)
set_option maxHeartbeats 8000000 in
set_option maxRecDepth 100000 in
theorem laws_FnGates.long (A0 A1 : Option Addr) (n0 c0 n1 c1 : Nat) (w : World) (ht : (n0 : Int) > 1048576 ∨ (n1 : Int) > 1048576) : Calls Tryd.prog 3 #[.slice A0 n0 c0, .slice A1 n1 c1] w fun e w' => e = .returned (.bool true) ∧ Below w.heap.size w w' := by
 by_cases h0 : (n0 : Int) > 1048576
 ·
  have a0 : decide (1048576 < (n0 : Int)) = true := decide_eq_true h0
  have a1 : decide (1048576 < n0) = true := decide_eq_true (by omega)
  clear ht h0
  go_enter Tryd.func3, Tryd.ntmps3
  go_wp2
  go_ret
  exact ⟨rfl, Below.refl _ _⟩
 ·
  have h1 : (n1 : Int) > 1048576 := ht.resolve_left h0
  have a0 : decide (1048576 < (n0 : Int)) = false := decide_eq_false h0
  have a1 : decide (1048576 < n0) = false := decide_eq_false (by omega)
  have b0 : decide (1048576 < (n1 : Int)) = true := decide_eq_true h1
  have b1 : decide (1048576 < n1) = true := decide_eq_true (by omega)
  clear ht h0 h1
  go_enter Tryd.func3, Tryd.ntmps3
  go_wp2
  go_ret
  exact ⟨rfl, Below.refl _ _⟩
attribute [local go_sem high] eqA30
set_option maxHeartbeats 8000000 in
set_option maxRecDepth 100000 in
theorem laws_FnGates.calls (A0 A1 : Option Addr) (c0 n1 c1 : Nat) (l : List Int) (w : World) (hg : RG w) (hl : bytesL l) (hr0 : Kd.C (Kd.int .u8) w A0 l.length l) (hc0 : l.length ≤ c0) (h0 : ¬ (l.length : Int) > 1048576) (h1 : ¬ (n1 : Int) > 1048576) : Calls Tryd.prog 3 #[.slice A0 l.length c0, .slice A1 n1 c1] w fun e w' => e = .returned (.bool true) ∧ Below w.heap.size w w' := by
 have hu25 := Tryd.underlying25
 have hu30 := Tryd.underlying30
 have hu23 := Tryd.underlying23
 have a0 : decide (1048576 < (l.length : Int)) = false := decide_eq_false h0
 have a1 : decide (1048576 < l.length) = false := decide_eq_false (by omega)
 have b0 : decide (1048576 < (n1 : Int)) = false := decide_eq_false h1
 have b1 : decide (1048576 < n1) = false := decide_eq_false (by omega)
 have HI := am_ (Inv.start w (fun W => Kd.C (Kd.int .u8) W A0 l.length l ∧ RG W) (fun W hb => ⟨Kd.C_below hr0 hb, hg.below hb⟩))
 have HC := am_ hc0
 clear hg hr0 hc0 h0 h1
 go_enter Tryd.func3, Tryd.ntmps3
 go_wp2_with (first | (go_at_call 5; refine (spec_CircuitOf.right A0 c0 l _ hl HI.out.now.1 HC.out).mono ?_; rintro e w24 ⟨v, gs, rfl, hR, hok, hb⟩; obtain ⟨A, c, rfl, hcp, hI_⟩ := HI.out.rowKnow hb hR; replace HI := am_ (hI_.weaken (G := (fun W => Kd.C k30 W A gs.length gs ∧ RG W)) (fun W h => ⟨h.1, h.2.2⟩)); have HOK := am_ hok; clear hok hb hR hI_) | ((with_reducible refine gate_dst (N := 5) rfl ?_); refine box_event ?hg (N := 5) ?hd (cs := #[.slice none 0 0]) (t := 25) ?hr ?_; (case hd => rfl); (case hg => rfl); (case hr => first | (go_simp; done) | (go_simp; rfl)); intro g5 hg w5 hbox hb; have HI_ := am_ ((HI.out).box hg hbox hb); clear HI; have HI := HI_; clear HI_; clear hb hbox hg) | ((with_reducible refine gate_store (p := 5) (v := (.tmp 24)) (t := 25) rfl ?_); go_must (refine wpList_store_row rfl 25 _ _ rfl g5 (#[.slice A gs.length c]) rfl (by first | rfl | (go_simp; rfl)) 25 (#[.slice none 0 0]) (Inv.blk0 (HI.out)) (by kernel_rfl) (by rfl) qz12_ ?_; have HI_ := am_ (Inv.put0 (HI.out) (#[.slice A gs.length c])); clear HI; have HI := HI_; clear HI_; generalize World.setRow _ g5 (#[.slice A gs.length c]) = w25 at HI ⊢)))
 go_loopg [6] gs.length (fun kq v6 w' => ∃ (j : Nat), v6 = .int .i64 j ∧ Aside0 (j + kq = gs.length) ∧ Aside0 (Inv w NoB w' [blk g5 25 #[.slice A gs.length c]] (fun W => Kd.C k30 W A gs.length gs ∧ RG W)))
 case atStart => exact ⟨0, rfl, ⟨(by omega)⟩, HI⟩
 case round =>
  clear HI
  obtain ⟨j, rfl, HJ, HI⟩ := hrel
  have hj := HJ.out
  have hz : wr.cell? ⟨g5, 0, none⟩ = some (.slice A gs.length c) := (blk_cell (HI.out.get 0 rfl) 0).trans rfl
  cases gk with
  | zero =>
   have d1 : decide ((j : Int) < (gs.length : Int)) = false := decide_eq_false (by omega)
   have d2 : decide (j < gs.length) = false := decide_eq_false (by omega)
   go_wp2_with (first | (go_at_call 8; refine (impl_ReadGate.calls 30 (⟨#[103, 97, 116, 101]⟩ : ByteArray) 0 0 0 0 3 _ HI.out.now.2 gate_word).mono ?_; rintro e w76 ⟨rfl, hb⟩; replace HI := am_ (HI.out.grow hb); clear hb) | ((with_reducible refine gate_dst (N := 13) rfl ?_); refine box_event ?hg (N := 13) ?hd (cs := #[.int .i64 0, .int .i64 0, .int .i64 0, .int .i64 0]) (t := 30) ?hr ?_; (case hd => rfl); (case hg => rfl); (case hr => first | (go_simp; done) | (go_simp; rfl)); intro g13 hg w13 hbox hb; have HI_ := am_ ((HI.out).box hg hbox hb); clear HI; have HI := HI_; clear HI_; clear hb hbox hg) | ((with_reducible refine gate_store (p := 13) (v := (.tmp 77)) (t := 30) rfl ?_); go_must (refine wpList_store_row rfl 30 _ _ rfl g13 (#[.int .i64 0, .int .i64 0, .int .i64 0, .int .i64 0]) rfl (by first | rfl | (go_simp; rfl)) 30 (#[.int .i64 0, .int .i64 0, .int .i64 0, .int .i64 0]) (Inv.blk0 (HI.out)) (by kernel_rfl) (by rfl) qz12_ ?_; have HI_ := am_ (Inv.put0 (HI.out) (#[.int .i64 0, .int .i64 0, .int .i64 0, .int .i64 0])); clear HI; have HI := HI_; clear HI_; generalize World.setRow _ g13 (#[.int .i64 0, .int .i64 0, .int .i64 0, .int .i64 0]) = w77 at HI ⊢)))
   go_ret
   exact ⟨rfl, HI.out.below⟩
  | succ k1 =>
   have hjl : j < gs.length := by omega
   have d1 : decide ((j : Int) < (gs.length : Int)) = true := decide_eq_true (by omega)
   have d2 : decide (j < gs.length) = true := decide_eq_true hjl
   have p5 : 0 ≤ (j : Int) := by omega
   have q5 : (j : Int) < (gs.length : Int) := by omega
   have p6 := eq_true p5
   have q6 := eq_true q5
   obtain ⟨ad, eA, _, _, _, _⟩ := at_T30 HI.out.now.1 (j : Int) p5 q5
   subst eA
   have hx0 : rd_T30 gs (j : Int) = gs[j] := by unfold rd_T30; rw [Int.toNat_natCast, List.getD_eq_getElem?_getD, List.getElem?_eq_getElem hjl, Option.getD_some]
   have hright : gateB gs[j] 15 = true := HOK.out.2 _ (List.getElem_mem hjl)
   obtain ⟨x, hx⟩ : ∃ x, gs[j] = x := ⟨_, rfl⟩
   rw [hx] at hx0 hright
   obtain ⟨t, e1, e2, e3⟩ := text_back x hright
   have HX := am_ hx0
   have E1 := am_ e1
   have E2 := am_ e2
   have E3 := am_ e3
   have hlen := HOK.out.1
   clear hx0 hx hright e1 e2 e3
   obtain ⟨ad_, ea_, k0_, k1_, k2_, k3_⟩ := at_T30 HI.out.now.1 (j : Int) p5 q5
   cases ea_
   rw [HX.out, Int.toNat_natCast] at k0_ k1_ k2_ k3_
   have hz_ : wr.cell? ⟨g5, 0, none⟩ = some (.slice (some ad) gs.length c) := (blk_cell (HI.out.get 0 rfl) 0).trans rfl
   go_wp2_with (first | (go_at_call 6; refine (impl_GateText.calls 20 x.f0 x.f1 x.f2 x.f3 t 0 _ HI.out.now.2.tab E1.out).mono ?_; rintro e w6 ⟨rfl, hb⟩; replace HI := am_ (HI.out.grow hb); clear hb; obtain ⟨ad_, ea_, k0_, k1_, k2_, k3_⟩ := at_T30 HI.out.now.1 (j : Int) p5 q5; cases ea_; rw [HX.out, Int.toNat_natCast] at k0_ k1_ k2_ k3_; have hz_ : w6.cell? ⟨g5, 0, none⟩ = some (.slice (some ad) gs.length c) := (blk_cell (HI.out.get 0 rfl) 0).trans rfl) | (go_at_call 7; refine (spec_GateText.calls 20 x.f0 x.f1 x.f2 x.f3 t 0 _ E2.out).mono ?_; rintro e w7 ⟨rfl, hb⟩; replace HI := am_ (HI.out.grow hb); clear hb) | (go_at_call 8; refine (impl_ReadGate.calls 30 t x.f0 x.f1 x.f2 x.f3 0 _ HI.out.now.2 E3.out).mono ?_; rintro e w8 ⟨rfl, hb⟩; replace HI := am_ (HI.out.grow hb); clear hb) | ((with_reducible refine gate_dst (N := 11) rfl ?_); refine box_event ?hg (N := 11) ?hd (cs := #[.int .i64 0, .int .i64 0, .int .i64 0, .int .i64 0]) (t := 30) ?hr ?_; (case hd => rfl); (case hg => rfl); (case hr => first | (go_simp; done) | (go_simp; rfl)); intro g11 hg w11 hbox hb; have HI_ := am_ ((HI.out).box hg hbox hb); clear HI; have HI := HI_; clear HI_; clear hb hbox hg) | ((with_reducible refine gate_store (p := 11) (v := (.tmp 53)) (t := 30) rfl ?_); go_must (refine wpList_store_row rfl 30 _ _ rfl g11 (#[.int .i64 x.f0, .int .i64 x.f1, .int .i64 x.f2, .int .i64 x.f3]) rfl (by first | rfl | (go_simp; rfl)) 30 (#[.int .i64 0, .int .i64 0, .int .i64 0, .int .i64 0]) (Inv.blk0 (HI.out)) (by kernel_rfl) (by rfl) qz12_ ?_; have HI_ := am_ (Inv.put0 (HI.out) (#[.int .i64 x.f0, .int .i64 x.f1, .int .i64 x.f2, .int .i64 x.f3])); clear HI; have HI := HI_; clear HI_; generalize World.setRow _ g11 (#[.int .i64 x.f0, .int .i64 x.f1, .int .i64 x.f2, .int .i64 x.f3]) = w53 at HI ⊢)))
   obtain ⟨ad_, ea_, kd0, kd1, kd2, kd3⟩ := at_T30 HI.out.drew.now.1 (j : Int) p5 q5
   cases ea_
   rw [HX.out, Int.toNat_natCast] at kd0 kd1 kd2 kd3
   refine start_ (n := 20) (S := fun w' => w'.cell? ⟨g11, 0, none⟩ = some (.int .i64 x.f0) ∧ w'.cell? ⟨g11, 1, none⟩ = some (.int .i64 x.f1) ∧ w'.cell? ⟨g11, 2, none⟩ = some (.int .i64 x.f2) ∧ w'.cell? ⟨g11, 3, none⟩ = some (.int .i64 x.f3) ∧ w'.cell? ⟨g5, 0, none⟩ = some (.slice (some ad) gs.length c) ∧ w'.cell? (ad.add (j * 4)) = some (.int .i64 x.f0) ∧ w'.cell? ⟨(ad.add (j * 4)).block, (ad.add (j * 4)).off + 1, none⟩ = some (.int .i64 x.f1) ∧ w'.cell? ⟨(ad.add (j * 4)).block, (ad.add (j * 4)).off + 2, none⟩ = some (.int .i64 x.f2) ∧ w'.cell? ⟨(ad.add (j * 4)).block, (ad.add (j * 4)).off + 3, none⟩ = some (.int .i64 x.f3)) (ds := []) #[false, false, false, false, false, false, false, false, false, false, false, false, false, false, false, false, false, false, false, false] (by kernel_rfl) rfl rfl ⟨(blk_cell (HI.out.drew.get 0 rfl) 0).trans rfl, (blk_cell (HI.out.drew.get 0 rfl) 1).trans rfl, (blk_cell (HI.out.drew.get 0 rfl) 2).trans rfl, (blk_cell (HI.out.drew.get 0 rfl) 3).trans rfl, (blk_cell (HI.out.drew.get 1 rfl) 0).trans rfl, kd0, kd1, kd2, kd3⟩ (fun hHeld => ?_)
   have HI_ := am_ (HI.out.drew); clear HI; have HI := HI_; clear HI_
   generalize World.drew _ = wd10 at HI hHeld ⊢
   refine pure_ (i := 0) (N := some 55) (v := ?_) (a' := ?_) #[true, false, false, false, false, false, false, false, false, false, false, false, false, false, false, false, false, false, false, false] rfl rfl (by kernel_rfl) (fun _ _ _ h => h) (Or.inl ⟨(by rfl), ?_⟩) ?_ ?_
   rotate_left
   ·
    intro w'
    go_simp
    with_reducible rfl
   rotate_left
   ·
    exact ap_
   refine pure_ (i := 1) (N := some 56) (v := ?_) (a' := ?_) #[true, true, false, false, false, false, false, false, false, false, false, false, false, false, false, false, false, false, false, false] rfl rfl (by kernel_rfl) (fun _ _ _ h => h) (Or.inl ⟨(by rfl), ?_⟩) ?_ ?_
   rotate_left
   ·
    intro w'
    go_simp
    with_reducible rfl
   rotate_left
   ·
    exact ap_
   refine pure_ (i := 2) (N := some 57) (v := ?_) (a' := ?_) #[true, true, true, false, false, false, false, false, false, false, false, false, false, false, false, false, false, false, false, false] rfl rfl (by kernel_rfl) (fun _ _ _ h => h) (Or.inl ⟨(by rfl), ?_⟩) ?_ ?_
   rotate_left
   ·
    intro w'
    go_simp
    with_reducible rfl
   rotate_left
   ·
    exact ap_
   refine pure_ (i := 3) (N := some 58) (v := ?_) (a' := ?_) #[true, true, true, true, false, false, false, false, false, false, false, false, false, false, false, false, false, false, false, false] rfl rfl (by kernel_rfl) (fun _ _ _ h => h) (Or.inl ⟨(by rfl), ?_⟩) ?_ ?_
   rotate_left
   ·
    intro w'
    go_simp
    with_reducible rfl
   rotate_left
   ·
    exact ap_
   refine pure_ (i := 4) (N := some 59) (v := ?_) (a' := ?_) #[true, true, true, true, true, false, false, false, false, false, false, false, false, false, false, false, false, false, false, false] rfl rfl (by kernel_rfl) (fun _ _ _ h => h) (Or.inl ⟨(by rfl), ?_⟩) ?_ ?_
   rotate_left
   ·
    intro w'
    go_simp
    with_reducible rfl
   rotate_left
   ·
    exact ap_
   refine pure_ (i := 5) (N := some 60) (v := ?_) (a' := ?_) #[true, true, true, true, true, true, false, false, false, false, false, false, false, false, false, false, false, false, false, false] rfl rfl (by kernel_rfl) (fun _ _ _ h => h) (Or.inl ⟨(by rfl), ?_⟩) ?_ ?_
   rotate_left
   ·
    intro w'
    go_simp
    with_reducible rfl
   rotate_left
   ·
    exact ap_
   refine pure_ (i := 6) (N := some 61) (v := ?_) (a' := ?_) #[true, true, true, true, true, true, true, false, false, false, false, false, false, false, false, false, false, false, false, false] rfl rfl (by kernel_rfl) (fun _ _ _ h => h) (Or.inl ⟨(by rfl), ?_⟩) ?_ ?_
   rotate_left
   ·
    intro w'
    go_simp
    with_reducible rfl
   rotate_left
   ·
    exact ap_
   refine pure_ (i := 7) (N := some 62) (v := ?_) (a' := ?_) #[true, true, true, true, true, true, true, true, false, false, false, false, false, false, false, false, false, false, false, false] rfl rfl (by kernel_rfl) (fun _ _ _ h => h) (Or.inl ⟨(by rfl), ?_⟩) ?_ ?_
   rotate_left
   ·
    intro w'
    go_simp
    with_reducible rfl
   rotate_left
   ·
    exact ap_
   refine pure_ (i := 8) (N := some 63) (v := ?_) (a' := ?_) #[true, true, true, true, true, true, true, true, true, false, false, false, false, false, false, false, false, false, false, false] rfl rfl (by kernel_rfl) (fun _ _ _ h => h) (Or.inl ⟨(by rfl), ?_⟩) ?_ ?_
   rotate_left
   ·
    intro w'
    go_simp
    with_reducible rfl
   rotate_left
   ·
    exact ap_
   refine pure_ (i := 9) (N := some 64) (v := ?_) (a' := ?_) #[true, true, true, true, true, true, true, true, true, true, false, false, false, false, false, false, false, false, false, false] rfl rfl (by kernel_rfl) (fun _ _ _ h => h) (Or.inl ⟨(by rfl), ?_⟩) ?_ ?_
   rotate_left
   ·
    intro w'
    go_simp
    with_reducible rfl
   rotate_left
   ·
    exact ap_
   refine pure_ (i := 10) (N := some 65) (v := ?_) (a' := ?_) #[true, true, true, true, true, true, true, true, true, true, true, false, false, false, false, false, false, false, false, false] rfl rfl (by kernel_rfl) (fun _ _ _ h => h) (Or.inl ⟨(by rfl), ?_⟩) ?_ ?_
   rotate_left
   ·
    intro w'
    go_simp
    with_reducible rfl
   rotate_left
   ·
    exact ap_
   refine pure_ (i := 11) (N := some 66) (v := ?_) (a' := ?_) #[true, true, true, true, true, true, true, true, true, true, true, true, false, false, false, false, false, false, false, false] rfl rfl (by kernel_rfl) (fun _ _ _ h => h) (Or.inl ⟨(by rfl), ?_⟩) ?_ ?_
   rotate_left
   ·
    intro w'
    go_simp
    with_reducible rfl
   rotate_left
   ·
    exact ap_
   refine take_ (i := 12) (N := some 67) (v := ?_) (a' := ?_) #[true, true, true, true, true, true, true, true, true, true, true, true, true, false, false, false, false, false, false, false] rfl rfl (by kernel_rfl) (fun _ _ _ h => h) (Or.inl ⟨(by rfl), ?_⟩) hHeld ?_ ?_
   rotate_left
   ·
    rintro w' ⟨s0, s1, s2, s3, s4, s5, s6, s7, s8⟩
    go_simp
    with_reducible rfl
   rotate_left
   ·
    exact ap_
   refine pure_ (i := 13) (N := some 68) (v := ?_) (a' := ?_) #[true, true, true, true, true, true, true, true, true, true, true, true, true, true, false, false, false, false, false, false] rfl rfl (by kernel_rfl) (fun _ _ _ h => h) (Or.inl ⟨(by rfl), ?_⟩) ?_ ?_
   rotate_left
   ·
    intro w'
    go_simp
    with_reducible rfl
   rotate_left
   ·
    exact ap_
   refine take_ (i := 14) (N := some 69) (v := ?_) (a' := ?_) #[true, true, true, true, true, true, true, true, true, true, true, true, true, true, true, false, false, false, false, false] rfl rfl (by kernel_rfl) (fun _ _ _ h => h) (Or.inl ⟨(by rfl), ?_⟩) hHeld ?_ ?_
   rotate_left
   ·
    rintro w' ⟨s0, s1, s2, s3, s4, s5, s6, s7, s8⟩
    go_simp
    with_reducible rfl
   rotate_left
   ·
    exact ap_
   refine pure_ (i := 15) (N := some 70) (v := ?_) (a' := ?_) #[true, true, true, true, true, true, true, true, true, true, true, true, true, true, true, true, false, false, false, false] rfl rfl (by kernel_rfl) (fun _ _ _ h => h) (Or.inl ⟨(by rfl), ?_⟩) ?_ ?_
   rotate_left
   ·
    intro w'
    go_simp
    with_reducible rfl
   rotate_left
   ·
    exact ap_
   refine pure_ (i := 16) (N := some 71) (v := ?_) (a' := ?_) #[true, true, true, true, true, true, true, true, true, true, true, true, true, true, true, true, true, false, false, false] rfl rfl (by kernel_rfl) (fun _ _ _ h => h) (Or.inl ⟨(by rfl), ?_⟩) ?_ ?_
   rotate_left
   ·
    intro w'
    go_simp
    with_reducible rfl
   rotate_left
   ·
    exact ap_
   refine take_ (i := 17) (N := some 72) (v := ?_) (a' := ?_) #[true, true, true, true, true, true, true, true, true, true, true, true, true, true, true, true, true, true, false, false] rfl rfl (by kernel_rfl) (fun _ _ _ h => h) (Or.inl ⟨(by rfl), ?_⟩) hHeld ?_ ?_
   rotate_left
   ·
    rintro w' ⟨s0, s1, s2, s3, s4, s5, s6, s7, s8⟩
    go_simp
    with_reducible rfl
   rotate_left
   ·
    exact ap_
   refine pure_ (i := 18) (N := some 73) (v := ?_) (a' := ?_) #[true, true, true, true, true, true, true, true, true, true, true, true, true, true, true, true, true, true, true, false] rfl rfl (by kernel_rfl) (fun _ _ _ h => h) (Or.inl ⟨(by rfl), ?_⟩) ?_ ?_
   rotate_left
   ·
    intro w'
    go_simp
    with_reducible rfl
   rotate_left
   ·
    exact ap_
   refine pure_ (i := 19) (N := some 74) (v := ?_) (a' := ?_) #[true, true, true, true, true, true, true, true, true, true, true, true, true, true, true, true, true, true, true, true] rfl rfl (by kernel_rfl) (fun _ _ _ h => h) (Or.inl ⟨(by rfl), ?_⟩) ?_ ?_
   rotate_left
   ·
    intro w'
    go_simp
    with_reducible rfl
   rotate_left
   ·
    exact ap_
   refine done_ (by kernel_rfl) ?_
   try go_wp2
   have wj : wrap64 ((j : Int) + 1) = ((j + 1 : Nat) : Int) := by unfold wrap64; omega
   go_roundg k1
   case measure => omega
   case rel => exact ⟨j + 1, (by first | rfl | rw [wj] | go_num), ⟨(by have := HJ.out; omega)⟩, ⟨HI.out.drop⟩⟩
end Go.Proofs.YtokljkneflejdaaDoor.PT
end
