/- Part 4 of the proof of FnExactCommitTable: what functions compute, shown step by step, and what that says (the claim's last text states the law). -/
import Derived.Test.YtgookagndlfehaaProg
import Derived.Test.YtgookagndlfehaaVMore
import Derived.Test.YtgookagndlfehaaVWords
import Derived.Test.YtgookagndlfehaaVLast
import Derived.Test.YtgookagndlfehaaVTab
import Derived.Test.YtgookagndlfehaaVFour
import Derived.Test.YtgookagndlfehaaVQPut
import Derived.Test.YtgookagndlfehaaVApart
import Derived.Test.YtgookagndlfehaaVArr
import Derived.Test.YtgookagndlfehaaVZeros
import Derived.Test.YtgookagndlfehaaVFoot
import Derived.Test.YtgookagndlfehaaVKept
import Derived.Test.YtgookagndlfehaaVShare
import Derived.Test.YtgookagndlfehaaVN
import Derived.Test.YtgookagndlfehaaVRepsOne
import Derived.Test.YtgookagndlfehaaVInv
import Derived.Test.YtgookagndlfehaaVNEv
import Derived.Test.YtgookagndlfehaaRows
import Derived.JoinedOf
import Derived.WalkKit
import Derived.ProofKit
import Derived.Below
import Derived.Deep.Draws
import Derived.Deep.AppendLies
import Derived.Maps.AppendAt
import Derived.OwnWalk
import Derived.Laws.BytesArg
import Derived.Laws.MakeOwn
import Derived.Laws.OwnMore
import Derived.Deep.OwnRows
import Derived.Tactics
import Derived.Lib.ConvBytes
import Derived.Laws.Slices
import Derived.KernelRfl
import Derived.RowKit3
import Derived.Deep.LoopGhost
import Derived.Deep.QuietTactic
import Derived.BigQuiet
import Derived.WideLaws
import Derived.Deep.DeepCutAuto
import Derived.Deep.CutBlock
import Derived.Deep.RegionHeld3
import Derived.Laws.Rows
import Derived.Lib.AppendStr
import Derived.ArgAppend
import Derived.Laws.IdiomCopy
import Derived.OrdersHeld
import Derived.Laws.BitsLemmas
import Derived.RowKit
import Derived.Deep.DeepMust
import Derived.Laws.CopyOwn
import Derived.Lib.BufferMore
import Derived.Lib.SliceRun
import Derived.Shelf.Small.Bits
import Derived.Shelf.Strconv.Itoa0
import Derived.OpenShut
import Derived.ShutString
import Derived.ChangeOld
import Derived.SizedLaws
import Derived.Deep.Slices
import Derived.ChangeArms
import Derived.Test.YtgookagndlfehaaZFnExactCommitTable3
section
namespace Go.Proofs.Ytgookagndlfehaa.PT
open Go.RowKit Go.Proofs.YtgookagndlfehaaW.PrintWords Go.Proofs.YtgookagndlfehaaW.PrintLast Go.Proofs.YtgookagndlfehaaW.PrintMore
attribute [local go_sem] max2_int min2_int max_two min_two max_three min_three max_four min_four   -- for this text's walks alone
set_option linter.unusedVariables false
set_option linter.unusedSimpArgs false
def impl_pow.l0 : Nat → Int → Int → Int → Option (Int)
 | 0, _, _, _ => none
 | k + 1, x0, x1, x5 => if x1 > 0 then (if (Go.bits .and .i64 x1 1) = 1 then ((impl_mul.f x5 x0).bind fun t101 => ((impl_mul.f x0 x0).bind fun t102 => (impl_pow.l0 k t102 (x1 / 2) t101))) else ((impl_mul.f x0 x0).bind fun t103 => (impl_pow.l0 k t103 (x1 / 2) x5))) else (some x5)
def impl_pow.f (k : Nat) (a0 : Int) (a1 : Int) : Option (Int) := impl_pow.l0 k a0 a1 1
theorem impl_pow.mono_l : ∀ k, (∀ y0 y1 y2, LeO (impl_pow.l0 k y0 y1 y2) (impl_pow.l0 (k + 1) y0 y1 y2))
 | 0 => fun _ _ _ r h => by simp [impl_pow.l0] at h
 | k + 1 => by
  have ih0 := impl_pow.mono_l k
  ·
   intro y0 y1 y2
   unfold impl_pow.l0
   repeat' first
   | (with_reducible exact ih0 _ _ _)
   | (with_reducible exact LeO.refl _)
   | (with_reducible exact LeO.none _)
   | (with_reducible refine LeO.ite ?_ ?_)
   | (with_reducible refine LeO.bind ?_ (fun _ => ?_))
   | exact ih0 _ _ _
   | exact LeO.none _
   | refine LeO.ite ?_ ?_
   | refine LeO.bind ?_ (fun _ => ?_)
theorem impl_pow.mono : ∀ a0 a1 k, LeO (impl_pow.f k a0 a1) (impl_pow.f (k + 1) a0 a1) := by
 intro a0 a1 k
 have ih0 := impl_pow.mono_l k
 unfold impl_pow.f
 repeat' first
   | (with_reducible exact ih0 _ _ _)
   | (with_reducible exact LeO.refl _)
   | (with_reducible exact LeO.none _)
   | (with_reducible refine LeO.ite ?_ ?_)
   | (with_reducible refine LeO.bind ?_ (fun _ => ?_))
   | exact ih0 _ _ _
   | exact LeO.none _
   | refine LeO.ite ?_ ?_
   | refine LeO.bind ?_ (fun _ => ?_)
set_option maxHeartbeats 8000000 in
set_option maxRecDepth 100000 in
theorem impl_pow.calls (k : Nat) (a0 : Int) (a1 : Int) (r : Int) (w : World) (h : impl_pow.f k a0 a1 = some r) :
  Calls Try.prog 167 #[.int .i64 a0, .int .i64 a1] w fun e w' => e = .returned (.int .i64 r) ∧ Drawn0 w w' := by
 have H : (impl_pow.l0 k a0 a1 1) = some r := h
 clear h
 have H' := am_ H
 clear H
 go_enter Try.func167, Try.ntmps167
 go_wp2
 go_loopg [0, 1, 5] k (fun kq v0 v1 v5 w' => ∃ (x0_1 : Int) (x1_1 : Int) (x5_1 : Int), v0 = .int .i64 x0_1 ∧ v1 = .int .i64 x1_1 ∧ v5 = .int .i64 x5_1 ∧ Aside0 (impl_pow.l0 kq x0_1 x1_1 x5_1 = some r) ∧ Aside0 (kq ≤ k) ∧ Drawn0 w w')
 case atStart => exact ⟨(a0), (a1), (1), qz0_, qz0_, qz0_, H', ⟨Nat.le_refl _⟩, by repeat (first | exact Drawn0.refl _ | apply Drawn0.step)⟩
 case round =>
  clear H'
  try clear c1
  try clear p2
  obtain ⟨x0_1, x1_1, x5_1, rfl, rfl, rfl, HA, HK1, ⟨m1, rfl⟩⟩ := hrel
  cases gk with
  | zero => exact absurd HA.out (by simp [impl_pow.l0])
  | succ k1 =>
   have H := HA.out
   clear HA
   simp only [impl_pow.l0] at H
   by_cases c3 : x1_1 > 0
   ·
    rw [if_pos c3] at H
    have c3b0 : decide (0 < x1_1) = true := decide_eq_true c3
    clear c3
    by_cases c4 : (Go.bits .and .i64 x1_1 1) = 1
    ·
     rw [if_pos c4] at H
     have c4b0 : ((Go.bits .and .i64 x1_1 1) == 1) = true := beq_iff_eq.mpr c4
     have c4b1 : ((Go.bits .and .i64 x1_1 1) != 1) = false := bne_eq_false_iff_eq.mpr c4
     clear c4
     replace H := Option.bind_eq_some_iff.mp H
     obtain ⟨t101, A50, H⟩ := H
     replace H : ((impl_mul.f x0_1 x0_1).bind fun t102 => (impl_pow.l0 k1 t102 (x1_1 / 2) t101)) = some r := H
     have A5 := am_ A50
     clear A50
     replace H := Option.bind_eq_some_iff.mp H
     obtain ⟨t102, A60, H⟩ := H
     replace H : (impl_pow.l0 k1 t102 (x1_1 / 2) t101) = some r := H
     have A6 := am_ A60
     clear A60
     have H' := am_ H
     clear H
     go_wp2_with (first | ((with_reducible refine gate_callee (f := 166) rfl ?_); refine goesL_ (some 15) rfl rfl Try.func166 (by kernel_rfl) rfl #[.int .i64 x5_1, .int .i64 x0_1] rfl qz2_ ?_; (with_reducible refine (impl_mul.calls x5_1 x0_1 t101 _ A5.out).mono ?_); rintro e w' ⟨rfl, ⟨nd, rfl⟩⟩; refine ⟨_, rfl, ?_⟩) | ((with_reducible refine gate_callee (f := 166) rfl ?_); refine goesL_ (some 18) rfl rfl Try.func166 (by kernel_rfl) rfl #[.int .i64 x0_1, .int .i64 x0_1] rfl qz2_ ?_; (with_reducible refine (impl_mul.calls x0_1 x0_1 t102 _ A6.out).mono ?_); rintro e w' ⟨rfl, ⟨nd, rfl⟩⟩; refine ⟨_, rfl, ?_⟩))
     go_roundg k1
     case measure => have := HK1.out; omega
     case rel => exact ⟨(t102), (x1_1 / 2), (t101), qz0_, qz0_, qz0_, H', ⟨(by have := HK1.out; omega)⟩, by repeat (first | exact Drawn0.refl _ | apply Drawn0.step)⟩
    ·
     rw [if_neg c4] at H
     have c4b0 : ((Go.bits .and .i64 x1_1 1) == 1) = false := beq_eq_false_iff_ne.mpr c4
     have c4b1 : ((Go.bits .and .i64 x1_1 1) != 1) = true := bne_iff_ne.mpr c4
     replace H := Option.bind_eq_some_iff.mp H
     obtain ⟨t103, A70, H⟩ := H
     replace H : (impl_pow.l0 k1 t103 (x1_1 / 2) x5_1) = some r := H
     have A7 := am_ A70
     clear A70
     have H' := am_ H
     clear H
     go_wp2_with (first | ((with_reducible refine gate_callee (f := 166) rfl ?_); refine goesL_ (some 18) rfl rfl Try.func166 (by kernel_rfl) rfl #[.int .i64 x0_1, .int .i64 x0_1] rfl qz2_ ?_; (with_reducible refine (impl_mul.calls x0_1 x0_1 t103 _ A7.out).mono ?_); rintro e w' ⟨rfl, ⟨nd, rfl⟩⟩; refine ⟨_, rfl, ?_⟩))
     go_roundg k1
     case measure => have := HK1.out; omega
     case rel => exact ⟨(t103), (x1_1 / 2), (x5_1), qz0_, qz0_, qz0_, H', ⟨(by have := HK1.out; omega)⟩, by repeat (first | exact Drawn0.refl _ | apply Drawn0.step)⟩
   ·
    rw [if_neg c3] at H
    have c3b0 : decide (0 < x1_1) = false := decide_eq_false c3
    clear c3
    obtain rfl := Option.some.inj H
    go_wp2
    go_ret
    exact ⟨qz0_, qz1_⟩

def impl_root.f (k : Nat) (a0 : Int) : Option (Int) := if 0 ≤ (wrap64 (24 - a0)) then ((impl_pow.f k 3 (shl .i64 127 (wrap64 (24 - a0)))).bind fun t101 => (some t101)) else (none)
theorem impl_root.mono : ∀ a0 k, LeO (impl_root.f k a0) (impl_root.f (k + 1) a0) := by
 intro a0 k
 unfold impl_root.f
 repeat' first
   | (with_reducible exact impl_pow.mono _ _ _)
   | (with_reducible exact LeO.refl _)
   | (with_reducible exact LeO.none _)
   | (with_reducible refine LeO.ite ?_ ?_)
   | (with_reducible refine LeO.bind ?_ (fun _ => ?_))
   | exact impl_pow.mono _ _ _
   | exact LeO.none _
   | refine LeO.ite ?_ ?_
   | refine LeO.bind ?_ (fun _ => ?_)
set_option maxHeartbeats 8000000 in
set_option maxRecDepth 100000 in
theorem impl_root.calls (k : Nat) (a0 : Int) (r : Int) (w : World) (h : impl_root.f k a0 = some r) :
  Calls Try.prog 143 #[.int .i64 a0] w fun e w' => e = .returned (.int .i64 r) ∧ Drawn0 w w' := by
 have H : (if 0 ≤ (wrap64 (24 - a0)) then ((impl_pow.f k 3 (shl .i64 127 (wrap64 (24 - a0)))).bind fun t101 => (some t101)) else (none)) = some r := h
 clear h
 obtain ⟨ji2, hji2⟩ : ∃ j_ : Int, (wrap64 (24 - a0)) = j_ := ⟨_, rfl⟩
 replace H : (if 0 ≤ (ji2) then ((impl_pow.f k 3 (shl .i64 127 (ji2))).bind fun t101 => (some t101)) else (none)) = some r := by first | (rw [hji2] at H; exact H) | (simp only [hji2] at H ⊢; exact H)
 have hji2w : (IntKind.i64.wrap (24 - a0)) = ji2 := (i64_w _).trans hji2
 by_cases c3 : 0 ≤ (ji2)
 ·
  rw [if_pos c3] at H
  have c3b0 := eq_true c3
  have c3b1 : decide (0 ≤ (ji2)) = true := decide_eq_true c3
  clear c3
  obtain ⟨ji4, hji4⟩ : ∃ j_ : Int, (shl .i64 127 (ji2)) = j_ := ⟨_, rfl⟩
  replace H : ((impl_pow.f k 3 (ji4)).bind fun t101 => (some t101)) = some r := by first | (rw [hji4] at H; exact H) | (simp only [hji4] at H ⊢; exact H)
  have hji4_ : (IntKind.i64.wrap (127 * 2 ^ min (ji2).toNat 64)) = ji4 := hji4
  have hji4z : (ji2) ≤ 64 → (IntKind.i64.wrap (127 * 2 ^ (ji2).toNat)) = ji4 := shl_small hji4
  have hji4y : (wrap64 (127 * 2 ^ min (ji2).toNat 64)) = ji4 := (i64_w _).symm.trans hji4_
  have hji4x : (ji2) ≤ 64 → (wrap64 (127 * 2 ^ (ji2).toNat)) = ji4 := fun h_ => (i64_w _).symm.trans (hji4z h_)
  replace H := Option.bind_eq_some_iff.mp H
  obtain ⟨t101, A50, H⟩ := H
  replace H : (some t101) = some r := H
  have A5 := am_ A50
  clear A50
  obtain rfl := Option.some.inj H
  go_enter Try.func143, Try.ntmps143
  go_wp2_with (first | ((with_reducible refine gate_callee (f := 167) rfl ?_); refine goesL_ (some 6) rfl rfl Try.func167 (by kernel_rfl) rfl #[.int .i64 3, .int .i64 ji4] rfl (by (try simp only [List.map_toArray, List.map_cons, List.map_nil]); first | done | (simp only [hji4]; rfl) | rfl | (simp only [List.length_drop, List.length_take]; rfl)) ?_; (with_reducible refine (impl_pow.calls k 3 ji4 t101 _ A5.out).mono ?_); rintro e w' ⟨rfl, ⟨nd, rfl⟩⟩; refine ⟨_, rfl, ?_⟩))
  go_ret
  exact ⟨(by first | rfl | (simp; done) | (simp only [← hji2, ← hji4] <;> (first | rfl | simp)) | (simp [*]; done)), qz1_⟩
 ·
  rw [if_neg c3] at H
  exact absurd H (by simp)

end Go.Proofs.Ytgookagndlfehaa.PT
end
section
/- bits.Len's contract, laid from the kit's shelf for this program. -/
namespace Go.Proofs
open Go.Shelf
def Try.lays128_ren : Go.Shelf.Ren := ⟨fun | 128 => 171 | n => n, fun | 51 => 175 | 3 => 3 | 4 => 4 | 46 => 121 | 5 => 5 | 9 => 9 | n => n, fun | n => n⟩
theorem Try.lays128 : Go.Proofs.Lays.n128 Try.prog Try.lays128_ren := {
 mixed := by kernel_rfl
 f128 := Try.func171.trans (congrArg some (by kernel_rfl))
 t3 := Try.underlying3
 a3 := Try.isAgg3
 z3 := Try.sizeOf3
 v3 := Try.zeroValue3
 t4 := Try.underlying4
 a4 := Try.isAgg4
 z4 := Try.sizeOf4
 v4 := Try.zeroValue4
 t5 := Try.underlying5
 a5 := Try.isAgg5
 z5 := Try.sizeOf5
 v5 := Try.zeroValue5
 t9 := Try.underlying9
 a9 := Try.isAgg9
 z9 := Try.sizeOf9
 v9 := Try.zeroValue9
 t46 := Try.underlying121
 a46 := Try.isAgg121
 z46 := Try.sizeOf121
 v46 := Try.zeroValue121
 t51 := Try.underlying175
 a51 := Try.isAgg175
 z51 := Try.sizeOf175
 v51 := Try.zeroValue175 }
theorem Try.bits_Len32 (x : Int) (w : World) (h0 : 0 ≤ x) (h1 : x ≤ 4294967295) :
  Calls Try.prog 171 #[.int .u32 x] w fun e w' => e = .returned (.int .i64 (Lib.bitLen x.toNat)) ∧ w' = w := Any.bits_Len32 Try.lays128 x w h0 h1
def Try.lays125_ren : Go.Shelf.Ren := ⟨fun | 125 => 168 | 128 => 171 | 129 => 172 | n => n, fun | 46 => 121 | 3 => 3 | 51 => 175 | 53 => 132 | 4 => 4 | 5 => 5 | 9 => 9 | n => n, fun | n => n⟩
theorem Try.lays125 : Go.Proofs.Lays.n125 Try.prog Try.lays125_ren := {
 mixed := by kernel_rfl
 f125 := Try.func168.trans (congrArg some (by kernel_rfl))
 f128 := Try.func171.trans (congrArg some (by kernel_rfl))
 f129 := Try.func172.trans (congrArg some (by kernel_rfl))
 t3 := Try.underlying3
 a3 := Try.isAgg3
 z3 := Try.sizeOf3
 v3 := Try.zeroValue3
 t4 := Try.underlying4
 a4 := Try.isAgg4
 z4 := Try.sizeOf4
 v4 := Try.zeroValue4
 t5 := Try.underlying5
 a5 := Try.isAgg5
 z5 := Try.sizeOf5
 v5 := Try.zeroValue5
 t9 := Try.underlying9
 a9 := Try.isAgg9
 z9 := Try.sizeOf9
 v9 := Try.zeroValue9
 t46 := Try.underlying121
 a46 := Try.isAgg121
 z46 := Try.sizeOf121
 v46 := Try.zeroValue121
 t51 := Try.underlying175
 a51 := Try.isAgg175
 z51 := Try.sizeOf175
 v51 := Try.zeroValue175
 t53 := Try.underlying132
 a53 := Try.isAgg132
 z53 := Try.sizeOf132
 v53 := Try.zeroValue132 }
theorem Try.bits_Len (x : Int) (w : World) (h0 : 0 ≤ x) (h1 : x ≤ 18446744073709551615) :
  Calls Try.prog 168 #[.int .u64 x] w fun e w' => e = .returned (.int .i64 (Lib.bitLen x.toNat)) ∧ w' = w := Any.bits_Len Try.lays125 x w h0 h1
def Try.lays129_ren : Go.Shelf.Ren := ⟨fun | 129 => 172 | n => n, fun | 53 => 132 | 3 => 3 | 4 => 4 | 46 => 121 | 5 => 5 | 9 => 9 | n => n, fun | n => n⟩
theorem Try.lays129 : Go.Proofs.Lays.n129 Try.prog Try.lays129_ren := {
 mixed := by kernel_rfl
 f129 := Try.func172.trans (congrArg some (by kernel_rfl))
 t3 := Try.underlying3
 a3 := Try.isAgg3
 z3 := Try.sizeOf3
 v3 := Try.zeroValue3
 t4 := Try.underlying4
 a4 := Try.isAgg4
 z4 := Try.sizeOf4
 v4 := Try.zeroValue4
 t5 := Try.underlying5
 a5 := Try.isAgg5
 z5 := Try.sizeOf5
 v5 := Try.zeroValue5
 t9 := Try.underlying9
 a9 := Try.isAgg9
 z9 := Try.sizeOf9
 v9 := Try.zeroValue9
 t46 := Try.underlying121
 a46 := Try.isAgg121
 z46 := Try.sizeOf121
 v46 := Try.zeroValue121
 t53 := Try.underlying132
 a53 := Try.isAgg132
 z53 := Try.sizeOf132
 v53 := Try.zeroValue132 }
theorem Try.bits_Len64 (x : Int) (w : World) (h0 : 0 ≤ x) (h1 : x ≤ 18446744073709551615) :
  Calls Try.prog 172 #[.int .u64 x] w fun e w' => e = .returned (.int .i64 (Lib.bitLen x.toNat)) ∧ w' = w := Any.bits_Len64 Try.lays129 x w h0 h1
end Go.Proofs
end
section
namespace Go.Proofs.Ytgookagndlfehaa.PT
open Go.RowKit Go.Proofs.YtgookagndlfehaaW.PrintWords Go.Proofs.YtgookagndlfehaaW.PrintLast Go.Proofs.YtgookagndlfehaaW.PrintMore
attribute [local go_sem] max2_int min2_int max_two min_two max_three min_three max_four min_four   -- for this text's walks alone
set_option linter.unusedVariables false
set_option linter.unusedSimpArgs false
def bits_Len.f (a0 : Int) : Option (Int) := if 0 ≤ a0 then (if a0 ≤ 18446744073709551615 then some (Lib.bitLen a0.toNat : Int) else none) else none
theorem bits_Len.calls (a0 : Int) (r : Int) (w : World) (h : bits_Len.f a0 = some r) :
  Calls Try.prog 168 #[.int .u64 a0] w fun e w' => e = .returned (.int .i64 r) ∧ Drawn0 w w' := by
 unfold bits_Len.f at h
 by_cases h0 : 0 ≤ a0
 ·
  rw [if_pos h0] at h
  by_cases h1 : a0 ≤ 18446744073709551615
  ·
   rw [if_pos h1] at h
   obtain rfl := Option.some.inj h
   refine (Try.bits_Len a0 w h0 h1).mono ?_
   rintro e w' ⟨rfl, rfl⟩
   exact ⟨rfl, Drawn0.refl _⟩
  ·
   rw [if_neg h1] at h; exact absurd h (by simp)
 ·
  rw [if_neg h0] at h; exact absurd h (by simp)

def impl_logOf.f (a0 : Int) : Option (Int) := (bits_Len.f (IntKind.u64.wrap (a0))).bind fun t101 => (some (wrap64 (t101 - 1)))
set_option maxHeartbeats 8000000 in
set_option maxRecDepth 100000 in
theorem impl_logOf.calls (a0 : Int) (r : Int) (w : World) (h : impl_logOf.f a0 = some r) :
  Calls Try.prog 144 #[.int .i64 a0] w fun e w' => e = .returned (.int .i64 r) ∧ Drawn0 w w' := by
 have H : ((bits_Len.f (IntKind.u64.wrap (a0))).bind fun t101 => (some (wrap64 (t101 - 1)))) = some r := h
 clear h
 replace H := Option.bind_eq_some_iff.mp H
 obtain ⟨t101, A20, H⟩ := H
 replace H : (some (wrap64 (t101 - 1))) = some r := H
 have A2 := am_ A20
 clear A20
 obtain rfl := Option.some.inj H
 go_enter Try.func144, Try.ntmps144
 go_wp2_with (first | ((with_reducible refine gate_callee (f := 168) rfl ?_); refine goesL_ (some 5) rfl rfl Try.func168 (by kernel_rfl) rfl #[.int .u64 (IntKind.u64.wrap (a0))] rfl qz2_ ?_; (with_reducible refine (bits_Len.calls (IntKind.u64.wrap (a0)) t101 _ A2.out).mono ?_); rintro e w' ⟨rfl, ⟨nd, rfl⟩⟩; refine ⟨_, rfl, ?_⟩))
 go_ret
 exact ⟨qz0_, qz1_⟩

def impl_ntt.f (k : Nat) (l0 : List (S34)) : Option ((List (S34))) := (impl_logOf.f (l0.length : Int)).bind fun t101 => ((impl_root.f k t101).bind fun t102 => ((impl_values.f k l0 t102).bind fun t103 => (some t103)))
theorem impl_ntt.mono : ∀ a0 k, LeO (impl_ntt.f k a0) (impl_ntt.f (k + 1) a0) := by
 intro a0 k
 unfold impl_ntt.f
 repeat' first
   | (with_reducible exact impl_root.mono _ _)
   | (with_reducible exact impl_values.mono _ _ _)
   | (with_reducible exact LeO.refl _)
   | (with_reducible exact LeO.none _)
   | (with_reducible refine LeO.ite ?_ ?_)
   | (with_reducible refine LeO.bind ?_ (fun _ => ?_))
   | exact impl_root.mono _ _
   | exact impl_values.mono _ _ _
   | exact LeO.none _
   | refine LeO.ite ?_ ?_
   | refine LeO.bind ?_ (fun _ => ?_)
set_option maxHeartbeats 8000000 in
set_option maxRecDepth 100000 in
theorem impl_ntt.calls (k : Nat) (A0 : Option Addr) (c0 : Nat) (l0 : List (S34)) (r : List (S34)) (w : World) (hr0 : Kd.C k34 w A0 l0.length l0) (hc0 : l0.length ≤ c0) (h : impl_ntt.f k l0 = some r) :
  Calls Try.prog 111 #[.slice A0 l0.length c0] w fun e w' => ∃ v0_ : Value, e = .returned (v0_) ∧ Kd.R k34 34 w' w.heap.size (fun _ => True) v0_ r ∧ Below w.heap.size w w' := by
 have HR0 := am_ hr0
 have HC0 := am_ hc0
 clear hr0 hc0
 have HB := am_ (Below.refl w.heap.size w)
 have H : ((impl_logOf.f (l0.length : Int)).bind fun t101 => ((impl_root.f k t101).bind fun t102 => ((impl_values.f k l0 t102).bind fun t103 => (some t103)))) = some r := h
 clear h
 replace H := Option.bind_eq_some_iff.mp H
 obtain ⟨t101, A20, H⟩ := H
 replace H : ((impl_root.f k t101).bind fun t102 => ((impl_values.f k l0 t102).bind fun t103 => (some t103))) = some r := H
 have A2 := am_ A20
 clear A20
 replace H := Option.bind_eq_some_iff.mp H
 obtain ⟨t102, A30, H⟩ := H
 replace H : ((impl_values.f k l0 t102).bind fun t103 => (some t103)) = some r := H
 have A3 := am_ A30
 clear A30
 replace H := Option.bind_eq_some_iff.mp H
 obtain ⟨t103, A40, H⟩ := H
 replace H : (some t103) = some r := H
 have A4 := am_ A40
 clear A40
 obtain rfl := Option.some.inj H
 go_enter Try.func111, Try.ntmps111
 go_wp2_with (first | ((with_reducible refine gate_callee (f := 144) rfl ?_); refine goesL_ (some 6) rfl rfl Try.func144 (by kernel_rfl) rfl #[.int .i64 (l0.length : Int)] rfl qz2_ ?_; (with_reducible refine (impl_logOf.calls (l0.length : Int) t101 _ A2.out).mono ?_); rintro e w' ⟨rfl, ⟨nd, rfl⟩⟩; refine ⟨_, rfl, ?_⟩) | ((with_reducible refine gate_callee (f := 143) rfl ?_); refine goesL_ (some 7) rfl rfl Try.func143 (by kernel_rfl) rfl #[.int .i64 t101] rfl qz2_ ?_; (with_reducible refine (impl_root.calls k t101 t102 _ A3.out).mono ?_); rintro e w' ⟨rfl, ⟨nd, rfl⟩⟩; refine ⟨_, rfl, ?_⟩) | ((with_reducible refine gate_callee (f := 142) rfl ?_); refine goesL_ (some 8) rfl rfl Try.func142 (by kernel_rfl) rfl #[.slice A0 l0.length c0, .int .i64 t102] rfl qz2_ ?_; (with_reducible refine (impl_values.calls k _ _ l0 t102 t103 _ ?side1 ?side2 A4.out).mono ?_); (case side1 => exact qc_ HR0.out); (case side2 => exact HC0.out); rintro e w5 ⟨v104, rfl, ho0, hb⟩; refine ⟨_, rfl, ?_⟩; have n0_ := am_ (Kd.R_lower ho0 (below_size qz3_)); have n1_ := am_ (below_step qz3_ hb); clear HB; have HO105 := n0_; have HB := n1_; clear n0_ n1_; (try clear hb); (try clear hb2); (try clear hk); (try clear hi); (try clear ho0)))
 go_ret
 exact ⟨_, qz4_, (by (with_reducible repeat (first | apply Kd.R_alloc | apply Kd.R_drewN | apply Kd.R_drew)); exact HO105.out), qz3_⟩

end Go.Proofs.Ytgookagndlfehaa.PT
end
section
/- copy of a whole row, of elements of any kind, onto a row of the call's own: own words beside the print's (Ytgookagndlfehaa: the seat's name). -/
namespace Go.Proofs.YtgookagndlfehaaW.PrintLast
open Go.RowKit Go.Proofs.YtgookagndlfehaaW.PrintWords
section
variable {P : Program}
theorem run_copy_any (w : World) (dT sT ty elem : TypeId) (b o dLen dCap : Nat) (a : Addr) (sLen sCap size : Nat) (cs : List Value)
  (hu : P.underlying dT = some (.slice elem)) (hs : (P.info? elem).map (·.size) = some size) (hn : cs.length = Nat.min sLen dLen * size)
  (hsrc : ∀ j v, cs[j]? = some v → w.cell? (a.add j) = some v) (hc : ∀ j, j < cs.length → (w.cell? ⟨b, o + j, none⟩).isSome = true) (hf : ∀ j, j < cs.length → w.frozen? ⟨b, o + j, none⟩ = false) (h1 : ∀ v ∈ cs, v.oneCell' = true) :
  (Builtin.copy_ #[dT, sT] ty #[.slice (some ⟨b, o, none⟩) dLen dCap, .slice (some a) sLen sCap]).run P w = .ok (goInt (Nat.min sLen dLen : Nat)) (w.setCells b o cs) := by
 have hl := run_loadCells_list (P := P) w a cs hsrc
 have hst := run_storeCells_cells (P := P) b o cs 0 w (by simpa using hc) (by simpa using hf) h1
 cases hq : P.info? elem with
 | none => simp [hq] at hs
 | some i =>
  have hi : i.size = size := by simpa [hq] using hs
  rw [hn] at hl
  simp [Builtin.copy_, run_underlying hu, Builtin.lenOf, Builtin.firstCells, sizeOf, typeInfo, hq, hi, hl, hst]
theorem run_copy_zero (w : World) (dT sT ty elem : TypeId) (d a : Option Addr) (dLen dCap sLen sCap size : Nat) (hu : P.underlying dT = some (.slice elem)) (hs : (P.info? elem).map (·.size) = some size) (hn : Nat.min sLen dLen = 0) :
  (Builtin.copy_ #[dT, sT] ty #[.slice d dLen dCap, .slice a sLen sCap]).run P w = .ok (goInt 0) w := by
 cases hq : P.info? elem with
 | none => simp [hq] at hs
 | some i =>
  have hl : ∀ (x : Addr), (loadCells x 0).run P w = .ok #[] w := fun x => by simpa using run_loadCells_list (P := P) w x [] (by simp)
  cases d <;> cases a <;> simp [Builtin.copy_, run_underlying hu, Builtin.lenOf, Builtin.firstCells, sizeOf, typeInfo, hq, hn, storeCells, hl]
end
namespace Kd
section
variable {P : Program} {ops : Array Oper} {rest : List Oper} {o : Oper} {a : Act} {Q : Exit → Act → World → Prop} {α : Type}
open Go.Proofs.YtgookagndlfehaaW.PrintWords.Kd
theorem R_copy_rows (d : Kd α) {w0 W : World} (base : Nat) (hgd : o.guard = none) (s x : Operand) (t t' e : TypeId)
  (ho : o.op = .call { callee := .builtin .copy, args := #[s, x], argTypes := #[t, t'] }) (ht : P.underlying t = some (.slice e)) (hinfo : (P.info? e).map (·.size) = some d.sz) (hs0 : 0 < d.sz)
  (v : Value) (xs ys : List α) (A : Option Addr) (m c : Nat) (ok okp : Nat → Prop) (hs : a.eval s = v) (hx : a.eval x = .slice A m c)
  (HO : d.R e W base ok v xs) (HR : d.C W A m ys) (hKM : ∀ x cs, d.K W x cs → d.M W base okp x cs) (hokp : ∀ k, okp k → ok k ∧ some k ≠ v.ownBlock) (hmn : m ≤ xs.length) (HB : Below base w0 W) (hbase : base ≤ W.heap.size)
  (h : ∀ w1, d.R e w1 base ok v (ys ++ xs.drop m) → Below base w0 w1 → W.grownBy w1 v.ownBlock → wpList P ops Q rest (a.put o.dst (goInt (m : Int))) w1) :
  wpList P ops Q (o :: rest) a W := by
 have hm : ys.length = m := HR.1
 obtain ⟨h0ok, inner, hown, hr⟩ := HO
 have fin : ∀ w1, (Builtin.copy_ #[t, t'] o.type #[v, .slice A m c]).run P W = .ok (goInt (m : Int)) w1 → d.R e w1 base ok v (ys ++ xs.drop m) → W.grownBy w1 v.ownBlock → wpList P ops Q (o :: rest) a W := by
  intro w1 hr hrow hg
  refine wpList_plain hgd fun K hK => ?_
  unfold Oper.wp execOp
  simp only [ho, resolve, invoke, builtin, Sem.run_bind, Sem.run_pure, Result.andThen_ok, List.map_toArray, List.map_cons, List.map_nil, hs, hx, hr]
  exact hK _ _ (h w1 hrow (HB.grown hg hbase (own_base hown)) hg)
 rcases Nat.eq_zero_or_pos m with hz | hp
 ·
  subst hz
  obtain rfl : ys = [] := List.eq_nil_of_length_eq_zero hm
  obtain ⟨A', c', hv⟩ := own_slice hown
  refine fin W ?_ (by rw [List.nil_append, List.drop_zero]; exact ⟨h0ok, inner, hown, hr⟩) (World.grownBy.refl W _)
  rw [hv]
  exact run_copy_zero W t t' o.type e A' A xs.length c' 0 c d.sz ht hinfo (Nat.zero_min _)
 ·
  obtain ⟨ad, hA, _⟩ := HR.2.2 (by omega)
  subst hA
  obtain ⟨news, hnr, hnc⟩ := ReadsRow.inner_ HR
  have hnl : news.length = m * d.sz := by rw [hnr.1, hm]
  have hone : ∀ u ∈ news, u.oneCell' = true := by
   intro u hu
   obtain ⟨q, hq, rfl⟩ := List.mem_iff_getElem.1 hu
   have hql : q / d.sz < ys.length := by
    rw [Nat.div_lt_iff_lt_mul hs0]
    rw [← hnr.1]
    exact hq
   have hc := hnr.2 (q / d.sz) _ (List.getElem?_eq_getElem hql)
   refine d.K_one hc _ ?_
   rw [List.mem_iff_getElem?]
   refine ⟨q % d.sz, ?_⟩
   rw [List.getElem?_take, if_pos (Nat.mod_lt _ hs0), List.getElem?_drop, Nat.mul_comm, Nat.div_add_mod, List.getElem?_eq_getElem hq]
  rcases hown.2 with ⟨_, hx0⟩ | ⟨g, cap, cur, hv, hb, hh, hnc2, hcm, hcs, htake⟩
  ·
   omega
  have hmz : m * d.sz ≤ xs.length * d.sz := Nat.mul_le_mul_right _ hmn
  have hxz : xs.length * d.sz ≤ cap * d.sz := Nat.mul_le_mul_right _ (by omega)
  have hfit : m * d.sz ≤ cur.size := by omega
  have hmin : Nat.min m xs.length = m := Nat.min_eq_left hmn
  have hr1 := run_copy_any (P := P) W t t' o.type e g 0 xs.length cap ad m c d.sz news ht hinfo (by rw [hmin, hnl]) hnc
   (fun j hj => by rw [cell_of_row W g _ cur e (0, 0) hh]; simp; omega) (fun j _ => blk_frozen hh _) hone
  obtain ⟨cur', h3, h4, h5⟩ := setCells_row news 0 W cur hh (by omega)
  obtain ⟨s1, s2, s3, s4⟩ := setCells_same g news 0 W
  have hg : W.grownBy (W.setCells g 0 news) v.ownBlock := ⟨s1, s2, s3, (by rw [s4]; exact Nat.le_refl _), fun k _ hk => setCells_far _ _ k (fun he => hk (by rw [hv, he]; simp [Value.ownBlock]))⟩
  have step : ∀ {q : α} {c : List Value} {o : Nat → Prop}, d.M W base o q c → (∀ k, o k → ok k ∧ some k ≠ v.ownBlock) → d.M (W.setCells g 0 news) base (fun k => ok k ∧ some k ≠ v.ownBlock) q c := by
   intro q c o hq ho
   have h1 := d.M_move (w1 := W.setCells g 0 news) (fun k hk => hg.block k hk.2.2.1 (ho k hk.1).2) (d.M_bound hq)
   exact d.M_mono (fun k hk => ho k hk.1) h1
  have hln : (ys ++ xs.drop m).length = xs.length := by rw [List.length_append, List.length_drop]; omega
  refine fin _ (by rw [hv, hr1, hmin]) ⟨h0ok, news ++ inner.drop (m * d.sz), ?_, ?_⟩ hg
  ·
   rw [hln]
   refine ⟨by rw [List.length_append, List.length_drop, hnl, hown.1]; omega, .inr ⟨g, cap, cur', hv, hb, h3, hnc2, hcm, (by rw [h4, hcs]), ?_⟩⟩
   rw [h5, List.take_zero, List.nil_append, hnl, Nat.zero_add, List.take_append, hnl, List.take_of_length_le (by omega), ← htake, List.drop_take]
  ·
   exact reps_append (hnr.imp_ (fun p c hp => step (hKM p c hp) hokp)) ((reps_drop hr).imp_ (fun p c hp => step hp (fun _ hk => hk)))
end
end Kd
end Go.Proofs.YtgookagndlfehaaW.PrintLast
end
section
namespace Go.Proofs.Ytgookagndlfehaa.PT
open Go.RowKit Go.Proofs.YtgookagndlfehaaW.PrintWords Go.Proofs.YtgookagndlfehaaW.PrintLast Go.Proofs.YtgookagndlfehaaW.PrintMore
attribute [local go_sem] max2_int min2_int max_two min_two max_three min_three max_four min_four   -- for this text's walks alone
set_option linter.unusedVariables false
set_option linter.unusedSimpArgs false
def impl_encoded.f (k : Nat) (l0 : List (S34)) (a1 : Int) : Option (List (S34)) := if 0 ≤ a1 then (if a1 ≤ 9 then (if l0.length ≤ 512 then impl_ntt.f k (l0 ++ List.replicate (l0.length * 2 ^ a1.toNat - l0.length) z34) else none) else none) else none
theorem impl_encoded.mono : ∀ a0 a1 k, LeO (impl_encoded.f k a0 a1) (impl_encoded.f (k + 1) a0 a1) := by
 intro a0 a1 k
 unfold impl_encoded.f
 repeat' first
   | (with_reducible exact impl_ntt.mono _ _)
   | (with_reducible exact LeO.none _)
   | (with_reducible refine LeO.ite ?_ ?_)
set_option maxHeartbeats 8000000 in
set_option maxRecDepth 100000 in
theorem impl_encoded.calls (k : Nat) (A0 : Option Addr) (c0 : Nat) (l0 : List (S34)) (a1 : Int) (r : List (S34)) (w : World) (hr0 : Kd.C k34 w A0 l0.length l0) (hc0 : l0.length ≤ c0) (h : impl_encoded.f k l0 a1 = some r) :
  Calls Try.prog 68 #[.slice A0 l0.length c0, .int .i64 a1] w fun e w' => ∃ v0_ : Value, e = .returned (v0_) ∧ Kd.R k34 34 w' w.heap.size (fun _ => True) v0_ r ∧ Below w.heap.size w w' := by
 unfold impl_encoded.f at h
 by_cases c1 : 0 ≤ a1
 ·
  rw [if_pos c1] at h
  by_cases c2 : a1 ≤ 9
  ·
   rw [if_pos c2] at h
   by_cases c3 : l0.length ≤ 512
   ·
    rw [if_pos c3] at h
    have HR0 := am_ hr0
    have HC0 := am_ hc0
    clear hr0 hc0
    have HB := am_ (Below.refl w.heap.size w)
    have hp : 2 ^ a1.toNat ≤ 512 := Nat.le_trans (Nat.pow_le_pow_right (by omega) (show a1.toNat ≤ 9 by omega)) (by decide)
    have hp1 : 1 ≤ 2 ^ a1.toNat := Nat.two_pow_pos _
    have hm0 : l0.length * 2 ^ a1.toNat ≤ 512 * 512 := Nat.mul_le_mul c3 hp
    have hm1 : l0.length ≤ l0.length * 2 ^ a1.toNat := Nat.le_mul_of_pos_right _ hp1
    obtain ⟨ji, hji⟩ : ∃ j_ : Int, (shl .i64 (l0.length : Int) a1) = j_ := ⟨_, rfl⟩
    have hji_ : (IntKind.i64.wrap ((l0.length : Int) * 2 ^ min a1.toNat 64)) = ji := hji
    have hjiz : a1 ≤ 64 → (IntKind.i64.wrap ((l0.length : Int) * 2 ^ a1.toNat)) = ji := shl_small hji
    have hjiy : (wrap64 ((l0.length : Int) * 2 ^ min a1.toNat 64)) = ji := (i64_w _).symm.trans hji_
    have hjiw : a1 ≤ 64 → (wrap64 ((l0.length : Int) * 2 ^ a1.toNat)) = ji := fun hle_ => (i64_w _).symm.trans (hjiz hle_)
    have hjiA : (wrap64 ((l0.length : Int) * 2 ^ a1.toNat)) = ji := hjiw (by omega)
    have hjiB : (IntKind.i64.wrap ((l0.length : Int) * 2 ^ a1.toNat)) = ji := hjiz (by omega)
    have hpc : ((l0.length * 2 ^ a1.toNat : Nat) : Int) = (l0.length : Int) * 2 ^ a1.toNat := by rw [Int.natCast_mul, Int.natCast_pow]; rfl
    have hjn : ji = ((l0.length * 2 ^ a1.toNat : Nat) : Int) := by
     rw [← hjiw (by omega), ← hpc]; unfold wrap64; omega
    generalize hM : l0.length * 2 ^ a1.toNat = M at *
    have c1b : decide (0 ≤ a1) = true := decide_eq_true c1
    have cj0 : decide (0 ≤ ji) = true := decide_eq_true (by omega)
    have cj1 : decide (ji.toNat ≤ 17592186044416) = true := decide_eq_true (by omega)
    obtain ⟨y103, hy103⟩ : ∃ y_ : List (S34), y_ = (List.replicate ji.toNat z34) := ⟨_, rfl⟩
    have Ny103 := am_ hy103
    obtain ⟨y104, hy104⟩ : ∃ y_ : List (S34), y_ = l0 ++ y103.drop l0.length := ⟨_, rfl⟩
    have Ny104 := am_ hy104
    have hyy : l0 ++ List.replicate (M - l0.length) z34 = y104 := by rw [hy104, hy103, List.drop_replicate]; congr 2; omega
    have hlen : l0.length ≤ y103.length := by rw [hy103, List.length_replicate]; omega
    have HL := am_ hlen
    rw [hyy] at h
    have HA := am_ h
    have hj0 := am_ (show 0 ≤ ji by omega)
    have hj1 := am_ (show ji.toNat * 16 ≤ 281474976710656 by omega)
    clear h hyy hy103 hy104 hlen hpc hjn hM hp hp1 hm0 hm1
    go_enter Try.func68, Try.ntmps68
    go_wp2_with (first | ((with_reducible refine gate_dst (N := 10) rfl ?_); refine Kd.R_make k34 _ 34 rfl (N := 10) rfl 24 _ _ rfl ji rfl rfl Try.underlying24 (.agg #[(.int .i64 0), (.int .i64 0)]) 16 info34 rfl (by decide) (by omega) z34 (ok := fun _ => True) (okp := fun _ => True) (k34_mkM _ _ _ z34 ) (fun _ hk => hk) trivial hj0.out hj1.out (Below.refl _ _) (Nat.le_refl _) ?_; intro v102 w5 ho6 hb hg_ hnew_; clear hg_ hnew_; rw [← Ny103.out] at ho6; have n0_ := am_ (Kd.R_lower ho6 (below_size qz3_)); have n1_ := am_ (below_step qz3_ hb); clear HB; have HO103 := n0_; have HB := n1_; clear n0_ n1_; clear hb ho6) | ((with_reducible refine gate_builtin (b := .copy) (xs := #[.tmp 11, .tmp 12]) rfl ?_); refine Kd.R_copy_rows k34 (w0 := w) w.heap.size rfl (.tmp 11) (.tmp 12) 24 24 34 rfl Try.underlying24 (by kernel_rfl) (by decide) v102 y103 l0 _ _ _ (fun _ => True) (fun _ => False) rfl rfl ?aO ?aR (fun _ _ h => h) (fun _ h => h.elim) HL.out ?aB ?aS ?_; (case aR => exact qc_ (Kd.C_below HR0.out HB.out)); (case aB => exact qz3_); (case aO => exact qz10_); (case aS => exact (below_size qz3_)); intro w6 ho hb hg; rw [← Ny104.out] at ho; clear HB HO103; have HB := am_ hb; have HO104 := am_ ho; clear ho hb hg; obtain ⟨Ao, co, eo⟩ := Kd.R_slice HO104.out; subst eo) | ((with_reducible refine gate_callee (f := 111) rfl ?_); refine goesL_ (some 15) rfl rfl Try.func111 (by kernel_rfl) rfl #[.slice Ao y104.length co] rfl qz2_ ?_; (with_reducible refine (impl_ntt.calls k _ _ y104 r _ ?side1 ?side2 HA.out).mono ?_); (case side1 => exact qc_ (Kd.R_reads' HO104.out).2.2); (case side2 => exact (Kd.R_reads' HO104.out).2.1); rintro e w7 ⟨v123, rfl, ho0, hb⟩; refine ⟨_, rfl, ?_⟩; have n0_ := am_ (Kd.R_lower ho0 (below_size qz3_)); have n1_ := am_ (below_step qz3_ hb); clear HB; have HO105 := n0_; have HB := n1_; clear n0_ n1_; clear hb ho0))
    go_ret
    exact ⟨_, (by first | rfl | (simp; done)), (by (with_reducible repeat (first | apply Kd.R_alloc | apply Kd.R_drewN | apply Kd.R_drew)); exact HO105.out), qz3_⟩
   ·
    rw [if_neg c3] at h; exact absurd h (by simp)
  ·
   rw [if_neg c2] at h; exact absurd h (by simp)
 ·
  rw [if_neg c1] at h; exact absurd h (by simp)

mutual
def impl_turned_minus.l0 : Nat → List (S34) → Int → Option ((List (S34)))
 | 0, _, _ => none
 | k + 1, x5, x6 => if x6 < (x5.length : Int) then (impl_turned_minus.l1 k x5 x6 (x5.length : Int) 0) else (some x5)
def impl_turned_minus.l1 : Nat → List (S34) → Int → Int → Int → Option ((List (S34)))
 | 0, _, _, _, _ => none
 | k + 1, x5, x6, x18, x19 => if x19 < x18 then (if (Go.bits .and .i64 x19 x6) = 0 then (impl_turned_minus.l1 k x5 x6 x18 (wrap64 (x19 + 1))) else (if 0 ≤ x19 then (if x19 < (x5.length : Int) then (if 0 ≤ (wrap64 (x19 - x6)) then (if (wrap64 (x19 - x6)) < (x5.length : Int) then ((impl_Ext_minus.f ((rd_T34 x5 x19).f0) ((rd_T34 x5 x19).f1) ((rd_T34 x5 (wrap64 (x19 - x6))).f0) ((rd_T34 x5 (wrap64 (x19 - x6))).f1)).bind fun bt109 => (impl_turned_minus.l1 k (x5.set (x19 : Int).toNat (⟨bt109.1, bt109.2⟩ : S34)) x6 x18 (wrap64 (x19 + 1)))) else (none)) else (none)) else (none)) else (none))) else (impl_turned_minus.l0 k x5 (wrap64 (x6 * 2)))
end
def impl_turned_minus.f (k : Nat) (l0 : List (S34))  : Option ((List (S34))) := (some (([] : List (S34)) : List (S34))).bind fun y101 => (if y101.length + l0.length < 8796093022208 then (impl_turned_minus.l0 k (y101 ++ l0) 1) else (none))
theorem impl_turned_minus.mono_l : ∀ k, (∀ y0 y1, LeO (impl_turned_minus.l0 k y0 y1) (impl_turned_minus.l0 (k + 1) y0 y1)) ∧ (∀ y0 y1 y2 y3, LeO (impl_turned_minus.l1 k y0 y1 y2 y3) (impl_turned_minus.l1 (k + 1) y0 y1 y2 y3))
 | 0 => ⟨fun _ _ r h => by simp [impl_turned_minus.l0] at h, fun _ _ _ _ r h => by simp [impl_turned_minus.l1] at h⟩
 | k + 1 => by
  obtain ⟨ih0, ih1⟩ := impl_turned_minus.mono_l k
  refine ⟨?_, ?_⟩
  ·
   intro y0 y1
   unfold impl_turned_minus.l0
   repeat' first
   | (with_reducible exact ih0 _ _)
   | (with_reducible exact ih1 _ _ _ _)
   | (with_reducible exact LeO.refl _)
   | (with_reducible exact LeO.none _)
   | (with_reducible refine LeO.ite ?_ ?_)
   | (with_reducible refine LeO.bind ?_ (fun _ => ?_))
   | exact ih0 _ _
   | exact ih1 _ _ _ _
   | exact LeO.none _
   | refine LeO.ite ?_ ?_
   | refine LeO.bind ?_ (fun _ => ?_)
  ·
   intro y0 y1 y2 y3
   unfold impl_turned_minus.l1
   repeat' first
   | (with_reducible exact ih0 _ _)
   | (with_reducible exact ih1 _ _ _ _)
   | (with_reducible exact LeO.refl _)
   | (with_reducible exact LeO.none _)
   | (with_reducible refine LeO.ite ?_ ?_)
   | (with_reducible refine LeO.bind ?_ (fun _ => ?_))
   | exact ih0 _ _
   | exact ih1 _ _ _ _
   | exact LeO.none _
   | refine LeO.ite ?_ ?_
   | refine LeO.bind ?_ (fun _ => ?_)
theorem impl_turned_minus.mono : ∀ a0 k, LeO (impl_turned_minus.f k a0) (impl_turned_minus.f (k + 1) a0) := by
 intro a0 k
 obtain ⟨ih0, ih1⟩ := impl_turned_minus.mono_l k
 unfold impl_turned_minus.f
 repeat' first
   | (with_reducible exact ih0 _ _)
   | (with_reducible exact ih1 _ _ _ _)
   | (with_reducible exact LeO.refl _)
   | (with_reducible exact LeO.none _)
   | (with_reducible refine LeO.ite ?_ ?_)
   | (with_reducible refine LeO.bind ?_ (fun _ => ?_))
   | exact ih0 _ _
   | exact ih1 _ _ _ _
   | exact LeO.none _
   | refine LeO.ite ?_ ?_
   | refine LeO.bind ?_ (fun _ => ?_)
def impl_turned_minus.T9 : Bool × List (List Nat × List Nat) := (true, [([], []), ([], []), ([], []), ([], []), ([], []), ([3, 4], [3, 4]), ([5], [5]), ([], []), ([], []), ([], []), ([8, 9], [8, 9]), ([7, 10], [7, 10]), ([11], [11]), ([2, 6, 12], [2, 6, 12]), ([0, 1, 0, 1, 2, 3, 4, 5, 6, 7, 8, 9, 10, 11, 12, 13], [0, 1]), ([14, 13, 13, 0, 1, 2, 3, 4, 5, 6, 7, 8, 9, 10, 11, 12, 13], [13, 14])])
def impl_turned_minus.B9 : List Nat := [0, 0, 0, 0, 0, 24, 56, 0, 0, 0, 768, 1920, 3968, 8188, 16383, 32767]
theorem impl_turned_minus.tab9 : rtab .any (opsOf Try.f112 9) = impl_turned_minus.T9 := by kernel_rfl
theorem impl_turned_minus.bits9 : waitsOk impl_turned_minus.T9.2 impl_turned_minus.B9 = true := by kernel_rfl
set_option maxHeartbeats 8000000 in
set_option maxRecDepth 100000 in
theorem impl_turned_minus.calls (k : Nat) (A0 : Option Addr) (c0 : Nat) (l0 : List (S34))  (r : List (S34)) (w : World) (hr0 : Kd.C k34 w A0 l0.length l0) (hc0 : l0.length ≤ c0) (h : impl_turned_minus.f k l0 = some r) :
  Calls Try.prog 112 #[.slice A0 l0.length c0, (Value.func (.func 113) #[] #[])] w fun e w' => ∃ v0_ : Value, e = .returned (v0_) ∧ Kd.R k34 34 w' w.heap.size (fun _ => True) v0_ r ∧ Below w.heap.size w w' := by
 have hu34 := Try.underlying34
 have HR0 := am_ hr0
 have HC0 := am_ hc0
 clear hr0 hc0
 have HB := am_ (Below.refl w.heap.size w)
 have H : ((some (([] : List (S34)) : List (S34))).bind fun y101 => (if y101.length + l0.length < 8796093022208 then (impl_turned_minus.l0 k (y101 ++ l0) 1) else (none))) = some r := h
 clear h
 obtain ⟨y101, hy101⟩ : ∃ y_ : List (S34), y_ = (([] : List (S34))) := ⟨_, rfl⟩
 replace H : (if y101.length + l0.length < 8796093022208 then (impl_turned_minus.l0 k (y101 ++ l0) 1) else (none)) = some r := by first | (rw [hy101]; with_reducible exact H) | (have H2_ := (Option.bind_some _ _).symm.trans H; rw [hy101]; with_reducible exact H2_) | (have H2_ := (Option.bind_some _ _).symm.trans H; with_reducible exact H2_) | with_reducible exact H | (rw [hy101]; exact H) | exact H
 have Ny101 := am_ hy101
 clear hy101
 by_cases c3 : y101.length + l0.length < 8796093022208
 ·
  rw [if_pos c3] at H
  have LMc3 := am_ c3
  clear c3
  obtain ⟨y104, hy104⟩ : ∃ y_ : List (S34), y_ = (y101 ++ l0) := ⟨_, rfl⟩
  replace H : (impl_turned_minus.l0 k y104 1) = some r := by first | (rw [hy104]; with_reducible exact H) | (have H2_ := (Option.bind_some _ _).symm.trans H; rw [hy104]; with_reducible exact H2_) | (have H2_ := (Option.bind_some _ _).symm.trans H; with_reducible exact H2_) | with_reducible exact H | (rw [hy104]; exact H) | exact H
  have Ny104 := am_ hy104
  clear hy104
  have H' := am_ H
  clear H
  go_enter Try.func112, Try.ntmps112
  go_wp2_with (first | ((with_reducible refine gate_dst (N := 8) rfl ?_); refine Kd.R_lit k34 _ 34 ?hg (N := 8) ?hd (xs := ([] : List (S34))) (inner := []) (ok := fun _ => True) (okp := fun _ => True) ?hr ?hp (fun _ hk => hk) trivial (Below.refl _ _) (Nat.le_refl _) (by simp) ?_; (case hd => rfl); (case hg => rfl); (case hr => first | (go_simp; done) | (go_simp; rfl)); (case hp => exact (Reps.none _ _)); intro v102 w4 ho5 hb hg_ hnew_; clear hg_ hnew_; (first | rw [← Ny101.out] at ho5 | (simp only [Int.reduceToNat] at ho5; rw [← Ny101.out] at ho5)); have n0_ := am_ (Kd.R_lower ho5 (below_size qz3_)); have n1_ := am_ (below_step qz3_ hb); clear HB; have HO103 := n0_; have HB := n1_; clear n0_ n1_; clear hb ho5) | ((with_reducible refine gate_builtin (b := .append) (xs := #[.tmp 8, .tmp 9]) rfl ?_); at_builtin; refine Kd.R_append_rows k34 (w0 := w) w.heap.size rfl (.tmp 8) (.tmp 9) 24 34 (.agg #[(.int .i64 0), (.int .i64 0)]) 16 rfl Try.underlying24 info34 rfl (by decide) (by omega) v102 y101 l0 _ _ _ (fun _ => True) (fun _ => False) rfl rfl ?aO ?aR (fun _ _ h => h) (fun _ h => h.elim) ?aF ?aB ?aS ?aL ?_; (case aR => exact qc_ (Kd.C_below HR0.out HB.out)); (case aB => exact qz3_); (case aF => exact (fun _ _ => trivial)); (case aO => exact qz10_); (case aS => exact (below_size qz3_)); (case aL => have := LMc3.out; omega); intro v105 w6 ho hb hg hat; rw [← Ny104.out] at ho; have n0_ := am_ (hb); have n1_ := am_ (ho); clear HB; clear HO103; have HB := n0_; have HO106 := n1_; clear n0_ n1_; clear ho hb hg hat))
  go_loopg [6] k (fun kq v6 w' => ∃ (x5_1 : List (S34)) (x6_1 : Int), v6 = .int .i64 x6_1 ∧ Aside0 (impl_turned_minus.l0 kq x5_1 x6_1 = some r) ∧ Aside0 (kq ≤ k) ∧ Aside0 (Kd.R k34 34 w' w.heap.size (fun _ => True) v105 x5_1) ∧ Aside0 (Below w.heap.size w w'))
  case atStart => exact ⟨(y104), (1), qz0_, H', ⟨Nat.le_refl _⟩, ⟨qz12_⟩, ⟨qz3_⟩⟩
  case round =>
   clear H'
   try clear c1
   try clear p2
   try clear c3
   obtain ⟨x5_1, x6_1, rfl, HA, HK1, HO_5, HB⟩ := hrel
   cases gk with
   | zero => exact absurd HA.out (by simp [impl_turned_minus.l0])
   | succ k1 =>
    have H := HA.out
    clear HA
    simp only [impl_turned_minus.l0] at H
    by_cases c7 : x6_1 < (x5_1.length : Int)
    ·
     rw [if_pos c7] at H
     have c7b0 : decide (x6_1 < (x5_1.length : Int)) = true := decide_eq_true c7
     clear c7
     have H' := am_ H
     clear H
     obtain ⟨Ao8, co8, eo8⟩ := Kd.R_slice HO_5.out
     subst eo8
     go_wp2
     go_loopg [19] k1 (fun kq v19 w' => ∃ (x5_2 : List (S34)) (x19_2 : Int), v19 = .int .i64 x19_2 ∧ Aside0 (impl_turned_minus.l1 kq x5_2 x6_1 (x5_1.length : Int) x19_2 = some r) ∧ Aside0 (kq ≤ k1) ∧ Aside0 (Kd.R k34 34 w' w.heap.size (fun _ => True) (.slice Ao8 x5_1.length co8) x5_2) ∧ Aside0 (Below w.heap.size w w'))
     case atStart => exact ⟨(x5_1), (0), qz0_, H', ⟨Nat.le_refl _⟩, ⟨qz11_⟩, ⟨qz3_⟩⟩
     case round =>
      clear H'
      try clear c1
      try clear p2
      try clear c3
      try clear c7
      try clear c7b0
      try clear p2
      obtain ⟨x5_2, x19_2, rfl, HA, HK2, HO_5, HB⟩ := hrel
      have hl5_2 := (Kd.R_reads' HO_5.out).1
      rw [hl5_2] at HO_5
      (try simp only [hl5_2])
      cases gk with
      | zero => exact absurd HA.out (by simp [impl_turned_minus.l1])
      | succ k2 =>
       have H := HA.out
       clear HA
       simp only [impl_turned_minus.l1] at H
       by_cases c9 : x19_2 < (x5_1.length : Int)
       ·
        rw [if_pos c9] at H
        have c9b0 : decide (x19_2 < (x5_1.length : Int)) = true := decide_eq_true c9
        try have c9b0h5 : decide (x19_2 < (x5_2.length : Int)) = true := by rw [← hl5_2]; exact c9b0
        clear c9
        by_cases c10 : (Go.bits .and .i64 x19_2 x6_1) = 0
        ·
         rw [if_pos c10] at H
         have c10b0 : ((Go.bits .and .i64 x19_2 x6_1) == 0) = true := beq_iff_eq.mpr c10
         have c10b1 : ((Go.bits .and .i64 x19_2 x6_1) != 0) = false := bne_eq_false_iff_eq.mpr c10
         clear c10
         have H' := am_ H
         clear H
         go_wp2
         (try simp only [← hl5_2])
         go_roundg k2
         case measure => have := HK1.out; have := HK2.out; omega
         case rel => exact ⟨(x5_2), (wrap64 (x19_2 + 1)), qz0_, H', ⟨(by have := HK1.out; have := HK2.out; omega)⟩, ⟨(by (try simp only [hl5_2]); (with_reducible repeat (first | apply Kd.R_alloc | apply Kd.R_drewN | apply Kd.R_drew)); exact HO_5.out)⟩, ⟨qz3_⟩⟩
        ·
         rw [if_neg c10] at H
         have c10b0 : ((Go.bits .and .i64 x19_2 x6_1) == 0) = false := beq_eq_false_iff_ne.mpr c10
         have c10b1 : ((Go.bits .and .i64 x19_2 x6_1) != 0) = true := bne_iff_ne.mpr c10
         by_cases c11 : 0 ≤ x19_2
         ·
          rw [if_pos c11] at H
          have c11b0 : decide (0 ≤ x19_2) = true := decide_eq_true c11
          clear c11
          by_cases c12 : x19_2 < (x5_2.length : Int)
          ·
           rw [if_pos c12] at H
           have c12b0 : decide (x19_2 < (x5_2.length : Int)) = true := decide_eq_true c12
           clear c12
           obtain ⟨ji13, hji13⟩ : ∃ j_ : Int, (wrap64 (x19_2 - x6_1)) = j_ := ⟨_, rfl⟩
           replace H : (if 0 ≤ (ji13) then (if (ji13) < (x5_2.length : Int) then ((impl_Ext_minus.f ((rd_T34 x5_2 x19_2).f0) ((rd_T34 x5_2 x19_2).f1) ((rd_T34 x5_2 (ji13)).f0) ((rd_T34 x5_2 (ji13)).f1)).bind fun bt109 => (impl_turned_minus.l1 k2 (x5_2.set (x19_2 : Int).toNat (⟨bt109.1, bt109.2⟩ : S34)) x6_1 (x5_1.length : Int) (wrap64 (x19_2 + 1)))) else (none)) else (none)) = some r := by first | (rw [hji13] at H; exact H) | (simp only [hji13] at H ⊢; exact H)
           have hji13w : (IntKind.i64.wrap (x19_2 - x6_1)) = ji13 := (i64_w _).trans hji13
           by_cases c14 : 0 ≤ (ji13)
           ·
            rw [if_pos c14] at H
            have c14b0 : decide (0 ≤ (ji13)) = true := decide_eq_true c14
            clear c14
            by_cases c15 : (ji13) < (x5_2.length : Int)
            ·
             rw [if_pos c15] at H
             have c15b0 : decide ((ji13) < (x5_2.length : Int)) = true := decide_eq_true c15
             clear c15
             replace H := Option.bind_eq_some_iff.mp H
             obtain ⟨⟨t109, t110⟩, A160, H⟩ := H
             replace H : (impl_turned_minus.l1 k2 (x5_2.set (x19_2 : Int).toNat (⟨t109, t110⟩ : S34)) x6_1 (x5_1.length : Int) (wrap64 (x19_2 + 1))) = some r := H
             have A16 := am_ A160
             clear A160
             obtain ⟨y111, hy111⟩ : ∃ y_ : List (S34), y_ = (x5_2.set (x19_2 : Int).toNat (⟨t109, t110⟩ : S34)) := ⟨_, rfl⟩
             replace H : (impl_turned_minus.l1 k2 y111 x6_1 (x5_1.length : Int) (wrap64 (x19_2 + 1))) = some r := by first | (rw [hy111]; with_reducible exact H) | (have H2_ := (Option.bind_some _ _).symm.trans H; rw [hy111]; with_reducible exact H2_) | (have H2_ := (Option.bind_some _ _).symm.trans H; with_reducible exact H2_) | with_reducible exact H | (rw [hy111]; exact H) | exact H
             have Ny111 := am_ hy111
             clear hy111
             have H' := am_ H
             clear H
             try go_wp2
             have n0_ := am_ (Kd.R_drew HO_5.out)
             have n1_ := am_ (below_drew1 HB.out)
             clear HO_5
             clear HB
             have HO_5 := n0_
             have HB := n1_
             clear n0_ n1_
             have p107 : 0 ≤ (x19_2 : Int) := of_decide_eq_true qz6_
             have q107 : x19_2 < (x5_2.length : Int) := of_decide_eq_true qz6_
             obtain ⟨ad107, e107, hx107_0, hx107_1⟩ := at_T34 (Kd.R_reads' HO_5.out).2.2 x19_2 p107 q107
             cases e107
             replace p107 := eq_true p107
             replace q107 := eq_true q107
             have p108 : 0 ≤ ((ji13) : Int) := of_decide_eq_true qz6_
             have q108 : (ji13) < (x5_2.length : Int) := of_decide_eq_true qz6_
             obtain ⟨ad108, e108, hx108_0, hx108_1⟩ := at_T34 (Kd.R_reads' HO_5.out).2.2 (ji13) p108 q108
             obtain rfl : ad107 = ad108 := (by injection e108)
             replace p108 := eq_true p108
             replace q108 := eq_true q108
             refine start_ (n := 16) (S := fun w' => w'.cell? (ad107.add ((x19_2).toNat * 2)) = some (.int .i64 ((rd_T34 x5_2 x19_2).f0)) ∧ w'.cell? ⟨(ad107.add ((x19_2).toNat * 2)).block, (ad107.add ((x19_2).toNat * 2)).off + 1, none⟩ = some (.int .i64 ((rd_T34 x5_2 x19_2).f1)) ∧ w'.cell? (ad107.add (((ji13)).toNat * 2)) = some (.int .i64 ((rd_T34 x5_2 (ji13)).f0)) ∧ w'.cell? ⟨(ad107.add (((ji13)).toNat * 2)).block, (ad107.add (((ji13)).toNat * 2)).off + 1, none⟩ = some (.int .i64 ((rd_T34 x5_2 (ji13)).f1))) (ds := [15]) #[false, false, false, false, false, false, false, false, false, false, false, false, false, false, false, false] (by kernel_rfl) rfl rfl ⟨hx107_0, hx107_1, hx108_0, hx108_1⟩ (fun hHeld => ?_); refine with_tabW impl_turned_minus.tab9 impl_turned_minus.bits9 (fun HT_ HW_ => ?_)
             generalize wr.drew = w18 at HO_5 HB hx107_0 hx107_1 hx108_0 hx108_1 hHeld ⊢
             refine pure_ (i := 0) (N := some 26) (v := ?_) (a' := ?_) #[true, false, false, false, false, false, false, false, false, false, false, false, false, false, false, false] rfl rfl (any_of HT_.out (by kernel_rfl)) (fun _ _ _ h => h) (Or.inl ⟨(by rfl), ?_⟩) ?_ ?_
             rotate_left
             ·
              intro w'
              go_simp
              with_reducible rfl
             rotate_left
             ·
              exact ap_
             refine pure_ (i := 1) (N := some 27) (v := ?_) (a' := ?_) #[true, true, false, false, false, false, false, false, false, false, false, false, false, false, false, false] rfl rfl (any_of HT_.out (by kernel_rfl)) (fun _ _ _ h => h) (Or.inl ⟨(by rfl), ?_⟩) ?_ ?_
             rotate_left
             ·
              intro w'
              go_simp
              with_reducible rfl
             rotate_left
             ·
              exact ap_
             refine pure_ (i := 2) (N := some 28) (v := ?_) (a' := ?_) #[true, true, true, false, false, false, false, false, false, false, false, false, false, false, false, false] rfl rfl (any_of HT_.out (by kernel_rfl)) (fun _ _ _ h => h) (Or.inl ⟨(by rfl), ?_⟩) ?_ ?_
             rotate_left
             ·
              intro w'
              go_simp
              with_reducible rfl
             rotate_left
             ·
              exact ap_
             refine pure_ (i := 3) (N := some 29) (v := ?_) (a' := ?_) #[true, true, true, true, false, false, false, false, false, false, false, false, false, false, false, false] rfl rfl (any_of HT_.out (by kernel_rfl)) (fun _ _ _ h => h) (Or.inl ⟨(by rfl), ?_⟩) ?_ ?_
             rotate_left
             ·
              intro w'
              go_simp
              with_reducible rfl
             rotate_left
             ·
              exact ap_
             refine pure_ (i := 4) (N := some 30) (v := ?_) (a' := ?_) #[true, true, true, true, true, false, false, false, false, false, false, false, false, false, false, false] rfl rfl (any_of HT_.out (by kernel_rfl)) (fun _ _ _ h => h) (Or.inl ⟨(by rfl), ?_⟩) ?_ ?_
             rotate_left
             ·
              intro w'
              go_simp
              with_reducible rfl
             rotate_left
             ·
              exact ap_
             refine pure_ (i := 5) (N := some 31) (v := ?_) (a' := ?_) #[true, true, true, true, true, true, false, false, false, false, false, false, false, false, false, false] rfl rfl (any_of HT_.out (by kernel_rfl)) (fun _ _ _ h => h) (Or.inl ⟨(by rfl), ?_⟩) ?_ ?_
             rotate_left
             ·
              intro w'
              go_simp
              with_reducible rfl
             rotate_left
             ·
              exact ap_
             refine pure_ (i := 7) (N := some 33) (v := ?_) (a' := ?_) #[true, true, true, true, true, true, false, true, false, false, false, false, false, false, false, false] rfl rfl (any_of HT_.out (by kernel_rfl)) (fun _ _ _ h => h) (Or.inl ⟨(by rfl), ?_⟩) ?_ ?_
             rotate_left
             ·
              intro w'
              go_simp
              with_reducible rfl
             rotate_left
             ·
              exact ap_
             refine pure_ (i := 8) (N := some 34) (v := ?_) (a' := ?_) #[true, true, true, true, true, true, false, true, true, false, false, false, false, false, false, false] rfl rfl (any_of HT_.out (by kernel_rfl)) (fun _ _ _ h => h) (Or.inl ⟨(by rfl), ?_⟩) ?_ ?_
             rotate_left
             ·
              intro w'
              go_simp
              with_reducible rfl
             rotate_left
             ·
              exact ap_
             refine pure_ (i := 9) (N := some 35) (v := ?_) (a' := ?_) #[true, true, true, true, true, true, false, true, true, true, false, false, false, false, false, false] rfl rfl (any_of HT_.out (by kernel_rfl)) (fun _ _ _ h => h) (Or.inl ⟨(by rfl), ?_⟩) ?_ ?_
             rotate_left
             ·
              intro w'
              go_simp
              with_reducible rfl
             rotate_left
             ·
              exact ap_
             refine pure_ (i := 10) (N := some 36) (v := ?_) (a' := ?_) #[true, true, true, true, true, true, false, true, true, true, true, false, false, false, false, false] rfl rfl (any_of HT_.out (by kernel_rfl)) (fun _ _ _ h => h) (Or.inl ⟨(by rfl), ?_⟩) ?_ ?_
             rotate_left
             ·
              intro w'
              go_simp
              with_reducible rfl
             rotate_left
             ·
              exact ap_
             refine pure_ (i := 11) (N := some 37) (v := ?_) (a' := ?_) #[true, true, true, true, true, true, false, true, true, true, true, true, false, false, false, false] rfl rfl (any_of HT_.out (by kernel_rfl)) (fun _ _ _ h => h) (Or.inl ⟨(by rfl), ?_⟩) ?_ ?_
             rotate_left
             ·
              intro w'
              go_simp
              with_reducible rfl
             rotate_left
             ·
              exact ap_
             refine take_ (i := 6) (N := some 32) (v := ?_) (a' := ?_) #[true, true, true, true, true, true, true, true, true, true, true, true, false, false, false, false] rfl rfl (take_ofW HT_.out HW_.out (by kernel_rfl)) (fun _ _ _ h => h) (Or.inl ⟨(by rfl), ?_⟩) hHeld ?_ ?_
             rotate_left
             ·
              rintro w' ⟨s0, s1, s2, s3⟩
              go_simp
              with_reducible rfl
             rotate_left
             ·
              exact ap_
             refine take_ (i := 12) (N := some 38) (v := ?_) (a' := ?_) #[true, true, true, true, true, true, true, true, true, true, true, true, true, false, false, false] rfl rfl (take_ofW HT_.out HW_.out (by kernel_rfl)) (fun _ _ _ h => h) (Or.inl ⟨(by rfl), ?_⟩) hHeld ?_ ?_
             rotate_left
             ·
              rintro w' ⟨s0, s1, s2, s3⟩
              go_simp
              with_reducible rfl
             rotate_left
             ·
              exact ap_
             refine one_ (i := 13) (N := some 39) #[true, true, true, true, true, true, true, true, true, true, true, true, true, true, false, false] rfl rfl (one_of HT_.out (by kernel_rfl)) (by decide) (fun K hK => ?_)
             refine goesV_ Try.func113 (by kernel_rfl) rfl #[.agg #[.int .i64 ((rd_T34 x5_2 x19_2).f0), .int .i64 ((rd_T34 x5_2 x19_2).f1)], .agg #[.int .i64 ((rd_T34 x5_2 (ji13)).f0), .int .i64 ((rd_T34 x5_2 (ji13)).f1)]] (by rfl) rfl rfl (by rfl) (by (try simp only [List.map_toArray, List.map_cons, List.map_nil]); first | done | (simp only [hji13]; rfl) | rfl | (simp only [List.length_drop, List.length_take]; rfl)) ?_
             with_reducible refine (impl_Ext_minus.calls ((rd_T34 x5_2 x19_2).f0) ((rd_T34 x5_2 x19_2).f1) ((rd_T34 x5_2 (ji13)).f0) ((rd_T34 x5_2 (ji13)).f1) t109 t110 _ A16.out).mono ?_
             rintro e w19 ⟨rfl, hb⟩
             have HS0_ := (hb.cell (World.block_lt_of_cell? _ _ (hHeld.1))).trans (hHeld.1)
             have HS1_ := (hb.cell (World.block_lt_of_cell? _ _ (hHeld.2.1))).trans (hHeld.2.1)
             have HS2_ := (hb.cell (World.block_lt_of_cell? _ _ (hHeld.2.2.1))).trans (hHeld.2.2.1)
             have HS3_ := (hb.cell (World.block_lt_of_cell? _ _ (hHeld.2.2.2))).trans (hHeld.2.2.2)
             refine ⟨_, rfl, ?_⟩
             have n0_ := am_ (Kd.R_below qz11_ hb)
             have n1_ := am_ (below_step qz3_ hb)
             clear HO_5
             clear HB
             have HO_5 := n0_
             have HB := n1_
             clear n0_ n1_
             (try clear hb)
             (try clear hb2)
             (try clear hk)
             (try clear hi)
             have p17 : 0 ≤ (x19_2 : Int) := of_decide_eq_true qz6_
             have q17 : (x19_2 : Int) < ((x5_2.length : Int) : Int) := of_decide_eq_true qz6_
             obtain ⟨go17, co17, eo17, gb17, gl17, cl17, HG17⟩ := Kd.R_form HO_5.out (by omega)
             (first | cases eo17 | (injection eo17 with ea_ en_ ec_; (first | subst ea_ | (injection ea_ with ea_; subst ea_)); subst ec_; clear en_))
             have GB17 := am_ gb17
             have GG17 := am_ HG17
             clear gb17 gl17 HG17
             (first | simp only [add_plain] at hx107_0 | skip)
             (first | simp only [add_plain] at hx107_1 | skip)
             (first | simp only [add_plain] at hx108_0 | skip)
             (first | simp only [add_plain] at hx108_1 | skip)
             obtain ⟨ce17, hcl17, hM17, hcc17, hfr17⟩ := Kd.R_elem HO_5.out z34 (x19_2 : Int) p17 q17
             obtain rfl := k34_openM hM17
             have hx17_0 : World.cell? _ ⟨go17, (x19_2 : Int).toNat * 2, none⟩ = some (.int .i64 ((rd_T34 x5_2 x19_2).f0)) := hcc17 0 _ rfl
             have hx17_1 : World.cell? _ ⟨go17, (x19_2 : Int).toNat * 2 + 1, none⟩ = some (.int .i64 ((rd_T34 x5_2 x19_2).f1)) := hcc17 1 _ rfl
             have hf17_0 : World.frozen? _ ⟨go17, (x19_2 : Int).toNat * 2, none⟩ = false := hfr17 0
             have hf17_1 : World.frozen? _ ⟨go17, (x19_2 : Int).toNat * 2 + 1, none⟩ = false := hfr17 1
             (try clear hcl17); (try clear hcc17); (try clear hfr17); (try clear hM17)
             replace p17 := eq_true p17
             replace q17 := eq_true q17
             obtain ⟨ce20, hcl20, hM20, hcc20, hfr20⟩ := Kd.R_elem HO_5.out z34 (x19_2 : Int) (of_decide_eq_true qz6_) (by have h_ : (x19_2 : Int) < ((x5_2.length : Int) : Int) := of_decide_eq_true qz6_; first | exact h_ | (have e_ := (Kd.R_reads' HO_5.out).1; omega) | simpa using h_)
             obtain rfl := k34_openM hM20
             have HP20 := (Kd.R_seg HO_5.out (x19_2 : Int) (of_decide_eq_true qz6_) (by have h_ : (x19_2 : Int) < ((x5_2.length : Int) : Int) := of_decide_eq_true qz6_; first | exact h_ | (have e_ := (Kd.R_reads' HO_5.out).1; omega) | simpa using h_) (seg := [.int .i64 t109, .int .i64 t110]) (j := 0) hcl20 hcc20 (show 2 ≤ 2 from by decide) (x' := (⟨t109, t110⟩ : S34)) (k34_mkM _ _ _ (⟨t109, t110⟩ : S34) ) (fun _ hk => hk)).1
             rw [← Ny111.out] at HP20
             have HQ20 := am_ HP20
             (try clear hcl20); (try clear hcc20); (try clear hfr20); (try clear hM20); (try clear HP20)
             refine hK.out _ _ ⟨HS0_, HS1_, HS2_, HS3_⟩ (fun hHeld => ?_)
             clear hK K
             refine norm_ (a' := ?_) ?_ ?_
             rotate_left
             ·
              show Act.put _ (some 39) _ = _
              exact ap_
             refine pure_ (i := 14) (N := some 40) (v := ?_) (a' := ?_) #[true, true, true, true, true, true, true, true, true, true, true, true, true, true, true, false] rfl rfl (any_of HT_.out (by kernel_rfl)) (fun _ _ _ h => h) (Or.inl ⟨(by rfl), ?_⟩) ?_ ?_
             rotate_left
             ·
              intro w'
              go_simp
              with_reducible rfl
             rotate_left
             ·
              exact ap_
             refine last_ (i := 15) (N := none) #[true, true, true, true, true, true, true, true, true, true, true, true, true, true, true, true] rfl rfl (one_of HT_.out (by kernel_rfl)) (by decide) (fun K hK => ?_)
             refine skip_ (w1 := ?_) (by rfl) rfl ?_ ?_
             rotate_left
             ·
              go_simp
              rfl
             refine hK.out _ _ ?_
             clear hK K
             refine done_ (done_of HT_.out (by kernel_rfl)) ?_
             try go_wp2
             (try simp only [← hl5_2])
             go_roundg k2
             case measure => have := HK1.out; have := HK2.out; omega
             case rel => exact ⟨(y111), (wrap64 (x19_2 + 1)), qz0_, H', ⟨(by have := HK1.out; have := HK2.out; omega)⟩, ⟨(by (try simp only [hl5_2]); (with_reducible repeat (first | apply Kd.R_alloc | apply Kd.R_drewN | apply Kd.R_drew)); exact HQ20.out)⟩, ⟨(by repeat (first | (with_reducible first | exact HB.out | apply below_alloc | apply pw_below_drewN | apply below_drew1 | refine below_set ?_ GB17.out | refine below_set ?_ GB17.out) | exact HB.out))⟩⟩
            ·
             rw [if_neg c15] at H
             exact absurd H (by simp)
           ·
            rw [if_neg c14] at H
            exact absurd H (by simp)
          ·
           rw [if_neg c12] at H
           exact absurd H (by simp)
         ·
          rw [if_neg c11] at H
          exact absurd H (by simp)
       ·
        rw [if_neg c9] at H
        have c9b0 : decide (x19_2 < (x5_1.length : Int)) = false := decide_eq_false c9
        try have c9b0h5 : decide (x19_2 < (x5_2.length : Int)) = false := by rw [← hl5_2]; exact c9b0
        clear c9
        have H' := am_ H
        clear H
        go_wp2
        (try simp only [← hl5_2])
        go_roundg k2
        case measure => have := HK1.out; have := HK2.out; omega
        case rel => exact ⟨(x5_2), (wrap64 (x6_1 * 2)), qz0_, H', ⟨(by have := HK1.out; have := HK2.out; omega)⟩, ⟨(by (try simp only [hl5_2]); (with_reducible repeat (first | apply Kd.R_alloc | apply Kd.R_drewN | apply Kd.R_drew)); exact HO_5.out)⟩, ⟨qz3_⟩⟩
    ·
     rw [if_neg c7] at H
     have c7b0 : decide (x6_1 < (x5_1.length : Int)) = false := decide_eq_false c7
     clear c7
     obtain rfl := Option.some.inj H
     obtain ⟨Ao21, co21, eo21⟩ := Kd.R_slice HO_5.out
     subst eo21
     go_wp2
     go_ret
     exact ⟨_, qz4_, qz11_, qz3_⟩
 ·
  rw [if_neg c3] at H
  exact absurd H (by simp)

def impl_coefsOf.f (k : Nat) (l0 : List (S34)) : Option ((List (S34))) := (impl_turned_minus.f k l0).bind fun t101 => (some t101)
theorem impl_coefsOf.mono : ∀ a0 k, LeO (impl_coefsOf.f k a0) (impl_coefsOf.f (k + 1) a0) := by
 intro a0 k
 unfold impl_coefsOf.f
 repeat' first
   | (with_reducible exact impl_turned_minus.mono _ _)
   | (with_reducible exact LeO.refl _)
   | (with_reducible exact LeO.none _)
   | (with_reducible refine LeO.ite ?_ ?_)
   | (with_reducible refine LeO.bind ?_ (fun _ => ?_))
   | exact impl_turned_minus.mono _ _
   | exact LeO.none _
   | refine LeO.ite ?_ ?_
   | refine LeO.bind ?_ (fun _ => ?_)
set_option maxHeartbeats 8000000 in
set_option maxRecDepth 100000 in
theorem impl_coefsOf.calls (k : Nat) (A0 : Option Addr) (c0 : Nat) (l0 : List (S34)) (r : List (S34)) (w : World) (hr0 : Kd.C k34 w A0 l0.length l0) (hc0 : l0.length ≤ c0) (h : impl_coefsOf.f k l0 = some r) :
  Calls Try.prog 69 #[.slice A0 l0.length c0] w fun e w' => ∃ v0_ : Value, e = .returned (v0_) ∧ Kd.R k34 34 w' w.heap.size (fun _ => True) v0_ r ∧ Below w.heap.size w w' := by
 have HR0 := am_ hr0
 have HC0 := am_ hc0
 clear hr0 hc0
 have HB := am_ (Below.refl w.heap.size w)
 have H : ((impl_turned_minus.f k l0).bind fun t101 => (some t101)) = some r := h
 clear h
 replace H := Option.bind_eq_some_iff.mp H
 obtain ⟨t101, A20, H⟩ := H
 replace H : (some t101) = some r := H
 have A2 := am_ A20
 clear A20
 obtain rfl := Option.some.inj H
 go_enter Try.func69, Try.ntmps69
 go_wp2_with (first | ((with_reducible refine gate_callee (f := 112) rfl ?_); refine goesL_ (some 4) rfl rfl Try.func112 (by kernel_rfl) rfl #[.slice A0 l0.length c0, (Value.func (.func 113) #[] #[])] rfl qz2_ ?_; (with_reducible refine (impl_turned_minus.calls k _ _ l0  t101 _ ?side1 ?side2 A2.out).mono ?_); (case side1 => exact qc_ HR0.out); (case side2 => exact HC0.out); rintro e w3 ⟨v102, rfl, ho0, hb⟩; refine ⟨_, rfl, ?_⟩; have n0_ := am_ (Kd.R_lower ho0 (below_size qz3_)); have n1_ := am_ (below_step qz3_ hb); clear HB; have HO103 := n0_; have HB := n1_; clear n0_ n1_; (try clear hb); (try clear hb2); (try clear hk); (try clear hi); (try clear ho0)))
 go_ret
 exact ⟨_, qz4_, qz10_, qz3_⟩

def impl_CommitTable.f (k : Nat) (l0 : List (S34)) (a1 : Int) : Option (ByteArray × Int) := if (l0.length : Int) > 4096 then (some ((⟨#[]⟩ : ByteArray), 2)) else ((impl_TableOK.f l0).bind fun t101 => (if t101 = true then ((impl_in.f (l0.length : Int) 2 64).bind fun t102 => (if t102 = true then ((impl_in.f a1 1 3).bind fun t103 => (if t103 = true then ((impl_coefsOf.f k l0).bind fun t104 => ((impl_encoded.f k t104 a1).bind fun t107 => ((impl_commit.f k t107).bind fun bt110 => ((impl_rootOf.f bt110.2).bind fun t116 => (some (t116, 0)))))) else (some ((⟨#[]⟩ : ByteArray), 4)))) else (some ((⟨#[]⟩ : ByteArray), 4)))) else (some ((⟨#[]⟩ : ByteArray), 1))))
theorem impl_CommitTable.mono : ∀ a0 a1 k, LeO (impl_CommitTable.f k a0 a1) (impl_CommitTable.f (k + 1) a0 a1) := by
 intro a0 a1 k
 unfold impl_CommitTable.f
 repeat' first
   | (with_reducible exact impl_coefsOf.mono _ _)
   | (with_reducible exact impl_commit.mono _ _)
   | (with_reducible exact impl_encoded.mono _ _ _)
   | (with_reducible exact LeO.refl _)
   | (with_reducible exact LeO.none _)
   | (with_reducible refine LeO.ite ?_ ?_)
   | (with_reducible refine LeO.bind ?_ (fun _ => ?_))
   | exact impl_coefsOf.mono _ _
   | exact impl_commit.mono _ _
   | exact impl_encoded.mono _ _ _
   | exact LeO.none _
   | refine LeO.ite ?_ ?_
   | refine LeO.bind ?_ (fun _ => ?_)
set_option maxHeartbeats 8000000 in
set_option maxRecDepth 100000 in
theorem impl_CommitTable.calls (k : Nat) (A0 : Option Addr) (c0 : Nat) (l0 : List (S34)) (a1 : Int) (r1 : ByteArray) (r2 : Int) (w : World) (hr0 : Kd.C k34 w A0 l0.length l0) (hc0 : l0.length ≤ c0) (h : impl_CommitTable.f k l0 a1 = some (r1, r2)) :
  Calls Try.prog 22 #[.slice A0 l0.length c0, .int .i64 a1] w fun e w' => e = .returned (.tuple #[.string r1, .int .i64 r2]) ∧ Below w.heap.size w w' := by
 have HR0 := am_ hr0
 have HC0 := am_ hc0
 clear hr0 hc0
 have HB := am_ (Below.refl w.heap.size w)
 have H : (if (l0.length : Int) > 4096 then (some ((⟨#[]⟩ : ByteArray), 2)) else ((impl_TableOK.f l0).bind fun t101 => (if t101 = true then ((impl_in.f (l0.length : Int) 2 64).bind fun t102 => (if t102 = true then ((impl_in.f a1 1 3).bind fun t103 => (if t103 = true then ((impl_coefsOf.f k l0).bind fun t104 => ((impl_encoded.f k t104 a1).bind fun t107 => ((impl_commit.f k t107).bind fun bt110 => ((impl_rootOf.f bt110.2).bind fun t116 => (some (t116, 0)))))) else (some ((⟨#[]⟩ : ByteArray), 4)))) else (some ((⟨#[]⟩ : ByteArray), 4)))) else (some ((⟨#[]⟩ : ByteArray), 1))))) = some (r1, r2) := h
 clear h
 by_cases c3 : (l0.length : Int) > 4096
 ·
  rw [if_pos c3] at H
  have c3b0 : decide (4096 < (l0.length : Int)) = true := decide_eq_true c3
  have c3b1 : decide (4096 < l0.length) = true := decide_eq_true (by omega)
  clear c3
  simp only [Option.some.injEq, Prod.mk.injEq] at H
  obtain ⟨rfl, rfl⟩ := H
  have hfl_ := commit_rows
  go_enter Try.func22, Try.ntmps22
  go_wp2
  go_ret2
  exact ⟨qz4_, qz3_⟩
 ·
  rw [if_neg c3] at H
  have c3b0 : decide (4096 < (l0.length : Int)) = false := decide_eq_false c3
  have c3b1 : decide (4096 < l0.length) = false := decide_eq_false (by omega)
  clear c3
  replace H := Option.bind_eq_some_iff.mp H
  obtain ⟨t101, A40, H⟩ := H
  replace H : (if t101 = true then ((impl_in.f (l0.length : Int) 2 64).bind fun t102 => (if t102 = true then ((impl_in.f a1 1 3).bind fun t103 => (if t103 = true then ((impl_coefsOf.f k l0).bind fun t104 => ((impl_encoded.f k t104 a1).bind fun t107 => ((impl_commit.f k t107).bind fun bt110 => ((impl_rootOf.f bt110.2).bind fun t116 => (some (t116, 0)))))) else (some ((⟨#[]⟩ : ByteArray), 4)))) else (some ((⟨#[]⟩ : ByteArray), 4)))) else (some ((⟨#[]⟩ : ByteArray), 1))) = some (r1, r2) := H
  have A4 := am_ A40
  clear A40
  by_cases c5 : t101 = true
  ·
   subst c5
   have H1 : ((impl_in.f (l0.length : Int) 2 64).bind fun t102 => (if t102 = true then ((impl_in.f a1 1 3).bind fun t103 => (if t103 = true then ((impl_coefsOf.f k l0).bind fun t104 => ((impl_encoded.f k t104 a1).bind fun t107 => ((impl_commit.f k t107).bind fun bt110 => ((impl_rootOf.f bt110.2).bind fun t116 => (some (t116, 0)))))) else (some ((⟨#[]⟩ : ByteArray), 4)))) else (some ((⟨#[]⟩ : ByteArray), 4)))) = some (r1, r2) := by rw [if_pos rfl] at H; exact H
   clear H
   have H := H1
   clear H1
   replace H := Option.bind_eq_some_iff.mp H
   obtain ⟨t102, A60, H⟩ := H
   replace H : (if t102 = true then ((impl_in.f a1 1 3).bind fun t103 => (if t103 = true then ((impl_coefsOf.f k l0).bind fun t104 => ((impl_encoded.f k t104 a1).bind fun t107 => ((impl_commit.f k t107).bind fun bt110 => ((impl_rootOf.f bt110.2).bind fun t116 => (some (t116, 0)))))) else (some ((⟨#[]⟩ : ByteArray), 4)))) else (some ((⟨#[]⟩ : ByteArray), 4))) = some (r1, r2) := H
   have A6 := am_ A60
   clear A60
   by_cases c7 : t102 = true
   ·
    subst c7
    have H1 : ((impl_in.f a1 1 3).bind fun t103 => (if t103 = true then ((impl_coefsOf.f k l0).bind fun t104 => ((impl_encoded.f k t104 a1).bind fun t107 => ((impl_commit.f k t107).bind fun bt110 => ((impl_rootOf.f bt110.2).bind fun t116 => (some (t116, 0)))))) else (some ((⟨#[]⟩ : ByteArray), 4)))) = some (r1, r2) := by rw [if_pos rfl] at H; exact H
    clear H
    have H := H1
    clear H1
    replace H := Option.bind_eq_some_iff.mp H
    obtain ⟨t103, A80, H⟩ := H
    replace H : (if t103 = true then ((impl_coefsOf.f k l0).bind fun t104 => ((impl_encoded.f k t104 a1).bind fun t107 => ((impl_commit.f k t107).bind fun bt110 => ((impl_rootOf.f bt110.2).bind fun t116 => (some (t116, 0)))))) else (some ((⟨#[]⟩ : ByteArray), 4))) = some (r1, r2) := H
    have A8 := am_ A80
    clear A80
    by_cases c9 : t103 = true
    ·
     subst c9
     have H1 : ((impl_coefsOf.f k l0).bind fun t104 => ((impl_encoded.f k t104 a1).bind fun t107 => ((impl_commit.f k t107).bind fun bt110 => ((impl_rootOf.f bt110.2).bind fun t116 => (some (t116, 0)))))) = some (r1, r2) := by rw [if_pos rfl] at H; exact H
     clear H
     have H := H1
     clear H1
     replace H := Option.bind_eq_some_iff.mp H
     obtain ⟨t104, A100, H⟩ := H
     replace H : ((impl_encoded.f k t104 a1).bind fun t107 => ((impl_commit.f k t107).bind fun bt110 => ((impl_rootOf.f bt110.2).bind fun t116 => (some (t116, 0))))) = some (r1, r2) := H
     have A10 := am_ A100
     clear A100
     replace H := Option.bind_eq_some_iff.mp H
     obtain ⟨t107, A110, H⟩ := H
     replace H : ((impl_commit.f k t107).bind fun bt110 => ((impl_rootOf.f bt110.2).bind fun t116 => (some (t116, 0)))) = some (r1, r2) := H
     have A11 := am_ A110
     clear A110
     replace H := Option.bind_eq_some_iff.mp H
     obtain ⟨⟨t110, t113⟩, A120, H⟩ := H
     replace H : ((impl_rootOf.f t113).bind fun t116 => (some (t116, 0))) = some (r1, r2) := H
     have A12 := am_ A120
     clear A120
     replace H := Option.bind_eq_some_iff.mp H
     obtain ⟨t116, A130, H⟩ := H
     replace H : (some (t116, 0)) = some (r1, r2) := H
     have A13 := am_ A130
     clear A130
     simp only [Option.some.injEq, Prod.mk.injEq] at H
     obtain ⟨rfl, rfl⟩ := H
     have hfl_ := commit_rows
     go_enter Try.func22, Try.ntmps22
     go_wp2_with (first | ((with_reducible refine gate_callee (f := 65) rfl ?_); refine goesL_ (some 12) rfl rfl Try.func65 (by kernel_rfl) rfl #[.slice A0 l0.length c0] rfl qz2_ ?_; (with_reducible refine (impl_TableOK.calls _ _ l0 true _ ?side1 ?side2 A4.out).mono ?_); (case side1 => exact qc_ HR0.out); (case side2 => exact HC0.out); rintro e w14 ⟨rfl, hb⟩; refine ⟨_, rfl, ?_⟩; have n0_ := am_ (below_step qz3_ hb); clear HB; have HB := n0_; clear n0_; (try clear hb); (try clear hb2); (try clear hk); (try clear hi)) | ((with_reducible refine gate_callee (f := 44) rfl ?_); refine goesL_ (some 17) rfl rfl Try.func44 (by kernel_rfl) rfl #[.int .i64 (l0.length : Int), .int .i64 2, .int .i64 64] rfl qz2_ ?_; (with_reducible refine (impl_in.calls (l0.length : Int) 2 64 true _ A6.out).mono ?_); rintro e w' ⟨rfl, ⟨nd, rfl⟩⟩; refine ⟨_, rfl, ?_⟩) | (go_at_call 44; (with_reducible refine (impl_in.calls a1 1 3 true _ A8.out).mono ?_); rintro e w' ⟨rfl, ⟨nd, rfl⟩⟩) | ((with_reducible refine gate_callee (f := 69) rfl ?_); refine goesL_ (some 25) rfl rfl Try.func69 (by kernel_rfl) rfl #[.slice A0 l0.length c0] rfl qz2_ ?_; (with_reducible refine (impl_coefsOf.calls k _ _ l0 t104 _ ?side1 ?side2 A10.out).mono ?_); (case side1 => repeat (first | exact (Kd.C_below HR0.out qz3_) | (with_reducible refine Kd.C_alloc ?_ _) | (with_reducible refine Kd.C_drewN ?_ _) | (with_reducible refine Kd.C_drew ?_))); (case side2 => exact HC0.out); rintro e w15 ⟨v105, rfl, ho0, hb⟩; refine ⟨_, rfl, ?_⟩; have n0_ := am_ (Kd.R_lower ho0 (below_size qz3_)); have n1_ := am_ (below_step qz3_ hb); clear HB; have HO106 := n0_; have HB := n1_; clear n0_ n1_; (try clear hb); (try clear hb2); (try clear hk); (try clear hi); (try clear ho0); obtain ⟨Ao16, co16, eo16⟩ := Kd.R_slice HO106.out; subst eo16) | ((with_reducible refine gate_callee (f := 68) rfl ?_); refine goesL_ (some 27) rfl rfl Try.func68 (by kernel_rfl) rfl #[.slice Ao16 t104.length co16, .int .i64 a1] rfl qz2_ ?_; (with_reducible refine (impl_encoded.calls k _ _ t104 a1 t107 _ ?side1 ?side2 A11.out).mono ?_); (case side1 => exact qc_ (Kd.R_reads' HO106.out).2.2); (case side2 => exact (Kd.R_reads' HO106.out).2.1); rintro e w17 ⟨v108, rfl, ho0, hb⟩; refine ⟨_, rfl, ?_⟩; have n0_ := am_ (Kd.R_elder' qz12_ (Kd.R_base ho0) hb); have n1_ := am_ (Kd.R_lower (Kd.R_new' ho0 (Kd.R_lt qz12_)) (below_size qz3_)); have n2_ := am_ (below_step qz3_ hb); clear HO106; clear HB; have HO106 := n0_; have HO109 := n1_; have HB := n2_; clear n0_ n1_ n2_; (try clear hb); (try clear hb2); (try clear hk); (try clear hi); (try clear ho0); obtain ⟨Ao18, co18, eo18⟩ := Kd.R_slice HO109.out; subst eo18) | ((with_reducible refine gate_callee (f := 67) rfl ?_); refine goesL_ (some 28) rfl rfl Try.func67 (by kernel_rfl) rfl #[.slice Ao18 t107.length co18] rfl qz2_ ?_; (with_reducible refine (impl_commit.calls k (fun k_ => some k_ = (.slice Ao18 t107.length co18 : Value).ownBlock) (.slice Ao18 t107.length co18) t107 t110 t113 w _ ?side1 ?side2 A12.out).mono ?_); (case side1 => repeat (first | (with_reducible first | exact HB.out | apply below_alloc | apply pw_below_drewN | apply below_drew1) | exact HB.out)); (case side2 => exact Kd.R_tight rfl HO109.out); rintro e w19 ⟨v111, v114, rfl, ho0, ho1, hb, hkp⟩; refine ⟨_, rfl, ?_⟩; have n0_ := am_ (Kd.R_mono (ok' := fun k_ => some k_ ≠ (v111 : Value).ownBlock) (Kd.R_keptB (HO106.out) hkp (fun k_ hk_ hs_ => (hk_.2) hs_)) (fun k_ hk_ => fun e_ => Or.elim (ho0.1 k_ e_.symm) (fun hs_ => hk_.2.1 hs_) (fun hn_ => Nat.not_le.2 hk_.2.2 hn_))); have n1_ := am_ (Kd.R_mono (ok' := fun k_ => some k_ ≠ (.slice Ao16 t104.length co16 : Value).ownBlock) ho0 (fun k_ hk_ => Or.elim hk_ (fun hs_ => fun e_ => (((HO106.out).1 k_ e_.symm).2) hs_) (fun hn_ => (Kd.fresh' (Kd.R_lt qz12_) k_ hn_)))); have n2_ := am_ ((Kd.N_mono (ok' := fun k_ => some k_ ≠ (v111 : Value).ownBlock ∧ some k_ ≠ (.slice Ao16 t104.length co16 : Value).ownBlock) ho1 (fun k_ hk_ => ⟨hk_.2, Or.elim hk_.1 (fun hs_ => fun e_ => (((HO106.out).1 k_ e_.symm).2) hs_) (fun hn_ => (Kd.fresh' (Kd.R_lt qz12_) k_ hn_))⟩))); have n3_ := am_ (hb); clear HO106; clear HB; clear HO109; have HO106 := n0_; have HO112 := n1_; have HO115 := n2_; have HB := n3_; clear n0_ n1_ n2_ n3_; (try clear hb); (try clear hkp); (try clear ho0); (try clear ho1); obtain ⟨Ao20, co20, eo20⟩ := Kd.N_slice HO115.out; subst eo20) | ((with_reducible refine gate_callee (f := 66) rfl ?_); refine goesL_ (some 30) rfl rfl Try.func66 (by kernel_rfl) rfl #[.slice Ao20 t113.length co20] rfl qz2_ ?_; (with_reducible refine (impl_rootOf.calls _ _ t113 t116 _ ?side1 ?side2 A13.out).mono ?_); (case side1 => exact qc_ (Kd.N_reads' HO115.out).2.2); (case side2 => exact (Kd.N_reads' HO115.out).2.1); rintro e w' ⟨rfl, ⟨nd, rfl⟩⟩; refine ⟨_, rfl, ?_⟩))
     go_ret2
     exact ⟨qz4_, qz3_⟩
    ·
     replace c9 := Bool.eq_false_iff.mpr c9
     subst c9
     have H1 : (some ((⟨#[]⟩ : ByteArray), 4)) = some (r1, r2) := by rw [if_neg (show ¬ (false = true) by decide)] at H; exact H
     clear H
     have H := H1
     clear H1
     simp only [Option.some.injEq, Prod.mk.injEq] at H
     obtain ⟨rfl, rfl⟩ := H
     have hfl_ := commit_rows
     go_enter Try.func22, Try.ntmps22
     go_wp2_with (first | ((with_reducible refine gate_callee (f := 65) rfl ?_); refine goesL_ (some 12) rfl rfl Try.func65 (by kernel_rfl) rfl #[.slice A0 l0.length c0] rfl qz2_ ?_; (with_reducible refine (impl_TableOK.calls _ _ l0 true _ ?side1 ?side2 A4.out).mono ?_); (case side1 => exact qc_ HR0.out); (case side2 => exact HC0.out); rintro e w21 ⟨rfl, hb⟩; refine ⟨_, rfl, ?_⟩; have n0_ := am_ (below_step qz3_ hb); clear HB; have HB := n0_; clear n0_; (try clear hb); (try clear hb2); (try clear hk); (try clear hi)) | ((with_reducible refine gate_callee (f := 44) rfl ?_); refine goesL_ (some 17) rfl rfl Try.func44 (by kernel_rfl) rfl #[.int .i64 (l0.length : Int), .int .i64 2, .int .i64 64] rfl qz2_ ?_; (with_reducible refine (impl_in.calls (l0.length : Int) 2 64 true _ A6.out).mono ?_); rintro e w' ⟨rfl, ⟨nd, rfl⟩⟩; refine ⟨_, rfl, ?_⟩) | (go_at_call 44; (with_reducible refine (impl_in.calls a1 1 3 false _ A8.out).mono ?_); rintro e w' ⟨rfl, ⟨nd, rfl⟩⟩))
     go_ret2
     exact ⟨qz4_, qz3_⟩
   ·
    replace c7 := Bool.eq_false_iff.mpr c7
    subst c7
    have H1 : (some ((⟨#[]⟩ : ByteArray), 4)) = some (r1, r2) := by rw [if_neg (show ¬ (false = true) by decide)] at H; exact H
    clear H
    have H := H1
    clear H1
    simp only [Option.some.injEq, Prod.mk.injEq] at H
    obtain ⟨rfl, rfl⟩ := H
    have hfl_ := commit_rows
    go_enter Try.func22, Try.ntmps22
    go_wp2_with (first | ((with_reducible refine gate_callee (f := 65) rfl ?_); refine goesL_ (some 12) rfl rfl Try.func65 (by kernel_rfl) rfl #[.slice A0 l0.length c0] rfl qz2_ ?_; (with_reducible refine (impl_TableOK.calls _ _ l0 true _ ?side1 ?side2 A4.out).mono ?_); (case side1 => exact qc_ HR0.out); (case side2 => exact HC0.out); rintro e w22 ⟨rfl, hb⟩; refine ⟨_, rfl, ?_⟩; have n0_ := am_ (below_step qz3_ hb); clear HB; have HB := n0_; clear n0_; (try clear hb); (try clear hb2); (try clear hk); (try clear hi)) | ((with_reducible refine gate_callee (f := 44) rfl ?_); refine goesL_ (some 17) rfl rfl Try.func44 (by kernel_rfl) rfl #[.int .i64 (l0.length : Int), .int .i64 2, .int .i64 64] rfl qz2_ ?_; (with_reducible refine (impl_in.calls (l0.length : Int) 2 64 false _ A6.out).mono ?_); rintro e w' ⟨rfl, ⟨nd, rfl⟩⟩; refine ⟨_, rfl, ?_⟩))
    go_ret2
    exact ⟨qz4_, qz3_⟩
  ·
   replace c5 := Bool.eq_false_iff.mpr c5
   subst c5
   have H1 : (some ((⟨#[]⟩ : ByteArray), 1)) = some (r1, r2) := by rw [if_neg (show ¬ (false = true) by decide)] at H; exact H
   clear H
   have H := H1
   clear H1
   simp only [Option.some.injEq, Prod.mk.injEq] at H
   obtain ⟨rfl, rfl⟩ := H
   have hfl_ := commit_rows
   go_enter Try.func22, Try.ntmps22
   go_wp2_with (first | ((with_reducible refine gate_callee (f := 65) rfl ?_); refine goesL_ (some 12) rfl rfl Try.func65 (by kernel_rfl) rfl #[.slice A0 l0.length c0] rfl qz2_ ?_; (with_reducible refine (impl_TableOK.calls _ _ l0 false _ ?side1 ?side2 A4.out).mono ?_); (case side1 => exact qc_ HR0.out); (case side2 => exact HC0.out); rintro e w23 ⟨rfl, hb⟩; refine ⟨_, rfl, ?_⟩; have n0_ := am_ (below_step qz3_ hb); clear HB; have HB := n0_; clear n0_; (try clear hb); (try clear hb2); (try clear hk); (try clear hi)))
   go_ret2
   exact ⟨qz4_, qz3_⟩

def laws_eqExt.f (a0_0 : Int) (a0_1 : Int) (a1_0 : Int) (a1_1 : Int) : Option (Bool) := if a0_0 = a1_0 then (if a0_1 = a1_1 then (some true) else (some false)) else (some false)
set_option maxHeartbeats 8000000 in
set_option maxRecDepth 100000 in
theorem laws_eqExt.calls (a0_0 : Int) (a0_1 : Int) (a1_0 : Int) (a1_1 : Int) (r : Bool) (w : World) (h : laws_eqExt.f a0_0 a0_1 a1_0 a1_1 = some r) :
  Calls Try.prog 31 #[.agg #[.int .i64 a0_0, .int .i64 a0_1], .agg #[.int .i64 a1_0, .int .i64 a1_1]] w fun e w' => e = .returned (.bool r) ∧ Below w.heap.size w w' := by
 have hu34 := Try.underlying34
 have HB := am_ (Below.refl w.heap.size w)
 have H : (if a0_0 = a1_0 then (if a0_1 = a1_1 then (some true) else (some false)) else (some false)) = some r := h
 clear h
 by_cases c3 : a0_0 = a1_0
 ·
  rw [if_pos c3] at H
  have c3b0 : (a0_0 == a1_0) = true := beq_iff_eq.mpr c3
  have c3b1 : (a0_0 != a1_0) = false := bne_eq_false_iff_eq.mpr c3
  clear c3
  by_cases c4 : a0_1 = a1_1
  ·
   rw [if_pos c4] at H
   have c4b0 : (a0_1 == a1_1) = true := beq_iff_eq.mpr c4
   have c4b1 : (a0_1 != a1_1) = false := bne_eq_false_iff_eq.mpr c4
   clear c4
   obtain rfl := Option.some.inj H
   go_enter Try.func31, Try.ntmps31
   go_wp2_with (first | ((with_reducible refine gate_dst (N := 2) rfl ?_); refine box_event ?hg (N := 2) ?hd (cs := #[.int .i64 a0_0, .int .i64 a0_1]) (t := 34) ?hr ?_; (case hd => rfl); (case hg => rfl); (case hr => first | (go_simp; done) | (go_simp; rfl)); intro gb101 hg w5 hbox hb; have n0_ := am_ (below_step qz3_ hb); have n1_ := am_ (hbox); have n2_ := am_ ((by rw [hg]; exact (below_size qz3_) : w.heap.size ≤ gb101)); have n3_ := am_ ((by rw [hg]; exact (below_size qz3_) : w.heap.size ≤ gb101)); clear HB; have HB := n0_; have BK101 := n1_; have GW101 := n2_; have GE101 := n3_; clear n0_ n1_ n2_ n3_; clear hb hbox hg) | ((with_reducible refine gate_dst (N := 3) rfl ?_); refine box_event ?hg (N := 3) ?hd (cs := #[.int .i64 a1_0, .int .i64 a1_1]) (t := 34) ?hr ?_; (case hd => rfl); (case hg => rfl); (case hr => first | (go_simp; done) | (go_simp; rfl)); intro gb102 hg w6 hbox hb; have n0_ := am_ (blk_below (g := gb101) (o := .cells #[.int .i64 a0_0, .int .i64 a0_1] 34 (0, 0)) qz13_ hb); have n1_ := am_ (below_step qz5_ hb); have n2_ := am_ (hbox); have n3_ := am_ ((by rw [hg]; exact (below_size qz5_) : w.heap.size ≤ gb102)); have n4_ := am_ ((by rw [hg]; exact (below_size qz5_) : w.heap.size ≤ gb102)); have n5_ := am_ ((by rw [hg]; exact Nat.ne_of_lt (blk_lt (g := gb101) (o := .cells #[.int .i64 a0_0, .int .i64 a0_1] 34 (0, 0)) qz13_) : gb101 ≠ gb102)); have n6_ := am_ ((by rw [hg]; exact Nat.ne_of_gt (blk_lt (g := gb101) (o := .cells #[.int .i64 a0_0, .int .i64 a0_1] 34 (0, 0)) qz13_) : gb102 ≠ gb101)); clear BK101; clear HB; have BK101 := n0_; have HB := n1_; have BK102 := n2_; have GW102 := n3_; have GE102 := n4_; have NB101_102 := n5_; have NB102_101 := n6_; clear n0_ n1_ n2_ n3_ n4_ n5_ n6_; clear hb hbox hg; have hnb7 := NB101_102.out; have hnc7 := NB102_101.out; have hcz8_0 : w6.cell? ⟨gb101, 0, none⟩ = some (.int .i64 a0_0) := (blk_cell BK101.out 0).trans rfl; have hcz8_1 : w6.cell? ⟨gb101, 1, none⟩ = some (.int .i64 a0_1) := (blk_cell BK101.out 1).trans rfl; have hfz8_0 := blk_frozen BK101.out 0; have hfz8_1 := blk_frozen BK101.out 1; have hcz9_0 : w6.cell? ⟨gb102, 0, none⟩ = some (.int .i64 a1_0) := (blk_cell BK102.out 0).trans rfl; have hcz9_1 : w6.cell? ⟨gb102, 1, none⟩ = some (.int .i64 a1_1) := (blk_cell BK102.out 1).trans rfl; have hfz9_0 := blk_frozen BK102.out 0; have hfz9_1 := blk_frozen BK102.out 1))
   go_ret
   exact ⟨qz4_, qz15_⟩
  ·
   rw [if_neg c4] at H
   have c4b0 : (a0_1 == a1_1) = false := beq_eq_false_iff_ne.mpr c4
   have c4b1 : (a0_1 != a1_1) = true := bne_iff_ne.mpr c4
   obtain rfl := Option.some.inj H
   go_enter Try.func31, Try.ntmps31
   go_wp2_with (first | ((with_reducible refine gate_dst (N := 2) rfl ?_); refine box_event ?hg (N := 2) ?hd (cs := #[.int .i64 a0_0, .int .i64 a0_1]) (t := 34) ?hr ?_; (case hd => rfl); (case hg => rfl); (case hr => first | (go_simp; done) | (go_simp; rfl)); intro gb101 hg w10 hbox hb; have n0_ := am_ (below_step qz3_ hb); have n1_ := am_ (hbox); have n2_ := am_ ((by rw [hg]; exact (below_size qz3_) : w.heap.size ≤ gb101)); have n3_ := am_ ((by rw [hg]; exact (below_size qz3_) : w.heap.size ≤ gb101)); clear HB; have HB := n0_; have BK101 := n1_; have GW101 := n2_; have GE101 := n3_; clear n0_ n1_ n2_ n3_; clear hb hbox hg) | ((with_reducible refine gate_dst (N := 3) rfl ?_); refine box_event ?hg (N := 3) ?hd (cs := #[.int .i64 a1_0, .int .i64 a1_1]) (t := 34) ?hr ?_; (case hd => rfl); (case hg => rfl); (case hr => first | (go_simp; done) | (go_simp; rfl)); intro gb102 hg w11 hbox hb; have n0_ := am_ (blk_below (g := gb101) (o := .cells #[.int .i64 a0_0, .int .i64 a0_1] 34 (0, 0)) qz13_ hb); have n1_ := am_ (below_step qz5_ hb); have n2_ := am_ (hbox); have n3_ := am_ ((by rw [hg]; exact (below_size qz5_) : w.heap.size ≤ gb102)); have n4_ := am_ ((by rw [hg]; exact (below_size qz5_) : w.heap.size ≤ gb102)); have n5_ := am_ ((by rw [hg]; exact Nat.ne_of_lt (blk_lt (g := gb101) (o := .cells #[.int .i64 a0_0, .int .i64 a0_1] 34 (0, 0)) qz13_) : gb101 ≠ gb102)); have n6_ := am_ ((by rw [hg]; exact Nat.ne_of_gt (blk_lt (g := gb101) (o := .cells #[.int .i64 a0_0, .int .i64 a0_1] 34 (0, 0)) qz13_) : gb102 ≠ gb101)); clear BK101; clear HB; have BK101 := n0_; have HB := n1_; have BK102 := n2_; have GW102 := n3_; have GE102 := n4_; have NB101_102 := n5_; have NB102_101 := n6_; clear n0_ n1_ n2_ n3_ n4_ n5_ n6_; clear hb hbox hg; have hnb12 := NB101_102.out; have hnc12 := NB102_101.out; have hcz13_0 : w11.cell? ⟨gb101, 0, none⟩ = some (.int .i64 a0_0) := (blk_cell BK101.out 0).trans rfl; have hcz13_1 : w11.cell? ⟨gb101, 1, none⟩ = some (.int .i64 a0_1) := (blk_cell BK101.out 1).trans rfl; have hfz13_0 := blk_frozen BK101.out 0; have hfz13_1 := blk_frozen BK101.out 1; have hcz14_0 : w11.cell? ⟨gb102, 0, none⟩ = some (.int .i64 a1_0) := (blk_cell BK102.out 0).trans rfl; have hcz14_1 : w11.cell? ⟨gb102, 1, none⟩ = some (.int .i64 a1_1) := (blk_cell BK102.out 1).trans rfl; have hfz14_0 := blk_frozen BK102.out 0; have hfz14_1 := blk_frozen BK102.out 1))
   go_ret
   exact ⟨qz4_, qz15_⟩
 ·
  rw [if_neg c3] at H
  have c3b0 : (a0_0 == a1_0) = false := beq_eq_false_iff_ne.mpr c3
  have c3b1 : (a0_0 != a1_0) = true := bne_iff_ne.mpr c3
  obtain rfl := Option.some.inj H
  go_enter Try.func31, Try.ntmps31
  go_wp2_with (first | ((with_reducible refine gate_dst (N := 2) rfl ?_); refine box_event ?hg (N := 2) ?hd (cs := #[.int .i64 a0_0, .int .i64 a0_1]) (t := 34) ?hr ?_; (case hd => rfl); (case hg => rfl); (case hr => first | (go_simp; done) | (go_simp; rfl)); intro gb101 hg w15 hbox hb; have n0_ := am_ (below_step qz3_ hb); have n1_ := am_ (hbox); have n2_ := am_ ((by rw [hg]; exact (below_size qz3_) : w.heap.size ≤ gb101)); have n3_ := am_ ((by rw [hg]; exact (below_size qz3_) : w.heap.size ≤ gb101)); clear HB; have HB := n0_; have BK101 := n1_; have GW101 := n2_; have GE101 := n3_; clear n0_ n1_ n2_ n3_; clear hb hbox hg) | ((with_reducible refine gate_dst (N := 3) rfl ?_); refine box_event ?hg (N := 3) ?hd (cs := #[.int .i64 a1_0, .int .i64 a1_1]) (t := 34) ?hr ?_; (case hd => rfl); (case hg => rfl); (case hr => first | (go_simp; done) | (go_simp; rfl)); intro gb102 hg w16 hbox hb; have n0_ := am_ (blk_below (g := gb101) (o := .cells #[.int .i64 a0_0, .int .i64 a0_1] 34 (0, 0)) qz13_ hb); have n1_ := am_ (below_step qz5_ hb); have n2_ := am_ (hbox); have n3_ := am_ ((by rw [hg]; exact (below_size qz5_) : w.heap.size ≤ gb102)); have n4_ := am_ ((by rw [hg]; exact (below_size qz5_) : w.heap.size ≤ gb102)); have n5_ := am_ ((by rw [hg]; exact Nat.ne_of_lt (blk_lt (g := gb101) (o := .cells #[.int .i64 a0_0, .int .i64 a0_1] 34 (0, 0)) qz13_) : gb101 ≠ gb102)); have n6_ := am_ ((by rw [hg]; exact Nat.ne_of_gt (blk_lt (g := gb101) (o := .cells #[.int .i64 a0_0, .int .i64 a0_1] 34 (0, 0)) qz13_) : gb102 ≠ gb101)); clear BK101; clear HB; have BK101 := n0_; have HB := n1_; have BK102 := n2_; have GW102 := n3_; have GE102 := n4_; have NB101_102 := n5_; have NB102_101 := n6_; clear n0_ n1_ n2_ n3_ n4_ n5_ n6_; clear hb hbox hg; have hnb17 := NB101_102.out; have hnc17 := NB102_101.out; have hcz18_0 : w16.cell? ⟨gb101, 0, none⟩ = some (.int .i64 a0_0) := (blk_cell BK101.out 0).trans rfl; have hcz18_1 : w16.cell? ⟨gb101, 1, none⟩ = some (.int .i64 a0_1) := (blk_cell BK101.out 1).trans rfl; have hfz18_0 := blk_frozen BK101.out 0; have hfz18_1 := blk_frozen BK101.out 1; have hcz19_0 : w16.cell? ⟨gb102, 0, none⟩ = some (.int .i64 a1_0) := (blk_cell BK102.out 0).trans rfl; have hcz19_1 : w16.cell? ⟨gb102, 1, none⟩ = some (.int .i64 a1_1) := (blk_cell BK102.out 1).trans rfl; have hfz19_0 := blk_frozen BK102.out 0; have hfz19_1 := blk_frozen BK102.out 1))
  go_ret
  exact ⟨qz4_, qz15_⟩

def laws_eqExtS.l0 : Nat → List (S34) → List (S34) → Int → Option (Bool)
 | 0, _, _, _ => none
 | k + 1, x0, x1, x5 => if x5 < (x0.length : Int) then (if 0 ≤ x5 then (if x5 < (x1.length : Int) then ((laws_eqExt.f ((rd_T34 x0 x5).f0) ((rd_T34 x0 x5).f1) ((rd_T34 x1 x5).f0) ((rd_T34 x1 x5).f1)).bind fun t103 => (if t103 = true then (laws_eqExtS.l0 k x0 x1 (wrap64 (x5 + 1))) else (some false))) else (none)) else (none)) else (some true)
def laws_eqExtS.f (k : Nat) (l0 : List (S34)) (l1 : List (S34)) : Option (Bool) := if (l0.length : Int) = (l1.length : Int) then (laws_eqExtS.l0 k l0 l1 0) else (some false)
theorem laws_eqExtS.mono_l : ∀ k, (∀ y0 y1 y2, LeO (laws_eqExtS.l0 k y0 y1 y2) (laws_eqExtS.l0 (k + 1) y0 y1 y2))
 | 0 => fun _ _ _ r h => by simp [laws_eqExtS.l0] at h
 | k + 1 => by
  have ih0 := laws_eqExtS.mono_l k
  ·
   intro y0 y1 y2
   unfold laws_eqExtS.l0
   repeat' first
   | (with_reducible exact ih0 _ _ _)
   | (with_reducible exact LeO.refl _)
   | (with_reducible exact LeO.none _)
   | (with_reducible refine LeO.ite ?_ ?_)
   | (with_reducible refine LeO.bind ?_ (fun _ => ?_))
   | exact ih0 _ _ _
   | exact LeO.none _
   | refine LeO.ite ?_ ?_
   | refine LeO.bind ?_ (fun _ => ?_)
theorem laws_eqExtS.mono : ∀ a0 a1 k, LeO (laws_eqExtS.f k a0 a1) (laws_eqExtS.f (k + 1) a0 a1) := by
 intro a0 a1 k
 have ih0 := laws_eqExtS.mono_l k
 unfold laws_eqExtS.f
 repeat' first
   | (with_reducible exact ih0 _ _ _)
   | (with_reducible exact LeO.refl _)
   | (with_reducible exact LeO.none _)
   | (with_reducible refine LeO.ite ?_ ?_)
   | (with_reducible refine LeO.bind ?_ (fun _ => ?_))
   | exact ih0 _ _ _
   | exact LeO.none _
   | refine LeO.ite ?_ ?_
   | refine LeO.bind ?_ (fun _ => ?_)
def laws_eqExtS.T6 : Bool × List (List Nat × List Nat) := (true, [([], []), ([], []), ([0, 1], [0, 1]), ([2], [2]), ([], []), ([], []), ([4, 5], [4, 5]), ([6], [6]), ([3, 7], [3, 7]), ([8], [8])])
def laws_eqExtS.B6 : List Nat := [0, 0, 3, 7, 0, 0, 48, 112, 255, 511]
theorem laws_eqExtS.tab6 : rtab .any (opsOf Try.f23 6) = laws_eqExtS.T6 := by kernel_rfl
theorem laws_eqExtS.bits6 : waitsOk laws_eqExtS.T6.2 laws_eqExtS.B6 = true := by kernel_rfl
set_option maxHeartbeats 8000000 in
set_option maxRecDepth 100000 in
theorem laws_eqExtS.calls (k : Nat) (A0 : Option Addr) (c0 : Nat) (l0 : List (S34)) (A1 : Option Addr) (c1 : Nat) (l1 : List (S34)) (r : Bool) (w : World) (hr0 : Kd.C k34 w A0 l0.length l0) (hc0 : l0.length ≤ c0) (hr1 : Kd.C k34 w A1 l1.length l1) (hc1 : l1.length ≤ c1) (h : laws_eqExtS.f k l0 l1 = some r) :
  Calls Try.prog 23 #[.slice A0 l0.length c0, .slice A1 l1.length c1] w fun e w' => e = .returned (.bool r) ∧ Below w.heap.size w w' := by
 have hu34 := Try.underlying34
 have HR0 := am_ hr0
 have HC0 := am_ hc0
 clear hr0 hc0
 have HR1 := am_ hr1
 have HC1 := am_ hc1
 clear hr1 hc1
 have HB := am_ (Below.refl w.heap.size w)
 have H : (if (l0.length : Int) = (l1.length : Int) then (laws_eqExtS.l0 k l0 l1 0) else (some false)) = some r := h
 clear h
 by_cases c3 : (l0.length : Int) = (l1.length : Int)
 ·
  rw [if_pos c3] at H
  have c3b0 : ((l0.length : Int) == (l1.length : Int)) = true := beq_iff_eq.mpr c3
  have c3b1 : ((l0.length : Int) != (l1.length : Int)) = false := bne_eq_false_iff_eq.mpr c3
  have c3b2 : (l0.length == l1.length) = true := by first | simpa using c3 | (simp at c3 ⊢; omega)
  clear c3
  have H' := am_ H
  clear H
  go_enter Try.func23, Try.ntmps23
  go_wp2
  go_loopg [5] k (fun kq v5 w' => ∃ (x5_1 : Int), v5 = .int .i64 x5_1 ∧ Aside0 (laws_eqExtS.l0 kq l0 l1 x5_1 = some r) ∧ Aside0 (kq ≤ k) ∧ Aside0 (Below w.heap.size w w'))
  case atStart => exact ⟨(0), qz0_, H', ⟨Nat.le_refl _⟩, ⟨qz3_⟩⟩
  case round =>
   clear H'
   try clear c1
   try clear c2
   try clear p2
   try clear c3
   try clear c3b0
   try clear c3b1
   try clear c3b2
   obtain ⟨x5_1, rfl, HA, HK1, HB⟩ := hrel
   cases gk with
   | zero => exact absurd HA.out (by simp [laws_eqExtS.l0])
   | succ k1 =>
    have H := HA.out
    clear HA
    simp only [laws_eqExtS.l0] at H
    by_cases c4 : x5_1 < (l0.length : Int)
    ·
     rw [if_pos c4] at H
     have c4b0 : decide (x5_1 < (l0.length : Int)) = true := decide_eq_true c4
     clear c4
     by_cases c5 : 0 ≤ x5_1
     ·
      rw [if_pos c5] at H
      have c5b0 : decide (0 ≤ x5_1) = true := decide_eq_true c5
      clear c5
      by_cases c6 : x5_1 < (l1.length : Int)
      ·
       rw [if_pos c6] at H
       have c6b0 : decide (x5_1 < (l1.length : Int)) = true := decide_eq_true c6
       clear c6
       replace H := Option.bind_eq_some_iff.mp H
       obtain ⟨t103, A70, H⟩ := H
       replace H : (if t103 = true then (laws_eqExtS.l0 k1 l0 l1 (wrap64 (x5_1 + 1))) else (some false)) = some r := H
       have A7 := am_ A70
       clear A70
       by_cases c8 : t103 = true
       ·
        subst c8
        have H1 : (laws_eqExtS.l0 k1 l0 l1 (wrap64 (x5_1 + 1))) = some r := by rw [if_pos rfl] at H; exact H
        clear H
        have H := H1
        clear H1
        have H' := am_ H
        clear H
        try go_wp2
        have n0_ := am_ (below_drew1 HB.out)
        clear HB
        have HB := n0_
        clear n0_
        have p101 : 0 ≤ (x5_1 : Int) := of_decide_eq_true qz6_
        have q101 : x5_1 < (l0.length : Int) := of_decide_eq_true qz6_
        obtain ⟨ad101, e101, hx101_0, hx101_1⟩ := at_T34 HR0.out x5_1 p101 q101
        have hw101_1 := hx101_1
        have hw101_0 := hx101_0
        cases e101
        replace hx101_0 := (HB.out.cell (World.block_lt_of_cell? w _ hx101_0)).trans hx101_0
        replace hx101_1 := (HB.out.cell (World.block_lt_of_cell? w _ hx101_1)).trans hx101_1
        replace p101 := eq_true p101
        replace q101 := eq_true q101
        have p102 : 0 ≤ (x5_1 : Int) := of_decide_eq_true qz6_
        have q102 : x5_1 < (l1.length : Int) := of_decide_eq_true qz6_
        obtain ⟨ad102, e102, hx102_0, hx102_1⟩ := at_T34 HR1.out x5_1 p102 q102
        have hw102_1 := hx102_1
        have hw102_0 := hx102_0
        cases e102
        replace hx102_0 := (HB.out.cell (World.block_lt_of_cell? w _ hx102_0)).trans hx102_0
        replace hx102_1 := (HB.out.cell (World.block_lt_of_cell? w _ hx102_1)).trans hx102_1
        replace p102 := eq_true p102
        replace q102 := eq_true q102
        refine start_ (n := 10) (S := fun w' => w'.cell? (ad101.add ((x5_1).toNat * 2)) = some (.int .i64 ((rd_T34 l0 x5_1).f0)) ∧ w'.cell? ⟨(ad101.add ((x5_1).toNat * 2)).block, (ad101.add ((x5_1).toNat * 2)).off + 1, none⟩ = some (.int .i64 ((rd_T34 l0 x5_1).f1)) ∧ w'.cell? (ad102.add ((x5_1).toNat * 2)) = some (.int .i64 ((rd_T34 l1 x5_1).f0)) ∧ w'.cell? ⟨(ad102.add ((x5_1).toNat * 2)).block, (ad102.add ((x5_1).toNat * 2)).off + 1, none⟩ = some (.int .i64 ((rd_T34 l1 x5_1).f1))) (ds := []) #[false, false, false, false, false, false, false, false, false, false] (by kernel_rfl) rfl rfl ⟨((HB.out.cell (World.block_lt_of_cell? w _ hw101_0)).trans hw101_0), ((HB.out.cell (World.block_lt_of_cell? w _ hw101_1)).trans hw101_1), ((HB.out.cell (World.block_lt_of_cell? w _ hw102_0)).trans hw102_0), ((HB.out.cell (World.block_lt_of_cell? w _ hw102_1)).trans hw102_1)⟩ (fun hHeld => ?_); refine with_tabW laws_eqExtS.tab6 laws_eqExtS.bits6 (fun HT_ HW_ => ?_)
        generalize wr.drew = w9 at HB hx101_0 hx101_1 hx102_0 hx102_1 hHeld ⊢
        refine pure_ (i := 0) (N := some 17) (v := ?_) (a' := ?_) #[true, false, false, false, false, false, false, false, false, false] rfl rfl (any_of HT_.out (by kernel_rfl)) (fun _ _ _ h => h) (Or.inl ⟨(by rfl), ?_⟩) ?_ ?_
        rotate_left
        ·
         intro w'
         go_simp
         with_reducible rfl
        rotate_left
        ·
         exact ap_
        refine pure_ (i := 1) (N := some 18) (v := ?_) (a' := ?_) #[true, true, false, false, false, false, false, false, false, false] rfl rfl (any_of HT_.out (by kernel_rfl)) (fun _ _ _ h => h) (Or.inl ⟨(by rfl), ?_⟩) ?_ ?_
        rotate_left
        ·
         intro w'
         go_simp
         with_reducible rfl
        rotate_left
        ·
         exact ap_
        refine pure_ (i := 2) (N := some 19) (v := ?_) (a' := ?_) #[true, true, true, false, false, false, false, false, false, false] rfl rfl (any_of HT_.out (by kernel_rfl)) (fun _ _ _ h => h) (Or.inl ⟨(by rfl), ?_⟩) ?_ ?_
        rotate_left
        ·
         intro w'
         go_simp
         with_reducible rfl
        rotate_left
        ·
         exact ap_
        refine pure_ (i := 4) (N := some 21) (v := ?_) (a' := ?_) #[true, true, true, false, true, false, false, false, false, false] rfl rfl (any_of HT_.out (by kernel_rfl)) (fun _ _ _ h => h) (Or.inl ⟨(by rfl), ?_⟩) ?_ ?_
        rotate_left
        ·
         intro w'
         go_simp
         with_reducible rfl
        rotate_left
        ·
         exact ap_
        refine pure_ (i := 5) (N := some 22) (v := ?_) (a' := ?_) #[true, true, true, false, true, true, false, false, false, false] rfl rfl (any_of HT_.out (by kernel_rfl)) (fun _ _ _ h => h) (Or.inl ⟨(by rfl), ?_⟩) ?_ ?_
        rotate_left
        ·
         intro w'
         go_simp
         with_reducible rfl
        rotate_left
        ·
         exact ap_
        refine pure_ (i := 6) (N := some 23) (v := ?_) (a' := ?_) #[true, true, true, false, true, true, true, false, false, false] rfl rfl (any_of HT_.out (by kernel_rfl)) (fun _ _ _ h => h) (Or.inl ⟨(by rfl), ?_⟩) ?_ ?_
        rotate_left
        ·
         intro w'
         go_simp
         with_reducible rfl
        rotate_left
        ·
         exact ap_
        refine take_ (i := 3) (N := some 20) (v := ?_) (a' := ?_) #[true, true, true, true, true, true, true, false, false, false] rfl rfl (take_ofW HT_.out HW_.out (by kernel_rfl)) (fun _ _ _ h => h) (Or.inl ⟨(by rfl), ?_⟩) hHeld ?_ ?_
        rotate_left
        ·
         rintro w' ⟨s0, s1, s2, s3⟩
         go_simp
         with_reducible rfl
        rotate_left
        ·
         exact ap_
        refine take_ (i := 7) (N := some 24) (v := ?_) (a' := ?_) #[true, true, true, true, true, true, true, true, false, false] rfl rfl (take_ofW HT_.out HW_.out (by kernel_rfl)) (fun _ _ _ h => h) (Or.inl ⟨(by rfl), ?_⟩) hHeld ?_ ?_
        rotate_left
        ·
         rintro w' ⟨s0, s1, s2, s3⟩
         go_simp
         with_reducible rfl
        rotate_left
        ·
         exact ap_
        refine one_ (i := 8) (N := some 25) #[true, true, true, true, true, true, true, true, true, false] rfl rfl (one_of HT_.out (by kernel_rfl)) (by decide) (fun K hK => ?_)
        refine goes_ Try.func31 (by kernel_rfl) rfl #[.agg #[.int .i64 ((rd_T34 l0 x5_1).f0), .int .i64 ((rd_T34 l0 x5_1).f1)], .agg #[.int .i64 ((rd_T34 l1 x5_1).f0), .int .i64 ((rd_T34 l1 x5_1).f1)]] (by rfl) rfl rfl qz2_ ?_
        with_reducible refine (laws_eqExt.calls ((rd_T34 l0 x5_1).f0) ((rd_T34 l0 x5_1).f1) ((rd_T34 l1 x5_1).f0) ((rd_T34 l1 x5_1).f1) true _ A7.out).mono ?_
        rintro e w10 ⟨rfl, hb⟩
        refine ⟨_, rfl, ?_⟩
        have n0_ := am_ (below_step qz3_ hb)
        clear HB
        have HB := n0_
        clear n0_
        (try clear hb)
        (try clear hb2)
        (try clear hk)
        (try clear hi)
        refine hK.out _ _ ⟨((HB.out.cell (World.block_lt_of_cell? w _ hw101_0)).trans hw101_0), ((HB.out.cell (World.block_lt_of_cell? w _ hw101_1)).trans hw101_1), ((HB.out.cell (World.block_lt_of_cell? w _ hw102_0)).trans hw102_0), ((HB.out.cell (World.block_lt_of_cell? w _ hw102_1)).trans hw102_1)⟩ (fun hHeld => ?_)
        clear hK K
        refine norm_ (a' := ?_) ?_ ?_
        rotate_left
        ·
         show Act.put _ (some 25) _ = _
         exact ap_
        refine pure_ (i := 9) (N := some 26) (v := ?_) (a' := ?_) #[true, true, true, true, true, true, true, true, true, true] rfl rfl (any_of HT_.out (by kernel_rfl)) (fun _ _ _ h => h) (Or.inl ⟨(by rfl), ?_⟩) ?_ ?_
        rotate_left
        ·
         intro w'
         go_simp
         with_reducible rfl
        rotate_left
        ·
         exact ap_
        refine done_ (done_of HT_.out (by kernel_rfl)) ?_
        try go_wp2
        go_roundg k1
        case measure => have := HK1.out; omega
        case rel => exact ⟨(wrap64 (x5_1 + 1)), qz0_, H', ⟨(by have := HK1.out; omega)⟩, ⟨qz3_⟩⟩
       ·
        replace c8 := Bool.eq_false_iff.mpr c8
        subst c8
        have H1 : (some false) = some r := by rw [if_neg (show ¬ (false = true) by decide)] at H; exact H
        clear H
        have H := H1
        clear H1
        obtain rfl := Option.some.inj H
        try go_wp2
        have n0_ := am_ (below_drew1 HB.out)
        clear HB
        have HB := n0_
        clear n0_
        have p101 : 0 ≤ (x5_1 : Int) := of_decide_eq_true qz6_
        have q101 : x5_1 < (l0.length : Int) := of_decide_eq_true qz6_
        obtain ⟨ad101, e101, hx101_0, hx101_1⟩ := at_T34 HR0.out x5_1 p101 q101
        have hw101_1 := hx101_1
        have hw101_0 := hx101_0
        cases e101
        replace hx101_0 := (HB.out.cell (World.block_lt_of_cell? w _ hx101_0)).trans hx101_0
        replace hx101_1 := (HB.out.cell (World.block_lt_of_cell? w _ hx101_1)).trans hx101_1
        replace p101 := eq_true p101
        replace q101 := eq_true q101
        have p102 : 0 ≤ (x5_1 : Int) := of_decide_eq_true qz6_
        have q102 : x5_1 < (l1.length : Int) := of_decide_eq_true qz6_
        obtain ⟨ad102, e102, hx102_0, hx102_1⟩ := at_T34 HR1.out x5_1 p102 q102
        have hw102_1 := hx102_1
        have hw102_0 := hx102_0
        cases e102
        replace hx102_0 := (HB.out.cell (World.block_lt_of_cell? w _ hx102_0)).trans hx102_0
        replace hx102_1 := (HB.out.cell (World.block_lt_of_cell? w _ hx102_1)).trans hx102_1
        replace p102 := eq_true p102
        replace q102 := eq_true q102
        refine start_ (n := 10) (S := fun w' => w'.cell? (ad101.add ((x5_1).toNat * 2)) = some (.int .i64 ((rd_T34 l0 x5_1).f0)) ∧ w'.cell? ⟨(ad101.add ((x5_1).toNat * 2)).block, (ad101.add ((x5_1).toNat * 2)).off + 1, none⟩ = some (.int .i64 ((rd_T34 l0 x5_1).f1)) ∧ w'.cell? (ad102.add ((x5_1).toNat * 2)) = some (.int .i64 ((rd_T34 l1 x5_1).f0)) ∧ w'.cell? ⟨(ad102.add ((x5_1).toNat * 2)).block, (ad102.add ((x5_1).toNat * 2)).off + 1, none⟩ = some (.int .i64 ((rd_T34 l1 x5_1).f1))) (ds := []) #[false, false, false, false, false, false, false, false, false, false] (by kernel_rfl) rfl rfl ⟨((HB.out.cell (World.block_lt_of_cell? w _ hw101_0)).trans hw101_0), ((HB.out.cell (World.block_lt_of_cell? w _ hw101_1)).trans hw101_1), ((HB.out.cell (World.block_lt_of_cell? w _ hw102_0)).trans hw102_0), ((HB.out.cell (World.block_lt_of_cell? w _ hw102_1)).trans hw102_1)⟩ (fun hHeld => ?_); refine with_tabW laws_eqExtS.tab6 laws_eqExtS.bits6 (fun HT_ HW_ => ?_)
        generalize wr.drew = w11 at HB hx101_0 hx101_1 hx102_0 hx102_1 hHeld ⊢
        refine pure_ (i := 0) (N := some 17) (v := ?_) (a' := ?_) #[true, false, false, false, false, false, false, false, false, false] rfl rfl (any_of HT_.out (by kernel_rfl)) (fun _ _ _ h => h) (Or.inl ⟨(by rfl), ?_⟩) ?_ ?_
        rotate_left
        ·
         intro w'
         go_simp
         with_reducible rfl
        rotate_left
        ·
         exact ap_
        refine pure_ (i := 1) (N := some 18) (v := ?_) (a' := ?_) #[true, true, false, false, false, false, false, false, false, false] rfl rfl (any_of HT_.out (by kernel_rfl)) (fun _ _ _ h => h) (Or.inl ⟨(by rfl), ?_⟩) ?_ ?_
        rotate_left
        ·
         intro w'
         go_simp
         with_reducible rfl
        rotate_left
        ·
         exact ap_
        refine pure_ (i := 2) (N := some 19) (v := ?_) (a' := ?_) #[true, true, true, false, false, false, false, false, false, false] rfl rfl (any_of HT_.out (by kernel_rfl)) (fun _ _ _ h => h) (Or.inl ⟨(by rfl), ?_⟩) ?_ ?_
        rotate_left
        ·
         intro w'
         go_simp
         with_reducible rfl
        rotate_left
        ·
         exact ap_
        refine pure_ (i := 4) (N := some 21) (v := ?_) (a' := ?_) #[true, true, true, false, true, false, false, false, false, false] rfl rfl (any_of HT_.out (by kernel_rfl)) (fun _ _ _ h => h) (Or.inl ⟨(by rfl), ?_⟩) ?_ ?_
        rotate_left
        ·
         intro w'
         go_simp
         with_reducible rfl
        rotate_left
        ·
         exact ap_
        refine pure_ (i := 5) (N := some 22) (v := ?_) (a' := ?_) #[true, true, true, false, true, true, false, false, false, false] rfl rfl (any_of HT_.out (by kernel_rfl)) (fun _ _ _ h => h) (Or.inl ⟨(by rfl), ?_⟩) ?_ ?_
        rotate_left
        ·
         intro w'
         go_simp
         with_reducible rfl
        rotate_left
        ·
         exact ap_
        refine pure_ (i := 6) (N := some 23) (v := ?_) (a' := ?_) #[true, true, true, false, true, true, true, false, false, false] rfl rfl (any_of HT_.out (by kernel_rfl)) (fun _ _ _ h => h) (Or.inl ⟨(by rfl), ?_⟩) ?_ ?_
        rotate_left
        ·
         intro w'
         go_simp
         with_reducible rfl
        rotate_left
        ·
         exact ap_
        refine take_ (i := 3) (N := some 20) (v := ?_) (a' := ?_) #[true, true, true, true, true, true, true, false, false, false] rfl rfl (take_ofW HT_.out HW_.out (by kernel_rfl)) (fun _ _ _ h => h) (Or.inl ⟨(by rfl), ?_⟩) hHeld ?_ ?_
        rotate_left
        ·
         rintro w' ⟨s0, s1, s2, s3⟩
         go_simp
         with_reducible rfl
        rotate_left
        ·
         exact ap_
        refine take_ (i := 7) (N := some 24) (v := ?_) (a' := ?_) #[true, true, true, true, true, true, true, true, false, false] rfl rfl (take_ofW HT_.out HW_.out (by kernel_rfl)) (fun _ _ _ h => h) (Or.inl ⟨(by rfl), ?_⟩) hHeld ?_ ?_
        rotate_left
        ·
         rintro w' ⟨s0, s1, s2, s3⟩
         go_simp
         with_reducible rfl
        rotate_left
        ·
         exact ap_
        refine one_ (i := 8) (N := some 25) #[true, true, true, true, true, true, true, true, true, false] rfl rfl (one_of HT_.out (by kernel_rfl)) (by decide) (fun K hK => ?_)
        refine goes_ Try.func31 (by kernel_rfl) rfl #[.agg #[.int .i64 ((rd_T34 l0 x5_1).f0), .int .i64 ((rd_T34 l0 x5_1).f1)], .agg #[.int .i64 ((rd_T34 l1 x5_1).f0), .int .i64 ((rd_T34 l1 x5_1).f1)]] (by rfl) rfl rfl qz2_ ?_
        with_reducible refine (laws_eqExt.calls ((rd_T34 l0 x5_1).f0) ((rd_T34 l0 x5_1).f1) ((rd_T34 l1 x5_1).f0) ((rd_T34 l1 x5_1).f1) false _ A7.out).mono ?_
        rintro e w12 ⟨rfl, hb⟩
        refine ⟨_, rfl, ?_⟩
        have n0_ := am_ (below_step qz3_ hb)
        clear HB
        have HB := n0_
        clear n0_
        (try clear hb)
        (try clear hb2)
        (try clear hk)
        (try clear hi)
        refine hK.out _ _ ⟨((HB.out.cell (World.block_lt_of_cell? w _ hw101_0)).trans hw101_0), ((HB.out.cell (World.block_lt_of_cell? w _ hw101_1)).trans hw101_1), ((HB.out.cell (World.block_lt_of_cell? w _ hw102_0)).trans hw102_0), ((HB.out.cell (World.block_lt_of_cell? w _ hw102_1)).trans hw102_1)⟩ (fun hHeld => ?_)
        clear hK K
        refine norm_ (a' := ?_) ?_ ?_
        rotate_left
        ·
         show Act.put _ (some 25) _ = _
         exact ap_
        refine pure_ (i := 9) (N := some 26) (v := ?_) (a' := ?_) #[true, true, true, true, true, true, true, true, true, true] rfl rfl (any_of HT_.out (by kernel_rfl)) (fun _ _ _ h => h) (Or.inl ⟨(by rfl), ?_⟩) ?_ ?_
        rotate_left
        ·
         intro w'
         go_simp
         with_reducible rfl
        rotate_left
        ·
         exact ap_
        refine done_ (done_of HT_.out (by kernel_rfl)) ?_
        try go_wp2
        go_ret
        exact ⟨qz4_, qz3_⟩
      ·
       rw [if_neg c6] at H
       exact absurd H (by simp)
     ·
      rw [if_neg c5] at H
      exact absurd H (by simp)
    ·
     rw [if_neg c4] at H
     have c4b0 : decide (x5_1 < (l0.length : Int)) = false := decide_eq_false c4
     clear c4
     obtain rfl := Option.some.inj H
     go_wp2
     go_ret
     exact ⟨qz4_, qz3_⟩
 ·
  rw [if_neg c3] at H
  have c3b0 : ((l0.length : Int) == (l1.length : Int)) = false := beq_eq_false_iff_ne.mpr c3
  have c3b1 : ((l0.length : Int) != (l1.length : Int)) = true := bne_iff_ne.mpr c3
  have c3b2 : (l0.length == l1.length) = false := by first | simpa using c3 | (simp at c3 ⊢; omega)
  obtain rfl := Option.some.inj H
  go_enter Try.func23, Try.ntmps23
  go_wp2
  go_ret
  exact ⟨qz4_, qz3_⟩

end Go.Proofs.Ytgookagndlfehaa.PT
end
section
namespace Go.Proofs.Ytgookagndlfehaa.PT
open Go.RowKit Go.Proofs.YtgookagndlfehaaW.PrintWords Go.Proofs.YtgookagndlfehaaW.PrintLast Go.Proofs.YtgookagndlfehaaW.PrintMore
attribute [local go_sem] max2_int min2_int max_two min_two max_three min_three max_four min_four   -- for this text's walks alone
set_option linter.unusedVariables false
set_option linter.unusedSimpArgs false
def laws_FnExactCommitTable.j0 : Nat → List (S56) → List (S34) → Bool → Option (Bool)
 | 0, _, _, _ => none
 | k + 1, x0, x8, x38 => if x38 = true then (some false) else ((laws_toExtS.f k x0).bind fun t112 => ((laws_eqExtS.f k x8 t112).bind fun t115 => (if t115 = true then (some true) else (some false))))
def laws_FnExactCommitTable.f (k : Nat) (l0 : List (S56)) (a1 : Int) : Option (Bool) := (laws_szExtS.f l0 1048576).bind fun t101 => (if t101 < 0 then (some true) else ((laws_toExtS.f k l0).bind fun t102 => ((spec_CommitTable.f k t102 a1).bind fun bt105 => ((laws_toExtS.f k l0).bind fun t107 => ((impl_CommitTable.f k t107 a1).bind fun bt110 => (if bt110.1.toList = bt105.1.toList then (laws_FnExactCommitTable.j0 k l0 t107 (bt110.2 != bt105.2)) else (laws_FnExactCommitTable.j0 k l0 t107 true)))))))
theorem laws_FnExactCommitTable.mono_l : ∀ k, (∀ y0 y1 y2, LeO (laws_FnExactCommitTable.j0 k y0 y1 y2) (laws_FnExactCommitTable.j0 (k + 1) y0 y1 y2))
 | 0 => fun _ _ _ r h => by simp [laws_FnExactCommitTable.j0] at h
 | k + 1 => by
  have ih0 := laws_FnExactCommitTable.mono_l k
  ·
   intro y0 y1 y2
   unfold laws_FnExactCommitTable.j0
   repeat' first
   | (with_reducible exact ih0 _ _ _)
   | (with_reducible exact impl_CommitTable.mono _ _ _)
   | (with_reducible exact laws_eqExtS.mono _ _ _)
   | (with_reducible exact laws_toExtS.mono _ _)
   | (with_reducible exact spec_CommitTable.mono _ _ _)
   | (with_reducible exact LeO.refl _)
   | (with_reducible exact LeO.none _)
   | (with_reducible refine LeO.ite ?_ ?_)
   | (with_reducible refine LeO.bind ?_ (fun _ => ?_))
   | exact ih0 _ _ _
   | exact impl_CommitTable.mono _ _ _
   | exact laws_eqExtS.mono _ _ _
   | exact laws_toExtS.mono _ _
   | exact spec_CommitTable.mono _ _ _
   | exact LeO.none _
   | refine LeO.ite ?_ ?_
   | refine LeO.bind ?_ (fun _ => ?_)
theorem laws_FnExactCommitTable.mono : ∀ a0 a1 k, LeO (laws_FnExactCommitTable.f k a0 a1) (laws_FnExactCommitTable.f (k + 1) a0 a1) := by
 intro a0 a1 k
 have ih0 := laws_FnExactCommitTable.mono_l k
 unfold laws_FnExactCommitTable.f
 repeat' first
   | (with_reducible exact ih0 _ _ _)
   | (with_reducible exact impl_CommitTable.mono _ _ _)
   | (with_reducible exact laws_eqExtS.mono _ _ _)
   | (with_reducible exact laws_toExtS.mono _ _)
   | (with_reducible exact spec_CommitTable.mono _ _ _)
   | (with_reducible exact LeO.refl _)
   | (with_reducible exact LeO.none _)
   | (with_reducible refine LeO.ite ?_ ?_)
   | (with_reducible refine LeO.bind ?_ (fun _ => ?_))
   | exact ih0 _ _ _
   | exact impl_CommitTable.mono _ _ _
   | exact laws_eqExtS.mono _ _ _
   | exact laws_toExtS.mono _ _
   | exact spec_CommitTable.mono _ _ _
   | exact LeO.none _
   | refine LeO.ite ?_ ?_
   | refine LeO.bind ?_ (fun _ => ?_)
set_option maxHeartbeats 8000000 in
set_option maxRecDepth 100000 in
theorem laws_FnExactCommitTable.calls (k : Nat) (A0 : Option Addr) (c0 : Nat) (l0 : List (S56)) (a1 : Int) (r : Bool) (w : World) (hr0 : Kd.C k56 w A0 l0.length l0) (hc0 : l0.length ≤ c0) (hr_ : r = true) (h : laws_FnExactCommitTable.f k l0 a1 = some r) :
  Calls Try.prog 5 #[.slice A0 l0.length c0, .int .i64 a1] w fun e w' => e = .returned (.bool r) ∧ Below w.heap.size w w' := by
 have HR0 := am_ hr0
 have HC0 := am_ hc0
 clear hr0 hc0
 have HB := am_ (Below.refl w.heap.size w)
 have H : ((laws_szExtS.f l0 1048576).bind fun t101 => (if t101 < 0 then (some true) else ((laws_toExtS.f k l0).bind fun t102 => ((spec_CommitTable.f k t102 a1).bind fun bt105 => ((laws_toExtS.f k l0).bind fun t107 => ((impl_CommitTable.f k t107 a1).bind fun bt110 => (if bt110.1.toList = bt105.1.toList then (laws_FnExactCommitTable.j0 k l0 t107 (bt110.2 != bt105.2)) else (laws_FnExactCommitTable.j0 k l0 t107 true)))))))) = some r := h
 clear h
 replace H := Option.bind_eq_some_iff.mp H
 obtain ⟨t101, A30, H⟩ := H
 replace H : (if t101 < 0 then (some true) else ((laws_toExtS.f k l0).bind fun t102 => ((spec_CommitTable.f k t102 a1).bind fun bt105 => ((laws_toExtS.f k l0).bind fun t107 => ((impl_CommitTable.f k t107 a1).bind fun bt110 => (if bt110.1.toList = bt105.1.toList then (laws_FnExactCommitTable.j0 k l0 t107 (bt110.2 != bt105.2)) else (laws_FnExactCommitTable.j0 k l0 t107 true))))))) = some r := H
 have A3 := am_ A30
 clear A30
 by_cases c4 : t101 < 0
 ·
  rw [if_pos c4] at H
  have c4b0 : decide (t101 < 0) = true := decide_eq_true c4
  clear c4
  obtain rfl := Option.some.inj H
  go_enter Try.func5, Try.ntmps5
  go_wp2_with (first | ((with_reducible refine gate_callee (f := 19) rfl ?_); refine goesL_ (some 13) rfl rfl Try.func19 (by kernel_rfl) rfl #[.slice A0 l0.length c0, .int .i64 1048576] rfl qz2_ ?_; (with_reducible refine (laws_szExtS.calls _ _ l0 1048576 t101 _ ?side1 ?side2 A3.out).mono ?_); (case side1 => exact qc_ HR0.out); (case side2 => exact HC0.out); rintro e w' ⟨rfl, ⟨nd, rfl⟩⟩; refine ⟨_, rfl, ?_⟩))
  go_ret
  exact ⟨qz4_, qz3_⟩
 ·
  rw [if_neg c4] at H
  have c4b0 : decide (t101 < 0) = false := decide_eq_false c4
  clear c4
  replace H := Option.bind_eq_some_iff.mp H
  obtain ⟨t102, A50, H⟩ := H
  replace H : ((spec_CommitTable.f k t102 a1).bind fun bt105 => ((laws_toExtS.f k l0).bind fun t107 => ((impl_CommitTable.f k t107 a1).bind fun bt110 => (if bt110.1.toList = bt105.1.toList then (laws_FnExactCommitTable.j0 k l0 t107 (bt110.2 != bt105.2)) else (laws_FnExactCommitTable.j0 k l0 t107 true))))) = some r := H
  have A5 := am_ A50
  clear A50
  replace H := Option.bind_eq_some_iff.mp H
  obtain ⟨⟨t105, t106⟩, A60, H⟩ := H
  replace H : ((laws_toExtS.f k l0).bind fun t107 => ((impl_CommitTable.f k t107 a1).bind fun bt110 => (if bt110.1.toList = t105.toList then (laws_FnExactCommitTable.j0 k l0 t107 (bt110.2 != t106)) else (laws_FnExactCommitTable.j0 k l0 t107 true)))) = some r := H
  have A6 := am_ A60
  clear A60
  replace H := Option.bind_eq_some_iff.mp H
  obtain ⟨t107, A70, H⟩ := H
  replace H : ((impl_CommitTable.f k t107 a1).bind fun bt110 => (if bt110.1.toList = t105.toList then (laws_FnExactCommitTable.j0 k l0 t107 (bt110.2 != t106)) else (laws_FnExactCommitTable.j0 k l0 t107 true))) = some r := H
  have A7 := am_ A70
  clear A70
  replace H := Option.bind_eq_some_iff.mp H
  obtain ⟨⟨t110, t111⟩, A80, H⟩ := H
  replace H : (if t110.toList = t105.toList then (laws_FnExactCommitTable.j0 k l0 t107 (t111 != t106)) else (laws_FnExactCommitTable.j0 k l0 t107 true)) = some r := H
  have A8 := am_ A80
  clear A80
  have HC9 := am_ H
  clear H
  go_enter Try.func5, Try.ntmps5
  go_upto_region 8 with (first | ((with_reducible refine gate_callee (f := 19) rfl ?_); refine goesL_ (some 13) rfl rfl Try.func19 (by kernel_rfl) rfl #[.slice A0 l0.length c0, .int .i64 1048576] rfl qz2_ ?_; (with_reducible refine (laws_szExtS.calls _ _ l0 1048576 t101 _ ?side1 ?side2 A3.out).mono ?_); (case side1 => exact qc_ HR0.out); (case side2 => exact HC0.out); rintro e w' ⟨rfl, ⟨nd, rfl⟩⟩; refine ⟨_, rfl, ?_⟩) | ((with_reducible refine gate_callee (f := 21) rfl ?_); refine goesL_ (some 18) rfl rfl Try.func21 (by kernel_rfl) rfl #[.slice A0 l0.length c0] rfl qz2_ ?_; (with_reducible refine (laws_toExtS.calls k _ _ l0 t102 _ ?side1 ?side2 A5.out).mono ?_); (case side1 => exact qc_ HR0.out); (case side2 => exact HC0.out); rintro e w10 ⟨v103, rfl, ho0, hb⟩; refine ⟨_, rfl, ?_⟩; have n0_ := am_ (Kd.R_lower ho0 (below_size qz3_)); have n1_ := am_ (below_step qz3_ hb); clear HB; have HO104 := n0_; have HB := n1_; clear n0_ n1_; (try clear hb); (try clear hb2); (try clear hk); (try clear hi); (try clear ho0); obtain ⟨Ao11, co11, eo11⟩ := Kd.R_slice HO104.out; subst eo11) | ((with_reducible refine gate_callee (f := 20) rfl ?_); refine goesL_ (some 20) rfl rfl Try.func20 (by kernel_rfl) rfl #[.slice Ao11 t102.length co11, .int .i64 a1] rfl qz2_ ?_; (with_reducible refine (spec_CommitTable.calls k _ _ t102 a1 t105 t106 _ ?side1 ?side2 A6.out).mono ?_); (case side1 => exact qc_ (Kd.R_reads' HO104.out).2.2); (case side2 => exact (Kd.R_reads' HO104.out).2.1); rintro e w12 ⟨rfl, hb⟩; refine ⟨_, rfl, ?_⟩; have n0_ := am_ (Kd.R_below qz30_ hb); have n1_ := am_ (below_step qz3_ hb); clear HO104; clear HB; have HO104 := n0_; have HB := n1_; clear n0_ n1_; (try clear hb); (try clear hb2); (try clear hk); (try clear hi)) | ((with_reducible refine gate_callee (f := 21) rfl ?_); refine goesL_ (some 24) rfl rfl Try.func21 (by kernel_rfl) rfl #[.slice A0 l0.length c0] rfl qz2_ ?_; (with_reducible refine (laws_toExtS.calls k _ _ l0 t107 _ ?side1 ?side2 A7.out).mono ?_); (case side1 => exact qc_ (Kd.C_below HR0.out HB.out)); (case side2 => exact HC0.out); rintro e w13 ⟨v108, rfl, ho0, hb⟩; refine ⟨_, rfl, ?_⟩; have n0_ := am_ (Kd.R_elder' qz30_ (Kd.R_base ho0) hb); have n1_ := am_ (Kd.R_lower (Kd.R_new' ho0 (Kd.R_lt qz30_)) (below_size qz3_)); have n2_ := am_ (below_step qz3_ hb); clear HO104; clear HB; have HO104 := n0_; have HO109 := n1_; have HB := n2_; clear n0_ n1_ n2_; (try clear hb); (try clear hb2); (try clear hk); (try clear hi); (try clear ho0); obtain ⟨Ao14, co14, eo14⟩ := Kd.R_slice HO109.out; subst eo14) | ((with_reducible refine gate_callee (f := 22) rfl ?_); refine goesL_ (some 28) rfl rfl Try.func22 (by kernel_rfl) rfl #[.slice Ao14 t107.length co14, .int .i64 a1] rfl qz2_ ?_; (with_reducible refine (impl_CommitTable.calls k _ _ t107 a1 t110 t111 _ ?side1 ?side2 A8.out).mono ?_); (case side1 => exact qc_ (Kd.R_reads' HO109.out).2.2); (case side2 => exact (Kd.R_reads' HO109.out).2.1); rintro e w15 ⟨rfl, hb⟩; refine ⟨_, rfl, ?_⟩; have n0_ := am_ (Kd.R_below qz30_ hb); have n1_ := am_ (Kd.R_below qz18_ hb); have n2_ := am_ (below_step qz3_ hb); clear HO104; clear HO109; clear HB; have HO104 := n0_; have HO109 := n1_; have HB := n2_; clear n0_ n1_ n2_; (try clear hb); (try clear hb2); (try clear hk); (try clear hi)))
  (try simp only [Act.put, List.setIfInBounds_toArray, List.set_cons_zero, List.set_cons_succ])
  go_cut [38] (fun v38 wc => ∃ (kq : Nat) (x38_8 : Bool), v38 = .bool x38_8 ∧ Aside0 (laws_FnExactCommitTable.j0 kq l0 t107 x38_8 = some r) ∧ Aside0 (kq ≤ k) ∧ Aside0 (Kd.R k34 34 wc w.heap.size (fun _ => True) (.slice Ao14 t107.length co14) t107) ∧ Aside0 (Below w.heap.size w wc))
  case first =>
   have H := HC9.out
   clear HC9
   by_cases c16 : t110.toList = t105.toList
   ·
    rw [if_pos c16] at H
    have c16b0 : (t110.toList == t105.toList) = true := beq_iff_eq.mpr c16
    have c16b1 : (t110.toList != t105.toList) = false := bne_eq_false_iff_eq.mpr c16
    clear c16
    (first | rw [c16b0] | (simp only [i64_w, i32_w]; rw [c16b0]) | skip)
    have H' := am_ H
    clear H
    go_wp2
    go_meet
    case rel => exact ⟨_, ((t111 != t106)), qz0_, H', ⟨(by first | omega | exact Nat.le_refl _)⟩, ⟨(by (with_reducible repeat (first | apply Kd.R_alloc | apply Kd.R_drewN | apply Kd.R_drew)); exact Kd.R_mono HO109.out (fun _ hk => trivial))⟩, ⟨qz3_⟩⟩
   ·
    rw [if_neg c16] at H
    have c16b0 : (t110.toList == t105.toList) = false := beq_eq_false_iff_ne.mpr c16
    have c16b1 : (t110.toList != t105.toList) = true := bne_iff_ne.mpr c16
    (first | rw [c16b0] | (simp only [i64_w, i32_w]; rw [c16b0]) | skip)
    have H' := am_ H
    clear H
    go_wp2
    go_meet
    case rel => exact ⟨_, (true), qz0_, H', ⟨(by first | omega | exact Nat.le_refl _)⟩, ⟨(by (with_reducible repeat (first | apply Kd.R_alloc | apply Kd.R_drewN | apply Kd.R_drew)); exact Kd.R_mono HO109.out (fun _ hk => trivial))⟩, ⟨qz3_⟩⟩
  case rest =>
   clear HC9
   try clear c1
   try clear c2
   try clear p2
   try clear c4
   try clear c4b0
   try clear c5
   try clear c16
   try clear c16b0
   try clear c16b1
   obtain ⟨kq, x38_8, rfl, HA, HJ8, HO_8, HB⟩ := hcut
   cases kq with
   | zero => exact absurd HA.out (by simp [laws_FnExactCommitTable.j0])
   | succ kj8 =>
    have H := HA.out
    clear HA
    simp only [laws_FnExactCommitTable.j0] at H
    by_cases c17 : x38_8 = true
    ·
     subst c17
     have H1 : (some false) = some r := by rw [if_pos rfl] at H; exact H
     clear H
     have H := H1
     clear H1
     exact absurd ((Option.some.inj H).trans hr_) (by decide)
    ·
     replace c17 := Bool.eq_false_iff.mpr c17
     subst c17
     have H1 : ((laws_toExtS.f kj8 l0).bind fun t112 => ((laws_eqExtS.f kj8 t107 t112).bind fun t115 => (if t115 = true then (some true) else (some false)))) = some r := by rw [if_neg (show ¬ (false = true) by decide)] at H; exact H
     clear H
     have H := H1
     clear H1
     replace H := Option.bind_eq_some_iff.mp H
     obtain ⟨t112, A180, H⟩ := H
     replace H : ((laws_eqExtS.f kj8 t107 t112).bind fun t115 => (if t115 = true then (some true) else (some false))) = some r := H
     have A18 := am_ A180
     clear A180
     replace H := Option.bind_eq_some_iff.mp H
     obtain ⟨t115, A190, H⟩ := H
     replace H : (if t115 = true then (some true) else (some false)) = some r := H
     have A19 := am_ A190
     clear A190
     by_cases c20 : t115 = true
     ·
      subst c20
      have H1 : (some true) = some r := by rw [if_pos rfl] at H; exact H
      clear H
      have H := H1
      clear H1
      obtain rfl := Option.some.inj H
      go_wp2_with (first | ((with_reducible refine gate_callee (f := 21) rfl ?_); refine goesL_ (some 41) rfl rfl Try.func21 (by kernel_rfl) rfl #[.slice A0 l0.length c0] rfl qz2_ ?_; (with_reducible refine (laws_toExtS.calls kj8 _ _ l0 t112 _ ?side1 ?side2 A18.out).mono ?_); (case side1 => exact qc_ (Kd.C_below HR0.out HB.out)); (case side2 => exact HC0.out); rintro e w21 ⟨v113, rfl, ho0, hb⟩; refine ⟨_, rfl, ?_⟩; have n0_ := am_ (Kd.R_elder' qz32_ (Kd.R_base ho0) hb); have n1_ := am_ (Kd.R_lower (Kd.R_new' ho0 (Kd.R_lt qz32_)) (below_size qz3_)); have n2_ := am_ (below_step qz3_ hb); clear HO_8; clear HB; have HO_8 := n0_; have HO114 := n1_; have HB := n2_; clear n0_ n1_ n2_; (try clear hb); (try clear hb2); (try clear hk); (try clear hi); (try clear ho0); obtain ⟨Ao22, co22, eo22⟩ := Kd.R_slice HO114.out; subst eo22) | ((with_reducible refine gate_callee (f := 23) rfl ?_); refine goesL_ (some 42) rfl rfl Try.func23 (by kernel_rfl) rfl #[.slice Ao14 t107.length co14, .slice Ao22 t112.length co22] rfl qz2_ ?_; (with_reducible refine (laws_eqExtS.calls kj8 _ _ t107 _ _ t112 true _ ?side1 ?side2 ?side3 ?side4 A19.out).mono ?_); (case side1 => exact qc_ (Kd.R_reads' HO_8.out).2.2); (case side2 => exact (Kd.R_reads' HO_8.out).2.1); (case side3 => exact qc_ (Kd.R_reads' HO114.out).2.2); (case side4 => exact (Kd.R_reads' HO114.out).2.1); rintro e w23 ⟨rfl, hb⟩; refine ⟨_, rfl, ?_⟩; have n0_ := am_ (Kd.R_below qz32_ hb); have n1_ := am_ (Kd.R_below (by (with_reducible repeat (first | apply Kd.R_alloc | apply Kd.R_drewN | apply Kd.R_drew)); exact HO114.out) hb); have n2_ := am_ (below_step qz3_ hb); clear HO_8; clear HO114; clear HB; have HO_8 := n0_; have HO114 := n1_; have HB := n2_; clear n0_ n1_ n2_; (try clear hb); (try clear hb2); (try clear hk); (try clear hi)))
      go_ret
      exact ⟨qz4_, qz3_⟩
     ·
      replace c20 := Bool.eq_false_iff.mpr c20
      subst c20
      have H1 : (some false) = some r := by rw [if_neg (show ¬ (false = true) by decide)] at H; exact H
      clear H
      have H := H1
      clear H1
      exact absurd ((Option.some.inj H).trans hr_) (by decide)

end Go.Proofs.Ytgookagndlfehaa.PT
end
section
/- Arguments that are read as data have the kinds' own form: for each kind, compositionally. Own text, for every seat (Ytgookagndlfehaa: the seat's name). -/
namespace Go.Proofs.YtgookagndlfehaaO
open Go.RowKit Go.ChangeShapes Go.WideShapes Go.ChangeAt Go.Proofs.YtgookagndlfehaaW.PrintWords
def Opens {α : Type} {H : Type} (enc : TypeId × Value → H) (P : Program) (w : World) (T : TypeId) (d : Kd α) (good : α → Prop) : Prop :=
 ∀ (fuel : Nat) (cs : List Value) (x : DataW H × List MemPlace), DataW.trod enc P w 0 (fun _ => true) true fuel T cs = some x → ∃ a, d.K w a cs ∧ good a
def OpensSeq {α : Type} {H : Type} (enc : TypeId × Value → H) (P : Program) (w : World) (fs : List (TypeId × Nat)) (d : Kd α) (good : α → Prop) : Prop :=
 ∀ (fuel : Nat) (cs : List Value), cs.length = (fs.map (·.2)).sum → (∀ (j : Nat) (T n : Nat), fs[j]? = some (T, n) → ∃ x, DataW.trod enc P w 0 (fun _ => true) true fuel T ((cs.drop ((fs.take j).map (·.2)).sum).take n) = some x) → ∃ a, d.K w a cs ∧ good a

section
variable {H : Type} {enc : TypeId × Value → H} {P : Program} {w : World}

def IntGood (k : IntKind) (a : Int) : Prop := (Lit.int k a).wf = true
def StrGood (a : ByteArray) : Prop := a.size ≤ 9223372036854775807
def ListGood {α : Type} (g : α → Prop) (l : List α) : Prop := l.length ≤ 9223372036854775807 ∧ ∀ x ∈ l, g x

theorem opens_int {T : TypeId} {k : IntKind} (ht : P.underlying T = some (.int k)) : Opens enc P w T (Kd.int k) (IntGood k) := by
 intro fuel cs x h
 obtain ⟨n, rfl, _, hw⟩ := DataW.trod_int ht h
 exact ⟨n, rfl, hw⟩
theorem opens_bool {T : TypeId} (ht : P.underlying T = some .bool) : Opens enc P w T Kd.bool (fun _ => True) := by
 intro fuel cs x h
 obtain ⟨n, rfl, _⟩ := DataW.trod_bool ht h
 exact ⟨n, rfl, trivial⟩
theorem opens_string {T : TypeId} (ht : P.underlying T = some .string) : Opens enc P w T Kd.string StrGood := by
 intro fuel cs x h
 obtain ⟨s, rfl, _, hs⟩ := DataW.trod_string ht h
 exact ⟨s, rfl, (by unfold StrGood; unfold maxLen at hs; omega)⟩

theorem choose_list {α : Type} {n : Nat} {p : Nat → α → Prop} (h : ∀ i, i < n → ∃ a, p i a) : ∃ l : List α, l.length = n ∧ ∀ i a, l[i]? = some a → p i a := by
 induction n with
 | zero => exact ⟨[], rfl, fun i a hi => by simp at hi⟩
 | succ n ih =>
  obtain ⟨l, hl, hp⟩ := ih (fun i hi => h i (by omega))
  obtain ⟨a, ha⟩ := h n (by omega)
  refine ⟨l ++ [a], (by simp [hl]), fun i b hi => ?_⟩
  rcases Nat.lt_or_ge i l.length with hlt | hge
  ·
   rw [List.getElem?_append_left hlt] at hi
   exact hp i b hi
  ·
   rw [List.getElem?_append_right hge] at hi
   have : i - l.length = 0 := by
    rcases Nat.eq_zero_or_pos (i - l.length) with h0 | h0
    ·
     exact h0
    ·
     rw [List.getElem?_eq_none (by simp; omega)] at hi; simp at hi
   rw [this] at hi
   simp at hi
   subst hi
   have : i = n := by omega
   rw [this]
   exact ha

theorem opens_slice {α : Type} {d : Kd α} {good : α → Prop} {T e : TypeId} (ht : P.underlying T = some (.slice e)) (hc : P.cellsOf e = d.sz) (ho : Opens enc P w e d good) : Opens enc P w T (Kd.slice e d) (ListGood good) := by
 intro fuel cs x h
 rcases Deep.open_slice ht h with ⟨rfl, _⟩ | ⟨a, len, cap, m, n, D, Pl, rfl, _, hl, hm, hmm, _, hx⟩
 ·
  exact ⟨[], ⟨none, 0, rfl, Nat.le_refl _, ⟨rfl, (by simp), fun h0 => by simp at h0⟩⟩, ⟨(by simp), fun x hx => by simp at hx⟩⟩
 ·
  have hle : len ≤ m := by rw [hmm]; split <;> omega
  have hex : ∀ i, i < len → ∃ b : α, (∃ c, c.length = d.sz ∧ d.K w b c ∧ ∀ j u, c[j]? = some u → w.cell? (a.add (i * d.sz + j)) = some u) ∧ good b := by
   intro i hi
   obtain ⟨cs', h1, h2⟩ := hx i (by omega)
   obtain ⟨b, hK, hg⟩ := ho _ _ _ h2
   obtain ⟨_, hlen, hcell⟩ := World.cells?_some h1
   refine ⟨b, ⟨cs', (by rw [hlen, hc]), hK, fun j u hu => ?_⟩, hg⟩
   have hj : j < P.cellsOf e := by
    rw [← hlen]
    exact (List.getElem?_eq_some_iff.1 hu).1
   rw [← Deep.add_add, ← hc, hcell j hj, hu]
  obtain ⟨l, hll, hp⟩ := choose_list hex
  unfold maxLen at hm
  refine ⟨l, ⟨some a, cap, by rw [hll], by omega, ⟨rfl, by omega, fun _ => ⟨a, rfl, fun j p hj => (hp j p hj).1⟩⟩⟩, ⟨(by omega), fun x hx => ?_⟩⟩
  obtain ⟨i, hi, rfl⟩ := List.getElem_of_mem hx
  exact (hp i _ (List.getElem?_eq_getElem hi)).2

theorem opensSeq_one {α : Type} {d : Kd α} {good : α → Prop} {T n : Nat} (ho : Opens enc P w T d good) : OpensSeq enc P w [(T, n)] d good := by
 intro fuel cs hlen h
 obtain ⟨x, hx⟩ := h 0 T n rfl
 simp at hlen
 simp [List.take_of_length_le (Nat.le_of_eq hlen)] at hx
 exact ho _ _ _ hx
theorem opensSeq_cons {α β : Type} {d : Kd α} {good : α → Prop} {d2 : Kd β} {good2 : β → Prop} {T n : Nat} {fs : List (TypeId × Nat)} (ho : Opens enc P w T d good) (hs : OpensSeq enc P w fs d2 good2) :
  OpensSeq enc P w ((T, n) :: fs) (Kd.pair d d2) (fun x => good x.1 ∧ good2 x.2) := by
 intro fuel cs hlen h
 obtain ⟨x, hx⟩ := h 0 T n rfl
 simp at hx
 obtain ⟨a, hK, hg⟩ := ho _ _ _ hx
 simp only [List.map_cons, List.sum_cons] at hlen
 obtain ⟨b, hK2, hg2⟩ := hs fuel (cs.drop n) (by rw [List.length_drop, hlen]; omega) (fun j T' n' hj => by
  obtain ⟨y, hy⟩ := h (j + 1) T' n' (by simpa using hj)
  refine ⟨y, ?_⟩
  simp only [List.take_succ_cons, List.map_cons, List.sum_cons] at hy
  rw [List.drop_drop]
  exact hy)
 exact ⟨(a, b), ⟨cs.take n, cs.drop n, (List.take_append_drop n cs).symm, hK, hK2⟩, hg, hg2⟩
theorem opens_struct {α β : Type} {d : Kd α} {good : α → Prop} {T : TypeId} {fs : Array Field} {l : List (TypeId × Nat)} (f : β → α) (g : α → β) (hfg : ∀ a, f (g a) = a) (ht : P.underlying T = some (.struct fs))
  (hl : l.length = fs.size) (hf : ∀ (j : Nat) (T' n : Nat), l[j]? = some (T', n) → ∃ fd, fs[j]? = some fd ∧ fd.type = T' ∧ P.cellsOf T' = n ∧ fd.offset = ((l.take j).map (·.2)).sum) (hc : P.cellsOf T = (l.map (·.2)).sum)
  (hs : OpensSeq enc P w l d good) : Opens enc P w T (Kd.iso d f) (fun x => good (f x)) := by
 intro fuel cs x h
 obtain ⟨xs, n, _, _, hlen, hxl, hx⟩ := DataW.trod_struct ht h
 obtain ⟨a, hK, hg⟩ := hs n cs (by rw [hlen, hc]) (fun j T' n' hj => by
  obtain ⟨fd, h1, h2, h3, h4⟩ := hf j T' n' hj
  have h5 := hx j fd h1
  have hj2 : j < xs.length := by
   have := (List.getElem?_eq_some_iff.1 hj).1
   omega
  rw [List.getElem?_eq_getElem hj2, h2, h3, h4] at h5
  exact ⟨_, h5⟩)
 refine ⟨g a, ?_, ?_⟩
 ·
  show d.K w (f (g a)) cs
  rw [hfg]; exact hK
 ·
  show good (f (g a))
  rw [hfg]; exact hg
end
end Go.Proofs.YtgookagndlfehaaO
end
section
namespace Go.Proofs.Ytgookagndlfehaa.fnExactCommitTable
open Go.RowKit Go.ChangeShapes Go.WideShapes Go.ChangeAt Go.Proofs.YtgookagndlfehaaO Go.Proofs.Ytgookagndlfehaa.PT Go.Proofs.YtgookagndlfehaaW.PrintWords Go.Proofs.YtgookagndlfehaaW.PrintLast
set_option linter.unusedVariables false
theorem opensT3 {H : Type} {enc : TypeId × Value → H} {w : World} : Opens enc Try.prog w 3 (Kd.int .i64) (IntGood .i64) := opens_int Try.underlying3
def goodT56 : S56 → Prop := (fun x : S56 => (IntGood .i64) x.f0 ∧ (IntGood .i64) x.f1)
theorem opensT56 {H : Type} {enc : TypeId × Value → H} {w : World} : Opens enc Try.prog w 56 k56 goodT56 :=
 opens_struct (l := [(3, 1), (3, 1)]) (fun x : S56 => (x.f0, x.f1)) (fun a => ⟨a.1, a.2⟩) (fun _ => rfl) Try.underlying56 rfl (fun j T n h => match j, T, n, h with
  | 0, _, _, h => by cases h; exact ⟨_, rfl, rfl, (by kernel_rfl), rfl⟩
  | 1, _, _, h => by cases h; exact ⟨_, rfl, rfl, (by kernel_rfl), rfl⟩
  | _ + 2, _, _, h => by simp at h) (by kernel_rfl) (opensSeq_cons opensT3 (opensSeq_one opensT3))
theorem opensT50 {H : Type} {enc : TypeId × Value → H} {w : World} : Opens enc Try.prog w 50 (Kd.slice 56 k56) (ListGood goodT56) := opens_slice Try.underlying50 (by kernel_rfl) opensT56
def Pure : Prop := ∀ (x0 : List (S56)) (x1 : Int), (ListGood goodT56) x0 → (IntGood .i64) x1 → ∃ k, laws_FnExactCommitTable.f k x0 x1 = some true
end Go.Proofs.Ytgookagndlfehaa.fnExactCommitTable
end
section
/- The field and the greater field, over whole numbers: what the printed functions of chapters 2 and 3 come to. -/
namespace Go.Proofs.Ytgookagndlfehaa.PT
open Go.RowKit Go.Proofs.YtgookagndlfehaaW.PrintWords Go.Proofs.YtgookagndlfehaaW.PrintLast Go.Proofs.YtgookagndlfehaaW.PrintMore
set_option linter.unusedVariables false
set_option linter.unusedSimpArgs false

abbrev E := S34
abbrev LE := S56
theorem rdE (l : List E) (i : Int) : rd_T34 l i = l.getD i.toNat z34 := rfl
theorem rdL (l : List LE) (i : Int) : rd_T56 l i = l.getD i.toNat z56 := rfl
abbrev zE : E := z34
instance : DecidableEq S34 := fun x y => decidable_of_iff (x.f0 = y.f0 ∧ x.f1 = y.f1) ⟨fun h => by cases x; cases y; simp_all, fun h => by rw [h]; exact ⟨rfl, rfl⟩⟩
theorem E.ext_ {x y : E} (h0 : x.f0 = y.f0) (h1 : x.f1 = y.f1) : x = y := by cases x; cases y; simp_all
theorem LE.ext_ {x y : LE} (h0 : x.f0 = y.f0) (h1 : x.f1 = y.f1) : x = y := by cases x; cases y; simp_all

theorem w64 {n : Int} (h0 : -9223372036854775808 ≤ n) (h1 : n ≤ 9223372036854775807) : wrap64 n = n := by unfold wrap64; omega
theorem tmod_nn {a b : Int} (h : 0 ≤ a) : Int.tmod a b = a % b := Int.tmod_eq_emod_of_nonneg h
theorem tdiv_nn {a b : Int} (h : 0 ≤ a) : Int.tdiv a b = a / b := Int.tdiv_eq_ediv_of_nonneg h

def inF (a : Int) : Prop := 0 ≤ a ∧ a ≤ 2130706432
instance (a : Int) : Decidable (inF a) := by unfold inF; infer_instance
def fadd (a b : Int) : Int := (a + b) % 2130706433
def fsub (a b : Int) : Int := (a - b) % 2130706433
def fmul (a b : Int) : Int := (a * b) % 2130706433
theorem inF_add (a b : Int) : inF (fadd a b) := by unfold inF fadd; omega
theorem inF_sub (a b : Int) : inF (fsub a b) := by unfold inF fsub; omega
theorem inF_mul (a b : Int) : inF (fmul a b) := by unfold inF fmul; omega
theorem mul_bd {a b : Int} (ha : inF a) (hb : inF b) : 0 ≤ a * b ∧ a * b ≤ 4539909903617114624 := by
 obtain ⟨h1, h2⟩ := ha
 obtain ⟨h3, h4⟩ := hb
 refine ⟨Int.mul_nonneg h1 h3, Int.le_trans (Int.mul_le_mul h2 h4 h3 (by omega)) (by decide)⟩
theorem inF_0 : inF 0 := by decide
theorem inF_1 : inF 1 := by decide
theorem inF_3 : inF 3 := by decide

structure okE (x : E) : Prop where
 a : inF x.f0
 b : inF x.f1
def eadd (x y : E) : E := ⟨fadd x.f0 y.f0, fadd x.f1 y.f1⟩
def esub (x y : E) : E := ⟨fsub x.f0 y.f0, fsub x.f1 y.f1⟩
def emul (x y : E) : E := ⟨fadd (fmul x.f0 y.f0) (fmul 3 (fmul x.f1 y.f1)), fadd (fmul x.f0 y.f1) (fmul x.f1 y.f0)⟩
def eof (n : Int) : E := ⟨n, 0⟩
def escale (x : E) (n : Int) : E := ⟨fmul x.f0 n, fmul x.f1 n⟩
theorem ok_add (x y : E) : okE (eadd x y) := ⟨inF_add _ _, inF_add _ _⟩
theorem ok_sub (x y : E) : okE (esub x y) := ⟨inF_sub _ _, inF_sub _ _⟩
theorem ok_scale (x : E) (n : Int) : okE (escale x n) := ⟨inF_mul _ _, inF_mul _ _⟩
theorem ok_of {n : Int} (h : inF n) : okE (eof n) := ⟨h, inF_0⟩
theorem ok_zero : okE zE := ⟨inF_0, inF_0⟩
theorem fadd_zero {a : Int} (h : inF a) : fadd a 0 = a := by unfold fadd inF at *; omega
theorem fmul_zero (a : Int) : fmul a 0 = 0 := by simp [fmul]
theorem emul_of (x : E) (n : Int) : emul x (eof n) = escale x n := by
 refine E.ext_ ?_ ?_
 ·
  show fadd (fmul x.f0 n) (fmul 3 (fmul x.f1 0)) = fmul x.f0 n
  rw [fmul_zero, fmul_zero, fadd_zero (inF_mul _ _)]
 ·
  show fadd (fmul x.f0 0) (fmul x.f1 n) = fmul x.f1 n
  rw [fmul_zero]; unfold fadd; have := inF_mul x.f1 n; unfold inF at this; omega
end Go.Proofs.Ytgookagndlfehaa.PT
end
section
/- What the printed functions of the field and of the greater field answer: the same sums and products on both sides. -/
namespace Go.Proofs.Ytgookagndlfehaa.PT
open Go.RowKit Go.Proofs.YtgookagndlfehaaW.PrintWords Go.Proofs.YtgookagndlfehaaW.PrintLast Go.Proofs.YtgookagndlfehaaW.PrintMore
set_option linter.unusedVariables false
set_option linter.unusedSimpArgs false

theorem impl_in_eq (a b c : Int) : impl_in.f a b c = some (decide (b ≤ a ∧ a ≤ c)) := by
 unfold impl_in.f; by_cases h : b ≤ a <;> simp [h]
theorem spec_l01In_eq (a b c : Int) : spec_l01In.f a b c = some (decide (b ≤ a ∧ a ≤ c)) := by
 unfold spec_l01In.f; by_cases h : b ≤ a <;> simp [h]
theorem impl_FieldOK_eq (a : Int) : impl_FieldOK.f a = some (decide (inF a)) := by
 unfold impl_FieldOK.f; rw [impl_in_eq]; rfl
theorem spec_FieldOK_eq (a : Int) : spec_FieldOK.f a = some (decide (inF a)) := by
 unfold spec_FieldOK.f; rw [spec_l01In_eq]; rfl
def okB (x : E) : Bool := decide (inF x.f0) && decide (inF x.f1)
theorem okB_iff (x : E) : okB x = true ↔ okE x := by
 unfold okB; rw [Bool.and_eq_true, decide_eq_true_eq, decide_eq_true_eq]; exact ⟨fun h => ⟨h.1, h.2⟩, fun h => ⟨h.a, h.b⟩⟩
theorem impl_ExtOK_eq (a b : Int) : impl_ExtOK.f a b = some (okB ⟨a, b⟩) := by
 unfold impl_ExtOK.f okB; rw [impl_FieldOK_eq, impl_FieldOK_eq]
 by_cases h : inF a <;> simp [h]
theorem spec_ExtOK_eq (a b : Int) : spec_ExtOK.f a b = some (okB ⟨a, b⟩) := by
 unfold spec_ExtOK.f okB; rw [spec_FieldOK_eq, spec_FieldOK_eq]
 by_cases h : inF a <;> simp [h]
theorem impl_add_eq {a b : Int} (ha : inF a) (hb : inF b) : impl_add.f a b = some (fadd a b) := by
 unfold inF at ha hb; unfold impl_add.f fadd; rw [w64 (by omega) (by omega), tmod_nn (by omega)]
theorem spec_l01Add_eq {a b : Int} (ha : inF a) (hb : inF b) : spec_l01Add.f a b = some (fadd a b) := by
 unfold inF at ha hb; unfold spec_l01Add.f fadd; rw [w64 (by omega) (by omega), tmod_nn (by omega)]
theorem impl_sub_eq {a b : Int} (ha : inF a) (hb : inF b) : impl_sub.f a b = some (fsub a b) := by
 unfold inF at ha hb; unfold impl_sub.f fsub; rw [w64 (n := a - b) (by omega) (by omega), w64 (by omega) (by omega), tmod_nn (by omega)]
 congr 1; omega
theorem spec_l01Sub_eq {a b : Int} (ha : inF a) (hb : inF b) : spec_l01Sub.f a b = some (fsub a b) := by
 unfold inF at ha hb; unfold spec_l01Sub.f fsub; rw [w64 (n := a + _) (by omega) (by omega), w64 (by omega) (by omega), tmod_nn (by omega)]
 congr 1; omega
theorem impl_mul_eq {a b : Int} (ha : inF a) (hb : inF b) : impl_mul.f a b = some (fmul a b) := by
 have := mul_bd ha hb
 unfold impl_mul.f fmul; rw [w64 (by omega) (by omega), tmod_nn (by omega)]
theorem spec_l01Mul_eq {a b : Int} (ha : inF a) (hb : inF b) : spec_l01Mul.f a b = some (fmul a b) := by
 have := mul_bd ha hb
 unfold spec_l01Mul.f fmul; rw [w64 (by omega) (by omega), tmod_nn (by omega)]
theorem impl_plus_eq {x y : E} (hx : okE x) (hy : okE y) : impl_Ext_plus.f x.f0 x.f1 y.f0 y.f1 = some ((eadd x y).f0, (eadd x y).f1) := by
 unfold impl_Ext_plus.f; rw [impl_add_eq hx.a hy.a, impl_add_eq hx.b hy.b]; rfl
theorem impl_minus_eq {x y : E} (hx : okE x) (hy : okE y) : impl_Ext_minus.f x.f0 x.f1 y.f0 y.f1 = some ((esub x y).f0, (esub x y).f1) := by
 unfold impl_Ext_minus.f; rw [impl_sub_eq hx.a hy.a, impl_sub_eq hx.b hy.b]; rfl
theorem impl_scaled_eq {x : E} {n : Int} (hx : okE x) (hn : inF n) : impl_Ext_scaled.f x.f0 x.f1 n = some ((escale x n).f0, (escale x n).f1) := by
 unfold impl_Ext_scaled.f; rw [impl_mul_eq hx.a hn, impl_mul_eq hx.b hn]; rfl
theorem spec_l02Add_eq {x y : E} (hx : okE x) (hy : okE y) : spec_l02Add.f x.f0 x.f1 y.f0 y.f1 = some ((eadd x y).f0, (eadd x y).f1) := by
 unfold spec_l02Add.f; rw [spec_l01Add_eq hx.a hy.a, spec_l01Add_eq hx.b hy.b]; rfl
theorem spec_l02Sub_eq {x y : E} (hx : okE x) (hy : okE y) : spec_l02Sub.f x.f0 x.f1 y.f0 y.f1 = some ((esub x y).f0, (esub x y).f1) := by
 unfold spec_l02Sub.f; rw [spec_l01Sub_eq hx.a hy.a, spec_l01Sub_eq hx.b hy.b]; rfl
theorem spec_l02Mul_eq {x y : E} (hx : okE x) (hy : okE y) : spec_l02Mul.f x.f0 x.f1 y.f0 y.f1 = some ((emul x y).f0, (emul x y).f1) := by
 unfold spec_l02Mul.f
 have h3 : ∀ t, inF t → Int.tmod (wrap64 (3 * t)) 2130706433 = fmul 3 t := by
  intro t ht; unfold inF at ht; unfold fmul; rw [w64 (by omega) (by omega), tmod_nn (by omega)]
 simp only [spec_l01Mul_eq hx.a hy.a, spec_l01Mul_eq hx.b hy.b, spec_l01Mul_eq hx.a hy.b, spec_l01Mul_eq hx.b hy.a, Option.bind_some, h3 _ (inF_mul _ _), spec_l01Add_eq (inF_mul _ _) (inF_mul _ _)]
 rfl
theorem spec_l02Of_eq (n : Int) : spec_l02Of.f n = some ((eof n).f0, (eof n).f1) := rfl
def okL (l : List E) : Prop := ∀ x ∈ l, okE x
def okLB (l : List E) : Bool := l.all okB
theorem okLB_iff (l : List E) : okLB l = true ↔ okL l := by
 unfold okLB okL; rw [List.all_eq_true]; exact ⟨fun h x hx => (okB_iff x).1 (h x hx), fun h x hx => (okB_iff x).2 (h x hx)⟩
theorem okL_get {l : List E} (h : okL l) (i : Nat) (hi : i < l.length) : okE (l.getD i zE) := by
 rw [List.getD_eq_getElem?_getD, List.getElem?_eq_getElem hi]; exact h _ (List.getElem_mem hi)
theorem impl_are_eq (l : List E) : impl_are_Ext_ExtOK.f l = some (okLB l) := by
 unfold impl_are_Ext_ExtOK.f okLB
 congr 2; funext x; unfold impl_are_Ext_ExtOK.p; rw [impl_ExtOK_eq]; rfl
theorem spec_l02List_l0 (l : List E) (hl : l.length ≤ 4611686018427387904) (d : Nat) : ∀ (k i : Nat), i + d = l.length → d < k → spec_l02List.l0 k l i = some ((l.drop i).all okB) := by
 induction d with
 | zero =>
  intro k i hi hk
  obtain ⟨k, rfl⟩ : ∃ m, k = m + 1 := ⟨k - 1, (by omega)⟩
  simp only [spec_l02List.l0]; rw [if_neg (by omega), List.drop_eq_nil_of_le (by omega)]; rfl
 | succ d ih =>
  intro k i hi hk
  obtain ⟨k, rfl⟩ : ∃ m, k = m + 1 := ⟨k - 1, (by omega)⟩
  have hlt : i < l.length := by omega
  simp only [spec_l02List.l0]
  rw [if_pos (by omega), if_pos (by omega), spec_ExtOK_eq, List.drop_eq_getElem_cons hlt]
  have hg : rd_T34 l (i : Int) = l[i] := by rw [rdE, Int.toNat_natCast, List.getD_eq_getElem?_getD, List.getElem?_eq_getElem hlt]; rfl
  rw [hg]
  simp only [Option.bind_some, List.all_cons]
  by_cases hb : okB l[i] = true
  ·
   have e : okB ⟨(l[i]).f0, (l[i]).f1⟩ = true := hb
   rw [e, if_pos rfl, w64 (by omega) (by omega), show (i : Int) + 1 = ((i + 1 : Nat) : Int) by omega, ih k (i + 1) (by omega) (by omega)]
   rfl
  ·
   replace hb := Bool.eq_false_iff.mpr hb
   have e : okB ⟨(l[i]).f0, (l[i]).f1⟩ = false := hb
   rw [e]; rfl
theorem spec_l02List_eq {l : List E} (hl : l.length ≤ 4611686018427387904) {k : Nat} (hk : l.length < k) : spec_l02List.f k l = some (okLB l) := by
 have := spec_l02List_l0 l hl l.length k 0 (by omega) hk
 unfold spec_l02List.f; exact this
end Go.Proofs.Ytgookagndlfehaa.PT
end
section
/- The laws' own helpers: elements copied, compared, marked; and powers of two. -/
namespace Go.Proofs.Ytgookagndlfehaa.PT
open Go.RowKit Go.Proofs.YtgookagndlfehaaW.PrintWords Go.Proofs.YtgookagndlfehaaW.PrintLast Go.Proofs.YtgookagndlfehaaW.PrintMore
set_option linter.unusedVariables false
set_option linter.unusedSimpArgs false

theorem szExtS_big {l : List LE} {a : Int} (ha : 0 ≤ a) (ha2 : a ≤ 1048576) (hl : l.length ≤ 9223372036854775807) (h : a < l.length) : laws_szExtS.f l a = some (-1) := by
 unfold laws_szExtS.f; rw [w64 (by omega) (by omega), if_pos (by omega)]
theorem szExtS_fit {l : List LE} {a : Int} (ha2 : a ≤ 1048576) (h : (l.length : Int) ≤ a) : laws_szExtS.f l a = some (a - l.length) := by
 unfold laws_szExtS.f; rw [w64 (by omega) (by omega), if_neg (by omega)]
def conv (x : LE) : E := ⟨x.f0, x.f1⟩
def convL (l : List LE) : List E := l.map conv
theorem convL_length (l : List LE) : (convL l).length = l.length := by simp [convL]
theorem getD_at {α : Type} {l : List α} {z : α} {i : Nat} (h : i < l.length) : l.getD i z = l[i] := by
 rw [List.getD_eq_getElem?_getD, List.getElem?_eq_getElem h]; rfl
theorem rdE_at {l : List E} {i : Nat} (h : i < l.length) : rd_T34 l (i : Int) = l[i] := by rw [rdE, Int.toNat_natCast, getD_at h]
theorem rdL_at {l : List LE} {i : Nat} (h : i < l.length) : rd_T56 l (i : Int) = l[i] := by rw [rdL, Int.toNat_natCast, getD_at h]
theorem set_mid {α : Type} (a b : List α) (x y : α) : (a ++ x :: b).set a.length y = a ++ y :: b := by
 rw [List.set_append_right _ _ (Nat.le_refl _)]; simp
theorem toExtS_l0 (l : List LE) (hl : l.length ≤ 4611686018427387904) (d : Nat) : ∀ (k i : Nat), i + d = l.length → d < k →
  laws_toExtS.l0 k l (convL (l.take i) ++ List.replicate d z34) i = some (convL l) := by
 induction d with
 | zero =>
  intro k i hi hk
  obtain ⟨k, rfl⟩ : ∃ m, k = m + 1 := ⟨k - 1, (by omega)⟩
  simp only [laws_toExtS.l0]; rw [if_neg (by omega), List.take_of_length_le (by omega)]; simp
 | succ d ih =>
  intro k i hi hk
  obtain ⟨k, rfl⟩ : ∃ m, k = m + 1 := ⟨k - 1, (by omega)⟩
  have hlt : i < l.length := by omega
  have hlen : (convL (l.take i)).length = i := by rw [convL_length, List.length_take]; omega
  simp only [laws_toExtS.l0]
  rw [if_pos (by omega), if_pos (by omega), rdL_at hlt]
  simp only [laws_toExt.f, Option.bind_some]
  rw [if_pos (by rw [List.length_append, hlen, List.length_replicate]; omega), Int.toNat_natCast, List.replicate_succ]
  have hs := set_mid (convL (l.take i)) (List.replicate d z34) z34 (conv l[i])
  rw [hlen] at hs
  show laws_toExtS.l0 k l ((convL (l.take i) ++ z34 :: List.replicate d z34).set i (conv l[i])) _ = _
  rw [hs, w64 (by omega) (by omega), show (i : Int) + 1 = ((i + 1 : Nat) : Int) by omega]
  have := ih k (i + 1) (by omega) (by omega)
  rw [List.take_succ_eq_append_getElem hlt] at this
  simp only [convL, List.map_append, List.map_cons, List.map_nil, List.append_assoc, List.cons_append, List.nil_append] at this
  exact this
theorem toExtS_eq {l : List LE} (hl : l.length ≤ 1048576) {k : Nat} (hk : l.length < k) : laws_toExtS.f k l = some (convL l) := by
 unfold laws_toExtS.f
 rw [if_pos (by omega), if_pos (by simp; omega)]
 have := toExtS_l0 l (by omega) l.length k 0 (by omega) hk
 simpa [convL] using this
theorem eqExt_eq (x y : E) : laws_eqExt.f x.f0 x.f1 y.f0 y.f1 = some (decide (x = y)) := by
 unfold laws_eqExt.f
 by_cases h0 : x.f0 = y.f0
 ·
  by_cases h1 : x.f1 = y.f1
  ·
   rw [if_pos h0, if_pos h1, decide_eq_true (E.ext_ h0 h1)]
  ·
   rw [if_pos h0, if_neg h1, decide_eq_false (fun e => h1 (by rw [e]))]
 ·
  rw [if_neg h0, decide_eq_false (fun e => h0 (by rw [e]))]
theorem eqExtS_l0 (a : List E) (hl : a.length ≤ 4611686018427387904) (d : Nat) : ∀ (k i : Nat), i + d = a.length → d < k → laws_eqExtS.l0 k a a i = some true := by
 induction d with
 | zero =>
  intro k i hi hk
  obtain ⟨k, rfl⟩ : ∃ m, k = m + 1 := ⟨k - 1, (by omega)⟩
  simp only [laws_eqExtS.l0]; rw [if_neg (by omega)]
 | succ d ih =>
  intro k i hi hk
  obtain ⟨k, rfl⟩ : ∃ m, k = m + 1 := ⟨k - 1, (by omega)⟩
  simp only [laws_eqExtS.l0]
  rw [if_pos (by omega), if_pos (by omega), if_pos (by omega), eqExt_eq]
  simp only [Option.bind_some, decide_true, if_true]
  rw [w64 (by omega) (by omega), show (i : Int) + 1 = ((i + 1 : Nat) : Int) by omega]
  exact ih k (i + 1) (by omega) (by omega)
theorem eqExtS_refl {a : List E} (hl : a.length ≤ 4611686018427387904) {k : Nat} (hk : a.length < k) : laws_eqExtS.f k a a = some true := by
 unfold laws_eqExtS.f; rw [if_pos rfl]; exact eqExtS_l0 a hl a.length k 0 (by omega) hk
def marked : Nat → Int → List E
 | 0, _ => []
 | n + 1, k => ⟨k, k + 1⟩ :: marked n (k + 2)
def pow2B (n most : Int) : Bool := decide (n ≤ most) && (n == 1 || n == 2 || n == 4 || n == 8 || n == 16 || n == 32 || n == 64 || n == 128 || n == 256 || n == 512)
theorem and_small : ∀ n : Fin 513, 0 < n.val → ((Go.bits .and .i64 (n.val : Int) ((n.val : Int) - 1)) == 0) = pow2B n.val 512 := by decide +kernel
theorem impl_isPower_eq {n most : Int} (hm : most ≤ 512) : impl_isPower.f n most = some (pow2B n most) := by
 unfold impl_isPower.f
 rw [impl_in_eq]
 simp only [Option.bind_some]
 by_cases h : 1 ≤ n ∧ n ≤ most
 ·
  rw [decide_eq_true h, if_pos rfl, w64 (by omega) (by omega)]
  have := and_small ⟨n.toNat, (by omega)⟩ (by show 0 < n.toNat; omega)
  simp only [Int.toNat_of_nonneg (show 0 ≤ n by omega)] at this
  rw [this]
  unfold pow2B
  rw [decide_eq_true h.2, decide_eq_true (show n ≤ 512 by omega)]
 ·
  rw [decide_eq_false h, if_neg (by decide)]
  congr 1
  symm
  unfold pow2B
  by_cases h2 : n ≤ most
  ·
   have : n < 1 := by omega
   have e : ∀ m : Int, 1 ≤ m → (n == m) = false := fun m hm => beq_eq_false_iff_ne.2 (by omega)
   simp [e]
  ·
   rw [decide_eq_false h2]; rfl
def pw (n most : Int) : Nat → Int → Bool
 | 0, _ => false
 | r + 1, x => (decide (x ≤ most) && (n == x)) || (decide (x ≤ most) && pw n most r (x * 2))
theorem l04Power_l0 (n most : Int) (hm : most ≤ 512) (r : Nat) : ∀ (k : Nat) (x : Int), 0 < x → most < x * 2 ^ r → r < k → spec_l04Power.l0 k n most x = some (pw n most r x) := by
 induction r with
 | zero =>
  intro k x hx h hk
  obtain ⟨k, rfl⟩ : ∃ m, k = m + 1 := ⟨k - 1, (by omega)⟩
  simp only [spec_l04Power.l0]; rw [if_neg (by simp at h; omega)]; rfl
 | succ r ih =>
  intro k x hx h hk
  obtain ⟨k, rfl⟩ : ∃ m, k = m + 1 := ⟨k - 1, (by omega)⟩
  simp only [spec_l04Power.l0, pw]
  by_cases h1 : x ≤ most
  ·
   rw [if_pos h1, decide_eq_true h1]
   by_cases h2 : n = x
   ·
    rw [if_pos h2, beq_iff_eq.2 h2]; rfl
   ·
    rw [if_neg h2, beq_eq_false_iff_ne.2 h2, w64 (by omega) (by omega), ih k (x * 2) (by omega) (by rw [Int.pow_succ] at h; rw [Int.mul_assoc, Int.mul_comm 2]; exact h) (by omega)]; simp
  ·
   rw [if_neg h1, decide_eq_false h1]; rfl
theorem pw_eq {n most : Int} (hm : most ≤ 512) : pw n most 10 1 = pow2B n most := by
 rw [Bool.eq_iff_iff]
 simp only [pw, pow2B, Bool.or_eq_true, Bool.and_eq_true, decide_eq_true_eq, beq_iff_eq]
 simp
 omega
theorem spec_l04Power_eq {n most : Int} (hm : most ≤ 512) {k : Nat} (hk : 10 < k) : spec_l04Power.f k n most = some (pow2B n most) := by
 unfold spec_l04Power.f
 rw [l04Power_l0 n most hm 10 k 1 (by omega) (by omega) hk, pw_eq hm]
theorem spec_l06Table_eq {n : Int} {k : Nat} (hk : 10 < k) : spec_l06Table.f k n = some (pow2B n 64) := by
 unfold spec_l06Table.f; rw [spec_l04Power_eq (by omega) hk]; rfl
end Go.Proofs.Ytgookagndlfehaa.PT
end
section
/- Steps that several laws share: same answers compared, lists turned in place. -/
namespace Go.Proofs.Ytgookagndlfehaa.PT
open Go.RowKit Go.Proofs.YtgookagndlfehaaW.PrintWords Go.Proofs.YtgookagndlfehaaW.PrintLast Go.Proofs.YtgookagndlfehaaW.PrintMore
set_option linter.unusedVariables false
set_option linter.unusedSimpArgs false
theorem bS {α β : Type} (a : α) (f : α → Option β) : (some a).bind f = f a := Eq.trans (Eq.refl _) (Option.bind_some a f)
theorem okL_set {l : List E} (h : okL l) {i : Nat} {x : E} (hx : okE x) : okL (l.set i x) := by
 intro y hy
 rcases List.mem_or_eq_of_mem_set hy with h1 | h1
 ·
  exact h y h1
 ·
  rw [h1]; exact hx
theorem okL_rd {l : List E} (h : okL l) {i : Int} (hi : 0 ≤ i) (hl : i < l.length) : okE (rd_T34 l i) := okL_get h i.toNat (by omega)
theorem okL_app {l m : List E} (h : okL l) (h2 : okL m) : okL (l ++ m) := by
 intro y hy
 rcases List.mem_append.mp hy with h1 | h1
 ·
  exact h y h1
 ·
  exact h2 y h1
theorem okL_one {x : E} (hx : okE x) : okL [x] := by intro y hy; rw [List.mem_singleton.mp hy]; exact hx
theorem okL_nil : okL [] := by intro y hy; cases hy
theorem pow2B_64 {n : Int} (h : pow2B n 64 = true) : n = 1 ∨ n = 2 ∨ n = 4 ∨ n = 8 ∨ n = 16 ∨ n = 32 ∨ n = 64 := by
 unfold pow2B at h
 simp only [Bool.and_eq_true, Bool.or_eq_true, decide_eq_true_eq, beq_iff_eq] at h
 omega
end Go.Proofs.Ytgookagndlfehaa.PT
end
section
/- The equality weight, at a point and as a table: both sides walk the same numbers. -/
namespace Go.Proofs.Ytgookagndlfehaa.PT
open Go.RowKit Go.Proofs.YtgookagndlfehaaW.PrintWords Go.Proofs.YtgookagndlfehaaW.PrintLast Go.Proofs.YtgookagndlfehaaW.PrintMore
set_option linter.unusedVariables false
set_option linter.unusedSimpArgs false
theorem etaE (x : E) : (⟨x.f0, x.f1⟩ : E) = x := rfl
end Go.Proofs.Ytgookagndlfehaa.PT
end
section
/- Tables turned in place, folded, and read at a point: both sides walk the same numbers. -/
namespace Go.Proofs.Ytgookagndlfehaa.PT
open Go.RowKit Go.Proofs.YtgookagndlfehaaW.PrintWords Go.Proofs.YtgookagndlfehaaW.PrintLast Go.Proofs.YtgookagndlfehaaW.PrintMore
set_option linter.unusedVariables false
set_option linter.unusedSimpArgs false
theorem spec_TableOK_eq {l : List E} (hl : l.length ≤ 1048576) {k : Nat} (hk : l.length + 20 < k) : spec_TableOK.f k l = some (pow2B l.length 64 && okLB l) := by
 unfold spec_TableOK.f
 by_cases h2 : (l.length : Int) > 4096
 ·
  rw [if_pos h2]; congr 1; symm
  have : pow2B (l.length : Int) 64 = false := by unfold pow2B; rw [decide_eq_false (by omega)]; rfl
  rw [this]; rfl
 ·
  rw [if_neg h2, spec_l06Table_eq (by omega), spec_l02List_eq (by omega) (by omega)]
  cases pow2B (l.length : Int) 64 <;> simp
theorem impl_TableOK_eq (l : List E) : impl_TableOK.f l = some (pow2B l.length 64 && okLB l) := by
 unfold impl_TableOK.f
 rw [impl_isPower_eq (by omega), impl_are_eq]
 cases pow2B (l.length : Int) 64 <;> simp
def isBit (b : Int) : Prop := b = 1 ∨ b = 2 ∨ b = 4 ∨ b = 8 ∨ b = 16 ∨ b = 32
theorem bit_facts0 : ∀ a : Fin 64, ∀ b ∈ [1, 2, 4, 8, 16, 32], Go.bits .and .i64 (a.val : Int) b = 0 ∨ (Go.bits .xor .i64 (a.val : Int) b = (a.val : Int) - b ∧ 0 ≤ (a.val : Int) - b) := by decide +kernel
theorem bit_facts {a b : Int} (h0 : 0 ≤ a) (h1 : a < 64) (hb : isBit b) : Go.bits .and .i64 a b = 0 ∨ (Go.bits .xor .i64 a b = a - b ∧ 0 ≤ a - b) := by
 have := bit_facts0 ⟨a.toNat, (by omega)⟩ b (by unfold isBit at hb; simp; omega)
 simp only [Int.toNat_of_nonneg h0] at this
 exact this
theorem turnminus_same (n : Nat) (hn : n ≤ 64) : ∀ k : Nat,
  (∀ (x : List E) (b : Int), okL x → x.length = n → (isBit b ∨ b = 64) → impl_turned_minus.l0 k x b = spec_l06Coefs.l0 k false x b) ∧
  (∀ (x : List E) (b i : Int), okL x → x.length = n → isBit b → 0 ≤ i → impl_turned_minus.l1 k x b (n : Int) i = spec_l06Coefs.l1 k false x b i) := by
 intro k
 induction k with
 | zero => exact ⟨fun _ _ _ _ _ => rfl, fun _ _ _ _ _ _ _ => rfl⟩
 | succ k ih =>
  refine ⟨fun x b hx hl hb => ?_, fun x b i hx hl hb hi => ?_⟩
  ·
   simp only [impl_turned_minus.l0, spec_l06Coefs.l0]
   by_cases h : b < (x.length : Int)
   ·
    rw [if_pos h, if_pos h, hl]
    refine ih.2 x b 0 hx hl ?_ (by omega)
    rcases hb with hb | hb
    ·
     exact hb
    ·
     omega
   ·
    rw [if_neg h, if_neg h]
  ·
   simp only [impl_turned_minus.l1, spec_l06Coefs.l1]
   by_cases h : i < (n : Int)
   ·
    have hx' : i < (x.length : Int) := by omega
    rw [if_pos h, w64 (n := i + 1) (by omega) (by omega)]
    rcases bit_facts hi (by omega) hb with e | ⟨e1, e2⟩
    ·
     rw [if_pos e, if_pos hx', if_pos e]; exact ih.2 x b (i + 1) hx hl hb (by omega)
    ·
     by_cases e : Go.bits .and .i64 i b = 0
     ·
      rw [if_pos e, if_pos hx', if_pos e]; exact ih.2 x b (i + 1) hx hl hb (by omega)
     ·
      have hb1 : 1 ≤ b := by unfold isBit at hb; omega
      have hb2 : b ≤ 32 := by unfold isBit at hb; omega
      have h1 : okE (rd_T34 x i) := okL_rd hx (by omega) (by omega)
      have h2 : okE (rd_T34 x (i - b)) := okL_rd hx (by omega) (by omega)
      rw [if_neg e, if_pos hi, if_pos hx', if_pos hx', if_neg e, e1, w64 (n := i - b) (by omega) (by omega)]
      simp only [if_true, if_false, Bool.false_eq_true]
      rw [if_pos (by omega), if_pos (by omega), if_pos (by omega), if_pos (by omega), if_pos (by omega)]
      rw [impl_minus_eq h1 h2, spec_l02Sub_eq h1 h2]
      simp only [bS]
      exact ih.2 _ b (i + 1) (okL_set hx (ok_sub _ _)) (by rw [List.length_set]; exact hl) hb (by omega)
   ·
    rw [if_neg h, if_neg (by omega)]
    refine ih.1 x _ hx hl ?_
    unfold isBit at *
    rw [w64 (by omega) (by omega)]
    omega
theorem turnminus_total (n : Nat) (hn : n ≤ 64) (t : Nat) : ∀ (x : List E) (b : Int), okL x → x.length = n → (isBit b ∨ b = 64) → (64 : Int) ≤ b * 2 ^ t → ∃ q, (okL q ∧ q.length = n) ∧ ∀ k, t * (n + 2) < k → impl_turned_minus.l0 k x b = some q := by
 induction t with
 | zero =>
  intro x b hx hl hb ht
  refine ⟨x, ⟨hx, hl⟩, fun k hk => ?_⟩
  obtain ⟨k, rfl⟩ : ∃ m, k = m + 1 := ⟨k - 1, (by omega)⟩
  simp only [impl_turned_minus.l0]
  rw [if_neg (by simp at ht; omega)]
 | succ t ih =>
  have inner : ∀ (d i : Nat) (x : List E) (b : Int), i + d = n → okL x → x.length = n → isBit b → (64 : Int) ≤ b * 2 ^ (t + 1) → ∃ q, (okL q ∧ q.length = n) ∧ ∀ k, t * (n + 2) + d + 1 < k → impl_turned_minus.l1 k x b (n : Int) i = some q := by
   intro d
   induction d with
   | zero =>
    intro i x b hi hx hl hb ht
    have ht2 : (64 : Int) ≤ b * 2 * 2 ^ t := by
     rw [Int.pow_succ, ← Int.mul_assoc] at ht
     have e : b * 2 * 2 ^ t = b * 2 ^ t * 2 := by rw [Int.mul_assoc, Int.mul_comm 2, ← Int.mul_assoc]
     rw [e]; exact ht
    obtain ⟨q, hq, h⟩ := ih x (b * 2) hx hl (by unfold isBit at *; omega) ht2
    refine ⟨q, hq, fun k hk => ?_⟩
    obtain ⟨k, rfl⟩ : ∃ m, k = m + 1 := ⟨k - 1, (by omega)⟩
    simp only [impl_turned_minus.l1]
    rw [if_neg (by omega), w64 (by unfold isBit at hb; omega) (by unfold isBit at hb; omega)]
    exact h k (by omega)
   | succ d ihd =>
    intro i x b hi hx hl hb ht
    by_cases e : Go.bits .and .i64 (i : Int) b = 0
    ·
     obtain ⟨q, hq, h⟩ := ihd (i + 1) x b (by omega) hx hl hb ht
     refine ⟨q, hq, fun k hk => ?_⟩
     obtain ⟨k, rfl⟩ : ∃ m, k = m + 1 := ⟨k - 1, (by omega)⟩
     simp only [impl_turned_minus.l1]
     rw [if_pos (by omega), w64 (n := (i : Int) + 1) (by omega) (by omega), show (i : Int) + 1 = ((i + 1 : Nat) : Int) by omega, if_pos e]
     exact h k (by omega)
    ·
     rcases bit_facts (a := (i : Int)) (by omega) (by omega) hb with e0 | ⟨e1, e2⟩
     ·
      exact absurd e0 e
     ·
      have hb1 : 1 ≤ b := by unfold isBit at hb; omega
      have hb2 : b ≤ 32 := by unfold isBit at hb; omega
      have h1 : okE (rd_T34 x i) := okL_rd hx (by omega) (by omega)
      have h2 : okE (rd_T34 x ((i : Int) - b)) := okL_rd hx (by omega) (by omega)
      obtain ⟨q, hq, h⟩ := ihd (i + 1) (x.set i (esub (rd_T34 x i) (rd_T34 x ((i : Int) - b)))) b (by omega) (okL_set hx (ok_sub _ _)) (by rw [List.length_set]; exact hl) hb ht
      refine ⟨q, hq, fun k hk => ?_⟩
      obtain ⟨k, rfl⟩ : ∃ m, k = m + 1 := ⟨k - 1, (by omega)⟩
      simp only [impl_turned_minus.l1]
      rw [if_pos (by omega), w64 (n := (i : Int) + 1) (by omega) (by omega), show (i : Int) + 1 = ((i + 1 : Nat) : Int) by omega, if_neg e, w64 (n := (i : Int) - b) (by omega) (by omega)]
      rw [if_pos (by omega), if_pos (by omega), if_pos (by omega), if_pos (by omega), impl_minus_eq h1 h2]
      simp only [bS]
      rw [Int.toNat_natCast]
      exact h k (by omega)
  intro x b hx hl hb ht
  by_cases h : b < (x.length : Int)
  ·
   have e : (t + 1) * (n + 2) = t * (n + 2) + (n + 2) := by rw [Nat.add_mul, Nat.one_mul]
   obtain ⟨q, hq, h3⟩ := inner n 0 x b (by omega) hx hl (by rcases hb with hb | hb; exact hb; omega) ht
   refine ⟨q, hq, fun k hk => ?_⟩
   obtain ⟨k, rfl⟩ : ∃ m, k = m + 1 := ⟨k - 1, (by omega)⟩
   simp only [impl_turned_minus.l0]
   rw [if_pos h, hl]
   exact h3 k (by omega)
  ·
   refine ⟨x, ⟨hx, hl⟩, fun k hk => ?_⟩
   obtain ⟨k, rfl⟩ : ∃ m, k = m + 1 := ⟨k - 1, (by omega)⟩
   simp only [impl_turned_minus.l0]
   rw [if_neg h]
theorem turnminus_eq {x : List E} (hx : okL x) (hn : x.length ≤ 64) :
  ∃ q, (okL q ∧ q.length = x.length) ∧ ∀ k, 400 < k → impl_turned_minus.f k x = some q ∧ spec_l06Coefs.f k x false = some q := by
 obtain ⟨q, hq, h⟩ := turnminus_total x.length hn 6 x 1 hx rfl (Or.inl (Or.inl rfl)) (by decide)
 refine ⟨q, hq, fun k hk => ⟨?_, ?_⟩⟩
 ·
  unfold impl_turned_minus.f
  rw [bS, if_pos (by simp; omega), List.nil_append]; exact h k (by omega)
 ·
  have e4 := (turnminus_same x.length hn k).1 x 1 hx rfl (Or.inl (Or.inl rfl))
  unfold spec_l06Coefs.f
  rw [bS, if_pos (by simp; omega), List.nil_append, ← e4]; exact h k (by omega)
theorem shlS_0 : ∀ n : Fin 10, shl .i64 1 (n.val : Int) = ((2 ^ n.val : Nat) : Int) := by decide +kernel
theorem shlS_ {n : Nat} (h : n < 10) : shl .i64 1 (n : Int) = ((2 ^ n : Nat) : Int) := shlS_0 ⟨n, h⟩
end Go.Proofs.Ytgookagndlfehaa.PT
end
section
/- Powers, inverses and the line: what the printed functions of chapter 2 come to. -/
namespace Go.Proofs.Ytgookagndlfehaa.PT
open Go.RowKit Go.Proofs.YtgookagndlfehaaW.PrintWords Go.Proofs.YtgookagndlfehaaW.PrintLast Go.Proofs.YtgookagndlfehaaW.PrintMore
set_option linter.unusedVariables false
set_option linter.unusedSimpArgs false
theorem e_ml (a b : Int) : (a % 2130706433 * b) % 2130706433 = (a * b) % 2130706433 := by rw [Int.mul_emod, Int.emod_emod_of_dvd _ (Int.dvd_refl _), ← Int.mul_emod]
theorem e_mr (a b : Int) : (a * (b % 2130706433)) % 2130706433 = (a * b) % 2130706433 := by rw [Int.mul_emod, Int.emod_emod_of_dvd _ (Int.dvd_refl _), ← Int.mul_emod]
theorem e_pow (a : Int) (n : Nat) : (a % 2130706433) ^ n % 2130706433 = a ^ n % 2130706433 := by
 induction n with
 | zero => rw [Int.pow_zero, Int.pow_zero]
 | succ n ih => rw [Int.pow_succ, Int.pow_succ, e_mr, ← e_ml, ih, e_ml]
theorem pow_sq (a : Int) (m : Nat) : (a * a) ^ m = a ^ (2 * m) := by
 induction m with
 | zero => rw [Nat.mul_zero, Int.pow_zero, Int.pow_zero]
 | succ m ih => rw [Int.pow_succ, ih, show 2 * (m + 1) = 2 * m + 1 + 1 by omega, Int.pow_succ, Int.pow_succ, Int.mul_assoc]
theorem and1 {x : Int} (h0 : 0 ≤ x) (h1 : x ≤ 9223372036854775807) : Go.bits .and .i64 x 1 = x % 2 := by
 have := bits_mask .i64 63 (by decide) (fun n h0 h1 => by
  simp only [IntKind.wrap, IntKind.bits, IntKind.signed]
  simp
  simp at h1
  omega) 1 (by decide) x h0 (by simp; omega)
 simpa using this
def fpow (a : Int) (n : Nat) : Int := a ^ n % 2130706433
theorem inF_pow (a : Int) (n : Nat) : inF (fpow a n) := by unfold inF fpow; omega
theorem pow_l0 (d : Nat) (hd : d ≤ 62) : ∀ (n : Nat) (a r : Int), n < 2 ^ d → inF a → inF r → ∀ k, d < k →
  impl_pow.l0 k a n r = some (r * a ^ n % 2130706433) ∧ spec_l01Pow.l0 k a n r = some (r * a ^ n % 2130706433) := by
 induction d with
 | zero =>
  intro n a r hn ha hr k hk
  obtain ⟨k, rfl⟩ : ∃ m, k = m + 1 := ⟨k - 1, (by omega)⟩
  obtain rfl : n = 0 := by simp at hn; exact hn
  simp only [impl_pow.l0, spec_l01Pow.l0]
  have e : r * a ^ 0 % 2130706433 = r := by unfold inF at hr; rw [Int.pow_zero]; omega
  rw [if_neg (by omega), if_neg (by omega), e]; exact ⟨rfl, rfl⟩
 | succ d ih =>
  intro n a r hn ha hr k hk
  obtain ⟨k, rfl⟩ : ∃ m, k = m + 1 := ⟨k - 1, (by omega)⟩
  simp only [impl_pow.l0, spec_l01Pow.l0]
  by_cases h0 : n = 0
  ·
   subst h0
   have e : r * a ^ 0 % 2130706433 = r := by unfold inF at hr; rw [Int.pow_zero]; omega
   rw [if_neg (by omega), if_neg (by omega), e]; exact ⟨rfl, rfl⟩
  ·
   have hd2 : n < 2 ^ 62 := Nat.lt_of_lt_of_le hn (Nat.pow_le_pow_right (by omega) hd)
   have hn62 : n < 4611686018427387904 := hd2
   have e1 : Go.bits .and .i64 (n : Int) 1 = (n : Int) % 2 := and1 (by omega) (by omega)
   have e2 : Int.tmod (n : Int) 2 = (n : Int) % 2 := tmod_nn (by omega)
   have e3 : wrap64 (Int.tdiv (n : Int) 2) = ((n / 2 : Nat) : Int) := by rw [tdiv_nn (by omega), w64 (by omega) (by omega)]; omega
   have e4 : (n : Int) / 2 = ((n / 2 : Nat) : Int) := by omega
   have hm : n / 2 < 2 ^ d := by rw [Nat.pow_succ] at hn; omega
   have hpos : (n : Int) > 0 := by omega
   rw [e1, e2, e3, e4, if_pos hpos]
   by_cases h1 : (n : Int) % 2 = 1
   ·
    rw [if_pos h1, if_pos hpos, if_pos h1, impl_mul_eq hr ha, spec_l01Mul_eq hr ha, impl_mul_eq ha ha, spec_l01Mul_eq ha ha]
    simp only [bS]
    have hx := ih (by omega) (n / 2) (fmul a a) (fmul r a) hm (inF_mul _ _) (inF_mul _ _) k (by omega)
    have e5 : fmul r a * fmul a a ^ (n / 2) % 2130706433 = r * a ^ n % 2130706433 := by
     unfold fmul
     rw [e_ml, ← e_mr, e_pow, e_mr, pow_sq, Int.mul_assoc, Int.mul_comm a, ← Int.pow_succ, show (2 * (n / 2)).succ = n by omega]
    rw [e5] at hx
    exact hx
   ·
    rw [if_neg h1, if_pos hpos, if_neg h1, impl_mul_eq ha ha, spec_l01Mul_eq ha ha]
    simp only [bS]
    have hx := ih (by omega) (n / 2) (fmul a a) r hm (inF_mul _ _) hr k (by omega)
    have e5 : r * fmul a a ^ (n / 2) % 2130706433 = r * a ^ n % 2130706433 := by
     unfold fmul
     rw [← e_mr, e_pow, e_mr, pow_sq, show 2 * (n / 2) = n by omega]
    rw [e5] at hx
    exact hx
theorem pow_both {a : Int} (ha : inF a) {n : Nat} (hn : n < 2 ^ 40) {k : Nat} (hk : 40 < k) : impl_pow.f k a n = some (fpow a n) ∧ spec_l01Pow.f k a n = some (fpow a n) := by
 have h := pow_l0 40 (by omega) n a 1 hn ha inF_1 k hk
 rw [Int.one_mul] at h
 exact h
end Go.Proofs.Ytgookagndlfehaa.PT
end
section
/- Words: their transform, its inverse, and a word folded: both sides walk the same numbers. -/
namespace Go.Proofs.Ytgookagndlfehaa.PT
open Go.RowKit Go.Proofs.YtgookagndlfehaaW.PrintWords Go.Proofs.YtgookagndlfehaaW.PrintLast Go.Proofs.YtgookagndlfehaaW.PrintMore
set_option linter.unusedVariables false
set_option linter.unusedSimpArgs false
theorem u64w {n : Int} (h0 : 0 ≤ n) (h1 : n ≤ 4611686018427387904) : IntKind.u64.wrap n = n := by
 simp only [IntKind.wrap, IntKind.bits, IntKind.signed]; simp; omega
theorem logOf0 : ∀ t : Fin 10, impl_logOf.f ((2 ^ t.val : Nat) : Int) = some (t.val : Int) := by decide +kernel
theorem logOf_eq {t : Nat} (h : t ≤ 9) : impl_logOf.f ((2 ^ t : Nat) : Int) = some (t : Int) := logOf0 ⟨t, (by omega)⟩
theorem vars_l0 (t : Nat) (ht : t ≤ 9) (d : Nat) : ∀ (k j : Nat), j + d = t → d < k → spec_l06Vars.l0 k ((2 ^ t : Nat) : Int) j = some (t : Int) := by
 induction d with
 | zero =>
  intro k j hj hk
  obtain ⟨k, rfl⟩ : ∃ m, k = m + 1 := ⟨k - 1, (by omega)⟩
  obtain rfl : j = t := by omega
  simp only [spec_l06Vars.l0]
  rw [u64w (by omega) (by omega), if_pos (by omega), shlS_ (by omega), if_neg (by omega)]
 | succ d ih =>
  intro k j hj hk
  obtain ⟨k, rfl⟩ : ∃ m, k = m + 1 := ⟨k - 1, (by omega)⟩
  have hp : 2 ^ j < 2 ^ t := Nat.pow_lt_pow_right (by omega) (by omega)
  simp only [spec_l06Vars.l0]
  rw [u64w (by omega) (by omega), if_pos (by omega), shlS_ (by omega), if_pos (by omega), w64 (by omega) (by omega), show (j : Int) + 1 = ((j + 1 : Nat) : Int) by omega]
  exact ih k (j + 1) (by omega) (by omega)
theorem vars_eq {t : Nat} (h : t ≤ 9) {k : Nat} (hk : 20 < k) : spec_l06Vars.f k ((2 ^ t : Nat) : Int) = some (t : Int) := vars_l0 t h t k 0 (by omega) (by omega)
def rootE (t : Nat) : Nat := 127 * 2 ^ (24 - t)
theorem rootE0 : ∀ t : Fin 10, shl .i64 127 (24 - (t.val : Int)) = (rootE t.val : Int) ∧ rootE t.val < 2 ^ 40 := by decide +kernel
def rootOf (t : Nat) : Int := fpow 3 (rootE t)
theorem inF_root (t : Nat) : inF (rootOf t) := inF_pow _ _
theorem impl_root_eq {t : Nat} (h : t ≤ 9) {k : Nat} (hk : 40 < k) : impl_root.f k (t : Int) = some (rootOf t) := by
 have e := rootE0 ⟨t, (by omega)⟩
 simp only at e
 unfold impl_root.f rootOf
 rw [w64 (by omega) (by omega), if_pos (by omega), e.1, (pow_both inF_3 e.2 hk).1]; rfl
theorem l01Root_eq {t : Nat} (h : t ≤ 9) {k : Nat} (hk : 40 < k) : spec_l01Root.f k (t : Int) = some (rootOf t) := by
 have e := rootE0 ⟨t, (by omega)⟩
 simp only at e
 unfold spec_l01Root.f rootOf
 rw [w64 (by omega) (by omega), u64w (by omega) (by omega), if_pos (by omega), e.1, (pow_both inF_3 e.2 hk).2]; rfl
theorem ntt_split (l : List E) (hl : okL l) (n : Nat) (hn : l.length = 2 * n) (hb : n ≤ 256) (w : Int) (d : Nat) : ∀ (i : Nat) (a b : List E), i + 2 * d = l.length → 2 * a.length = i → b.length = a.length → okL a → okL b →
  ∃ a' b', (okL a' ∧ okL b' ∧ a'.length = n ∧ b'.length = n) ∧ ∀ k, d < k →
   impl_values.l0 k l w a b i = impl_values.l0 (k - d) l w a' b' (l.length : Int) ∧ spec_l07Ntt.l0 k l w (l.length : Int) a b i = spec_l07Ntt.l0 (k - d) l w (l.length : Int) a' b' (l.length : Int) := by
 induction d with
 | zero =>
  intro i a b hi ha hb' hoa hob
  refine ⟨a, b, ⟨hoa, hob, (by omega), (by omega)⟩, fun k hk => ?_⟩
  obtain rfl : i = l.length := by omega
  exact ⟨rfl, rfl⟩
 | succ d ih =>
  intro i a b hi ha hb' hoa hob
  have w1 : wrap64 ((i : Int) + 1) = (i : Int) + 1 := w64 (by omega) (by omega)
  have w2 : wrap64 ((i : Int) + 2) = ((i + 2 : Nat) : Int) := by rw [w64 (by omega) (by omega)]; omega
  have h1 : okE (rd_T34 l i) := okL_rd hl (by omega) (by omega)
  have h2 : okE (rd_T34 l ((i : Int) + 1)) := okL_rd hl (by omega) (by omega)
  obtain ⟨a', b', hq, h⟩ := ih (i + 2) (a ++ [rd_T34 l i]) (b ++ [rd_T34 l ((i : Int) + 1)]) (by omega) (by simp; omega) (by simp; omega) (okL_app hoa (okL_one h1)) (okL_app hob (okL_one h2))
  refine ⟨a', b', hq, fun k hk => ?_⟩
  obtain ⟨k, rfl⟩ : ∃ m, k = m + 1 := ⟨k - 1, (by omega)⟩
  have e : k + 1 - (d + 1) = k - d := by omega
  rw [e]
  simp only [impl_values.l0, spec_l07Ntt.l0]
  rw [w1, w2, if_pos (show (i : Int) < (l.length : Int) by omega), if_pos (show 0 ≤ (i : Int) by omega)]
  simp only [bS, List.length_cons, List.length_nil]
  rw [if_pos (by omega), if_pos (show 0 ≤ (i : Int) + 1 by omega), if_pos (show (i : Int) + 1 < (l.length : Int) by omega), if_pos (by omega),
   if_pos (show (i : Int) < (l.length : Int) by omega), if_pos (show 0 ≤ (i : Int) by omega), if_pos (show (i : Int) < (l.length : Int) by omega), if_pos (by omega), if_pos (show 0 ≤ (i : Int) + 1 by omega), if_pos (show (i : Int) + 1 < (l.length : Int) by omega), if_pos (by omega), etaE, etaE]
  exact h k (by omega)
theorem ntt_join (u v : List E) (hu : okL u) (hv : okL v) (n : Nat) (hn : u.length = n) (hm : v.length = n) (hb : n ≤ 256) (w : Int) (hw : inF w) (d : Nat) : ∀ (j : Nat) (p : Int) (o : List E), j + d = n → inF p → okL o → o.length = 2 * n →
  ∃ q, (okL q ∧ q.length = 2 * n) ∧ ∀ k, d < k → impl_values.l1 k w u v (n : Int) p o (n : Int) j = some q ∧ spec_l07Ntt.l1 k w ((2 * n : Nat) : Int) u v o p j = some q := by
 have hw2 : wrap64 (((2 * n : Nat) : Int) / 2) = (n : Int) := by rw [w64 (by omega) (by omega)]; omega
 induction d with
 | zero =>
  intro j p o hj hp ho hl
  refine ⟨o, ⟨ho, hl⟩, fun k hk => ?_⟩
  obtain ⟨k, rfl⟩ : ∃ m, k = m + 1 := ⟨k - 1, (by omega)⟩
  simp only [impl_values.l1, spec_l07Ntt.l1]
  rw [hw2, if_neg (by omega), if_neg (by omega)]; exact ⟨rfl, rfl⟩
 | succ d ih =>
  intro j p o hj hp ho hl
  have h1 : okE (rd_T34 u j) := okL_rd hu (by omega) (by omega)
  have h2 : okE (rd_T34 v j) := okL_rd hv (by omega) (by omega)
  obtain ⟨q, hq, h⟩ := ih (j + 1) (fmul p w) ((o.set j (eadd (rd_T34 u j) (escale (rd_T34 v j) p))).set (j + n) (esub (rd_T34 u j) (escale (rd_T34 v j) p))) (by omega) (inF_mul _ _) (okL_set (okL_set ho (ok_add _ _)) (ok_sub _ _)) (by rw [List.length_set, List.length_set]; exact hl)
  refine ⟨q, hq, fun k hk => ?_⟩
  obtain ⟨k, rfl⟩ : ∃ m, k = m + 1 := ⟨k - 1, (by omega)⟩
  have hjn : wrap64 ((j : Int) + (n : Int)) = (j : Int) + (n : Int) := w64 (by omega) (by omega)
  have e2 : ((j : Int) + (n : Int)).toNat = j + n := by omega
  simp only [impl_values.l1, spec_l07Ntt.l1]
  rw [hw2, hjn, if_pos (show (j : Int) < (n : Int) by omega), if_pos (show 0 ≤ (j : Int) by omega), if_pos (show (j : Int) < (v.length : Int) by omega), impl_scaled_eq h2 hp,
   if_pos (show (j : Int) < (n : Int) by omega), if_pos (show 0 ≤ (j : Int) by omega), if_pos (show (j : Int) < (v.length : Int) by omega), spec_l02Of_eq]
  simp only [bS]
  rw [if_pos (show (j : Int) < (u.length : Int) by omega), impl_plus_eq h1 (ok_scale _ _), spec_l02Mul_eq h2 (ok_of hp), emul_of]
  simp only [bS]
  rw [impl_minus_eq h1 (ok_scale _ _), if_pos (show (j : Int) < (u.length : Int) by omega), spec_l02Add_eq h1 (ok_scale _ _)]
  simp only [bS]
  rw [if_pos (show (j : Int) < (o.length : Int) by omega), if_pos (show 0 ≤ (j : Int) + (n : Int) by omega), if_pos (show (j : Int) + (n : Int) < (o.length : Int) by omega), impl_mul_eq hp hw,
   if_pos (show (j : Int) < (o.length : Int) by omega), spec_l02Sub_eq h1 (ok_scale _ _)]
  simp only [bS]
  rw [if_pos (show 0 ≤ (j : Int) + (n : Int) by omega), if_pos (show (j : Int) + (n : Int) < (o.length : Int) by omega), spec_l01Mul_eq hp hw]
  simp only [bS]
  rw [w64 (n := (j : Int) + 1) (by omega) (by omega), show (j : Int) + 1 = ((j + 1 : Nat) : Int) by omega, e2, Int.toNat_natCast, etaE, etaE]
  exact h k (by omega)
theorem okL_rep (n : Nat) : okL (List.replicate n zE) := by
 intro y hy
 rw [(List.mem_replicate.mp hy).2]
 exact ok_zero
theorem ntt_same (t : Nat) : ∀ (l : List E) (w : Int), t ≤ 9 → okL l → l.length = 2 ^ t → inF w →
  ∃ q, (okL q ∧ q.length = 2 ^ t) ∧ ∀ k, 600 * (t + 1) < k → impl_values.f k l w = some q ∧ spec_l07Ntt.f k l w = some q := by
 induction t with
 | zero =>
  intro l w ht hl hn hw
  refine ⟨l, ⟨hl, hn⟩, fun k hk => ?_⟩
  obtain ⟨k, rfl⟩ : ∃ m, k = m + 1 := ⟨k - 1, (by omega)⟩
  have h1 : l.length = 1 := hn
  simp only [impl_values.f, spec_l07Ntt.f]
  rw [if_pos (by omega), if_pos (by omega)]
  simp only [bS, impl_Ext_45.f, List.nil_append, List.length_nil]
  rw [if_pos (by omega), if_pos (by omega)]
  exact ⟨rfl, rfl⟩
 | succ t ih =>
  intro l w ht hl hn hw
  have hh : 2 ^ (t + 1) = 2 * 2 ^ t := by rw [Nat.pow_succ, Nat.mul_comm]
  have hb : 2 ^ t ≤ 256 := Nat.le_trans (Nat.pow_le_pow_right (by omega) (show t ≤ 8 by omega)) (by decide)
  have hp : 0 < 2 ^ t := Nat.two_pow_pos t
  obtain ⟨a, b, ⟨ha, hb2, hla, hlb⟩, hs⟩ := ntt_split l hl (2 ^ t) (by omega) hb w (2 ^ t) 0 [] [] (by omega) rfl rfl okL_nil okL_nil
  obtain ⟨u, ⟨hu, hlu⟩, hus⟩ := ih a (fmul w w) (by omega) ha hla (inF_mul _ _)
  obtain ⟨v, ⟨hv, hlv⟩, hvs⟩ := ih b (fmul w w) (by omega) hb2 hlb (inF_mul _ _)
  obtain ⟨q, hq, hj⟩ := ntt_join u v hu hv (2 ^ t) hlu hlv hb w hw (2 ^ t) 0 1 (List.replicate (2 * 2 ^ t) zE) (by omega) inF_1 (okL_rep _) (by simp)
  refine ⟨q, ⟨hq.1, (by omega)⟩, fun k hk => ?_⟩
  obtain ⟨k, rfl⟩ : ∃ m, k = m + 1 := ⟨k - 1, (by omega)⟩
  obtain ⟨s1, s2⟩ := hs k (by omega)
  obtain ⟨m, hm⟩ : ∃ m, k - 2 ^ t = m + 1 := ⟨k - 2 ^ t - 1, (by omega)⟩
  obtain ⟨u1, u2⟩ := hus m (by omega)
  obtain ⟨v1, v2⟩ := hvs m (by omega)
  obtain ⟨j1, j2⟩ := hj m (by omega)
  rw [hm] at s1 s2
  rw [Int.natCast_zero] at s1 s2 j1 j2
  simp only [impl_values.f, spec_l07Ntt.f]
  rw [if_neg (by omega), if_neg (by omega), s1, s2]
  simp only [impl_values.l0, spec_l07Ntt.l0]
  have e1 : wrap64 (2 * (u.length : Int)) = ((2 * 2 ^ t : Nat) : Int) := by rw [w64 (by omega) (by omega)]; omega
  have e2 : (l.length : Int) = ((2 * 2 ^ t : Nat) : Int) := by omega
  have e3 : (u.length : Int) = ((2 ^ t : Nat) : Int) := by omega
  rw [if_neg (by omega), if_neg (by omega), impl_mul_eq hw hw, spec_l01Mul_eq hw hw]
  simp only [bS]
  rw [u1, u2]
  simp only [bS]
  rw [v1, v2]
  simp only [bS]
  rw [e1, if_pos (by omega), e2, if_pos (by omega), Int.toNat_natCast, if_pos (by omega), if_pos (by omega), e3]
  exact ⟨j1, j2⟩
end Go.Proofs.Ytgookagndlfehaa.PT
end
section
/- A constant text's bytes: the literal's row bears a mark; what is appended makes a new row. -/
namespace Go.Proofs.Ytgookagndlfehaa.PT
open Go.RowKit Go.Proofs.YtgookagndlfehaaW.PrintWords Go.Proofs.YtgookagndlfehaaW.PrintLast Go.Proofs.YtgookagndlfehaaW.PrintMore
set_option linter.unusedVariables false
set_option linter.unusedSimpArgs false
theorem freeze_at {w : World} {g n : Nat} {c : Array Value} {t : TypeId} (h : w.heap[g]? = some (.cells c t (0, 0))) : (w.freeze ⟨g, n, none⟩ 1).heap[g]? = some (.cells c t (n, n + 1)) := by
 simp [World.freeze, Array.getElem?_modify, h]
theorem freeze_old {w : World} {g n k : Nat} (h : g ≠ k) : (w.freeze ⟨g, n, none⟩ 1).heap[k]? = w.heap[k]? := by
 simp [World.freeze, Array.getElem?_modify, h]
theorem freeze_size {w : World} {g n : Nat} : (w.freeze ⟨g, n, none⟩ 1).heap.size = w.heap.size := by
 simp [World.freeze]
theorem conv_lit (W : World) (xs : List Int) (hl : xs.length ≤ 1000000) : ∃ w2, (convert 22 22 (.slice (some ⟨W.heap.size, 0, none⟩) xs.length xs.length)).run Try.prog (W.alloc (.cells (nums .u8 xs).toArray 5)) = .ok (.slice (some ⟨W.heap.size, 0, none⟩) xs.length xs.length) w2 ∧
  RowT w2 W.heap.size (.slice (some ⟨W.heap.size, 0, none⟩) xs.length xs.length) xs ∧ Below W.heap.size W w2 := by
 have hu := run_underlying (P := Try.prog) Try.underlying22
 have hv := run_underlying (P := Try.prog) Try.underlying5
 have hsh : (W.alloc (.cells (nums .u8 xs).toArray 5)).shape? W.heap.size = some (5, xs.length) := by
  unfold World.shape?
  rw [heap_alloc_new]
  simp [nums]
 have hg : ((W.alloc (.cells (nums .u8 xs).toArray 5)).freeze ⟨W.heap.size, xs.length, none⟩ 1).heap[W.heap.size]? = some (.cells (nums .u8 xs).toArray 5 (xs.length, xs.length + 1)) := by
  exact freeze_at (heap_alloc_new W _)
 refine ⟨(W.alloc (.cells (nums .u8 xs).toArray 5)).freeze ⟨W.heap.size, xs.length, none⟩ 1, ?_, ⟨W.heap.size, xs.length, (nums .u8 xs).toArray, (xs.length, xs.length + 1), rfl, Nat.le_refl _, hg, ?_, Nat.le_refl _, (by unfold maxLen; omega), (by simp [nums]), ?_⟩, ⟨rfl, rfl, rfl, ?_, fun k hk => ?_⟩⟩
 ·
  simp [convert, hu, hv, markStringish, hsh, Result.andThen]
 ·
  intro j hj hh
  exact absurd hh.1 (Nat.not_le.2 hj)
 ·
  rw [List.take_of_length_le (by simp [nums])]
 ·
  rw [freeze_size]; simp
 ·
  rw [freeze_old (by omega)]
  exact hao W _ hk
theorem RowT.grow {W : World} {base g n : Nat} {xs ys : List Int} (h : RowT W base (.slice (some ⟨g, 0, none⟩) n n) xs) {A : Option Addr} {c : Nat} (hC : (Kd.int .u8).C W A ys.length ys) (hm : 0 < ys.length) (hl : xs.length + ys.length ≤ 1000000) (ty : TypeId) :
  ∃ v1 w1, (Builtin.append_ #[22, 22] ty #[.slice (some ⟨g, 0, none⟩) n n, .slice A ys.length c]).run Try.prog W = .ok v1 w1 ∧ Kd.R (Kd.int .u8) 5 w1 W.heap.size (fun _ => True) v1 (xs ++ ys) ∧ Below W.heap.size W w1 := by
 obtain ⟨i, hi, hz0, hz1, hz2⟩ := info_parts info5
 have hu := Try.underlying22
 obtain ⟨g', cap, cur, fz, e, hb, hg, hf, hn, hcm, hs, ht⟩ := id h
 injection e with e1 e2 e3
 injection e1 with e1
 injection e1 with e1 _ _
 subst e1
 subst e2
 subst e3
 obtain ⟨_, _, hr⟩ := hC
 obtain ⟨ad, rfl, hc⟩ := hr hm
 have hnews : ∀ j u, (nums .u8 ys)[j]? = some u → W.cell? (ad.add j) = some u := by
  intro j u hj
  have hjl : j < ys.length := by have := (List.getElem?_eq_some_iff.1 hj).1; rwa [nmL] at this
  obtain ⟨cc, hcl, hK, hcells⟩ := hc j (ys[j]) (by simp [hjl])
  have h2 : cc = [.int .u8 ys[j]] := hK
  subst h2
  have h3 := hcells 0 _ rfl
  rw [show (Kd.int .u8).sz = 1 from rfl, Nat.mul_one, Nat.add_zero] at h3
  rw [h3, ← hj]
  simp [nums, hjl]
 have holds : ∀ j u, (nums .u8 xs)[j]? = some u → W.cell? ((⟨g, 0, none⟩ : Addr).add j) = some u := by
  intro j u hj
  have hjl : j < xs.length := by have := (List.getElem?_eq_some_iff.1 hj).1; rwa [nmL] at this
  rw [add_plain, (h.cell (by simp [Value.ownBlock]) hjl).1, ← hj]
  simp [nums, List.getD, hjl]
 have hr := run_append_grow (P := Try.prog) W 22 ty 5 i (.int .u8 0) hu hi hz0 ⟨g, 0, none⟩ xs.length xs.length (nums .u8 xs) (by rw [nmL, hz1, Nat.mul_one]) holds ad ys.length c (nums .u8 ys) (by rw [nmL, hz1, Nat.mul_one]) hnews (by omega) (by omega) (growslice_fits (by omega) (by rw [hz2]; omega))
 have hge := grownCap_ge W (xs.length + ys.length) xs.length 5
 have hle := grownCap_le_maxLen W (xs.length + ys.length) xs.length 5 (by unfold maxLen; omega)
 refine ⟨_, _, hr, ?_, below_alloc (below_drew (Below.refl _ _)) _⟩
 refine ⟨fun _ _ => trivial, nums .u8 (xs ++ ys), ⟨by rw [nmL]; exact (Nat.mul_one _).symm, .inr ⟨W.heap.size, _, _, (by rw [List.length_append]), Nat.le_refl _, heap_alloc_new _ _, (by rw [List.length_append]; exact hge), hle, ?_, ?_⟩⟩, ?_⟩
 ·
  simp only [Array.size_append, List.size_toArray, nmL, size_zeroCells]
  simp [Value.cells, Kd.int, Kd.scalar]
  omega
 ·
  have e2 : (xs ++ ys).length * (Kd.int .u8).sz = (nums .u8 (xs ++ ys)).length := by rw [nmL]; exact Nat.mul_one _
  rw [e2, show nums .u8 (xs ++ ys) = nums .u8 xs ++ nums .u8 ys by simp [nums]]
  simp only [Array.toList_append]
  exact List.take_left
 ·
  exact Kd.reps_scalar (enc := Value.int .u8) (xs ++ ys)
section
variable {ops : Array Oper} {o : Oper} {rest : List Oper} {a : Act} {Q : Exit → Act → World → Prop}
theorem wpT_grow {W : World} {base g n : Nat} (hgd : o.guard = none) (s x : Operand) (ho : o.op = .call { callee := .builtin .append, args := #[s, x], argTypes := #[22, 22] }) (xs ys : List Int) {A : Option Addr} {c : Nat} (hs : a.eval s = .slice (some ⟨g, 0, none⟩) n n) (hx : a.eval x = .slice A ys.length c)
  (h : RowT W base (.slice (some ⟨g, 0, none⟩) n n) xs) (hC : (Kd.int .u8).C W A ys.length ys) (hm : 0 < ys.length) (hl : xs.length + ys.length ≤ 1000000)
  (k : ∀ v1 w1, Kd.R (Kd.int .u8) 5 w1 W.heap.size (fun _ => True) v1 (xs ++ ys) → Below W.heap.size W w1 → wpList Try.prog ops Q rest (a.put o.dst v1) w1) : wpList Try.prog ops Q (o :: rest) a W := by
 obtain ⟨v1, w1, hr, h1, hb⟩ := h.grow hC hm hl o.type (c := c)
 refine wpList_plain hgd fun K hK => ?_
 unfold Oper.wp execOp
 simp only [ho, resolve, invoke, builtin, Sem.run_bind, Sem.run_pure, Result.andThen_ok, List.map_toArray, List.map_cons, List.map_nil, hs, hx, hr]
 exact hK _ _ (k v1 w1 h1 hb)
end
end Go.Proofs.Ytgookagndlfehaa.PT
end
section
/- What the hashes of several pieces need: a constant's row at any place, pieces as a literal row, a number's four bytes. -/
namespace Go.Proofs.Ytgookagndlfehaa.PT
open Go.RowKit Go.Proofs.YtgookagndlfehaaW.PrintWords Go.Proofs.YtgookagndlfehaaW.PrintLast Go.Proofs.YtgookagndlfehaaW.PrintMore
set_option linter.unusedVariables false
set_option linter.unusedSimpArgs false
def four_ (n : Int) : List Int := [(n / 16777216) % 256, (n / 65536) % 256, (n / 256) % 256, n % 256]
theorem four_eq {l : List Int} {n : Int} (h : l.length + 4 < 140737488355328) : impl_four.f l n = some (l ++ four_ n) := by
 unfold impl_four.f
 exact if_pos h
theorem four_length (n : Int) : (four_ n).length = 4 := rfl
theorem conv_mark {W : World} {gl : Nat} {xs : List Int} (hg : W.heap[gl]? = some (.cells (nums .u8 xs).toArray 5 (0, 0))) (hl : xs.length ≤ 1000000) :
  (convert 22 22 (.slice (some ⟨gl, 0, none⟩) xs.length xs.length)).run Try.prog W = .ok (.slice (some ⟨gl, 0, none⟩) xs.length xs.length) (W.freeze ⟨gl, xs.length, none⟩ 1) ∧
  (∀ w', w'.heap[gl]? = (W.freeze ⟨gl, xs.length, none⟩ 1).heap[gl]? → (Kd.int .u8).C w' (some ⟨gl, 0, none⟩) xs.length xs) := by
 have hu := run_underlying (P := Try.prog) Try.underlying22
 have hv := run_underlying (P := Try.prog) Try.underlying5
 have hsh : W.shape? gl = some (5, xs.length) := by
  unfold World.shape?
  rw [hg]
  simp [nums]
 refine ⟨?_, fun w' hw => ?_⟩
 ·
  simp [convert, hu, hv, markStringish, hsh, Result.andThen]
 ·
  rw [freeze_at hg] at hw
  have hR : RowT w' gl (.slice (some ⟨gl, 0, none⟩) xs.length xs.length) xs := ⟨gl, xs.length, (nums .u8 xs).toArray, (xs.length, xs.length + 1), rfl, Nat.le_refl _, hw, fun j hj hh => absurd hh.1 (Nat.not_le.2 hj), Nat.le_refl _, (by unfold maxLen; omega), (by simp [nums]), (by rw [List.take_of_length_le (by simp [nums])])⟩
  obtain ⟨A, c, e, _, hC⟩ := hR.reads
  injection e with e1 e2 e3
  rw [e1]
  exact hC
namespace Inv
variable {w0 w w1 : World} {P : Nat → Prop} {L : List Grp} {F : World → Prop}
theorem marked {gl : Nat} {xs : List Int} (h : Inv w0 P w (blk gl 5 (nums .u8 xs).toArray :: L) F) (hl : xs.length ≤ 1000000) :
  Inv w0 P (w.freeze ⟨gl, xs.length, none⟩ 1) L (fun w => (Kd.int .u8).C w (some ⟨gl, 0, none⟩) xs.length xs ∧ F w) := by
 have hm := (conv_mark h.blk0 hl).2
 have h2 : Inv w0 P (w.freeze ⟨gl, xs.length, none⟩ 1) (⟨fun k => k = gl, fun w => (Kd.int .u8).C w (some ⟨gl, 0, none⟩) xs.length xs⟩ :: L) F :=
  h.step (w1 := w.freeze ⟨gl, xs.length, none⟩ 1) ⟨rfl, rfl, rfl, (by rw [freeze_size]; exact Nat.le_refl _), fun k _ hn => freeze_old (fun e => hn e.symm)⟩ ⟨fun k => k = gl, fun w => (Kd.int .u8).C w (some ⟨gl, 0, none⟩) xs.length xs⟩ (fun k hk => ⟨.inl hk, (by rw [freeze_size]; obtain rfl : k = gl := hk; exact blk_lt h.blk0)⟩) (fun w' hw => hm w' (hw gl rfl))
 exact h2.freeze
end Inv
def Piece (v : Value) (xs : List Int) (w : World) : Prop := ∃ A c, v = .slice A xs.length c ∧ xs.length ≤ c ∧ (Kd.int .u8).C w A xs.length xs
namespace Inv
variable {w0 w w1 : World} {P : Nat → Prop} {L : List Grp} {F : World → Prop}
theorem mark_ev {gl : Nat} {xs : List Int} (h : Inv w0 P w (blk gl 5 (nums .u8 xs).toArray :: L) F) (hl : xs.length ≤ 1000000) :
  ∃ w1, (convert 22 22 (.slice (some ⟨gl, 0, none⟩) xs.length xs.length)).run Try.prog w = .ok (.slice (some ⟨gl, 0, none⟩) xs.length xs.length) w1 ∧ Inv w0 P w1 L (fun w => Piece (.slice (some ⟨gl, 0, none⟩) xs.length xs.length) xs w ∧ F w) :=
 ⟨_, (conv_mark h.blk0 hl).1, (h.marked hl).weaken (fun _ h => ⟨⟨_, _, rfl, Nat.le_refl _, h.1⟩, h.2⟩)⟩
theorem conv_ev {t : ByteArray} (h : Inv w0 P w L F) (hl : t.size ≤ 2000000) :
  ∃ v w1, (convert 9 22 (.string t)).run Try.prog w = .ok v w1 ∧ Inv w0 P w1 L (fun w => Piece v (nums_ t) w ∧ F w) := by
 have hr := Go.Lib.run_convert_string_bytes (P := Try.prog) w 9 22 5 t Try.underlying9 Try.underlying22 Try.underlying5
 exact ⟨_, _, hr, (h.pushT (bytes_below w t) (RowT.bytes w t hl)).freeze.weaken (fun _ h => ⟨by obtain ⟨A, c, e, hc, hC⟩ := RowT.reads h.1; exact ⟨A, c, e, hc, hC⟩, h.2⟩)⟩
theorem lit_ev (h : Inv w0 P w L F) (cs : Array Value) (t : TypeId) : Inv w0 P (w.alloc (.cells cs t)) (blk w.heap.size t cs :: L) F :=
 h.box rfl (heap_alloc_new _ _) (below_alloc (Below.refl _ _) _)
theorem four_ev (h : Inv w0 P w L F) (n : Int) : Calls Try.prog 88 #[.slice none 0 0, .int .i64 n] w (fun e w1 => ∃ v, e = .returned v ∧ Inv w0 P w1 L (fun w => Piece v (four_ n) w ∧ F w)) := by
 refine (impl_four.calls (fun _ => True) (.slice none 0 0) [] n (four_ n) w w (Below.refl _ _) (Kd.R_nil _ _ _ _ _) (four_eq (by decide))).mono ?_
 rintro e w1 ⟨v, rfl, hR, hb, _⟩
 obtain ⟨A, c, rfl, hc, HI⟩ := h.rowKnow hb hR
 exact ⟨_, rfl, HI.weaken (fun _ h => ⟨⟨A, c, rfl, hc, h.1⟩, h.2⟩)⟩
end Inv
theorem pieces_lit {W : World} {T : TypeId} {vs : List Value} {ps : List (List Int)} (h : ∀ j (hj : j < ps.length), ∃ v, vs[j]? = some v ∧ Piece v ps[j] W) : Pieces (W.alloc (.cells vs.toArray T)) (some ⟨W.heap.size, 0, none⟩) ps := by
 intro j hj
 obtain ⟨v, hv, A, c, rfl, _, hC⟩ := h j hj
 refine ⟨_, A, c, rfl, ?_, Kd.C_alloc hC _⟩
 rw [add_plain, World.cell?_alloc_new]
 simpa using hv
theorem pieces3 {W : World} {T : TypeId} {v0 v1 v2 : Value} {a b c : List Int} (h0 : Piece v0 a W) (h1 : Piece v1 b W) (h2 : Piece v2 c W) : Pieces (W.alloc (.cells #[v0, v1, v2] T)) (some ⟨W.heap.size, 0, none⟩) [a, b, c] :=
 pieces_lit (vs := [v0, v1, v2]) (fun j hj => by
  match j, hj with
  | 0, _ => exact ⟨v0, rfl, h0⟩
  | 1, _ => exact ⟨v1, rfl, h1⟩
  | 2, _ => exact ⟨v2, rfl, h2⟩)
theorem pieces4 {W : World} {T : TypeId} {v0 v1 v2 v3 : Value} {a b c d : List Int} (h0 : Piece v0 a W) (h1 : Piece v1 b W) (h2 : Piece v2 c W) (h3 : Piece v3 d W) : Pieces (W.alloc (.cells #[v0, v1, v2, v3] T)) (some ⟨W.heap.size, 0, none⟩) [a, b, c, d] :=
 pieces_lit (vs := [v0, v1, v2, v3]) (fun j hj => by
  match j, hj with
  | 0, _ => exact ⟨v0, rfl, h0⟩
  | 1, _ => exact ⟨v1, rfl, h1⟩
  | 2, _ => exact ⟨v2, rfl, h2⟩
  | 3, _ => exact ⟨v3, rfl, h3⟩)
end Go.Proofs.Ytgookagndlfehaa.PT
end
section
/- A table's word, its leaves and the tree above them: both sides come to the same root. -/
namespace Go.Proofs.Ytgookagndlfehaa.PT
open Go.RowKit Go.Proofs.YtgookagndlfehaaW.PrintWords Go.Proofs.YtgookagndlfehaaW.PrintLast Go.Proofs.YtgookagndlfehaaW.PrintMore
set_option linter.unusedVariables false
set_option linter.unusedSimpArgs false
theorem shl_powC0 : ∀ t s : Fin 10, shl .i64 ((2 ^ t.val : Nat) : Int) (s.val : Int) = ((2 ^ (t.val + s.val) : Nat) : Int) := by decide +kernel
theorem shl_powC {t s : Nat} (ht : t ≤ 9) (hs : s ≤ 9) : shl .i64 ((2 ^ t : Nat) : Int) (s : Int) = ((2 ^ (t + s) : Nat) : Int) := shl_powC0 ⟨t, (by omega)⟩ ⟨s, (by omega)⟩
theorem encode_same {l : List E} (hok : okL l) {t s : Nat} (hn : l.length = 2 ^ t) (hts : t + s ≤ 9) :
  ∃ q, (okL q ∧ q.length = 2 ^ (t + s)) ∧ ∀ k, 10000 < k → spec_l07Encode.f k l (s : Int) = some q ∧ impl_encoded.f k l (s : Int) = some q := by
 have hb : 2 ^ t ≤ 512 := Nat.le_trans (Nat.pow_le_pow_right (by omega) (show t ≤ 9 by omega)) (by decide)
 have en : (l.length : Int) = ((2 ^ t : Nat) : Int) := by omega
 have hu : IntKind.u64.wrap (s : Int) = (s : Int) := u64w (by omega) (by omega)
 have hsh := shl_powC (t := t) (s := s) (by omega) (by omega)
 have hpw : 2 ^ (t + s) = 2 ^ t * 2 ^ s := Nat.pow_add 2 t s
 have hle : 2 ^ t ≤ 2 ^ (t + s) := Nat.pow_le_pow_right (by omega) (by omega)
 have hle2 : 2 ^ (t + s) ≤ 512 := Nat.le_trans (Nat.pow_le_pow_right (by omega) hts) (by decide)
 obtain ⟨L, hLe⟩ : ∃ L : List E, L = l ++ List.replicate (2 ^ (t + s) - 2 ^ t) zE := ⟨_, rfl⟩
 have hLok : okL L := by rw [hLe]; exact okL_app hok (okL_rep _)
 have hLn : L.length = 2 ^ (t + s) := by rw [hLe, List.length_append, List.length_replicate]; omega
 obtain ⟨q, hq, hk3⟩ := ntt_same (t + s) L (rootOf (t + s)) hts hLok hLn (inF_root _)
 have enL : (L.length : Int) = ((2 ^ (t + s) : Nat) : Int) := by omega
 refine ⟨q, hq, fun k hk => ?_⟩
 obtain ⟨e1, e2⟩ := hk3 k (by omega)
 unfold impl_encoded.f spec_l07Encode.f
 have h9 : 0 ≤ (s : Int) ∧ (s : Int) ≤ 9 := by omega
 have hl512 : l.length ≤ 512 := by omega
 simp only [hu, if_pos h9.1, if_pos h9.2, if_pos hl512, bS]
 rw [en, hsh]
 rw [w64 (n := ((2 ^ (t + s) : Nat) : Int) - ((2 ^ t : Nat) : Int)) (by omega) (by omega), show (((2 ^ (t + s) : Nat) : Int) - ((2 ^ t : Nat) : Int)).toNat = 2 ^ (t + s) - 2 ^ t by omega]
 simp only [List.nil_append, List.length_nil, Nat.zero_add]
 rw [if_pos (by omega), if_pos (show 0 ≤ ((2 ^ (t + s) : Nat) : Int) - ((2 ^ t : Nat) : Int) by omega), if_pos (by omega), vars_eq hts (by omega)]
 simp only [bS]
 rw [l01Root_eq hts (by omega)]
 simp only [bS]
 rw [show List.replicate (2 ^ (t + s) - 2 ^ t) z34 = List.replicate (2 ^ (t + s) - 2 ^ t) zE from rfl, ← hLe, e2]
 simp only [bS]
 refine ⟨trivial, ?_⟩
 rw [Int.toNat_natCast, hn, ← hpw, ← hLe]
 unfold impl_ntt.f
 rw [enL, logOf_eq hts]
 simp only [bS]
 rw [impl_root_eq hts (by omega)]
 simp only [bS]
 rw [e1]
 rfl
theorem shr_litC (n : Int) (m : Int) (p : Nat) (hp : min (IntKind.u64.wrap m).toNat 64 = p) : shr .i64 n (IntKind.u64.wrap m) = n / 2 ^ p := by
 show n / 2 ^ (min (IntKind.u64.wrap m).toNat 64) = n / 2 ^ p
 rw [hp]
theorem numberC (n : Int) (k : Nat) : spec_l02Number.f (k + 5) n 4 = some (four_ n) := by
 have e1 := shr_litC n 24 24 (by decide +kernel)
 have e2 := shr_litC n 16 16 (by decide +kernel)
 have e3 := shr_litC n 8 8 (by decide +kernel)
 have e4 := shr_litC n 0 0 (by decide +kernel)
 unfold spec_l02Number.f
 rw [show wrap64 ((4 : Int) - 1) = 3 by decide +kernel]
 rw [spec_l02Number.l0, if_pos (by decide +kernel), show wrap64 (8 * (3 : Int)) = 24 by decide +kernel, if_pos (by decide +kernel), if_pos (by decide +kernel), e1, show wrap64 ((3 : Int) - 1) = 2 by decide +kernel]
 rw [spec_l02Number.l0, if_pos (by decide +kernel), show wrap64 (8 * (2 : Int)) = 16 by decide +kernel, if_pos (by decide +kernel), if_pos (by simp), e2, show wrap64 ((2 : Int) - 1) = 1 by decide +kernel]
 rw [spec_l02Number.l0, if_pos (by decide +kernel), show wrap64 (8 * (1 : Int)) = 8 by decide +kernel, if_pos (by decide +kernel), if_pos (by simp), e3, show wrap64 ((1 : Int) - 1) = 0 by decide +kernel]
 rw [spec_l02Number.l0, if_pos (by decide +kernel), show wrap64 (8 * (0 : Int)) = 0 by decide +kernel, if_pos (by decide +kernel), if_pos (by simp), e4, show wrap64 ((0 : Int) - 1) = -1 by decide +kernel]
 rw [spec_l02Number.l0, if_neg (by decide +kernel)]
 unfold four_
 simp
def bytes_ : List Int → List E → List Int
 | a, [] => a
 | a, x :: l => bytes_ ((a ++ four_ x.f0) ++ four_ x.f1) l
theorem bytes_length : ∀ (l : List E) (a : List Int), (bytes_ a l).length = a.length + 8 * l.length
 | [], a => by rw [bytes_]; rfl
 | x :: l, a => by rw [bytes_, bytes_length l, List.length_append, List.length_append, four_length, four_length, List.length_cons]; omega
theorem extBytes_l0 (l : List E) (hl : l.length ≤ 100000) (d : Nat) : ∀ (i : Nat) (a : List Int) (k : Nat), i + d = l.length → a.length ≤ 1000000000 → a.length + 8 * d ≤ 1000000000 → d < k → impl_extBytes.l0 k a l (l.length : Int) (i : Int) = some (bytes_ a (l.drop i)) := by
 induction d with
 | zero =>
  intro i a k hi ha hb hk
  obtain ⟨k, rfl⟩ : ∃ m, k = m + 1 := ⟨k - 1, (by omega)⟩
  rw [impl_extBytes.l0, if_neg (by omega), List.drop_eq_nil_of_le (by omega), bytes_]
 | succ d ih =>
  intro i a k hi ha hb hk
  obtain ⟨k, rfl⟩ : ∃ m, k = m + 1 := ⟨k - 1, (by omega)⟩
  have hlt : i < l.length := by omega
  rw [impl_extBytes.l0, if_pos (by omega), if_pos (by omega), if_pos (by omega), rdE_at hlt, four_eq (by omega)]
  simp only [bS]
  rw [four_eq (by rw [List.length_append, four_length]; omega)]
  simp only [bS]
  rw [w64 (by omega) (by omega), show (i : Int) + 1 = ((i + 1 : Nat) : Int) by omega, ih (i + 1) _ k (by omega) (by rw [List.length_append, List.length_append, four_length, four_length]; omega) (by rw [List.length_append, List.length_append, four_length, four_length]; omega) (by omega), List.drop_eq_getElem_cons hlt, bytes_]
theorem extBytes_eq {l : List E} (hl : l.length ≤ 100000) {k : Nat} (hk : l.length < k) : impl_extBytes.f k l = some (bytes_ [] l) := by
 unfold impl_extBytes.f
 have e := extBytes_l0 l hl l.length 0 [] k (by omega) (by simp) (by simp; omega) hk
 rw [Int.natCast_zero, List.drop_zero] at e
 exact e
theorem specBytes_l0 (l : List E) (hl : l.length ≤ 100000) (d : Nat) : ∀ (i : Nat) (a : List Int) (k : Nat), i + d = l.length → a.length + 8 * d ≤ 1000000000 → d + 5 < k → spec_l02Bytes.l0 k l a (i : Int) = some (bytes_ a (l.drop i)) := by
 induction d with
 | zero =>
  intro i a k hi hb hk
  obtain ⟨k, rfl⟩ : ∃ m, k = m + 1 := ⟨k - 1, (by omega)⟩
  rw [spec_l02Bytes.l0, if_neg (by omega), List.drop_eq_nil_of_le (by omega), bytes_]
 | succ d ih =>
  intro i a k hi hb hk
  obtain ⟨k, rfl⟩ : ∃ m, k = m + 5 + 1 := ⟨k - 6, (by omega)⟩
  have hlt : i < l.length := by omega
  rw [spec_l02Bytes.l0, if_pos (by omega), if_pos (by omega), rdE_at hlt, numberC]
  simp only [bS]
  rw [if_pos (by rw [four_length]; omega), numberC]
  simp only [bS]
  rw [if_pos (by rw [List.length_append, four_length, four_length]; omega), w64 (by omega) (by omega), show (i : Int) + 1 = ((i + 1 : Nat) : Int) by omega, ih (i + 1) _ (k + 5) (by omega) (by rw [List.length_append, List.length_append, four_length, four_length]; omega) (by omega), List.drop_eq_getElem_cons hlt, bytes_]
theorem specBytes_eq {l : List E} (hl : l.length ≤ 100000) {k : Nat} (hk : l.length + 5 < k) : spec_l02Bytes.f k l = some (bytes_ [] l) := by
 unfold spec_l02Bytes.f
 have e := specBytes_l0 l hl l.length 0 [] k (by omega) (by simp; omega) hk
 rw [Int.natCast_zero, List.drop_zero] at e
 exact e
def leaf_ (x : List E) (n i : Nat) : ByteArray := strOfNums (bytes_ [] [⟨(x.getD i zE).f0, (x.getD i zE).f1⟩, ⟨(x.getD (i + n) zE).f0, (x.getD (i + n) zE).f1⟩])
theorem leaf_size (x : List E) (n i : Nat) : (leaf_ x n i).size = 16 := by
 unfold leaf_
 rw [strOfNums_size, bytes_length]
 rfl
theorem leaves_l0 (x : List E) (n : Nat) (hn : x.length = 2 * n) (hb : n ≤ 256) (d : Nat) : ∀ (i : Nat) (a : List ByteArray), i + d = n → a.length = i → ∃ q : List ByteArray, (q.length = n ∧ (∀ t ∈ q, t ∈ a ∨ t.size = 16)) ∧ ∀ k, d + 20 < k →
  impl_leavesOf.l0 k x a (n : Int) (n : Int) (i : Int) = some q ∧ spec_l09Leaves.l0 k x a (x.length : Int) (i : Int) = some q := by
 have hh : wrap64 ((x.length : Int) / 2) = (n : Int) := by rw [w64 (by omega) (by omega)]; omega
 induction d with
 | zero =>
  intro i a hi ha
  refine ⟨a, ⟨(by omega), fun t ht => .inl ht⟩, fun k hk => ?_⟩
  obtain ⟨k, rfl⟩ : ∃ m, k = m + 1 := ⟨k - 1, (by omega)⟩
  rw [impl_leavesOf.l0, if_neg (by omega), spec_l09Leaves.l0, hh, if_neg (by omega)]
  exact ⟨rfl, rfl⟩
 | succ d ih =>
  intro i a hi ha
  obtain ⟨q, ⟨hq, hqs⟩, hk2⟩ := ih (i + 1) (a ++ [leaf_ x n i]) (by omega) (by rw [List.length_append, ha]; rfl)
  refine ⟨q, ⟨hq, fun t ht => ?_⟩, fun k hk => ?_⟩
  ·
   rcases hqs t ht with h | h
   ·
    rcases List.mem_append.1 h with h | h
    ·
     exact .inl h
    ·
     obtain rfl := List.mem_singleton.1 h
     exact .inr (leaf_size _ _ _)
   ·
    exact .inr h
  ·
   obtain ⟨k, rfl⟩ : ∃ m, k = m + 1 := ⟨k - 1, (by omega)⟩
   obtain ⟨e1, e2⟩ := hk2 k (by omega)
   have hw : wrap64 ((i : Int) + (n : Int)) = ((i + n : Nat) : Int) := by rw [w64 (by omega) (by omega)]; omega
   have r0 : rd_T34 x (i : Int) = x.getD i zE := by rw [rdE, Int.toNat_natCast]
   have r1 : rd_T34 x ((i + n : Nat) : Int) = x.getD (i + n) zE := by rw [rdE, Int.toNat_natCast]
   rw [impl_leavesOf.l0, spec_l09Leaves.l0, hh, hw, if_pos (by omega), if_pos (by omega), if_pos (by omega), if_pos (by omega), if_pos (by omega), if_pos (by omega), if_pos (by omega), if_pos (by omega), if_pos (by omega), if_pos (by omega), r0, r1, extBytes_eq (by simp) (by simp; omega), specBytes_eq (by simp) (by simp; omega)]
   simp only [bS]
   have h8 : a.length < 8796093022208 := by omega
   rw [if_pos h8, if_pos h8, w64 (by omega) (by omega), show (i : Int) + 1 = ((i + 1 : Nat) : Int) by omega]
   exact ⟨e1, e2⟩
theorem leaves_same {x : List E} {n : Nat} (hn : x.length = 2 * n) (hb : n ≤ 256) : ∃ q : List ByteArray, (q.length = n ∧ ∀ t ∈ q, t.size = 16) ∧ ∀ k, 1000 < k → impl_leavesOf.f k x = some q ∧ spec_l09Leaves.f k x = some q := by
 obtain ⟨q, ⟨hq, hqs⟩, hk⟩ := leaves_l0 x n hn hb n 0 [] (by omega) rfl
 refine ⟨q, ⟨hq, fun t ht => (hqs t ht).elim (fun h => by cases h) id⟩, fun k hk2 => ?_⟩
 obtain ⟨e1, e2⟩ := hk k (by omega)
 unfold impl_leavesOf.f spec_l09Leaves.f
 rw [show wrap64 ((x.length : Int) / 2) = (n : Int) by rw [w64 (by omega) (by omega)]; omega]
 rw [Int.natCast_zero] at e1 e2
 exact ⟨e1, e2⟩
theorem rise_some : ∀ (t k : Nat) (l : List ByteArray), t < k → l.length = 2 ^ t → ∃ rest, rise k l = some rest ∧ rest.length = t ∧ ∃ p r, (l :: rest) = p ++ [r] ∧ r.length = 1
 | 0, k, l, hk, h0 => by
  obtain ⟨k, rfl⟩ : ∃ m, k = m + 1 := ⟨k - 1, (by omega)⟩
  have h1 : l.length = 1 := h0
  exact ⟨[], (by rw [rise, if_pos (by omega)]), rfl, [], l, rfl, h1⟩
 | t + 1, k, l, hk, h0 => by
  obtain ⟨k, rfl⟩ : ∃ m, k = m + 1 := ⟨k - 1, (by omega)⟩
  have h2 : 2 ^ (t + 1) = 2 * 2 ^ t := by rw [Nat.pow_succ]; omega
  have h3 : 0 < 2 ^ t := Nat.pow_pos (by omega)
  obtain ⟨rest, e, er, p, r, e2, h1⟩ := rise_some t k (pairs l) (by omega) (by rw [pairs_length]; omega)
  refine ⟨pairs l :: rest, ?_, (by rw [List.length_cons, er]), l :: p, r, (by rw [e2]; rfl), h1⟩
  rw [rise, if_neg (by omega), if_pos (by omega), e]
  rfl
theorem last_root {p : List (List ByteArray)} {r : List ByteArray} (h1 : r.length = 1) (hp : p.length ≤ 1000) : impl_rootOf.f (p ++ [r]) = some (rdOf ByteArray.empty r 0) := by
 have e : wrap64 (((p ++ [r]).length : Int) - 1) = (p.length : Int) := by rw [List.length_append, List.length_singleton, w64 (by omega) (by omega)]; omega
 have er : rd_L9 (p ++ [r]) (p.length : Int) = r := by
  unfold rd_L9
  rw [Int.toNat_natCast]
  simp [List.getD]
 unfold impl_rootOf.f
 rw [e, er, if_pos (by omega), if_pos (by rw [List.length_append, List.length_singleton]; omega), if_pos (by omega)]
theorem root_some {l : List ByteArray} {t : Nat} (ht : t ≤ 12) (h0 : l.length = 2 ^ t) (hs : ∀ x ∈ l, x.size = 16) : ∃ rows root, levels_ l = some rows ∧ impl_rootOf.f rows = some root ∧ spec_l04Root.f l = some root := by
 have hb : 2 ^ t ≤ 4096 := Nat.le_trans (Nat.pow_le_pow_right (by omega) ht) (by decide)
 obtain ⟨rest, e, er, p, r, e2, h1⟩ := rise_some t 20 (l.map hl) (by omega) (by rw [List.length_map]; exact h0)
 have hp : p.length ≤ 1000 := by
  have := congrArg List.length e2
  rw [List.length_cons, List.length_append, List.length_singleton] at this
  omega
 have el : levels_ l = some (p ++ [r]) := by
  unfold levels_
  rw [if_pos ⟨(by omega), List.all_eq_true.2 (fun x hx => decide_eq_true (by rw [hs x hx]; omega))⟩, e, ← e2]
  rfl
 refine ⟨p ++ [r], rdOf ByteArray.empty r 0, el, last_root h1 hp, ?_⟩
 have e3 := last_root (p := p) h1 hp
 unfold impl_rootOf.f at e3
 unfold spec_l04Root.f spec_l04Levels.f
 rw [el]
 simp only [bS]
 exact e3
end Go.Proofs.Ytgookagndlfehaa.PT
end
section
/- The commitment of a table, alike on both sides; the argument stays as it was. -/
namespace Go.Proofs.Ytgookagndlfehaa.fnExactCommitTable
open Go.Proofs.Ytgookagndlfehaa.PT Go.RowKit Go.Proofs.YtgookagndlfehaaO Go.Proofs.YtgookagndlfehaaW.PrintWords Go.Proofs.YtgookagndlfehaaW.PrintLast Go.Proofs.YtgookagndlfehaaW.PrintMore
set_option linter.unusedVariables false
set_option linter.unusedSimpArgs false
theorem pow_of {n : Nat} (h : (n : Int) = 1 ∨ (n : Int) = 2 ∨ (n : Int) = 4 ∨ (n : Int) = 8 ∨ (n : Int) = 16 ∨ (n : Int) = 32 ∨ (n : Int) = 64) : ∃ t, t ≤ 6 ∧ n = 2 ^ t := by
 rcases h with h | h | h | h | h | h | h
 ·
  exact ⟨0, (by omega), (by omega)⟩
 ·
  exact ⟨1, (by omega), (by omega)⟩
 ·
  exact ⟨2, (by omega), (by omega)⟩
 ·
  exact ⟨3, (by omega), (by omega)⟩
 ·
  exact ⟨4, (by omega), (by omega)⟩
 ·
  exact ⟨5, (by omega), (by omega)⟩
 ·
  exact ⟨6, (by omega), (by omega)⟩
theorem vars_is {n : Int} {k : Nat} (hk : 10 < k) (h : pow2B n 64 = true) : spec_l09Vars.f k n = some (decide (2 ≤ n ∧ n ≤ 64)) := by
 have hp := pow2B_64 h
 unfold spec_l09Vars.f
 rw [spec_l04Power_eq (by omega) hk, h]
 simp only [bS, if_true]
 congr 1
 rw [decide_eq_decide]
 omega
theorem same (l : List E) (a : Int) (h0 : l.length ≤ 1048576) : ∃ r : ByteArray × Int, ∀ k, l.length + 20000 ≤ k → spec_CommitTable.f (k + 1) l a = some r ∧ impl_CommitTable.f (k + 1) l a = some r := by
 by_cases h : (l.length : Int) > 4096
 ·
  refine ⟨((⟨#[]⟩ : ByteArray), 2), fun k hk => ?_⟩
  unfold spec_CommitTable.f impl_CommitTable.f
  rw [if_pos h, if_pos h]; exact ⟨rfl, rfl⟩
 ·
  by_cases ho : (pow2B l.length 64 && okLB l) = true
  ·
   have hok : okL l := (okLB_iff l).1 (by rw [Bool.and_eq_true] at ho; exact ho.2)
   have hpw : pow2B l.length 64 = true := by rw [Bool.and_eq_true] at ho; exact ho.1
   have hp := pow2B_64 hpw
   obtain ⟨n, hn, hln⟩ := pow_of hp
   by_cases h2 : 2 ≤ (l.length : Int) ∧ (l.length : Int) ≤ 64
   ·
    by_cases h3 : 1 ≤ a ∧ a ≤ 3
    ·
     obtain ⟨s, hs1, hs3, rfl⟩ : ∃ s : Nat, 1 ≤ s ∧ s ≤ 3 ∧ a = (s : Int) := ⟨a.toNat, (by omega), (by omega), (by omega)⟩
     obtain ⟨q, ⟨hqo, hql⟩, hk3⟩ := turnminus_eq hok (by omega)
     obtain ⟨x, ⟨hxo, hxl⟩, hk4⟩ := encode_same (l := q) hqo (t := n) (s := s) (by omega) (by omega)
     have hx2 : x.length = 2 * 2 ^ (n + s - 1) := by
      rw [hxl, ← Nat.pow_succ', show (n + s - 1).succ = n + s by omega]
     have hxb : 2 ^ (n + s - 1) ≤ 256 := Nat.le_trans (Nat.pow_le_pow_right (by omega) (show n + s - 1 ≤ 8 by omega)) (by decide)
     obtain ⟨v, ⟨hvl, hvs⟩, hk5⟩ := leaves_same hx2 hxb
     obtain ⟨rows, root, er, e1, e2⟩ := root_some (l := v) (t := n + s - 1) (by omega) hvl hvs
     refine ⟨(root, 0), fun k hk => ?_⟩
     obtain ⟨c1, c2⟩ := hk3 (k + 1) (by omega)
     obtain ⟨c1', c2'⟩ := hk3 k (by omega)
     obtain ⟨d1, d2⟩ := hk4 (k + 1) (by omega)
     obtain ⟨d1', d2'⟩ := hk4 k (by omega)
     obtain ⟨f1, f2⟩ := hk5 (k + 1) (by omega)
     obtain ⟨f1', f2'⟩ := hk5 k (by omega)
     unfold spec_CommitTable.f impl_CommitTable.f
     rw [if_neg h, if_neg h, spec_TableOK_eq (by omega) (by omega), impl_TableOK_eq, ho]
     simp only [bS, if_true]
     rw [vars_is (by omega) hpw, impl_in_eq, decide_eq_true h2]
     simp only [bS, if_true]
     rw [spec_l01In_eq, impl_in_eq, decide_eq_true h3]
     simp only [bS, if_true, spec_CommitTable.j0, Bool.not_true, Bool.false_eq_true, if_false]
     unfold spec_l09Word.f impl_coefsOf.f impl_commit.f impl_levels.f
     rw [c2', c1]
     simp only [bS]
     rw [d1', d2]
     simp only [bS]
     rw [f2', f1]
     simp only [bS]
     rw [e2, er]
     simp only [bS]
     rw [e1]
     exact ⟨(by first | trivial | rfl), (by first | trivial | rfl)⟩
    ·
     refine ⟨((⟨#[]⟩ : ByteArray), 4), fun k hk => ?_⟩
     unfold spec_CommitTable.f impl_CommitTable.f
     rw [if_neg h, if_neg h, spec_TableOK_eq (by omega) (by omega), impl_TableOK_eq, ho]
     simp only [bS, if_true]
     rw [vars_is (by omega) hpw, impl_in_eq, decide_eq_true h2]
     simp only [bS, if_true]
     rw [spec_l01In_eq, impl_in_eq, decide_eq_false h3]
     exact ⟨(by first | trivial | rfl), (by first | trivial | rfl)⟩
   ·
    refine ⟨((⟨#[]⟩ : ByteArray), 4), fun k hk => ?_⟩
    unfold spec_CommitTable.f impl_CommitTable.f
    rw [if_neg h, if_neg h, spec_TableOK_eq (by omega) (by omega), impl_TableOK_eq, ho]
    simp only [bS, if_true]
    rw [vars_is (by omega) hpw, impl_in_eq, decide_eq_false h2]
    exact ⟨rfl, rfl⟩
  ·
   refine ⟨((⟨#[]⟩ : ByteArray), 1), fun k hk => ?_⟩
   unfold spec_CommitTable.f impl_CommitTable.f
   rw [if_neg h, if_neg h, spec_TableOK_eq (by omega) (by omega), impl_TableOK_eq]
   simp only [bS]
   rw [if_neg ho, if_neg ho]; exact ⟨rfl, rfl⟩
theorem pureFnExactCommitTable : Pure := by
 intro x a hx _
 by_cases h : (x.length : Int) ≤ 1048576
 ·
  have hl := convL_length x
  obtain ⟨r, hsame⟩ := same (convL x) a (by omega)
  refine ⟨(x.length + 20000) + 1 + 1, ?_⟩
  unfold laws_FnExactCommitTable.f
  generalize hK : x.length + 20000 = K
  have s1 := hsame (K + 1) (by omega)
  rw [szExtS_fit (by omega) h]
  simp only [bS]
  rw [if_neg (by omega), toExtS_eq (k := K + 1 + 1) (by omega) (by omega)]
  simp only [bS]
  rw [s1.1]
  simp only [bS]
  rw [s1.2]
  simp only [bS, if_true, bne_self_eq_false, laws_FnExactCommitTable.j0, Bool.false_eq_true, if_false]
  rw [toExtS_eq (k := K + 1) (by omega) (by omega)]
  simp only [bS]
  rw [eqExtS_refl (k := K + 1) (by omega) (by omega)]
  simp only [bS, if_true]
 ·
  refine ⟨1, ?_⟩
  unfold laws_FnExactCommitTable.f
  rw [szExtS_big (by omega) (by omega) hx.1 (by omega)]
  simp
end Go.Proofs.Ytgookagndlfehaa.fnExactCommitTable
end
