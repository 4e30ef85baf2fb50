/- Part 3 of the proof of FnExactCommitTable: what functions compute, shown step by step, and what that says (the claim's last text states the law). -/
import Derived.Test.YtgookagndlfehaaProg
import Derived.Test.YtgookagndlfehaaVMore
import Derived.Test.YtgookagndlfehaaVWords
import Derived.Test.YtgookagndlfehaaVLast
import Derived.Test.YtgookagndlfehaaVTab
import Derived.Test.YtgookagndlfehaaVFour
import Derived.Test.YtgookagndlfehaaVQPut
import Derived.Test.YtgookagndlfehaaVApart
import Derived.Test.YtgookagndlfehaaVArr
import Derived.Test.YtgookagndlfehaaVZeros
import Derived.Test.YtgookagndlfehaaVFoot
import Derived.Test.YtgookagndlfehaaVKept
import Derived.Test.YtgookagndlfehaaVShare
import Derived.Test.YtgookagndlfehaaVN
import Derived.Test.YtgookagndlfehaaVRepsOne
import Derived.Test.YtgookagndlfehaaVInv
import Derived.Test.YtgookagndlfehaaVNEv
import Derived.Test.YtgookagndlfehaaRows
import Derived.JoinedOf
import Derived.WalkKit
import Derived.ProofKit
import Derived.Below
import Derived.Deep.Draws
import Derived.Deep.AppendLies
import Derived.Maps.AppendAt
import Derived.OwnWalk
import Derived.Laws.BytesArg
import Derived.Laws.MakeOwn
import Derived.Laws.OwnMore
import Derived.Deep.OwnRows
import Derived.Tactics
import Derived.Lib.ConvBytes
import Derived.Laws.Slices
import Derived.KernelRfl
import Derived.RowKit3
import Derived.Deep.LoopGhost
import Derived.Deep.QuietTactic
import Derived.BigQuiet
import Derived.WideLaws
import Derived.Deep.DeepCutAuto
import Derived.Deep.CutBlock
import Derived.Deep.RegionHeld3
import Derived.Laws.Rows
import Derived.Lib.AppendStr
import Derived.ArgAppend
import Derived.Laws.IdiomCopy
import Derived.OrdersHeld
import Derived.Laws.BitsLemmas
import Derived.RowKit
import Derived.Deep.DeepMust
import Derived.Laws.CopyOwn
import Derived.Lib.BufferMore
import Derived.Lib.SliceRun
import Derived.Shelf.Small.Bits
import Derived.Shelf.Strconv.Itoa0
import Derived.OpenShut
import Derived.ShutString
import Derived.ChangeOld
import Derived.SizedLaws
import Derived.Deep.Slices
import Derived.ChangeArms
import Derived.Test.YtgookagndlfehaaZFnExactCommitTable2
section
namespace Go.Proofs.Ytgookagndlfehaa.PT
open Go.RowKit Go.Proofs.YtgookagndlfehaaW.PrintWords Go.Proofs.YtgookagndlfehaaW.PrintLast Go.Proofs.YtgookagndlfehaaW.PrintMore
attribute [local go_sem] max2_int min2_int max_two min_two max_three min_three max_four min_four   -- for this text's walks alone
set_option linter.unusedVariables false
set_option linter.unusedSimpArgs false
def impl_isPower.f (a0 : Int) (a1 : Int) : Option (Bool) := (impl_in.f a0 1 a1).bind fun t101 => (if t101 = true then (some ((Go.bits .and .i64 a0 (wrap64 (a0 - 1))) == 0)) else (some false))
set_option maxHeartbeats 8000000 in
set_option maxRecDepth 100000 in
theorem impl_isPower.calls (a0 : Int) (a1 : Int) (r : Bool) (w : World) (h : impl_isPower.f a0 a1 = some r) :
  Calls Try.prog 108 #[.int .i64 a0, .int .i64 a1] w fun e w' => e = .returned (.bool r) ∧ Drawn0 w w' := by
 have H : ((impl_in.f a0 1 a1).bind fun t101 => (if t101 = true then (some ((Go.bits .and .i64 a0 (wrap64 (a0 - 1))) == 0)) else (some false))) = some r := h
 clear h
 replace H := Option.bind_eq_some_iff.mp H
 obtain ⟨t101, A30, H⟩ := H
 replace H : (if t101 = true then (some ((Go.bits .and .i64 a0 (wrap64 (a0 - 1))) == 0)) else (some false)) = some r := H
 have A3 := am_ A30
 clear A30
 by_cases c4 : t101 = true
 ·
  subst c4
  have H1 : (some ((Go.bits .and .i64 a0 (wrap64 (a0 - 1))) == 0)) = some r := by rw [if_pos rfl] at H; exact H
  clear H
  have H := H1
  clear H1
  obtain rfl := Option.some.inj H
  go_enter Try.func108, Try.ntmps108
  go_wp2_with (first | ((with_reducible refine gate_callee (f := 44) rfl ?_); refine goesL_ (some 7) rfl rfl Try.func44 (by kernel_rfl) rfl #[.int .i64 a0, .int .i64 1, .int .i64 a1] rfl qz2_ ?_; (with_reducible refine (impl_in.calls a0 1 a1 true _ A3.out).mono ?_); rintro e w' ⟨rfl, ⟨nd, rfl⟩⟩; refine ⟨_, rfl, ?_⟩))
  go_ret
  exact ⟨qz0_, qz1_⟩
 ·
  replace c4 := Bool.eq_false_iff.mpr c4
  subst c4
  have H1 : (some false) = some r := by rw [if_neg (show ¬ (false = true) by decide)] at H; exact H
  clear H
  have H := H1
  clear H1
  obtain rfl := Option.some.inj H
  go_enter Try.func108, Try.ntmps108
  go_wp2_with (first | ((with_reducible refine gate_callee (f := 44) rfl ?_); refine goesL_ (some 7) rfl rfl Try.func44 (by kernel_rfl) rfl #[.int .i64 a0, .int .i64 1, .int .i64 a1] rfl qz2_ ?_; (with_reducible refine (impl_in.calls a0 1 a1 false _ A3.out).mono ?_); rintro e w' ⟨rfl, ⟨nd, rfl⟩⟩; refine ⟨_, rfl, ?_⟩))
  go_ret
  exact ⟨qz0_, qz1_⟩

def impl_TableOK.f (l0 : List (S34)) : Option (Bool) := (impl_isPower.f (l0.length : Int) 64).bind fun t101 => (if t101 = true then ((impl_are_Ext_ExtOK.f l0).bind fun t102 => (some t102)) else (some false))
set_option maxHeartbeats 8000000 in
set_option maxRecDepth 100000 in
theorem impl_TableOK.calls (A0 : Option Addr) (c0 : Nat) (l0 : List (S34)) (r : Bool) (w : World) (hr0 : Kd.C k34 w A0 l0.length l0) (hc0 : l0.length ≤ c0) (h : impl_TableOK.f l0 = some r) :
  Calls Try.prog 65 #[.slice A0 l0.length c0] w fun e w' => e = .returned (.bool r) ∧ Below w.heap.size w w' := by
 have HR0 := am_ hr0
 have HC0 := am_ hc0
 clear hr0 hc0
 have HB := am_ (Below.refl w.heap.size w)
 have H : ((impl_isPower.f (l0.length : Int) 64).bind fun t101 => (if t101 = true then ((impl_are_Ext_ExtOK.f l0).bind fun t102 => (some t102)) else (some false))) = some r := h
 clear h
 replace H := Option.bind_eq_some_iff.mp H
 obtain ⟨t101, A20, H⟩ := H
 replace H : (if t101 = true then ((impl_are_Ext_ExtOK.f l0).bind fun t102 => (some t102)) else (some false)) = some r := H
 have A2 := am_ A20
 clear A20
 by_cases c3 : t101 = true
 ·
  subst c3
  have H1 : ((impl_are_Ext_ExtOK.f l0).bind fun t102 => (some t102)) = some r := by rw [if_pos rfl] at H; exact H
  clear H
  have H := H1
  clear H1
  replace H := Option.bind_eq_some_iff.mp H
  obtain ⟨t102, A40, H⟩ := H
  replace H : (some t102) = some r := H
  have A4 := am_ A40
  clear A40
  obtain rfl := Option.some.inj H
  go_enter Try.func65, Try.ntmps65
  go_wp2_with (first | ((with_reducible refine gate_callee (f := 108) rfl ?_); refine goesL_ (some 5) rfl rfl Try.func108 (by kernel_rfl) rfl #[.int .i64 (l0.length : Int), .int .i64 64] rfl qz2_ ?_; (with_reducible refine (impl_isPower.calls (l0.length : Int) 64 true _ A2.out).mono ?_); rintro e w' ⟨rfl, ⟨nd, rfl⟩⟩; refine ⟨_, rfl, ?_⟩) | (go_at_call 42; (with_reducible refine (impl_are_Ext_ExtOK.calls  _ _ l0 t102 _ ?side1 ?side2 A4.out).mono ?_); (case side1 => exact qc_ HR0.out); (case side2 => exact HC0.out); rintro e w5 ⟨rfl, hb⟩; have n0_ := am_ (below_step qz3_ hb); clear HB; have HB := n0_; clear n0_; (try clear hb); (try clear hb2); (try clear hk); (try clear hi)))
  go_ret
  exact ⟨qz4_, qz3_⟩
 ·
  replace c3 := Bool.eq_false_iff.mpr c3
  subst c3
  have H1 : (some false) = some r := by rw [if_neg (show ¬ (false = true) by decide)] at H; exact H
  clear H
  have H := H1
  clear H1
  obtain rfl := Option.some.inj H
  go_enter Try.func65, Try.ntmps65
  go_wp2_with (first | ((with_reducible refine gate_callee (f := 108) rfl ?_); refine goesL_ (some 5) rfl rfl Try.func108 (by kernel_rfl) rfl #[.int .i64 (l0.length : Int), .int .i64 64] rfl qz2_ ?_; (with_reducible refine (impl_isPower.calls (l0.length : Int) 64 false _ A2.out).mono ?_); rintro e w' ⟨rfl, ⟨nd, rfl⟩⟩; refine ⟨_, rfl, ?_⟩))
  go_ret
  exact ⟨qz4_, qz3_⟩

def impl_rootOf.f (l0 : List (List ByteArray)) : Option (ByteArray) := if 0 ≤ (wrap64 ((l0.length : Int) - 1)) then (if (wrap64 ((l0.length : Int) - 1)) < (l0.length : Int) then (if 0 < ((rd_L9 l0 (wrap64 ((l0.length : Int) - 1))).length : Int) then (some (rdOf ByteArray.empty (rd_L9 l0 (wrap64 ((l0.length : Int) - 1))) 0)) else (none)) else (none)) else (none)
set_option maxHeartbeats 8000000 in
set_option maxRecDepth 100000 in
theorem impl_rootOf.calls (A0 : Option Addr) (c0 : Nat) (l0 : List (List ByteArray)) (r : ByteArray) (w : World) (hr0 : Kd.C (Kd.slice 9 Kd.string) w A0 l0.length l0) (hc0 : l0.length ≤ c0) (h : impl_rootOf.f l0 = some r) :
  Calls Try.prog 66 #[.slice A0 l0.length c0] w fun e w' => e = .returned (.string r) ∧ Drawn0 w w' := by
 have HR0 := am_ hr0
 have HC0 := am_ hc0
 clear hr0 hc0
 have H : (if 0 ≤ (wrap64 ((l0.length : Int) - 1)) then (if (wrap64 ((l0.length : Int) - 1)) < (l0.length : Int) then (if 0 < ((rd_L9 l0 (wrap64 ((l0.length : Int) - 1))).length : Int) then (some (rdOf ByteArray.empty (rd_L9 l0 (wrap64 ((l0.length : Int) - 1))) 0)) else (none)) else (none)) else (none)) = some r := h
 clear h
 obtain ⟨ji2, hji2⟩ : ∃ j_ : Int, (wrap64 ((l0.length : Int) - 1)) = j_ := ⟨_, rfl⟩
 replace H : (if 0 ≤ (ji2) then (if (ji2) < (l0.length : Int) then (if 0 < ((rd_L9 l0 (ji2)).length : Int) then (some (rdOf ByteArray.empty (rd_L9 l0 (ji2)) 0)) else (none)) else (none)) else (none)) = some r := by first | (rw [hji2] at H; exact H) | (simp only [hji2] at H ⊢; exact H)
 have hji2w : (IntKind.i64.wrap ((l0.length : Int) - 1)) = ji2 := (i64_w _).trans hji2
 by_cases c3 : 0 ≤ (ji2)
 ·
  rw [if_pos c3] at H
  have c3b0 : decide (0 ≤ (ji2)) = true := decide_eq_true c3
  clear c3
  by_cases c4 : (ji2) < (l0.length : Int)
  ·
   rw [if_pos c4] at H
   have c4b0 : decide ((ji2) < (l0.length : Int)) = true := decide_eq_true c4
   clear c4
   by_cases c5 : 0 < ((rd_L9 l0 (ji2)).length : Int)
   ·
    rw [if_pos c5] at H
    have c5b0 : decide (0 < ((rd_L9 l0 (ji2)).length : Int)) = true := decide_eq_true c5
    have c5b1 : decide (0 < (rd_L9 l0 (ji2)).length) = true := decide_eq_true (by omega)
    clear c5
    obtain rfl := Option.some.inj H
    have p101 : 0 ≤ ((ji2) : Int) := of_decide_eq_true qz6_
    have q101 : (ji2) < (l0.length : Int) := of_decide_eq_true qz6_
    obtain ⟨ad101, A101_0, c101_0, e101, hx101_0, hl101_0, hi101_0⟩ := at_L9 HR0.out (ji2) p101 q101
    cases e101
    have HR101_0 := am_ hi101_0
    have HC101_0 := am_ hl101_0
    clear hi101_0 hl101_0
    replace p101 := eq_true p101
    replace q101 := eq_true q101
    have p102 : 0 ≤ (0 : Int) := (by omega)
    have q102 : 0 < ((rd_L9 l0 (ji2)).length : Int) := of_decide_eq_true qz6_
    obtain ⟨ad102, e102, hx102_0⟩ := Kd.at_string HR101_0.out 0 p102 q102
    cases e102
    have qi102 : (0 < (rd_L9 l0 (ji2)).length) = True := eq_true (by omega)
    (try rw [show ((0 : Int)).toNat = 0 from rfl] at hx102_0)
    (try rw [Addr.add_zero'] at hx102_0)
    replace p102 := eq_true p102
    replace q102 := eq_true q102
    go_enter Try.func66, Try.ntmps66
    go_wp2
    go_ret
    exact ⟨(by first | rfl | (simp; done) | (simp only [← hji2] <;> (first | rfl | simp)) | (simp [*]; done)), qz1_⟩
   ·
    rw [if_neg c5] at H
    exact absurd H (by simp)
  ·
   rw [if_neg c4] at H
   exact absurd H (by simp)
 ·
  rw [if_neg c3] at H
  exact absurd H (by simp)

def impl_leafText.f (a0 : ByteArray) : Option (ByteArray) := if 1 + a0.size ≤ 9223372036854775807 then (some ((⟨#[0]⟩ : ByteArray) ++ a0)) else (none)
set_option maxHeartbeats 8000000 in
set_option maxRecDepth 100000 in
theorem impl_leafText.calls (a0 : ByteArray) (r : ByteArray) (w : World) (h : impl_leafText.f a0 = some r) :
  Calls Try.prog 139 #[.string a0] w fun e w' => e = .returned (.string r) ∧ Drawn0 w w' := by
 have H : (if 1 + a0.size ≤ 9223372036854775807 then (some ((⟨#[0]⟩ : ByteArray) ++ a0)) else (none)) = some r := h
 clear h
 by_cases c2 : 1 + a0.size ≤ 9223372036854775807
 ·
  rw [if_pos c2] at H
  have c2b0 := eq_true c2
  have c2b1 : decide (1 + a0.size ≤ 9223372036854775807) = true := decide_eq_true c2
  try have c2b2 : (9223372036854775807 < 1 + a0.size) = False := eq_false (Nat.not_lt.2 c2)
  obtain rfl := Option.some.inj H
  go_enter Try.func139, Try.ntmps139
  go_wp2
  go_ret
  exact ⟨qz0_, qz1_⟩
 ·
  rw [if_neg c2] at H
  exact absurd H (by simp)

def impl_nodeText.f (a0 : ByteArray) (a1 : ByteArray) : Option (ByteArray) := if 1 + a0.size ≤ 9223372036854775807 then (if ((⟨#[1]⟩ : ByteArray) ++ a0).size + a1.size ≤ 9223372036854775807 then (some (((⟨#[1]⟩ : ByteArray) ++ a0) ++ a1)) else (none)) else (none)
set_option maxHeartbeats 8000000 in
set_option maxRecDepth 100000 in
theorem impl_nodeText.calls (a0 : ByteArray) (a1 : ByteArray) (r : ByteArray) (w : World) (h : impl_nodeText.f a0 a1 = some r) :
  Calls Try.prog 140 #[.string a0, .string a1] w fun e w' => e = .returned (.string r) ∧ Drawn0 w w' := by
 have H : (if 1 + a0.size ≤ 9223372036854775807 then (if ((⟨#[1]⟩ : ByteArray) ++ a0).size + a1.size ≤ 9223372036854775807 then (some (((⟨#[1]⟩ : ByteArray) ++ a0) ++ a1)) else (none)) else (none)) = some r := h
 clear h
 by_cases c3 : 1 + a0.size ≤ 9223372036854775807
 ·
  rw [if_pos c3] at H
  have c3b0 := eq_true c3
  have c3b1 : decide (1 + a0.size ≤ 9223372036854775807) = true := decide_eq_true c3
  try have c3b2 : (9223372036854775807 < 1 + a0.size) = False := eq_false (Nat.not_lt.2 c3)
  by_cases c4 : ((⟨#[1]⟩ : ByteArray) ++ a0).size + a1.size ≤ 9223372036854775807
  ·
   rw [if_pos c4] at H
   have c4b0 := eq_true c4
   have c4b1 : decide (((⟨#[1]⟩ : ByteArray) ++ a0).size + a1.size ≤ 9223372036854775807) = true := decide_eq_true c4
   try have c4b2 : (9223372036854775807 < ((⟨#[1]⟩ : ByteArray) ++ a0).size + a1.size) = False := eq_false (Nat.not_lt.2 c4)
   try have c4b3 : (9223372036854775807 < 1 + a0.size + a1.size) = False := eq_false (Nat.not_lt.2 (by have h_ := c4; simp only [ByteArray.size_append] at h_; exact h_))
   obtain rfl := Option.some.inj H
   go_enter Try.func140, Try.ntmps140
   go_wp2
   go_ret
   exact ⟨qz0_, qz1_⟩
  ·
   rw [if_neg c4] at H
   exact absurd H (by simp)
 ·
  rw [if_neg c3] at H
  exact absurd H (by simp)

theorem lv_infoI : (Try.prog.info? 98).map (fun i => (i.zero, i.size, i.bytes)) = some (some (.slice none 0 0), 1, 24) := by kernel_rfl
theorem str_twoI {W : World} {ad : Addr} {l : List ByteArray} {i : Int} (hC : Kd.C Kd.string W (some ad) l.length l) (h0 : 0 ≤ i) (h1 : i < (l.length : Int)) : W.cell? (ad.add i.toNat) = some (.string (rdOf ByteArray.empty l i)) := by
 obtain ⟨a1, e1, h2⟩ := Kd.at_string hC i h0 h1
 injection e1 with e1
 subst e1
 exact h2
theorem leaft_eq {a : ByteArray} (h : a.size ≤ 1000) : impl_leafText.f a = some ((⟨#[0]⟩ : ByteArray) ++ a) := by
 unfold impl_leafText.f
 rw [if_pos (by omega)]
theorem leafh_eq {a : ByteArray} (h : a.size ≤ 1000) : impl_hashOf.f ((⟨#[0]⟩ : ByteArray) ++ a) = some (hl a) := by
 unfold impl_hashOf.f hl
 have e : ((⟨#[0]⟩ : ByteArray) ++ a).size = 1 + a.size := by rw [ByteArray.size_append]; rfl
 rw [if_pos (by omega)]
theorem nodet_eq {a b : ByteArray} (ha : a.size = 32) (hb : b.size = 32) : impl_nodeText.f a b = some (((⟨#[1]⟩ : ByteArray) ++ a) ++ b) := by
 unfold impl_nodeText.f
 have e : ((⟨#[1]⟩ : ByteArray) ++ a).size = 1 + a.size := by rw [ByteArray.size_append]; rfl
 rw [if_pos (by omega), if_pos (by omega)]
theorem nodeh_eq {a b : ByteArray} (ha : a.size = 32) (hb : b.size = 32) : impl_hashOf.f (((⟨#[1]⟩ : ByteArray) ++ a) ++ b) = some (hn a b) := by
 unfold impl_hashOf.f hn
 have e : ((⟨#[1]⟩ : ByteArray) ++ a).size = 1 + a.size := by rw [ByteArray.size_append]; rfl
 have e2 : (((⟨#[1]⟩ : ByteArray) ++ a) ++ b).size = 1 + a.size + b.size := by rw [ByteArray.size_append, e]
 rw [if_pos (by omega)]
def impl_levels.f (l0 : List ByteArray) : Option (List (List ByteArray)) := levels_ l0
set_option maxHeartbeats 8000000 in
set_option maxRecDepth 100000 in
theorem impl_levels.calls (A0 : Option Addr) (c0 : Nat) (l0 : List ByteArray) (r : List (List ByteArray)) (w : World) (hr0 : Kd.C Kd.string w A0 l0.length l0) (hc0 : l0.length ≤ c0) (h : impl_levels.f l0 = some r) :
  Calls Try.prog 109 #[.slice A0 l0.length c0] w fun e w' => ∃ v0_ : Value, e = .returned v0_ ∧ Kd.S (Kd.slice 9 Kd.string) 98 w' w.heap.size (fun _ => True) v0_ r ∧ Below w.heap.size w w' := by
 have HI := am_ (Inv.start w (fun w2 => Kd.C Kd.string w2 A0 l0.length l0) (fun w' hb => Kd.C_below hr0 hb))
 unfold impl_levels.f levels_ at h
 by_cases cs : l0.length ≤ 4096 ∧ l0.all (fun t => decide (t.size ≤ 1000)) = true
 ·
  rw [if_pos cs] at h
  obtain ⟨rest0, hri, hre⟩ := Option.map_eq_some_iff.1 h
  generalize r = res at hre ⊢
  have HRI := am_ hri
  have HRE := am_ (show [l0.map hl] ++ rest0 = res from hre)
  have HSZ := am_ (size_of_all cs.2)
  have HLL0 := am_ cs.1
  have HM32 := am_ (show ∀ t ∈ l0.map hl, t.size = 32 from fun t ht => by obtain ⟨x, _, rfl⟩ := List.mem_map.1 ht; exact kec_len _)
  clear hr0 hc0 h hri hre cs
  go_enter Try.func109, Try.ntmps109
  go_wp2_with (first | ((with_reducible refine gate_dst (N := 9) rfl ?_); refine Kd.R_lit Kd.string (w0 := _) _ 9 ?hg (N := 9) ?hd (xs := ([] : List ByteArray)) (inner := []) (ok := fun _ => True) (okp := fun _ => True) ?hr ?hp (fun _ hk => hk) trivial (Below.refl _ _) (Nat.le_refl _) (by simp) ?_; (case hd => rfl); (case hg => rfl); (case hr => first | (go_simp; done) | (go_simp; rfl)); (case hp => exact (Reps.none _ _)); intro v8 w8 hR hb hg hat; have HI_ := am_ ((HI.out).rowPush hb hR); clear HI; have HI := HI_; clear HI_; clear hR hb hg hat))
  go_loopg [3, 12] l0.length (fun kq v3 v4 w' => ∃ (j : Nat) (S : Nat → Prop), v4 = .int .i64 j ∧ Aside0 (j + kq = l0.length) ∧ Aside0 (Inv w NoB w' [row Kd.string 9 w.heap.size v3 ((l0.take j).map hl) S] (fun w2 => Kd.C Kd.string w2 A0 l0.length l0)))
  case atStart => exact ⟨0, _, rfl, ⟨(by omega)⟩, HI⟩
  case round =>
   clear HI
   obtain ⟨j, S, rfl, HJ, HI⟩ := hrel
   have hj := HJ.out
   cases gk with
   | succ k1 =>
    have c1 : decide ((j : Int) < (l0.length : Int)) = true := decide_eq_true (by omega)
    have c2 : decide (j < l0.length) = true := decide_eq_true (by omega)
    have q5n : j < l0.length := by omega
    have p5 : 0 ≤ (j : Int) := by omega
    have q5 : (j : Int) < (l0.length : Int) := by omega
    obtain ⟨ad, eA, hx0⟩ := Kd.at_string HI.out.now (j : Int) p5 q5
    rw [Int.toNat_natCast] at hx0
    have HMT := am_ (map_take j q5n)
    have HAS := am_ (HSZ.out _ (rd_mem q5n))
    generalize rdOf ByteArray.empty l0 (j : Int) = a at hx0 HMT HAS
    have HWJ := am_ (show wrap64 ((j : Int) + 1) = (j : Int) + 1 by have := HLL0.out; unfold wrap64; omega)
    have HJ4 := am_ (show j + 1 + k1 = l0.length by omega)
    have HLE := am_ (show j ≤ 4096 by have := HLL0.out; omega)
    subst eA
    have p6 := eq_true p5
    have q6 := eq_true q5
    have q6n := eq_true q5n
    clear hj p5 q5 q5n
    go_wp2_with (first | (go_at_call 139; (refine (impl_leafText.calls a ((⟨#[0]⟩ : ByteArray) ++ a) _ (leaft_eq HAS.out)).mono ?_); rintro e w18 ⟨rfl, ⟨n18, rfl⟩⟩; have HI_ := am_ (HI.out.drewN n18); clear HI; have HI := HI_; clear HI_) | (go_at_call 87; (refine (impl_hashOf.calls ((⟨#[0]⟩ : ByteArray) ++ a) (hl a) _ (leafh_eq HAS.out)).mono ?_); rintro e w19 ⟨rfl, hb⟩; have HI_ := am_ (HI.out.grow hb); clear HI; have HI := HI_; clear HI_; clear hb) | ((with_reducible refine gate_builtin (b := .append) (xs := #[.tmp 16, .tmp 20]) rfl ?_); at_builtin; refine Kd.R_append Kd.string (w0 := _) w.heap.size rfl (.tmp 16) (.tmp 20) 98 9 ((.string ⟨#[]⟩)) 16 rfl Try.underlying98 info9 rfl (by decide) (by omega) _ ((l0.take j).map hl) (hl a) [.string (hl a)] _ (fun _ => False) rfl rfl ?aP (fun _ hk => hk.elim) ?aF (Inv.row0W (HI.out)) (Below.refl _ _) (HI.out).agr.size ?aL ?_; (case aP => exact rfl); (case aF => exact (fun _ hk => .inr hk)); (case aL => rw [List.length_map, List.length_take]; have := HLE.out; omega); intro v22 w22 hR hb hg hat; have HI_ := am_ ((HI.out).grown0 hb hR (fun _ hk _ => hk) hg); clear HI; have HI := HI_; clear HI_; clear hR hb hg hat))
    go_roundg k1
    case measure => omega
    case rel => exact ⟨j + 1, _, by first | rfl | (rw [HWJ.out]; rfl), HJ4, ⟨(by rw [HMT.out]; exact HI.out)⟩⟩
   | zero =>
    obtain rfl : j = l0.length := by omega
    have c1 : decide ((l0.length : Int) < (l0.length : Int)) = false := decide_eq_false (by omega)
    have c2 : decide (l0.length < l0.length) = false := decide_eq_false (by omega)
    clear hj HJ
    have HI_ := HI.out
    rw [List.take_length] at HI_
    clear HI
    have HI := am_ HI_
    clear HI_
    have HI_ := HI
    clear HI
    have HI := HI_
    clear HI_
    obtain ⟨A1, c1_, eq_, hc1, _⟩ := Kd.R_reads HI.out.row0
    subst eq_
    have HI_ := am_ (Inv.takeIn (x := (A1, (l0.map hl).length, c1_)) (HI.out.noInners Kd.string 9 w.heap.size).swap)
    clear HI hc1
    have HI := HI_
    clear HI_
    go_wp2_with (first | ((with_reducible refine gate_dst (N := 24) rfl ?_); refine Kd.R_lit kv (w0 := _) _ 98 ?hg (N := 24) ?hd (xs := ([(A1, (l0.map hl).length, c1_)] : List Desc)) (inner := [.slice A1 (l0.map hl).length c1_]) (ok := fun _ => True) (okp := fun _ => True) ?hr ?hp (fun _ hk => hk) trivial (Below.refl _ _) (Nat.le_refl _) (by simp) ?_; (case hd => rfl); (case hg => rfl); (case hr => first | (go_simp; done) | (go_simp; rfl)); (case hp => exact (Reps.one (show Kd.M kv _ _ _ ((A1, (l0.map hl).length, c1_)) [.slice A1 (l0.map hl).length c1_] from rfl) (Reps.none _ _))); intro v24 w24 hR hb hg hat; obtain ⟨A24, c24, e24⟩ := Kd.R_slice hR; subst e24; have HI_ := am_ (HI.out.rowPush hb hR); clear HI; have HI := HI_; clear HI_; clear hR hb hg hat))
    go_loopg [3, 6] 20 (fun kq v3 v5 w' => ∃ (A : Option Addr) (c : Nat) (lv : List ByteArray) (ps : List (Desc × List ByteArray)) (rest : List (List ByteArray)) (So Si : Nat → Prop) (Ao : Option Addr) (no co : Nat), v3 = .slice A lv.length c ∧ v5 = .slice Ao no co ∧ Aside0 (rise kq lv = some rest) ∧ Aside0 (ps.map Prod.snd ++ rest = res) ∧ Aside0 (((A, lv.length, c), lv) ∈ ps) ∧ Aside0 ((∀ t ∈ lv, t.size = 32) ∧ lv.length ≤ 4096 ∧ ps.length + kq = 21) ∧ Aside0 (Inv w NoB w' [row kv 98 w.heap.size (.slice Ao no co) (ps.map Prod.fst) So, inners Kd.string 9 w.heap.size ps Si] (fun w2 => Kd.C Kd.string w2 A0 l0.length l0)))
    case atStart => exact ⟨A1, c1_, l0.map hl, [((A1, (l0.map hl).length, c1_), l0.map hl)], rest0, _, _, A24, _, c24, by first | rfl | rw [List.length_map], rfl, HRI, HRE, ⟨List.mem_singleton.2 rfl⟩, ⟨HM32.out, (by rw [List.length_map]; exact HLL0.out), rfl⟩, HI⟩
    case round =>
     clear HI
     obtain ⟨A, c, lv, ps, rest, So, Si, Ao, no, co, rfl, rfl, HRK, HPS, HMEM, HLV, HI⟩ := hrel
     cases gk with
     | zero => exact absurd HRK.out (by simp [rise])
     | succ k1 =>
      by_cases ce : lv.length ≤ 1
      ·
       have hr := HRK.out
       rw [rise, if_pos ce] at hr
       obtain rfl := Option.some.inj hr
       have c1 : decide ((lv.length : Int) > 1) = false := decide_eq_false (by omega)
       have c2 : decide (1 < lv.length) = false := decide_eq_false (by omega)
       have c3 : decide (1 < (lv.length : Int)) = false := decide_eq_false (by omega)
       clear hr ce HRK
       go_wp2
       go_ret
       exact ⟨_, rfl, (by have h := HI.out.slicesS; rw [← HPS.out, List.append_nil]; exact h), HI.out.below⟩
      ·
       have hr := HRK.out
       rw [rise, if_neg ce] at hr
       by_cases cm : lv.length % 2 = 0
       ·
        rw [if_pos cm] at hr
        obtain ⟨rest', hr', er⟩ := Option.map_eq_some_iff.1 hr
        subst er
        have c1 : decide ((lv.length : Int) > 1) = true := decide_eq_true (by omega)
        have c2 : decide (1 < lv.length) = true := decide_eq_true (by omega)
        have c3 : decide (1 < (lv.length : Int)) = true := decide_eq_true (by omega)
        have HRK2 := am_ hr'
        have HCM := am_ cm
        clear hr hr' HRK ce cm
        go_wp2_with (first | ((with_reducible refine gate_dst (N := 28) rfl ?_); refine Kd.R_lit Kd.string (w0 := _) _ 9 ?hg (N := 28) ?hd (xs := ([] : List ByteArray)) (inner := []) (ok := fun _ => True) (okp := fun _ => True) ?hr ?hp (fun _ hk => hk) trivial (Below.refl _ _) (Nat.le_refl _) (by simp) ?_; (case hd => rfl); (case hg => rfl); (case hr => first | (go_simp; done) | (go_simp; rfl)); (case hp => exact (Reps.none _ _)); intro v28 w28 hR hb hg hat; have HI_ := am_ ((HI.out).rowPush hb hR); clear HI; have HI := HI_; clear HI_; clear hR hb hg hat))
        clear c1 c2 c3
        go_loopg [7, 8] (lv.length / 2) (fun kq v6 v7 w' => ∃ (i : Int) (j : Nat) (Sn : Nat → Prop), v7 = .int .i64 i ∧ Aside0 (i = ((2 * j : Nat) : Int)) ∧ Aside0 (j + kq = lv.length / 2) ∧ Aside0 (Inv w NoB w' [row Kd.string 9 w.heap.size v6 ((pairs lv).take j) Sn, row kv 98 w.heap.size (.slice Ao no co) (ps.map Prod.fst) So, inners Kd.string 9 w.heap.size ps Si] (fun w2 => Kd.C Kd.string w2 A0 l0.length l0)))
        case atStart => exact ⟨0, 0, _, rfl, ⟨rfl⟩, ⟨(by omega)⟩, HI⟩
        case round =>
         clear HI
         obtain ⟨i, j, Sn, rfl, HIJ, HJ, HI⟩ := hrel
         have hj := HJ.out
         have hij := HIJ.out
         have hcm := HCM.out
         cases gk with
         | zero =>
          have c1 : decide (i < (lv.length : Int)) = false := decide_eq_false (by omega)
          have HI_ := HI.out
          rw [List.take_of_length_le (show (pairs lv).length ≤ j by rw [pairs_length]; omega)] at HI_
          clear HI
          have HI := am_ HI_
          clear HI_
          obtain ⟨An, cn, eq_, hcn, _⟩ := Kd.R_reads HI.out.row0
          subst eq_
          have HLP := am_ (show ps.length ≤ 21 by have := HLV.out.2.2; omega)
          clear hj hcm hcn HJ hij
          go_wp2_with (first | ((with_reducible refine gate_builtin (b := .append) (xs := #[.tmp 49, .tmp 51]) rfl ?_); at_builtin; refine Kd.R_append kv (w0 := _) w.heap.size rfl (.tmp 49) (.tmp 51) 102 98 (.slice none 0 0) 24 rfl Try.underlying102 lv_infoI rfl (by decide) (by omega) _ (ps.map Prod.fst) (An, (pairs lv).length, cn) [.slice An (pairs lv).length cn] _ (fun _ => False) rfl rfl ?aP (fun _ hk => hk.elim) ?aF (Inv.row0W HI.out.swap) (Below.refl _ _) HI.out.agr.size ?aL ?_; (case aP => exact rfl); (case aF => exact (fun _ hk => .inr hk)); (case aL => have := HLP.out; simp; omega); intro v52 w52 hR hb hg hat; obtain ⟨A52, c52, e52⟩ := Kd.R_slice hR; subst e52; have HI_ := am_ ((Inv.takeIn (x := (An, (pairs lv).length, cn)) (HI.out.swap.grown0 hb hR (fun _ hk _ => hk) hg).swap.swap1).swap); clear HI; have HI := HI_; clear HI_; clear hR hb hg hat))
          go_roundg k1
          case measure => omega
          case rel => exact ⟨An, cn, pairs lv, ps ++ [((An, (pairs lv).length, cn), pairs lv)], rest', _, _, A52, _, c52, rfl, rfl, HRK2, ⟨(by rw [List.map_append, List.append_assoc]; exact HPS.out)⟩, ⟨List.mem_append_right _ (List.mem_singleton.2 rfl)⟩, ⟨pairs_size lv, (by rw [pairs_length]; have := HLV.out.2.1; omega), (by rw [List.length_append, List.length_singleton]; have := HLV.out.2.2; omega)⟩, ⟨(by have h := HI.out; rw [List.length_append, List.length_map] at h; rw [List.map_append]; exact h)⟩⟩
         | succ k2 =>
          have c1 : decide (i < (lv.length : Int)) = true := decide_eq_true (by omega)
          have hl1 : 2 * j + 1 < lv.length := by omega
          have hbd := HLV.out.2.1
          obtain ⟨i2, hi2⟩ : ∃ i2 : Int, i2 = ((2 * j + 1 : Nat) : Int) := ⟨_, rfl⟩
          have p5 : 0 ≤ i := by omega
          have q5 : i < (lv.length : Int) := by omega
          have p7 : 0 ≤ i2 := by omega
          have q7 : i2 < (lv.length : Int) := by omega
          obtain ⟨ad, eA, _⟩ := Kd.at_string (HI.out.reads 2 rfl HMEM.out) i p5 q5
          subst eA
          have HX := am_ (fun (W : World) (hC : Kd.C Kd.string W (some ad) lv.length lv) => And.intro (str_twoI hC p5 q5) (str_twoI hC p7 q7))
          have HPT := am_ (show (pairs lv).take (j + 1) = (pairs lv).take j ++ [hn (rdOf ByteArray.empty lv i) (rdOf ByteArray.empty lv i2)] by rw [hij, hi2]; exact pairs_take lv j hl1)
          have HAS := am_ (HLV.out.1 _ (show rdOf ByteArray.empty lv i ∈ lv by rw [hij]; exact rd_mem (show 2 * j < lv.length by omega)))
          have HBS := am_ (HLV.out.1 _ (show rdOf ByteArray.empty lv i2 ∈ lv by rw [hi2]; exact rd_mem hl1))
          generalize rdOf ByteArray.empty lv i = a at HX HPT HAS
          generalize rdOf ByteArray.empty lv i2 = b at HX HPT HBS
          have HLL := am_ (show j ≤ 4096 by omega)
          have hwi : wrap64 (i + 1) = i2 := by unfold wrap64; omega
          have HWJ := am_ (show wrap64 (i + 2) = ((2 * (j + 1) : Nat) : Int) by unfold wrap64; omega)
          have HJ2 := am_ (show j + 1 + k2 = lv.length / 2 by omega)
          have p6 := eq_true p5
          have q6 := eq_true q5
          have p8 := eq_true p7
          have q8 := eq_true q7
          clear hj hcm hij hi2 p5 q5 p7 q7 hl1 hbd
          go_wp2
          refine start_ (n := 15) (S := fun w' => w'.cell? (ad.add i.toNat) = some (.string a) ∧ w'.cell? (ad.add i2.toNat) = some (.string b)) (ds := []) #[false, false, false, false, false, false, false, false, false, false, false, false, false, false, false] (by kernel_rfl) rfl rfl (HX.out _ (HI.out.drew.reads 2 rfl HMEM.out)) (fun hHeld => ?_)
          have HI_ := am_ (HI.out.drew); clear HI; have HI := HI_; clear HI_
          generalize World.drew _ = wd0 at HI hHeld ⊢
          refine pure_ (i := 0) (N := some 35) (v := ?_) (a' := ?_) #[true, false, false, false, false, false, false, false, false, false, false, false, false, false, false] rfl rfl (by kernel_rfl) (fun _ _ _ h => h) (Or.inl ⟨(by rfl), ?_⟩) ?_ ?_
          rotate_left
          ·
           intro w'
           go_simp
           with_reducible rfl
          rotate_left
          ·
           exact ap_
          refine pure_ (i := 1) (N := some 36) (v := ?_) (a' := ?_) #[true, true, false, false, false, false, false, false, false, false, false, false, false, false, false] rfl rfl (by kernel_rfl) (fun _ _ _ h => h) (Or.inl ⟨(by rfl), ?_⟩) ?_ ?_
          rotate_left
          ·
           intro w'
           go_simp
           with_reducible rfl
          rotate_left
          ·
           exact ap_
          refine pure_ (i := 2) (N := some 37) (v := ?_) (a' := ?_) #[true, true, true, false, false, false, false, false, false, false, false, false, false, false, false] rfl rfl (by kernel_rfl) (fun _ _ _ h => h) (Or.inl ⟨(by rfl), ?_⟩) ?_ ?_
          rotate_left
          ·
           intro w'
           go_simp
           with_reducible rfl
          rotate_left
          ·
           exact ap_
          refine pure_ (i := 3) (N := some 38) (v := ?_) (a' := ?_) #[true, true, true, true, false, false, false, false, false, false, false, false, false, false, false] rfl rfl (by kernel_rfl) (fun _ _ _ h => h) (Or.inl ⟨(by rfl), ?_⟩) ?_ ?_
          rotate_left
          ·
           intro w'
           go_simp
           with_reducible rfl
          rotate_left
          ·
           exact ap_
          refine take_ (i := 4) (N := some 39) (v := ?_) (a' := ?_) #[true, true, true, true, true, false, false, false, false, false, false, false, false, false, false] rfl rfl (by kernel_rfl) (fun _ _ _ h => h) (Or.inl ⟨(by rfl), ?_⟩) hHeld ?_ ?_
          rotate_left
          ·
           rintro w' ⟨s0, s1⟩
           go_simp
           with_reducible rfl
          rotate_left
          ·
           exact ap_
          refine pure_ (i := 5) (N := some 40) (v := ?_) (a' := ?_) #[true, true, true, true, true, true, false, false, false, false, false, false, false, false, false] rfl rfl (by kernel_rfl) (fun _ _ _ h => h) (Or.inl ⟨(by rfl), ?_⟩) ?_ ?_
          rotate_left
          ·
           intro w'
           go_simp
           with_reducible rfl
          rotate_left
          ·
           exact ap_
          refine pure_ (i := 6) (N := some 41) (v := ?_) (a' := ?_) #[true, true, true, true, true, true, true, false, false, false, false, false, false, false, false] rfl rfl (by kernel_rfl) (fun _ _ _ h => h) (Or.inl ⟨(by rfl), ?_⟩) ?_ ?_
          rotate_left
          ·
           intro w'
           go_simp
           with_reducible rfl
          rotate_left
          ·
           exact ap_
          refine pure_ (i := 7) (N := some 42) (v := ?_) (a' := ?_) #[true, true, true, true, true, true, true, true, false, false, false, false, false, false, false] rfl rfl (by kernel_rfl) (fun _ _ _ h => h) (Or.inl ⟨(by rfl), ?_⟩) ?_ ?_
          rotate_left
          ·
           intro w'
           go_simp
           with_reducible rfl
          rotate_left
          ·
           exact ap_
          refine pure_ (i := 8) (N := some 43) (v := ?_) (a' := ?_) #[true, true, true, true, true, true, true, true, true, false, false, false, false, false, false] rfl rfl (by kernel_rfl) (fun _ _ _ h => h) (Or.inl ⟨(by rfl), ?_⟩) ?_ ?_
          rotate_left
          ·
           intro w'
           go_simp
           with_reducible rfl
          rotate_left
          ·
           exact ap_
          refine take_ (i := 9) (N := some 44) (v := ?_) (a' := ?_) #[true, true, true, true, true, true, true, true, true, true, false, false, false, false, false] rfl rfl (by kernel_rfl) (fun _ _ _ h => h) (Or.inl ⟨(by rfl), ?_⟩) hHeld ?_ ?_
          rotate_left
          ·
           rintro w' ⟨s0, s1⟩
           go_simp
           with_reducible rfl
          rotate_left
          ·
           exact ap_
          refine one_ (i := 10) (N := some 45) #[true, true, true, true, true, true, true, true, true, true, true, false, false, false, false] rfl rfl (by kernel_rfl) (by decide) (fun K hK => ?_)
          refine goes_ Try.func140 (by kernel_rfl) rfl #[.string a, .string b] (by rfl) rfl rfl (by (try simp only [List.map_toArray, List.map_cons, List.map_nil]); first | done | rfl) ?_
          with_reducible refine (impl_nodeText.calls a b (((⟨#[1]⟩ : ByteArray) ++ a) ++ b) _ (nodet_eq HAS.out HBS.out)).mono ?_
          rintro e w45 ⟨rfl, ⟨n45, rfl⟩⟩
          have HI_ := am_ (HI.out.drewN n45); clear HI; have HI := HI_; clear HI_
          refine ⟨_, rfl, ?_⟩
          refine hK.out _ _ (HX.out _ (HI.out.reads 2 rfl HMEM.out)) (fun hHeld => ?_)
          clear hK K
          refine norm_ (a' := ?_) ?_ ?_
          rotate_left
          ·
           show Act.put _ (some 45) _ = _
           exact ap_
          refine one_ (i := 11) (N := some 46) #[true, true, true, true, true, true, true, true, true, true, true, true, false, false, false] rfl rfl (by kernel_rfl) (by decide) (fun K hK => ?_)
          refine goes_ Try.func87 (by kernel_rfl) rfl #[.string (((⟨#[1]⟩ : ByteArray) ++ a) ++ b)] (by rfl) rfl rfl (by (try simp only [List.map_toArray, List.map_cons, List.map_nil]); first | done | rfl) ?_
          with_reducible refine (impl_hashOf.calls (((⟨#[1]⟩ : ByteArray) ++ a) ++ b) (hn a b) _ (nodeh_eq HAS.out HBS.out)).mono ?_
          rintro e w46 ⟨rfl, hb⟩
          have HI_ := am_ (HI.out.grow hb); clear HI; have HI := HI_; clear HI_
          clear hb
          refine ⟨_, rfl, ?_⟩
          refine hK.out _ _ (HX.out _ (HI.out.reads 2 rfl HMEM.out)) (fun hHeld => ?_)
          clear hK K
          refine norm_ (a' := ?_) ?_ ?_
          rotate_left
          ·
           show Act.put _ (some 46) _ = _
           exact ap_
          refine one_ (i := 12) (N := some 47) #[true, true, true, true, true, true, true, true, true, true, true, true, true, false, false] rfl rfl (by kernel_rfl) (by decide) (fun K hK => ?_)
          refine value_ (w1 := ?_) (v := ?_) (by rfl) rfl ?_ ?_
          rotate_left 2
          ·
           go_simp
           constructor
           ·
            rfl
           ·
            rfl
          refine hK.out _ _ (HX.out _ ((HI.out.alloc _).reads 2 rfl HMEM.out)) (fun hHeld => ?_)
          clear hK K
          refine norm_ (a' := ?_) ?_ ?_
          rotate_left
          ·
           show Act.put _ (some 47) _ = _
           exact ap_
          refine one_ (i := 13) (N := some 48) #[true, true, true, true, true, true, true, true, true, true, true, true, true, true, false] rfl rfl (by kernel_rfl) (by decide) (fun K hK => ?_)
          refine Kd.R_append_step Kd.string (w0 := _) w.heap.size (by rfl) (.tmp 35) (.tmp 47) 98 9 (.string ⟨#[]⟩) 16 rfl Try.underlying98 info9 rfl (by decide) (by omega) _ ((pairs lv).take j) (hn a b) [.string (hn a b)] _ (fun _ => False) rfl rfl ?aP (fun _ hk => hk.elim) ?aF (Inv.row0W HI.out) (Below.refl _ _) HI.out.agr.size ?aL ?_
          (case aP => exact rfl)
          (case aF => exact (fun _ hk => .inr hk))
          (case aL => have := HLL.out; simp; omega)
          intro v47 w47 hR hb hg hat
          have HI_ := am_ (HI.out.grown0 hb hR (fun _ hk _ => hk) hg); clear HI; have HI := HI_; clear HI_
          clear hR hb hg hat
          refine hK.out _ _ (HX.out _ (HI.out.reads 2 rfl HMEM.out)) (fun hHeld => ?_)
          clear hK K
          refine norm_ (a' := ?_) ?_ ?_
          rotate_left
          ·
           show Act.put _ (some 48) _ = _
           exact ap_
          refine pure_ (i := 14) (N := some 7) (v := ?_) (a' := ?_) #[true, true, true, true, true, true, true, true, true, true, true, true, true, true, true] rfl rfl (by kernel_rfl) (fun _ _ _ h => h) (Or.inl ⟨(by rfl), ?_⟩) ?_ ?_
          rotate_left
          ·
           intro w'
           go_simp
           with_reducible rfl
          rotate_left
          ·
           exact ap_
          refine done_ (by kernel_rfl) ?_
          try go_wp2
          go_roundg k2
          case measure => omega
          case rel => exact ⟨_, j + 1, _, rfl, HWJ, HJ2, ⟨(by rw [HPT.out]; exact HI.out)⟩⟩
       ·
        rw [if_neg cm] at hr; cases hr
 ·
  rw [if_neg cs] at h; cases h

def impl_four.f (l0 : List Int) (a1 : Int) : Option (List Int) := (some (([(a1 / 16777216) % 256, (a1 / 65536) % 256, (a1 / 256) % 256, (a1) % 256] : List Int) : List Int)).bind fun y101 => (if l0.length + y101.length < 140737488355328 then (some (l0 ++ y101)) else (none))
set_option maxHeartbeats 8000000 in
set_option maxRecDepth 100000 in
theorem impl_four.calls (P0_ : Nat → Prop) (u9000_ : Value) (l0 : List Int) (a1 : Int) (r : List Int) (w0 w : World) (hB : Below w0.heap.size w0 w) (ho0 : Kd.R (Kd.int .u8) 5 w w0.heap.size P0_ u9000_ l0) (h : impl_four.f l0 a1 = some r) :
  Calls Try.prog 88 #[u9000_, .int .i64 a1] w fun e w' => ∃ v0_ : Value, e = .returned (v0_) ∧ Kd.R (Kd.int .u8) 5 w' w0.heap.size (fun k_ => (P0_ k_ ∨ w.heap.size ≤ k_)) v0_ r ∧ Below w0.heap.size w0 w' ∧ Kept w w' (fun k_ => P0_ k_) := by
 have HO0 := am_ (show Kd.R (Kd.int .u8) 5 w w0.heap.size (fun k_ => (P0_ k_ ∨ w.heap.size ≤ k_)) u9000_ l0 from Kd.R_mono ho0 (fun k_ hk => (.inl hk)))
 have HK := am_ (Kept.refl w (fun k_ => P0_ k_))
 have HW0 := am_ hB.size
 have HB := am_ hB
 clear hB
 have H : ((some (([(a1 / 16777216) % 256, (a1 / 65536) % 256, (a1 / 256) % 256, (a1) % 256] : List Int) : List Int)).bind fun y101 => (if l0.length + y101.length < 140737488355328 then (some (l0 ++ y101)) else (none))) = some r := h
 clear h
 obtain ⟨y101, hy101⟩ : ∃ y_ : List Int, y_ = (([(a1 / 16777216) % 256, (a1 / 65536) % 256, (a1 / 256) % 256, (a1) % 256] : List Int)) := ⟨_, rfl⟩
 replace H : (if l0.length + y101.length < 140737488355328 then (some (l0 ++ y101)) else (none)) = some r := by first | (rw [hy101]; with_reducible exact H) | (have H2_ := (Option.bind_some _ _).symm.trans H; rw [hy101]; with_reducible exact H2_) | (have H2_ := (Option.bind_some _ _).symm.trans H; with_reducible exact H2_) | with_reducible exact H | (rw [hy101]; exact H) | exact H
 have Ny101 := am_ hy101
 clear hy101
 by_cases c3 : l0.length + y101.length < 140737488355328
 ·
  rw [if_pos c3] at H
  have LMc3 := am_ c3
  clear c3
  obtain ⟨y104, hy104⟩ : ∃ y_ : List Int, y_ = (l0 ++ y101) := ⟨_, rfl⟩
  replace H : (some y104) = some r := by first | (rw [hy104]; with_reducible exact H) | (have H2_ := (Option.bind_some _ _).symm.trans H; rw [hy104]; with_reducible exact H2_) | (have H2_ := (Option.bind_some _ _).symm.trans H; with_reducible exact H2_) | with_reducible exact H | (rw [hy104]; exact H) | exact H
  have Ny104 := am_ hy104
  clear hy104
  obtain rfl := Option.some.inj H
  go_enter Try.func88, Try.ntmps88
  go_wp2_with (first | ((with_reducible refine gate_dst (N := 17) rfl ?_); refine Kd.R_lit (Kd.int .u8) _ 5 ?hg (N := 17) ?hd (xs := ([(a1 / 16777216) % 256, (a1 / 65536) % 256, (a1 / 256) % 256, (a1) % 256] : List Int)) (inner := [.int .u8 ((a1 / 16777216) % 256), .int .u8 ((a1 / 65536) % 256), .int .u8 ((a1 / 256) % 256), .int .u8 ((a1) % 256)]) (ok := fun _ => True) (okp := fun _ => True) ?hr ?hp (fun _ hk => hk) trivial (Below.refl _ _) (Nat.le_refl _) (by simp) ?_; (case hd => rfl); (case hg => rfl); (case hr => first | (go_simp; done) | (go_simp; rfl)); (case hp => exact (Reps.one (show Kd.M (Kd.int .u8) _ _ _ ((a1 / 16777216) % 256) [.int .u8 ((a1 / 16777216) % 256)] from rfl) (Reps.one (show Kd.M (Kd.int .u8) _ _ _ ((a1 / 65536) % 256) [.int .u8 ((a1 / 65536) % 256)] from rfl) (Reps.one (show Kd.M (Kd.int .u8) _ _ _ ((a1 / 256) % 256) [.int .u8 ((a1 / 256) % 256)] from rfl) (Reps.one (show Kd.M (Kd.int .u8) _ _ _ ((a1) % 256) [.int .u8 ((a1) % 256)] from rfl) (Reps.none _ _)))))); intro v102 w4 ho5 hb hg_ hnew_; clear hg_ hnew_; (first | rw [← Ny101.out] at ho5 | (simp only [Int.reduceToNat] at ho5; rw [← Ny101.out] at ho5)); have n0_ := am_ (Kd.R_elder' qz29_ (Kd.R_base ho5) hb); have n1_ := am_ (Kd.R_lower (Kd.R_new' (Kd.R_newM (M := fun k_ => (P0_ k_ ∨ w.heap.size ≤ k_)) ho5 (by first | exact HK.out.1 | exact (show Kept w _ (fun k_ => P0_ k_) from by repeat (first | (with_reducible first | exact HK.out | apply Kept.alloc | apply Kept.drewN | apply Kept.drew) | exact HK.out)).1) (fun k_ h_ => .inr h_)) (Kd.R_lt qz29_)) (below_size qz3_)); have n2_ := am_ (Kept.below (S := (fun k_ => P0_ k_)) (by repeat (first | (with_reducible first | exact HK.out | apply Kept.alloc | apply Kept.drewN | apply Kept.drew) | exact HK.out)) hb); have n3_ := am_ (below_step qz3_ hb); clear HO0; clear HK; clear HB; have HO0 := n0_; have HO103 := n1_; have HK := n2_; have HB := n3_; clear n0_ n1_ n2_ n3_; clear hb ho5; obtain ⟨Ao7, co7, eo7⟩ := Kd.R_slice HO103.out; subst eo7) | ((with_reducible refine gate_builtin (b := .append) (xs := #[.tmp 5, .tmp 17]) rfl ?_); at_builtin; refine Kd.R_append_rows (Kd.int .u8) (w0 := w0) w0.heap.size rfl (.tmp 5) (.tmp 17) 22 5 (.int .u8 0) 1 rfl Try.underlying22 info5 rfl (by decide) (by omega) u9000_ l0 y101 _ _ _ (fun k_ => (P0_ k_ ∨ w.heap.size ≤ k_) ∧ some k_ ≠ (.slice Ao7 y101.length co7 : Value).ownBlock) (fun _ => False) rfl rfl ?aO ?aR (fun _ _ h => h) (fun _ h => h.elim) ?aF ?aB ?aS ?aL ?_; (case aR => exact qc_ (Kd.R_reads' HO103.out).2.2); (case aB => exact qz3_); (case aF => exact (fun k_ hk => ⟨(.inr (Nat.le_trans (by first | exact HK.out.1 | exact (show Kept w _ (fun k_ => P0_ k_) from by repeat (first | (with_reducible first | exact HK.out | apply Kept.alloc | apply Kept.drewN | apply Kept.drew) | exact HK.out)).1) hk)), Kd.fresh' (Kd.R_lt qz10_) k_ hk⟩)); (case aO => exact qz29_); (case aS => exact (below_size qz3_)); (case aL => have := LMc3.out; omega); intro v105 w6 ho hb hg hat; rw [← Ny104.out] at ho; have n0_ := am_ (Kd.R_after (ok := (fun k_ => (P0_ k_ ∨ w.heap.size ≤ k_))) (by (with_reducible repeat (first | apply Kd.R_alloc | apply Kd.R_drewN | apply Kd.R_drew)); exact Kd.R_mono HO103.out (fun _ hk => ⟨hk.1.1, hk.2⟩)) hg hat); have n1_ := am_ (hb); have n2_ := am_ (Kept.of_grown (S := (fun k_ => P0_ k_)) hg (by repeat (first | (with_reducible first | exact HK.out | apply Kept.alloc | apply Kept.drewN | apply Kept.drew) | exact HK.out)) (fun k_ e_ => (HO0.out.1 k_ e_).1)); have n3_ := am_ (ho); clear HO103; clear HB; clear HK; clear HO0; have HO103 := n0_; have HB := n1_; have HK := n2_; have HO106 := n3_; clear n0_ n1_ n2_ n3_; clear ho hb hg hat))
  go_ret
  exact ⟨_, qz4_, (by (with_reducible repeat (first | apply Kd.R_alloc | apply Kd.R_drewN | apply Kd.R_drew)); exact Kd.R_mono HO106.out (fun _ hk => hk.1)), qz3_, (by repeat (first | (with_reducible first | exact HK.out | apply Kept.alloc | apply Kept.drewN | apply Kept.drew) | exact HK.out))⟩
 ·
  rw [if_neg c3] at H
  exact absurd H (by simp)

def impl_extBytes.l0 : Nat → List Int → List (S34) → Int → Int → Option (List Int)
 | 0, _, _, _, _ => none
 | k + 1, x3, x7, x8, x9 => if x9 < x8 then (if 0 ≤ x9 then (if x9 < (x7.length : Int) then ((impl_four.f x3 ((rd_T34 x7 x9).f0)).bind fun t106 => ((impl_four.f t106 ((rd_T34 x7 x9).f1)).bind fun t109 => (impl_extBytes.l0 k t109 x7 x8 (wrap64 (x9 + 1))))) else (none)) else (none)) else (some x3)
def impl_extBytes.f (k : Nat) (l0 : List (S34)) : Option (List Int) := impl_extBytes.l0 k (([] : List Int)) l0 (l0.length : Int) 0
theorem impl_extBytes.mono_l : ∀ k, (∀ y0 y1 y2 y3, LeO (impl_extBytes.l0 k y0 y1 y2 y3) (impl_extBytes.l0 (k + 1) y0 y1 y2 y3))
 | 0 => fun _ _ _ _ r h => by simp [impl_extBytes.l0] at h
 | k + 1 => by
  have ih0 := impl_extBytes.mono_l k
  ·
   intro y0 y1 y2 y3
   unfold impl_extBytes.l0
   repeat' first
   | (with_reducible exact ih0 _ _ _ _)
   | (with_reducible exact LeO.refl _)
   | (with_reducible exact LeO.none _)
   | (with_reducible refine LeO.ite ?_ ?_)
   | (with_reducible refine LeO.bind ?_ (fun _ => ?_))
   | exact ih0 _ _ _ _
   | exact LeO.none _
   | refine LeO.ite ?_ ?_
   | refine LeO.bind ?_ (fun _ => ?_)
theorem impl_extBytes.mono : ∀ a0 k, LeO (impl_extBytes.f k a0) (impl_extBytes.f (k + 1) a0) := by
 intro a0 k
 have ih0 := impl_extBytes.mono_l k
 unfold impl_extBytes.f
 repeat' first
   | (with_reducible exact ih0 _ _ _ _)
   | (with_reducible exact LeO.refl _)
   | (with_reducible exact LeO.none _)
   | (with_reducible refine LeO.ite ?_ ?_)
   | (with_reducible refine LeO.bind ?_ (fun _ => ?_))
   | exact ih0 _ _ _ _
   | exact LeO.none _
   | refine LeO.ite ?_ ?_
   | refine LeO.bind ?_ (fun _ => ?_)
def impl_extBytes.T5 : Bool × List (List Nat × List Nat) := (true, [([], []), ([], []), ([1], [1]), ([0, 2], [0, 2]), ([], []), ([4], [4]), ([3, 5, 3], [3, 5]), ([6, 6, 0, 1, 2, 3, 4, 5, 6], [0, 6])])
def impl_extBytes.B5 : List Nat := [0, 0, 2, 7, 0, 16, 63, 127]
theorem impl_extBytes.tab5 : rtab .any (opsOf Try.f141 5) = impl_extBytes.T5 := by kernel_rfl
theorem impl_extBytes.bits5 : waitsOk impl_extBytes.T5.2 impl_extBytes.B5 = true := by kernel_rfl
set_option maxHeartbeats 8000000 in
set_option maxRecDepth 100000 in
theorem impl_extBytes.calls (k : Nat) (A0 : Option Addr) (c0 : Nat) (l0 : List (S34)) (r : List Int) (w : World) (hr0 : Kd.C k34 w A0 l0.length l0) (hc0 : l0.length ≤ c0) (h : impl_extBytes.f k l0 = some r) :
  Calls Try.prog 141 #[.slice A0 l0.length c0] w fun e w' => ∃ v0_ : Value, e = .returned (v0_) ∧ Kd.R (Kd.int .u8) 5 w' w.heap.size (fun _ => True) v0_ r ∧ Below w.heap.size w w' := by
 have hu34 := Try.underlying34
 have HR0 := am_ hr0
 have HC0 := am_ hc0
 clear hr0 hc0
 have HB := am_ (Below.refl w.heap.size w)
 have H : (impl_extBytes.l0 k (([] : List Int)) l0 (l0.length : Int) 0) = some r := h
 clear h
 obtain ⟨y101, hy101⟩ : ∃ y_ : List Int, y_ = (([] : List Int)) := ⟨_, rfl⟩
 replace H : (impl_extBytes.l0 k y101 l0 (l0.length : Int) 0) = some r := by first | (rw [hy101]; with_reducible exact H) | (have H2_ := (Option.bind_some _ _).symm.trans H; rw [hy101]; with_reducible exact H2_) | (have H2_ := (Option.bind_some _ _).symm.trans H; with_reducible exact H2_) | with_reducible exact H | (rw [hy101]; exact H) | exact H
 have Ny101 := am_ hy101
 clear hy101
 have H' := am_ H
 clear H
 go_enter Try.func141, Try.ntmps141
 go_wp2_with (first | ((with_reducible refine gate_dst (N := 6) rfl ?_); refine Kd.R_lit (Kd.int .u8) _ 5 ?hg (N := 6) ?hd (xs := ([] : List Int)) (inner := []) (ok := fun _ => True) (okp := fun _ => True) ?hr ?hp (fun _ hk => hk) trivial (Below.refl _ _) (Nat.le_refl _) (by simp) ?_; (case hd => rfl); (case hg => rfl); (case hr => first | (go_simp; done) | (go_simp; rfl)); (case hp => exact (Reps.none _ _)); intro v102 w2 ho3 hb hg_ hnew_; clear hg_ hnew_; (first | rw [← Ny101.out] at ho3 | (simp only [Int.reduceToNat] at ho3; rw [← Ny101.out] at ho3)); have n0_ := am_ (Kd.R_lower ho3 (below_size qz3_)); have n1_ := am_ (below_step qz3_ hb); clear HB; have HO103 := n0_; have HB := n1_; clear n0_ n1_; clear hb ho3))
 go_loopg [3, 9] k (fun kq v3 v9 w' => ∃ (x3_1 : List Int) (x9_1 : Int), v9 = .int .i64 x9_1 ∧ Aside0 (impl_extBytes.l0 kq x3_1 l0 (l0.length : Int) x9_1 = some r) ∧ Aside0 (kq ≤ k) ∧ Aside0 (Kd.R (Kd.int .u8) 5 w' w.heap.size (fun _ => True) v3 x3_1) ∧ Aside0 (Below w.heap.size w w'))
 case atStart => exact ⟨(y101), (0), qz0_, H', ⟨Nat.le_refl _⟩, ⟨qz10_⟩, ⟨qz3_⟩⟩
 case round =>
  clear H'
  try clear c1
  try clear p2
  obtain ⟨x3_1, x9_1, rfl, HA, HK1, HO_3, HB⟩ := hrel
  cases gk with
  | zero => exact absurd HA.out (by simp [impl_extBytes.l0])
  | succ k1 =>
   have H := HA.out
   clear HA
   simp only [impl_extBytes.l0] at H
   by_cases c4 : x9_1 < (l0.length : Int)
   ·
    rw [if_pos c4] at H
    have c4b0 : decide (x9_1 < (l0.length : Int)) = true := decide_eq_true c4
    clear c4
    by_cases c5 : 0 ≤ x9_1
    ·
     rw [if_pos c5] at H
     have c5b0 : decide (0 ≤ x9_1) = true := decide_eq_true c5
     clear c5
     by_cases c6 : x9_1 < (l0.length : Int)
     ·
      rw [if_pos c6] at H
      have c6b0 : decide (x9_1 < (l0.length : Int)) = true := decide_eq_true c6
      clear c6
      replace H := Option.bind_eq_some_iff.mp H
      obtain ⟨t106, A70, H⟩ := H
      replace H : ((impl_four.f t106 ((rd_T34 l0 x9_1).f1)).bind fun t109 => (impl_extBytes.l0 k1 t109 l0 (l0.length : Int) (wrap64 (x9_1 + 1)))) = some r := H
      have A7 := am_ A70
      clear A70
      replace H := Option.bind_eq_some_iff.mp H
      obtain ⟨t109, A80, H⟩ := H
      replace H : (impl_extBytes.l0 k1 t109 l0 (l0.length : Int) (wrap64 (x9_1 + 1))) = some r := H
      have A8 := am_ A80
      clear A80
      have H' := am_ H
      clear H
      have p104 : 0 ≤ (x9_1 : Int) := of_decide_eq_true qz6_
      have q104 : x9_1 < (l0.length : Int) := of_decide_eq_true qz6_
      obtain ⟨ad104, e104, hx104_0, hx104_1⟩ := at_T34 HR0.out x9_1 p104 q104
      cases e104
      replace hx104_0 := (HB.out.cell (World.block_lt_of_cell? w _ hx104_0)).trans hx104_0
      replace hx104_1 := (HB.out.cell (World.block_lt_of_cell? w _ hx104_1)).trans hx104_1
      replace p104 := eq_true p104
      replace q104 := eq_true q104
      try go_wp2_with (first | ((with_reducible refine gate_dst (N := 5) rfl ?_); refine box_event ?hg (N := 5) ?hd (cs := #[.int .i64 0, .int .i64 0]) (t := 34) ?hr ?_; (case hd => rfl); (case hg => rfl); (case hr => first | (go_simp; done) | (go_simp; rfl)); intro gb105 hg w9 hbox hb; have n0_ := am_ (Kd.R_below qz9_ hb); have n1_ := am_ (below_step qz3_ hb); have n2_ := am_ (hbox); have n3_ := am_ ((by rw [hg]; exact (below_size qz3_) : w.heap.size ≤ gb105)); have n4_ := am_ ((by rw [hg]; exact (below_size qz3_) : w.heap.size ≤ gb105)); clear HO_3; clear HB; have HO_3 := n0_; have HB := n1_; have BK105 := n2_; have GW105 := n3_; have GE105 := n4_; clear n0_ n1_ n2_ n3_ n4_; clear hb hbox hg; have hcz10_0 : w9.cell? ⟨gb105, 0, none⟩ = some (.int .i64 0) := (blk_cell BK105.out 0).trans rfl; have hcz10_1 : w9.cell? ⟨gb105, 1, none⟩ = some (.int .i64 0) := (blk_cell BK105.out 1).trans rfl; have hfz10_0 := blk_frozen BK105.out 0; have hfz10_1 := blk_frozen BK105.out 1))
      have n0_ : Aside0 (Kd.R (Kd.int .u8) 5 ((w9.setCell ⟨gb105, 0, none⟩ (.int .i64 ((rd_T34 l0 x9_1).f0))).setCell ⟨gb105, 1, none⟩ (.int .i64 ((rd_T34 l0 x9_1).f1))) w.heap.size (fun _ => True) u3 x3_1) := ⟨by (with_reducible repeat (first | apply Kd.R_alloc | apply Kd.R_drewN | apply Kd.R_drew)); exact Kd.R_mono (Kd.R_far (p := ⟨gb105, 1, none⟩) (Kd.R_far (p := ⟨gb105, 0, none⟩) (Kd.R_types HO_3.out BK105.out (by decide)) (fun _ hk => hk.2) (.int .i64 ((rd_T34 l0 x9_1).f0))) (fun _ hk => hk.2) (.int .i64 ((rd_T34 l0 x9_1).f1))) (fun _ hk => trivial)⟩
      have n1_ : Aside0 (((w9.setCell ⟨gb105, 0, none⟩ (.int .i64 ((rd_T34 l0 x9_1).f0))).setCell ⟨gb105, 1, none⟩ (.int .i64 ((rd_T34 l0 x9_1).f1))).heap[gb105]? = some (.cells #[.int .i64 ((rd_T34 l0 x9_1).f0), .int .i64 ((rd_T34 l0 x9_1).f1)] 34 (0, 0))) := ⟨(by (with_reducible repeat (first | refine blk_drewN ?_ _ | refine blk_drew ?_ | refine blk_alloc ?_ _)); refine blk_put (cs := #[.int .i64 ((rd_T34 l0 x9_1).f0), .int .i64 0]) ?_ 1 _ rfl; (with_reducible repeat (first | refine blk_drewN ?_ _ | refine blk_drew ?_ | refine blk_alloc ?_ _)); refine blk_put (cs := #[.int .i64 0, .int .i64 0]) ?_ 0 _ rfl; (with_reducible repeat (first | refine blk_drewN ?_ _ | refine blk_drew ?_ | refine blk_alloc ?_ _)); exact BK105.out)⟩
      have n2_ : Aside0 (Below w.heap.size w ((w9.setCell ⟨gb105, 0, none⟩ (.int .i64 ((rd_T34 l0 x9_1).f0))).setCell ⟨gb105, 1, none⟩ (.int .i64 ((rd_T34 l0 x9_1).f1)))) := ⟨(by repeat (first | (with_reducible first | exact HB.out | apply below_alloc | apply pw_below_drewN | apply below_drew1 | refine below_set ?_ GE105.out) | exact HB.out))⟩
      (try clear HO_3)
      (try clear BK105)
      (try clear HB)
      generalize ((w9.setCell ⟨gb105, 0, none⟩ (.int .i64 ((rd_T34 l0 x9_1).f0))).setCell ⟨gb105, 1, none⟩ (.int .i64 ((rd_T34 l0 x9_1).f1))) = w11 at n0_ n1_ n2_ ⊢
      have HO_3 := n0_
      have BK105 := n1_
      have HB := n2_
      clear n0_ n1_ n2_
      have n0_ := am_ (Kd.R_drew HO_3.out)
      have n1_ := am_ (blk_drew BK105.out)
      have n2_ := am_ (below_drew1 HB.out)
      clear HO_3
      clear BK105
      clear HB
      have HO_3 := n0_
      have BK105 := n1_
      have HB := n2_
      clear n0_ n1_ n2_
      obtain ⟨Ao13, co13, eo13⟩ := Kd.R_slice HO_3.out
      (first | subst eo13 | (injection eo13 with f1_ f2_ f3_; have f4_ := f1_.symm; have f5_ := f3_.symm; clear f1_ f2_ f3_; subst f4_; subst f5_))
      refine start_ (n := 8) (S := fun w' => w'.cell? ⟨gb105, 0, none⟩ = some (.int .i64 ((rd_T34 l0 x9_1).f0)) ∧ w'.cell? ⟨gb105, 1, none⟩ = some (.int .i64 ((rd_T34 l0 x9_1).f1))) (ds := []) #[false, false, false, false, false, false, false, false] (by kernel_rfl) rfl rfl ⟨(blk_cell BK105.out 0).trans rfl, (blk_cell BK105.out 1).trans rfl⟩ (fun hHeld => ?_); refine with_tabW impl_extBytes.tab5 impl_extBytes.bits5 (fun HT_ HW_ => ?_)
      generalize w11.drew = w12 at HO_3 BK105 HB hHeld ⊢
      refine pure_ (i := 0) (N := some 13) (v := ?_) (a' := ?_) #[true, false, false, false, false, false, false, false] rfl rfl (any_of HT_.out (by kernel_rfl)) (fun _ _ _ h => h) (Or.inl ⟨(by rfl), ?_⟩) ?_ ?_
      rotate_left
      ·
       intro w'
       go_simp
       with_reducible rfl
      rotate_left
      ·
       exact ap_
      refine pure_ (i := 1) (N := some 14) (v := ?_) (a' := ?_) #[true, true, false, false, false, false, false, false] rfl rfl (any_of HT_.out (by kernel_rfl)) (fun _ _ _ h => h) (Or.inl ⟨(by rfl), ?_⟩) ?_ ?_
      rotate_left
      ·
       intro w'
       go_simp
       with_reducible rfl
      rotate_left
      ·
       exact ap_
      refine pure_ (i := 4) (N := some 17) (v := ?_) (a' := ?_) #[true, true, false, false, true, false, false, false] rfl rfl (any_of HT_.out (by kernel_rfl)) (fun _ _ _ h => h) (Or.inl ⟨(by rfl), ?_⟩) ?_ ?_
      rotate_left
      ·
       intro w'
       go_simp
       with_reducible rfl
      rotate_left
      ·
       exact ap_
      refine take_ (i := 2) (N := some 15) (v := ?_) (a' := ?_) #[true, true, true, false, true, false, false, false] rfl rfl (take_ofW HT_.out HW_.out (by kernel_rfl)) (fun _ _ _ h => h) (Or.inl ⟨(by rfl), ?_⟩) hHeld ?_ ?_
      rotate_left
      ·
       rintro w' ⟨s0, s1⟩
       go_simp
       with_reducible rfl
      rotate_left
      ·
       exact ap_
      refine take_ (i := 5) (N := some 18) (v := ?_) (a' := ?_) #[true, true, true, false, true, true, false, false] rfl rfl (take_ofW HT_.out HW_.out (by kernel_rfl)) (fun _ _ _ h => h) (Or.inl ⟨(by rfl), ?_⟩) hHeld ?_ ?_
      rotate_left
      ·
       rintro w' ⟨s0, s1⟩
       go_simp
       with_reducible rfl
      rotate_left
      ·
       exact ap_
      refine one_ (i := 3) (N := some 16) #[true, true, true, true, true, true, false, false] rfl rfl (one_of HT_.out (by kernel_rfl)) (by decide) (fun K hK => ?_)
      refine goes_ Try.func88 (by kernel_rfl) rfl #[.slice Ao13 x3_1.length co13, .int .i64 ((rd_T34 l0 x9_1).f0)] (by rfl) rfl rfl qz2_ ?_
      with_reducible refine (impl_four.calls (fun k_ => some k_ = (.slice Ao13 x3_1.length co13 : Value).ownBlock) (.slice Ao13 x3_1.length co13) x3_1 ((rd_T34 l0 x9_1).f0) t106 w _ ?side1 ?side2 A7.out).mono ?_
      (case side1 => repeat (first | (with_reducible first | exact HB.out | apply below_alloc | apply pw_below_drewN | apply below_drew1 | refine below_set ?_ GE105.out) | exact HB.out))
      (case side2 => exact Kd.R_tight rfl HO_3.out)
      rintro e w14 ⟨v107, rfl, ho0, hb, hkp⟩
      refine ⟨_, rfl, ?_⟩
      have n0_ := am_ (blk_kept (g := gb105) (o := .cells #[.int .i64 ((rd_T34 l0 x9_1).f0), .int .i64 ((rd_T34 l0 x9_1).f1)] 34 (0, 0)) (by (with_reducible repeat (first | refine blk_drewN ?_ _ | refine blk_drew ?_ | refine blk_alloc ?_ _)); exact BK105.out) hkp (fun hs_ => (fun e_ => (Kd.R_ne HO_3.out BK105.out (by decide)) e_) hs_))
      have n1_ := am_ (Kd.R_mono (ok' := fun k_ => True) ho0 (fun k_ hk_ => trivial))
      have n2_ := am_ (hb)
      clear BK105
      clear HB
      clear HO_3
      have BK105 := n0_
      have HO108 := n1_
      have HB := n2_
      clear n0_ n1_ n2_
      (try clear hb)
      (try clear hkp)
      (try clear ho0)
      obtain ⟨Ao15, co15, eo15⟩ := Kd.R_slice HO108.out
      (first | subst eo15 | (injection eo15 with f1_ f2_ f3_; have f4_ := f1_.symm; have f5_ := f3_.symm; clear f1_ f2_ f3_; subst f4_; subst f5_))
      refine hK.out _ _ ⟨(blk_cell BK105.out 0).trans rfl, (blk_cell BK105.out 1).trans rfl⟩ (fun hHeld => ?_)
      clear hK K
      refine norm_ (a' := ?_) ?_ ?_
      rotate_left
      ·
       show Act.put _ (some 16) _ = _
       exact ap_
      refine one_ (i := 6) (N := some 19) #[true, true, true, true, true, true, true, false] rfl rfl (one_of HT_.out (by kernel_rfl)) (by decide) (fun K hK => ?_)
      refine goes_ Try.func88 (by kernel_rfl) rfl #[.slice Ao15 t106.length co15, .int .i64 ((rd_T34 l0 x9_1).f1)] (by rfl) rfl rfl qz2_ ?_
      with_reducible refine (impl_four.calls (fun k_ => some k_ = (.slice Ao15 t106.length co15 : Value).ownBlock) (.slice Ao15 t106.length co15) t106 ((rd_T34 l0 x9_1).f1) t109 w _ ?side1 ?side2 A8.out).mono ?_
      (case side1 => repeat (first | (with_reducible first | exact HB.out | apply below_alloc | apply pw_below_drewN | apply below_drew1 | refine below_set ?_ GE105.out) | exact HB.out))
      (case side2 => exact Kd.R_tight rfl HO108.out)
      rintro e w16 ⟨v110, rfl, ho0, hb, hkp⟩
      refine ⟨_, rfl, ?_⟩
      have n0_ := am_ (blk_kept (g := gb105) (o := .cells #[.int .i64 ((rd_T34 l0 x9_1).f0), .int .i64 ((rd_T34 l0 x9_1).f1)] 34 (0, 0)) (by (with_reducible repeat (first | refine blk_drewN ?_ _ | refine blk_drew ?_ | refine blk_alloc ?_ _)); exact BK105.out) hkp (fun hs_ => (fun e_ => (Kd.R_ne HO108.out BK105.out (by decide)) e_) hs_))
      have n1_ := am_ (Kd.R_mono (ok' := fun k_ => True) ho0 (fun k_ hk_ => trivial))
      have n2_ := am_ (hb)
      clear BK105
      clear HB
      clear HO108
      have BK105 := n0_
      have HO111 := n1_
      have HB := n2_
      clear n0_ n1_ n2_
      (try clear hb)
      (try clear hkp)
      (try clear ho0)
      refine hK.out _ _ ⟨(blk_cell BK105.out 0).trans rfl, (blk_cell BK105.out 1).trans rfl⟩ (fun hHeld => ?_)
      clear hK K
      refine norm_ (a' := ?_) ?_ ?_
      rotate_left
      ·
       show Act.put _ (some 19) _ = _
       exact ap_
      refine pure_ (i := 7) (N := some 3) (v := ?_) (a' := ?_) #[true, true, true, true, true, true, true, true] rfl rfl (any_of HT_.out (by kernel_rfl)) (fun _ _ _ h => h) (Or.inl ⟨(by rfl), ?_⟩) ?_ ?_
      rotate_left
      ·
       intro w'
       go_simp
       with_reducible rfl
      rotate_left
      ·
       exact ap_
      refine done_ (done_of HT_.out (by kernel_rfl)) ?_
      try go_wp2
      go_roundg k1
      case measure => have := HK1.out; omega
      case rel => exact ⟨(t109), (wrap64 (x9_1 + 1)), qz0_, H', ⟨(by have := HK1.out; omega)⟩, ⟨(by (with_reducible repeat (first | apply Kd.R_alloc | apply Kd.R_drewN | apply Kd.R_drew)); exact HO111.out)⟩, ⟨(by repeat (first | (with_reducible first | exact HB.out | apply below_alloc | apply pw_below_drewN | apply below_drew1 | refine below_set ?_ GE105.out) | exact HB.out))⟩⟩
     ·
      rw [if_neg c6] at H
      exact absurd H (by simp)
    ·
     rw [if_neg c5] at H
     exact absurd H (by simp)
   ·
    rw [if_neg c4] at H
    have c4b0 : decide (x9_1 < (l0.length : Int)) = false := decide_eq_false c4
    clear c4
    obtain rfl := Option.some.inj H
    go_wp2
    go_ret
    exact ⟨_, qz4_, qz9_, qz3_⟩

def impl_leavesOf.l0 : Nat → List (S34) → List ByteArray → Int → Int → Int → Option (List ByteArray)
 | 0, _, _, _, _, _ => none
 | k + 1, x0, x3, x4, x10, x11 => if x11 < x10 then (if 0 ≤ x11 then (if x11 < (x0.length : Int) then (if 0 ≤ (wrap64 (x11 + x4)) then (if (wrap64 (x11 + x4)) < (x0.length : Int) then ((impl_extBytes.f k (([(⟨(rd_T34 x0 x11).f0, (rd_T34 x0 x11).f1⟩ : S34), (⟨(rd_T34 x0 (wrap64 (x11 + x4))).f0, (rd_T34 x0 (wrap64 (x11 + x4))).f1⟩ : S34)] : List (S34)))).bind fun t109 => (if x3.length < 8796093022208 then (impl_leavesOf.l0 k x0 (x3 ++ [strOfNums t109]) x4 x10 (wrap64 (x11 + 1))) else (none))) else (none)) else (none)) else (none)) else (none)) else (some x3)
def impl_leavesOf.f (k : Nat) (l0 : List (S34)) : Option (List ByteArray) := impl_leavesOf.l0 k l0 (([] : List ByteArray)) (wrap64 ((l0.length : Int) / 2)) (wrap64 ((l0.length : Int) / 2)) 0
theorem impl_leavesOf.mono_l : ∀ k, (∀ y0 y1 y2 y3 y4, LeO (impl_leavesOf.l0 k y0 y1 y2 y3 y4) (impl_leavesOf.l0 (k + 1) y0 y1 y2 y3 y4))
 | 0 => fun _ _ _ _ _ r h => by simp [impl_leavesOf.l0] at h
 | k + 1 => by
  have ih0 := impl_leavesOf.mono_l k
  ·
   intro y0 y1 y2 y3 y4
   unfold impl_leavesOf.l0
   repeat' first
   | (with_reducible exact ih0 _ _ _ _ _)
   | (with_reducible exact impl_extBytes.mono _ _)
   | (with_reducible exact LeO.refl _)
   | (with_reducible exact LeO.none _)
   | (with_reducible refine LeO.ite ?_ ?_)
   | (with_reducible refine LeO.bind ?_ (fun _ => ?_))
   | exact ih0 _ _ _ _ _
   | exact impl_extBytes.mono _ _
   | exact LeO.none _
   | refine LeO.ite ?_ ?_
   | refine LeO.bind ?_ (fun _ => ?_)
theorem impl_leavesOf.mono : ∀ a0 k, LeO (impl_leavesOf.f k a0) (impl_leavesOf.f (k + 1) a0) := by
 intro a0 k
 have ih0 := impl_leavesOf.mono_l k
 unfold impl_leavesOf.f
 repeat' first
   | (with_reducible exact ih0 _ _ _ _ _)
   | (with_reducible exact impl_extBytes.mono _ _)
   | (with_reducible exact LeO.refl _)
   | (with_reducible exact LeO.none _)
   | (with_reducible refine LeO.ite ?_ ?_)
   | (with_reducible refine LeO.bind ?_ (fun _ => ?_))
   | exact ih0 _ _ _ _ _
   | exact impl_extBytes.mono _ _
   | exact LeO.none _
   | refine LeO.ite ?_ ?_
   | refine LeO.bind ?_ (fun _ => ?_)
def impl_leavesOf.T5 : Bool × List (List Nat × List Nat) := (true, [([], []), ([], []), ([], []), ([1, 2], [1, 2]), ([3], [3]), ([], []), ([], []), ([], []), ([6, 7], [6, 7]), ([5, 8], [5, 8]), ([9], [9]), ([4, 10], [4, 10]), ([11], [11]), ([12], [12]), ([13], [13]), ([0, 14, 12], [0, 14]), ([15, 15, 0, 1, 2, 3, 4, 5, 6, 7, 8, 9, 10, 11, 12, 13, 14, 15], [0, 15])])
def impl_leavesOf.B5 : List Nat := [0, 0, 0, 6, 14, 0, 0, 0, 192, 480, 992, 2046, 4094, 8190, 16382, 32767, 65535]
theorem impl_leavesOf.tab5 : rtab .any (opsOf Try.f110 5) = impl_leavesOf.T5 := by kernel_rfl
theorem impl_leavesOf.bits5 : waitsOk impl_leavesOf.T5.2 impl_leavesOf.B5 = true := by kernel_rfl
set_option maxHeartbeats 8000000 in
set_option maxRecDepth 100000 in
theorem impl_leavesOf.calls (k : Nat) (A0 : Option Addr) (c0 : Nat) (l0 : List (S34)) (r : List ByteArray) (w : World) (hr0 : Kd.C k34 w A0 l0.length l0) (hc0 : l0.length ≤ c0) (h : impl_leavesOf.f k l0 = some r) :
  Calls Try.prog 110 #[.slice A0 l0.length c0] w fun e w' => ∃ v0_ : Value, e = .returned (v0_) ∧ Kd.R Kd.string 9 w' w.heap.size (fun _ => True) v0_ r ∧ Below w.heap.size w w' := by
 have hu34 := Try.underlying34
 have HR0 := am_ hr0
 have HC0 := am_ hc0
 clear hr0 hc0
 have HB := am_ (Below.refl w.heap.size w)
 have H : (impl_leavesOf.l0 k l0 (([] : List ByteArray)) (wrap64 ((l0.length : Int) / 2)) (wrap64 ((l0.length : Int) / 2)) 0) = some r := h
 clear h
 obtain ⟨y101, hy101⟩ : ∃ y_ : List ByteArray, y_ = (([] : List ByteArray)) := ⟨_, rfl⟩
 replace H : (impl_leavesOf.l0 k l0 y101 (wrap64 ((l0.length : Int) / 2)) (wrap64 ((l0.length : Int) / 2)) 0) = some r := by first | (rw [hy101]; with_reducible exact H) | (have H2_ := (Option.bind_some _ _).symm.trans H; rw [hy101]; with_reducible exact H2_) | (have H2_ := (Option.bind_some _ _).symm.trans H; with_reducible exact H2_) | with_reducible exact H | (rw [hy101]; exact H) | exact H
 have Ny101 := am_ hy101
 clear hy101
 have H' := am_ H
 clear H
 go_enter Try.func110, Try.ntmps110
 go_wp2_with (first | ((with_reducible refine gate_dst (N := 6) rfl ?_); refine Kd.R_lit Kd.string _ 9 ?hg (N := 6) ?hd (xs := ([] : List ByteArray)) (inner := []) (ok := fun _ => True) (okp := fun _ => True) ?hr ?hp (fun _ hk => hk) trivial (Below.refl _ _) (Nat.le_refl _) (by simp) ?_; (case hd => rfl); (case hg => rfl); (case hr => first | (go_simp; done) | (go_simp; rfl)); (case hp => exact (Reps.none _ _)); intro v102 w2 ho3 hb hg_ hnew_; clear hg_ hnew_; (first | rw [← Ny101.out] at ho3 | (simp only [Int.reduceToNat] at ho3; rw [← Ny101.out] at ho3)); have n0_ := am_ (Kd.R_lower ho3 (below_size qz3_)); have n1_ := am_ (below_step qz3_ hb); clear HB; have HO103 := n0_; have HB := n1_; clear n0_ n1_; clear hb ho3))
 go_loopg [3, 11] k (fun kq v3 v11 w' => ∃ (x3_1 : List ByteArray) (x11_1 : Int), v11 = .int .i64 x11_1 ∧ Aside0 (impl_leavesOf.l0 kq l0 x3_1 (wrap64 ((l0.length : Int) / 2)) (wrap64 ((l0.length : Int) / 2)) x11_1 = some r) ∧ Aside0 (kq ≤ k) ∧ Aside0 (Kd.R Kd.string 9 w' w.heap.size (fun _ => True) v3 x3_1) ∧ Aside0 (Below w.heap.size w w'))
 case atStart => exact ⟨(y101), (0), qz0_, H', ⟨Nat.le_refl _⟩, ⟨qz10_⟩, ⟨qz3_⟩⟩
 case round =>
  clear H'
  try clear c1
  try clear p2
  obtain ⟨x3_1, x11_1, rfl, HA, HK1, HO_3, HB⟩ := hrel
  cases gk with
  | zero => exact absurd HA.out (by simp [impl_leavesOf.l0])
  | succ k1 =>
   have H := HA.out
   clear HA
   simp only [impl_leavesOf.l0] at H
   by_cases c4 : x11_1 < (wrap64 ((l0.length : Int) / 2))
   ·
    rw [if_pos c4] at H
    have c4b0 : decide (x11_1 < (wrap64 ((l0.length : Int) / 2))) = true := decide_eq_true c4
    clear c4
    by_cases c5 : 0 ≤ x11_1
    ·
     rw [if_pos c5] at H
     have c5b0 : decide (0 ≤ x11_1) = true := decide_eq_true c5
     clear c5
     by_cases c6 : x11_1 < (l0.length : Int)
     ·
      rw [if_pos c6] at H
      have c6b0 : decide (x11_1 < (l0.length : Int)) = true := decide_eq_true c6
      clear c6
      obtain ⟨ji7, hji7⟩ : ∃ j_ : Int, (wrap64 (x11_1 + (wrap64 ((l0.length : Int) / 2)))) = j_ := ⟨_, rfl⟩
      replace H : (if 0 ≤ (ji7) then (if (ji7) < (l0.length : Int) then ((impl_extBytes.f k1 (([(⟨(rd_T34 l0 x11_1).f0, (rd_T34 l0 x11_1).f1⟩ : S34), (⟨(rd_T34 l0 (ji7)).f0, (rd_T34 l0 (ji7)).f1⟩ : S34)] : List (S34)))).bind fun t109 => (if x3_1.length < 8796093022208 then (impl_leavesOf.l0 k1 l0 (x3_1 ++ [strOfNums t109]) (wrap64 ((l0.length : Int) / 2)) (wrap64 ((l0.length : Int) / 2)) (wrap64 (x11_1 + 1))) else (none))) else (none)) else (none)) = some r := by first | (rw [hji7] at H; exact H) | (simp only [hji7] at H ⊢; exact H)
      have hji7w : (IntKind.i64.wrap (x11_1 + (wrap64 ((l0.length : Int) / 2)))) = ji7 := (i64_w _).trans hji7
      by_cases c8 : 0 ≤ (ji7)
      ·
       rw [if_pos c8] at H
       have c8b0 : decide (0 ≤ (ji7)) = true := decide_eq_true c8
       clear c8
       by_cases c9 : (ji7) < (l0.length : Int)
       ·
        rw [if_pos c9] at H
        have c9b0 : decide ((ji7) < (l0.length : Int)) = true := decide_eq_true c9
        clear c9
        obtain ⟨y106, hy106⟩ : ∃ y_ : List (S34), y_ = (([(⟨(rd_T34 l0 x11_1).f0, (rd_T34 l0 x11_1).f1⟩ : S34), (⟨(rd_T34 l0 (ji7)).f0, (rd_T34 l0 (ji7)).f1⟩ : S34)] : List (S34))) := ⟨_, rfl⟩
        replace H : ((impl_extBytes.f k1 y106).bind fun t109 => (if x3_1.length < 8796093022208 then (impl_leavesOf.l0 k1 l0 (x3_1 ++ [strOfNums t109]) (wrap64 ((l0.length : Int) / 2)) (wrap64 ((l0.length : Int) / 2)) (wrap64 (x11_1 + 1))) else (none))) = some r := by first | (rw [hy106]; with_reducible exact H) | (have H2_ := (Option.bind_some _ _).symm.trans H; rw [hy106]; with_reducible exact H2_) | (have H2_ := (Option.bind_some _ _).symm.trans H; with_reducible exact H2_) | with_reducible exact H | (rw [hy106]; exact H) | exact H
        have Ny106 := am_ hy106
        clear hy106
        replace H := Option.bind_eq_some_iff.mp H
        obtain ⟨t109, A100, H⟩ := H
        replace H : (if x3_1.length < 8796093022208 then (impl_leavesOf.l0 k1 l0 (x3_1 ++ [strOfNums t109]) (wrap64 ((l0.length : Int) / 2)) (wrap64 ((l0.length : Int) / 2)) (wrap64 (x11_1 + 1))) else (none)) = some r := H
        have A10 := am_ A100
        clear A100
        by_cases c11 : x3_1.length < 8796093022208
        ·
         rw [if_pos c11] at H
         have LMc11 := am_ c11
         clear c11
         obtain ⟨y112, hy112⟩ : ∃ y_ : List ByteArray, y_ = (x3_1 ++ [strOfNums t109]) := ⟨_, rfl⟩
         replace H : (impl_leavesOf.l0 k1 l0 y112 (wrap64 ((l0.length : Int) / 2)) (wrap64 ((l0.length : Int) / 2)) (wrap64 (x11_1 + 1))) = some r := by first | (rw [hy112]; with_reducible exact H) | (have H2_ := (Option.bind_some _ _).symm.trans H; rw [hy112]; with_reducible exact H2_) | (have H2_ := (Option.bind_some _ _).symm.trans H; with_reducible exact H2_) | with_reducible exact H | (rw [hy112]; exact H) | exact H
         have Ny112 := am_ hy112
         clear hy112
         have H' := am_ H
         clear H
         try go_wp2
         have n0_ := am_ (Kd.R_drew HO_3.out)
         have n1_ := am_ (below_drew1 HB.out)
         clear HO_3
         clear HB
         have HO_3 := n0_
         have HB := n1_
         clear n0_ n1_
         have p104 : 0 ≤ (x11_1 : Int) := of_decide_eq_true qz6_
         have q104 : x11_1 < (l0.length : Int) := of_decide_eq_true qz6_
         obtain ⟨ad104, e104, hx104_0, hx104_1⟩ := at_T34 HR0.out x11_1 p104 q104
         have hw104_1 := hx104_1
         have hw104_0 := hx104_0
         cases e104
         replace hx104_0 := (HB.out.cell (World.block_lt_of_cell? w _ hx104_0)).trans hx104_0
         replace hx104_1 := (HB.out.cell (World.block_lt_of_cell? w _ hx104_1)).trans hx104_1
         replace p104 := eq_true p104
         replace q104 := eq_true q104
         have p105 : 0 ≤ ((ji7) : Int) := of_decide_eq_true qz6_
         have q105 : (ji7) < (l0.length : Int) := of_decide_eq_true qz6_
         obtain ⟨ad105, e105, hx105_0, hx105_1⟩ := at_T34 HR0.out (ji7) p105 q105
         have hw105_1 := hx105_1
         have hw105_0 := hx105_0
         obtain rfl : ad104 = ad105 := (by injection e105)
         replace hx105_0 := (HB.out.cell (World.block_lt_of_cell? w _ hx105_0)).trans hx105_0
         replace hx105_1 := (HB.out.cell (World.block_lt_of_cell? w _ hx105_1)).trans hx105_1
         replace p105 := eq_true p105
         replace q105 := eq_true q105
         refine start_ (n := 17) (S := fun w' => w'.cell? (ad104.add ((x11_1).toNat * 2)) = some (.int .i64 ((rd_T34 l0 x11_1).f0)) ∧ w'.cell? ⟨(ad104.add ((x11_1).toNat * 2)).block, (ad104.add ((x11_1).toNat * 2)).off + 1, none⟩ = some (.int .i64 ((rd_T34 l0 x11_1).f1)) ∧ w'.cell? (ad104.add (((ji7)).toNat * 2)) = some (.int .i64 ((rd_T34 l0 (ji7)).f0)) ∧ w'.cell? ⟨(ad104.add (((ji7)).toNat * 2)).block, (ad104.add (((ji7)).toNat * 2)).off + 1, none⟩ = some (.int .i64 ((rd_T34 l0 (ji7)).f1))) (ds := []) #[false, false, false, false, false, false, false, false, false, false, false, false, false, false, false, false, false] (by kernel_rfl) rfl rfl ⟨((HB.out.cell (World.block_lt_of_cell? w _ hw104_0)).trans hw104_0), ((HB.out.cell (World.block_lt_of_cell? w _ hw104_1)).trans hw104_1), ((HB.out.cell (World.block_lt_of_cell? w _ hw105_0)).trans hw105_0), ((HB.out.cell (World.block_lt_of_cell? w _ hw105_1)).trans hw105_1)⟩ (fun hHeld => ?_); refine with_tabW impl_leavesOf.tab5 impl_leavesOf.bits5 (fun HT_ HW_ => ?_)
         generalize wr.drew = w12 at HO_3 HB hx104_0 hx104_1 hx105_0 hx105_1 hHeld ⊢
         refine pure_ (i := 0) (N := some 14) (v := ?_) (a' := ?_) #[true, false, false, false, false, false, false, false, false, false, false, false, false, false, false, false, false] rfl rfl (any_of HT_.out (by kernel_rfl)) (fun _ _ _ h => h) (Or.inl ⟨(by rfl), ?_⟩) ?_ ?_
         rotate_left
         ·
          intro w'
          go_simp
          with_reducible rfl
         rotate_left
         ·
          exact ap_
         refine pure_ (i := 1) (N := some 15) (v := ?_) (a' := ?_) #[true, true, false, false, false, false, false, false, false, false, false, false, false, false, false, false, false] rfl rfl (any_of HT_.out (by kernel_rfl)) (fun _ _ _ h => h) (Or.inl ⟨(by rfl), ?_⟩) ?_ ?_
         rotate_left
         ·
          intro w'
          go_simp
          with_reducible rfl
         rotate_left
         ·
          exact ap_
         refine pure_ (i := 2) (N := some 16) (v := ?_) (a' := ?_) #[true, true, true, false, false, false, false, false, false, false, false, false, false, false, false, false, false] rfl rfl (any_of HT_.out (by kernel_rfl)) (fun _ _ _ h => h) (Or.inl ⟨(by rfl), ?_⟩) ?_ ?_
         rotate_left
         ·
          intro w'
          go_simp
          with_reducible rfl
         rotate_left
         ·
          exact ap_
         refine pure_ (i := 3) (N := some 17) (v := ?_) (a' := ?_) #[true, true, true, true, false, false, false, false, false, false, false, false, false, false, false, false, false] rfl rfl (any_of HT_.out (by kernel_rfl)) (fun _ _ _ h => h) (Or.inl ⟨(by rfl), ?_⟩) ?_ ?_
         rotate_left
         ·
          intro w'
          go_simp
          with_reducible rfl
         rotate_left
         ·
          exact ap_
         refine pure_ (i := 5) (N := some 19) (v := ?_) (a' := ?_) #[true, true, true, true, false, true, false, false, false, false, false, false, false, false, false, false, false] rfl rfl (any_of HT_.out (by kernel_rfl)) (fun _ _ _ h => h) (Or.inl ⟨(by rfl), ?_⟩) ?_ ?_
         rotate_left
         ·
          intro w'
          go_simp
          with_reducible rfl
         rotate_left
         ·
          exact ap_
         refine pure_ (i := 6) (N := some 20) (v := ?_) (a' := ?_) #[true, true, true, true, false, true, true, false, false, false, false, false, false, false, false, false, false] rfl rfl (any_of HT_.out (by kernel_rfl)) (fun _ _ _ h => h) (Or.inl ⟨(by rfl), ?_⟩) ?_ ?_
         rotate_left
         ·
          intro w'
          go_simp
          with_reducible rfl
         rotate_left
         ·
          exact ap_
         refine pure_ (i := 7) (N := some 21) (v := ?_) (a' := ?_) #[true, true, true, true, false, true, true, true, false, false, false, false, false, false, false, false, false] rfl rfl (any_of HT_.out (by kernel_rfl)) (fun _ _ _ h => h) (Or.inl ⟨(by rfl), ?_⟩) ?_ ?_
         rotate_left
         ·
          intro w'
          go_simp
          with_reducible rfl
         rotate_left
         ·
          exact ap_
         refine pure_ (i := 8) (N := some 22) (v := ?_) (a' := ?_) #[true, true, true, true, false, true, true, true, true, false, false, false, false, false, false, false, false] rfl rfl (any_of HT_.out (by kernel_rfl)) (fun _ _ _ h => h) (Or.inl ⟨(by rfl), ?_⟩) ?_ ?_
         rotate_left
         ·
          intro w'
          go_simp
          with_reducible rfl
         rotate_left
         ·
          exact ap_
         refine pure_ (i := 9) (N := some 23) (v := ?_) (a' := ?_) #[true, true, true, true, false, true, true, true, true, true, false, false, false, false, false, false, false] rfl rfl (any_of HT_.out (by kernel_rfl)) (fun _ _ _ h => h) (Or.inl ⟨(by rfl), ?_⟩) ?_ ?_
         rotate_left
         ·
          intro w'
          go_simp
          with_reducible rfl
         rotate_left
         ·
          exact ap_
         refine take_ (i := 4) (N := some 18) (v := ?_) (a' := ?_) #[true, true, true, true, true, true, true, true, true, true, false, false, false, false, false, false, false] rfl rfl (take_ofW HT_.out HW_.out (by kernel_rfl)) (fun _ _ _ h => h) (Or.inl ⟨(by rfl), ?_⟩) hHeld ?_ ?_
         rotate_left
         ·
          rintro w' ⟨s0, s1, s2, s3⟩
          go_simp
          with_reducible rfl
         rotate_left
         ·
          exact ap_
         refine take_ (i := 10) (N := some 24) (v := ?_) (a' := ?_) #[true, true, true, true, true, true, true, true, true, true, true, false, false, false, false, false, false] rfl rfl (take_ofW HT_.out HW_.out (by kernel_rfl)) (fun _ _ _ h => h) (Or.inl ⟨(by rfl), ?_⟩) hHeld ?_ ?_
         rotate_left
         ·
          rintro w' ⟨s0, s1, s2, s3⟩
          go_simp
          with_reducible rfl
         rotate_left
         ·
          exact ap_
         refine one_ (i := 11) (N := some 25) #[true, true, true, true, true, true, true, true, true, true, true, true, false, false, false, false, false] rfl rfl (one_of HT_.out (by kernel_rfl)) (by decide) (fun K hK => ?_)
         refine Kd.R_lit_step k34 _ 34 ?hg (N := 25) ?hd (xs := ([(⟨(rd_T34 l0 x11_1).f0, (rd_T34 l0 x11_1).f1⟩ : S34), (⟨(rd_T34 l0 (ji7)).f0, (rd_T34 l0 (ji7)).f1⟩ : S34)] : List (S34))) (inner := [.int .i64 ((rd_T34 l0 x11_1).f0), .int .i64 ((rd_T34 l0 x11_1).f1), .int .i64 ((rd_T34 l0 (ji7)).f0), .int .i64 ((rd_T34 l0 (ji7)).f1)]) (ok := fun _ => True) (okp := fun _ => True) ?hr ?hp (fun _ hk => hk) trivial (Below.refl _ _) (Nat.le_refl _) (by simp) ?_; (case hd => rfl); (case hg => rfl); (case hr => first | (go_simp; done) | (go_simp; rfl)); (case hp => exact (Reps.c2 (show Kd.M k34 _ _ _ (⟨(rd_T34 l0 x11_1).f0, (rd_T34 l0 x11_1).f1⟩ : S34) [.int .i64 ((rd_T34 l0 x11_1).f0), .int .i64 ((rd_T34 l0 x11_1).f1)] from (k34_mkM _ _ _ (⟨(rd_T34 l0 x11_1).f0, (rd_T34 l0 x11_1).f1⟩ : S34) )) (Reps.c2 (show Kd.M k34 _ _ _ (⟨(rd_T34 l0 (ji7)).f0, (rd_T34 l0 (ji7)).f1⟩ : S34) [.int .i64 ((rd_T34 l0 (ji7)).f0), .int .i64 ((rd_T34 l0 (ji7)).f1)] from (k34_mkM _ _ _ (⟨(rd_T34 l0 (ji7)).f0, (rd_T34 l0 (ji7)).f1⟩ : S34) )) (Reps.none _ _))))
         intro v107 w13 ho14 hb hg_ hnew_
         clear hg_ hnew_
         (first | rw [← Ny106.out] at ho14 | (simp only [Int.reduceToNat] at ho14; rw [← Ny106.out] at ho14))
         have n0_ := am_ (Kd.R_below qz9_ hb)
         have n1_ := am_ (Kd.R_lower ho14 (below_size qz3_))
         have n2_ := am_ (below_step qz3_ hb)
         clear HO_3
         clear HB
         have HO_3 := n0_
         have HO108 := n1_
         have HB := n2_
         clear n0_ n1_ n2_
         clear hb ho14
         obtain ⟨Ao15, co15, eo15⟩ := Kd.R_slice HO108.out
         (first | subst eo15 | (injection eo15 with f1_ f2_ f3_; have f4_ := f1_.symm; have f5_ := f3_.symm; clear f1_ f2_ f3_; subst f4_; subst f5_))
         refine hK.out _ _ ⟨((HB.out.cell (World.block_lt_of_cell? w _ hw104_0)).trans hw104_0), ((HB.out.cell (World.block_lt_of_cell? w _ hw104_1)).trans hw104_1), ((HB.out.cell (World.block_lt_of_cell? w _ hw105_0)).trans hw105_0), ((HB.out.cell (World.block_lt_of_cell? w _ hw105_1)).trans hw105_1)⟩ (fun hHeld => ?_)
         clear hK K
         refine norm_ (a' := ?_) ?_ ?_
         rotate_left
         ·
          show Act.put _ (some 25) _ = _
          exact ap_
         refine one_ (i := 12) (N := some 26) #[true, true, true, true, true, true, true, true, true, true, true, true, true, false, false, false, false] rfl rfl (one_of HT_.out (by kernel_rfl)) (by decide) (fun K hK => ?_)
         refine goes_ Try.func141 (by kernel_rfl) rfl #[.slice Ao15 y106.length co15] (by rfl) rfl rfl qz2_ ?_
         with_reducible refine (impl_extBytes.calls k1 _ _ y106 t109 _ ?side1 ?side2 A10.out).mono ?_
         (case side1 => exact qc_ (Kd.R_reads' HO108.out).2.2)
         (case side2 => exact (Kd.R_reads' HO108.out).2.1)
         rintro e w16 ⟨v110, rfl, ho0, hb⟩
         refine ⟨_, rfl, ?_⟩
         have n0_ := am_ (Kd.R_below qz9_ hb)
         have n1_ := am_ (Kd.R_below (by (with_reducible repeat (first | apply Kd.R_alloc | apply Kd.R_drewN | apply Kd.R_drew)); exact HO108.out) hb)
         have n2_ := am_ (Kd.R_lower ho0 (below_size qz3_))
         have n3_ := am_ (below_step qz3_ hb)
         clear HO_3
         clear HO108
         clear HB
         have HO_3 := n0_
         have HO108 := n1_
         have HO111 := n2_
         have HB := n3_
         clear n0_ n1_ n2_ n3_
         (try clear hb)
         (try clear hb2)
         (try clear hk)
         (try clear hi)
         (try clear ho0)
         refine hK.out _ _ ⟨((HB.out.cell (World.block_lt_of_cell? w _ hw104_0)).trans hw104_0), ((HB.out.cell (World.block_lt_of_cell? w _ hw104_1)).trans hw104_1), ((HB.out.cell (World.block_lt_of_cell? w _ hw105_0)).trans hw105_0), ((HB.out.cell (World.block_lt_of_cell? w _ hw105_1)).trans hw105_1)⟩ (fun hHeld => ?_)
         clear hK K
         refine norm_ (a' := ?_) ?_ ?_
         rotate_left
         ·
          show Act.put _ (some 26) _ = _
          exact ap_
         refine one_ (i := 13) (N := some 27) #[true, true, true, true, true, true, true, true, true, true, true, true, true, true, false, false, false] rfl rfl (one_of HT_.out (by kernel_rfl)) (by decide) (fun K hK => ?_)
         have hcv17 := own_string (P := Try.prog) Try.underlying22 Try.underlying5 Try.underlying9 (Kd.own_of_R HO111.out)
         refine value_ (w1 := ?_) (v := ?_) (by rfl) rfl ?_ ?_
         rotate_left 2
         ·
          go_simp
          constructor
          ·
           rfl
          ·
           rfl
         clear hcv17
         refine hK.out _ _ ⟨((HB.out.cell (World.block_lt_of_cell? w _ hw104_0)).trans hw104_0), ((HB.out.cell (World.block_lt_of_cell? w _ hw104_1)).trans hw104_1), ((HB.out.cell (World.block_lt_of_cell? w _ hw105_0)).trans hw105_0), ((HB.out.cell (World.block_lt_of_cell? w _ hw105_1)).trans hw105_1)⟩ (fun hHeld => ?_)
         clear hK K
         refine norm_ (a' := ?_) ?_ ?_
         rotate_left
         ·
          show Act.put _ (some 27) _ = _
          exact ap_
         refine one_ (i := 14) (N := some 28) #[true, true, true, true, true, true, true, true, true, true, true, true, true, true, true, false, false] rfl rfl (one_of HT_.out (by kernel_rfl)) (by decide) (fun K hK => ?_)
         refine value_ (w1 := ?_) (v := ?_) (by rfl) rfl ?_ ?_
         rotate_left 2
         ·
          go_simp
          constructor
          ·
           rfl
          ·
           rfl
         refine hK.out _ _ ⟨(World.cell?_alloc_lt _ _ _ (World.block_lt_of_cell? _ _ (((HB.out.cell (World.block_lt_of_cell? w _ hw104_0)).trans hw104_0)))).trans (((HB.out.cell (World.block_lt_of_cell? w _ hw104_0)).trans hw104_0)), (World.cell?_alloc_lt _ _ _ (World.block_lt_of_cell? _ _ (((HB.out.cell (World.block_lt_of_cell? w _ hw104_1)).trans hw104_1)))).trans (((HB.out.cell (World.block_lt_of_cell? w _ hw104_1)).trans hw104_1)), (World.cell?_alloc_lt _ _ _ (World.block_lt_of_cell? _ _ (((HB.out.cell (World.block_lt_of_cell? w _ hw105_0)).trans hw105_0)))).trans (((HB.out.cell (World.block_lt_of_cell? w _ hw105_0)).trans hw105_0)), (World.cell?_alloc_lt _ _ _ (World.block_lt_of_cell? _ _ (((HB.out.cell (World.block_lt_of_cell? w _ hw105_1)).trans hw105_1)))).trans (((HB.out.cell (World.block_lt_of_cell? w _ hw105_1)).trans hw105_1))⟩ (fun hHeld => ?_)
         clear hK K
         refine norm_ (a' := ?_) ?_ ?_
         rotate_left
         ·
          show Act.put _ (some 28) _ = _
          exact ap_
         refine one_ (i := 15) (N := some 29) #[true, true, true, true, true, true, true, true, true, true, true, true, true, true, true, true, false] rfl rfl (one_of HT_.out (by kernel_rfl)) (by decide) (fun K hK => ?_)
         refine Kd.R_append_step Kd.string (w0 := w) w.heap.size (by rfl) (.tmp 14) (.tmp 28) 98 9 (.string ⟨#[]⟩) 16 rfl Try.underlying98 info9 rfl (by decide) (by omega) u3 x3_1 (strOfNums t109) [.string (strOfNums t109)] (fun _ => True) (fun _ => False) rfl rfl ?aP (fun _ hk => hk.elim) ?aF ?aO ?aB ?aS ?aL ?_
         (case aP => exact rfl)
         (case aB => exact qz3_)
         (case aF => exact (fun _ _ => trivial))
         (case aO => exact qz9_)
         (case aS => exact (below_size qz3_))
         (case aL => have := LMc11.out; omega)
         intro v113 w18 ho hb hg hat
         rw [← Ny112.out] at ho
         have n0_ := am_ (Kd.R_over' (by (with_reducible repeat (first | apply Kd.R_alloc | apply Kd.R_drewN | apply Kd.R_drew)); exact HO108.out) (Kd.R_typed qz9_) (by decide) hg)
         have n1_ := am_ (Kd.R_over' (by (with_reducible repeat (first | apply Kd.R_alloc | apply Kd.R_drewN | apply Kd.R_drew)); exact HO111.out) (Kd.R_typed qz9_) (by decide) hg)
         have n2_ := am_ (hb)
         have n3_ := am_ (ho)
         clear HO108
         clear HO111
         clear HB
         clear HO_3
         have HO108 := n0_
         have HO111 := n1_
         have HB := n2_
         have HO114 := n3_
         clear n0_ n1_ n2_ n3_
         clear ho hb hg hat
         refine hK.out _ _ ⟨((HB.out.cell (World.block_lt_of_cell? w _ hw104_0)).trans hw104_0), ((HB.out.cell (World.block_lt_of_cell? w _ hw104_1)).trans hw104_1), ((HB.out.cell (World.block_lt_of_cell? w _ hw105_0)).trans hw105_0), ((HB.out.cell (World.block_lt_of_cell? w _ hw105_1)).trans hw105_1)⟩ (fun hHeld => ?_)
         clear hK K
         refine norm_ (a' := ?_) ?_ ?_
         rotate_left
         ·
          show Act.put _ (some 29) _ = _
          exact ap_
         refine pure_ (i := 16) (N := some 3) (v := ?_) (a' := ?_) #[true, true, true, true, true, true, true, true, true, true, true, true, true, true, true, true, true] rfl rfl (any_of HT_.out (by kernel_rfl)) (fun _ _ _ h => h) (Or.inl ⟨(by rfl), ?_⟩) ?_ ?_
         rotate_left
         ·
          intro w'
          go_simp
          with_reducible rfl
         rotate_left
         ·
          exact ap_
         refine done_ (done_of HT_.out (by kernel_rfl)) ?_
         try go_wp2
         go_roundg k1
         case measure => have := HK1.out; omega
         case rel => exact ⟨(y112), (wrap64 (x11_1 + 1)), qz0_, H', ⟨(by have := HK1.out; omega)⟩, ⟨(by (with_reducible repeat (first | apply Kd.R_alloc | apply Kd.R_drewN | apply Kd.R_drew)); exact HO114.out)⟩, ⟨qz3_⟩⟩
        ·
         rw [if_neg c11] at H
         exact absurd H (by simp)
       ·
        rw [if_neg c9] at H
        exact absurd H (by simp)
      ·
       rw [if_neg c8] at H
       exact absurd H (by simp)
     ·
      rw [if_neg c6] at H
      exact absurd H (by simp)
    ·
     rw [if_neg c5] at H
     exact absurd H (by simp)
   ·
    rw [if_neg c4] at H
    have c4b0 : decide (x11_1 < (wrap64 ((l0.length : Int) / 2))) = false := decide_eq_false c4
    clear c4
    obtain rfl := Option.some.inj H
    go_wp2
    go_ret
    exact ⟨_, qz4_, qz9_, qz3_⟩

def impl_commit.f (k : Nat) (l0 : List (S34)) : Option ((List (S34)) × (List (List ByteArray))) := (impl_leavesOf.f k l0).bind fun t102 => ((impl_levels.f t102).bind fun t105 => (some (l0, t105)))
theorem impl_commit.mono : ∀ a0 k, LeO (impl_commit.f k a0) (impl_commit.f (k + 1) a0) := by
 intro a0 k
 unfold impl_commit.f
 repeat' first
   | (with_reducible exact impl_leavesOf.mono _ _)
   | (with_reducible exact LeO.refl _)
   | (with_reducible exact LeO.none _)
   | (with_reducible refine LeO.ite ?_ ?_)
   | (with_reducible refine LeO.bind ?_ (fun _ => ?_))
   | exact impl_leavesOf.mono _ _
   | exact LeO.none _
   | refine LeO.ite ?_ ?_
   | refine LeO.bind ?_ (fun _ => ?_)
set_option maxHeartbeats 8000000 in
set_option maxRecDepth 100000 in
theorem impl_commit.calls (k : Nat) (P0_ : Nat → Prop) (u9000_ : Value) (l0 : List (S34)) (r1 : List (S34)) (r2 : List (List ByteArray)) (w0 w : World) (hB : Below w0.heap.size w0 w) (ho0 : Kd.R k34 34 w w0.heap.size P0_ u9000_ l0) (h : impl_commit.f k l0 = some (r1, r2)) :
  Calls Try.prog 67 #[u9000_] w fun e w' => ∃ v0_ v1_ : Value, e = .returned (.agg #[v0_, v1_]) ∧ Kd.R k34 34 w' w0.heap.size (fun k_ => (P0_ k_ ∨ w.heap.size ≤ k_)) v0_ r1 ∧ Kd.N (Kd.slice 9 Kd.string) 98 w' w0.heap.size (fun k_ => (P0_ k_ ∨ w.heap.size ≤ k_) ∧ some k_ ≠ (v0_ : Value).ownBlock) v1_ r2 ∧ Below w0.heap.size w0 w' ∧ Kept w w' (fun k_ => P0_ k_) := by
 have hu104 := Try.underlying104
 have HO0 := am_ (show Kd.R k34 34 w w0.heap.size (fun k_ => (P0_ k_ ∨ w.heap.size ≤ k_)) u9000_ l0 from Kd.R_mono ho0 (fun k_ hk => (.inl hk)))
 have HK := am_ (Kept.refl w (fun k_ => P0_ k_))
 have HW0 := am_ hB.size
 have HB := am_ hB
 clear hB
 have H : ((impl_leavesOf.f k l0).bind fun t102 => ((impl_levels.f t102).bind fun t105 => (some (l0, t105)))) = some (r1, r2) := h
 clear h
 replace H := Option.bind_eq_some_iff.mp H
 obtain ⟨t102, A20, H⟩ := H
 replace H : ((impl_levels.f t102).bind fun t105 => (some (l0, t105))) = some (r1, r2) := H
 have A2 := am_ A20
 clear A20
 replace H := Option.bind_eq_some_iff.mp H
 obtain ⟨t105, A30, H⟩ := H
 replace H : (some (l0, t105)) = some (r1, r2) := H
 have A3 := am_ A30
 clear A30
 simp only [Option.some.injEq, Prod.mk.injEq] at H
 obtain ⟨rfl, rfl⟩ := H
 go_enter Try.func67, Try.ntmps67
 go_wp2_with (first | ((with_reducible refine gate_dst (N := 2) rfl ?_); refine box_event ?hg (N := 2) ?hd (cs := #[.slice none 0 0, .slice none 0 0]) (t := 104) ?hr ?_; (case hd => rfl); (case hg => rfl); (case hr => first | (go_simp; done) | (go_simp; rfl)); intro gb101 hg w4 hbox hb; have n0_ := am_ (Kd.R_below qz29_ hb); have n1_ := am_ (Kept.below (S := (fun k_ => P0_ k_)) (by repeat (first | (with_reducible first | exact HK.out | apply Kept.alloc | apply Kept.drewN | apply Kept.drew) | exact HK.out)) hb); have n2_ := am_ (below_step qz3_ hb); have n3_ := am_ (hbox); have n4_ := am_ ((by rw [hg]; exact (by first | exact HK.out.1 | exact (show Kept w _ (fun k_ => P0_ k_) from by repeat (first | (with_reducible first | exact HK.out | apply Kept.alloc | apply Kept.drewN | apply Kept.drew) | exact HK.out)).1) : w.heap.size ≤ gb101)); have n5_ := am_ ((by rw [hg]; exact (below_size qz3_) : w0.heap.size ≤ gb101)); clear HO0; clear HK; clear HB; have HO0 := n0_; have HK := n1_; have HB := n2_; have BK101 := n3_; have GW101 := n4_; have GE101 := n5_; clear n0_ n1_ n2_ n3_ n4_ n5_; clear hb hbox hg; obtain ⟨Ao5, co5, eo5⟩ := Kd.R_slice HO0.out; subst eo5) | ((with_reducible refine gate_callee (f := 110) rfl ?_); refine goesL_ (some 5) rfl rfl Try.func110 (by kernel_rfl) rfl #[.slice Ao5 l0.length co5] rfl qz2_ ?_; (with_reducible refine (impl_leavesOf.calls k _ _ l0 t102 _ ?side1 ?side2 A2.out).mono ?_); (case side1 => exact qc_ (Kd.R_reads' HO0.out).2.2); (case side2 => exact (Kd.R_reads' HO0.out).2.1); rintro e w6 ⟨v103, rfl, ho0, hb⟩; refine ⟨_, rfl, ?_⟩; have n0_ := am_ (Kd.R_below qz29_ hb); have n1_ := am_ (Kd.R_lower (Kd.R_newM (M := fun k_ => (P0_ k_ ∨ w.heap.size ≤ k_)) ho0 (by first | exact HK.out.1 | exact (show Kept w _ (fun k_ => P0_ k_) from by repeat (first | (with_reducible first | exact HK.out | apply Kept.alloc | apply Kept.drewN | apply Kept.drew | refine Kept.setCell ?_ (.inr GW101.out) _) | exact HK.out)).1) (fun k_ h_ => .inr h_)) (below_size qz5_)); have n2_ := am_ (blk_below (g := gb101) (o := .cells #[.slice none 0 0, .slice none 0 0] 104 (0, 0)) qz13_ hb); have n3_ := am_ (Kept.below (S := (fun k_ => P0_ k_)) (by repeat (first | (with_reducible first | exact HK.out | apply Kept.alloc | apply Kept.drewN | apply Kept.drew | refine Kept.setCell ?_ (.inr GW101.out) _) | exact HK.out)) hb); have n4_ := am_ (below_step qz5_ hb); clear HO0; clear BK101; clear HK; clear HB; have HO0 := n0_; have HO104 := n1_; have BK101 := n2_; have HK := n3_; have HB := n4_; clear n0_ n1_ n2_ n3_ n4_; (try clear hb); (try clear hb2); (try clear hk); (try clear hi); (try clear ho0); obtain ⟨Ao7, co7, eo7⟩ := Kd.R_slice HO104.out; subst eo7) | ((with_reducible refine gate_callee (f := 109) rfl ?_); refine goesL_ (some 6) rfl rfl Try.func109 (by kernel_rfl) rfl #[.slice Ao7 t102.length co7] rfl qz2_ ?_; (with_reducible refine (impl_levels.calls _ _ t102 t105 _ ?side1 ?side2 A3.out).mono ?_); (case side1 => exact qc_ (Kd.R_reads' HO104.out).2.2); (case side2 => exact (Kd.R_reads' HO104.out).2.1); rintro e w8 ⟨v106, rfl, ho0, hb⟩; refine ⟨_, rfl, ?_⟩; have n0_ := am_ (Kd.R_below qz29_ hb); have n1_ := am_ (Kd.R_below qz30_ hb); have n2_ := am_ (Kd.N_lower (Kd.N_mono (ok' := fun k_ => (P0_ k_ ∨ w.heap.size ≤ k_) ∧ some k_ ≠ (.slice Ao5 l0.length co5 : Value).ownBlock ∧ some k_ ≠ (.slice Ao7 t102.length co7 : Value).ownBlock ∧ k_ ≠ gb101) (Kd.S_N (Kd.S_bound ho0)) (fun k_ hk_ => ⟨(.inr (Nat.le_trans (by first | exact HK.out.1 | exact (show Kept w _ (fun k_ => P0_ k_) from by repeat (first | (with_reducible first | exact HK.out | apply Kept.alloc | apply Kept.drewN | apply Kept.drew | refine Kept.setCell ?_ (.inr GW101.out) _) | exact HK.out)).1) hk_.2.1)), (Kd.fresh' (Kd.R_lt qz29_) k_ hk_.2.1), (Kd.fresh' (Kd.R_lt qz30_) k_ hk_.2.1), (Kd.freshB (g := gb101) (o := .cells #[.slice none 0 0, .slice none 0 0] 104 (0, 0)) qz13_ k_ hk_.2.1)⟩)) (below_size qz5_)); have n3_ := am_ (blk_below (g := gb101) (o := .cells #[.slice none 0 0, .slice none 0 0] 104 (0, 0)) qz13_ hb); have n4_ := am_ (Kept.below (S := (fun k_ => P0_ k_)) (by repeat (first | (with_reducible first | exact HK.out | apply Kept.alloc | apply Kept.drewN | apply Kept.drew | refine Kept.setCell ?_ (.inr GW101.out) _) | exact HK.out)) hb); have n5_ := am_ (below_step qz5_ hb); clear HO0; clear HO104; clear BK101; clear HK; clear HB; have HO0 := n0_; have HO104 := n1_; have HO107 := n2_; have BK101 := n3_; have HK := n4_; have HB := n5_; clear n0_ n1_ n2_ n3_ n4_ n5_; (try clear hb); (try clear hb2); (try clear hk); (try clear hi); (try clear ho0); obtain ⟨Ao9, co9, eo9⟩ := Kd.N_slice HO107.out; subst eo9; have hcz10_0 : w8.cell? ⟨gb101, 0, none⟩ = some (.slice none 0 0) := (blk_cell BK101.out 0).trans rfl; have hcz10_1 : w8.cell? ⟨gb101, 1, none⟩ = some (.slice none 0 0) := (blk_cell BK101.out 1).trans rfl; have hfz10_0 := blk_frozen BK101.out 0; have hfz10_1 := blk_frozen BK101.out 1))
 refine bodyPost_ret (results_cell_row rfl _ _ gb101 104 #[.slice Ao5 l0.length co5, .slice Ao9 t105.length co9] (0, 0) _ rfl (by (with_reducible repeat (first | refine blk_drewN ?_ _ | refine blk_drew ?_ | refine blk_alloc ?_ _)); refine blk_put (cs := #[.slice Ao5 l0.length co5, .slice none 0 0]) ?_ 1 _ rfl; (with_reducible repeat (first | refine blk_drewN ?_ _ | refine blk_drew ?_ | refine blk_alloc ?_ _)); refine blk_put (cs := #[.slice none 0 0, .slice none 0 0]) ?_ 0 _ rfl; (with_reducible repeat (first | refine blk_drewN ?_ _ | refine blk_drew ?_ | refine blk_alloc ?_ _)); exact BK101.out) Try.underlying104 rfl (by kernel_rfl)) rfl ?_
 exact ⟨_, _, by first | rfl | (simp [errW_none, errW_some] <;> rfl) | (simp [*, errW_none, errW_some] <;> rfl), by (with_reducible repeat (first | apply Kd.R_alloc | apply Kd.R_drewN | apply Kd.R_drew)); exact Kd.R_mono (Kd.R_far (p := ⟨gb101, 1, none⟩) (Kd.R_far (p := ⟨gb101, 0, none⟩) (Kd.R_types HO0.out BK101.out (by decide)) (fun _ hk => hk.2) (.slice Ao5 l0.length co5)) (fun _ hk => hk.2) (.slice Ao9 t105.length co9)) (fun _ hk => hk.1), by (with_reducible repeat (first | apply Kd.N_alloc | apply Kd.N_drewN | apply Kd.N_drew)); exact Kd.N_mono (Kd.N_far (p := ⟨gb101, 1, none⟩) (Kd.N_far (p := ⟨gb101, 0, none⟩) (Kd.N_mono HO107.out (fun k_ hk => (⟨hk, hk.2.2.2⟩ : _ ∧ k_ ≠ gb101))) (fun _ hk => hk.2) (.slice Ao5 l0.length co5)) (fun _ hk => hk.2) (.slice Ao9 t105.length co9)) (fun _ hk => ⟨hk.1.1, hk.1.2.1⟩), by repeat (first | (with_reducible first | exact HB.out | apply below_alloc | apply pw_below_drewN | apply below_drew1 | refine below_set ?_ GE101.out) | exact HB.out), by repeat (first | (with_reducible first | exact HK.out | apply Kept.alloc | apply Kept.drewN | apply Kept.drew | refine Kept.setCell ?_ (.inr GW101.out) _) | exact HK.out)⟩

theorem commit_rows (v : Value) (A : Option Addr) (n c : Nat) (W : World) : (Instr.field 104 (.agg #[v, .slice A n c]) 1).run Try.prog W = .ok (.slice A n c) W := by
 have hu := run_underlying (P := Try.prog) Try.underlying104
 have hv := run_underlying (P := Try.prog) Try.underlying98
 unfold Instr.field
 simp [part, isAgg, asAgg, hu, hv]
def impl_Ext_45.f (l0 : List (S34)) : Option (List (S34)) := if l0.length < 8796093022208 then some l0 else none
set_option maxHeartbeats 8000000 in
set_option maxRecDepth 100000 in
theorem impl_Ext_45.calls (A0 : Option Addr) (c0 : Nat) (l0 : List (S34)) (r : List (S34)) (w : World) (hr0 : Kd.C k34 w A0 l0.length l0) (hc0 : l0.length ≤ c0) (h : impl_Ext_45.f l0 = some r) :
  Calls Try.prog 45 #[.slice A0 l0.length c0] w fun e w' => ∃ v0_ : Value, e = .returned (v0_) ∧ Kd.R k34 34 w' w.heap.size (fun _ => True) v0_ r ∧ Below w.heap.size w w' := by
 unfold impl_Ext_45.f at h
 by_cases c4 : l0.length < 8796093022208
 ·
  rw [if_pos c4] at h
  obtain rfl := Option.some.inj h
  clear h
  have LMc4 := am_ c4
  clear c4
  cases A0 with
  | none =>
   have hl : l0 = [] := by
    cases l0 with
    | nil => rfl
    | cons x t => obtain ⟨ad, h1, _⟩ := hr0.2.2 (by simp); cases h1
   subst hl
   have HB := am_ (Below.refl w.heap.size w)
   have hq : ∀ W : World, (binOp .eql 24 (.slice none 0 c0) (.slice none 0 0)).run Try.prog W = .ok (.bool true) W := fun W => Lib.run_eql_slice_nil_nil W 0 c0 Try.underlying24
   go_enter Try.func45, Try.ntmps45
   go_wp2
   go_ret
   exact ⟨_, (by first | rfl | (simp; done)), Kd.R_nil _ _ _ _ _, qz3_⟩
  | some ad0 =>
   have HR0 := am_ hr0
   have HC0 := am_ hc0
   clear hr0 hc0
   have hq : ∀ W : World, (binOp .eql 24 (.slice (some ad0) l0.length c0) (.slice none 0 0)).run Try.prog W = .ok (.bool false) W := fun W => Lib.run_eql_slice_nil W 24 34 (some ad0) l0.length c0 0 0 Try.underlying24
   have HB := am_ (Below.refl w.heap.size w)
   obtain ⟨y101, hy101⟩ : ∃ y_ : List (S34), y_ = ([] : List (S34)) := ⟨_, rfl⟩
   have Ny101 := am_ hy101
   obtain ⟨y104, hy104⟩ : ∃ y_ : List (S34), y_ = y101 ++ l0 := ⟨_, rfl⟩
   have Ny104 := am_ hy104
   have Nend := am_ (show y104 = l0 by rw [hy104, hy101]; rfl)
   have Nlim := am_ (show y101.length + l0.length < 8796093022208 by rw [hy101]; simpa using LMc4.out)
   clear hy101 hy104
   go_enter Try.func45, Try.ntmps45
   go_wp2_with (first | ((with_reducible refine gate_dst (N := 5) rfl ?_); refine Kd.R_lit k34 _ 34 ?hg (N := 5) ?hd (xs := ([] : List (S34))) (inner := []) (ok := fun _ => True) (okp := fun _ => True) ?hr ?hp (fun _ hk => hk) trivial (Below.refl _ _) (Nat.le_refl _) (by simp) ?_; (case hd => rfl); (case hg => rfl); (case hr => first | (go_simp; done) | (go_simp; rfl)); (case hp => exact (Reps.none _ _)); intro v102 w5 ho6 hb hg_ hnew_; clear hg_ hnew_; (first | rw [← Ny101.out] at ho6 | (simp only [Int.reduceToNat] at ho6; rw [← Ny101.out] at ho6)); have n0_ := am_ (Kd.R_lower ho6 (below_size qz3_)); have n1_ := am_ (below_step qz3_ hb); clear HB; have HO103 := n0_; have HB := n1_; clear n0_ n1_; clear hb ho6) | ((with_reducible refine gate_builtin (b := .append) (xs := #[.tmp 5, .tmp 6]) rfl ?_); at_builtin; refine Kd.R_append_rows k34 (w0 := w) w.heap.size rfl (.tmp 5) (.tmp 6) 24 34 (.agg #[(.int .i64 0), (.int .i64 0)]) 16 rfl Try.underlying24 info34 rfl (by decide) (by omega) v102 y101 l0 _ _ _ (fun _ => True) (fun _ => False) rfl rfl ?aO ?aR (fun _ _ h => h) (fun _ h => h.elim) ?aF ?aB ?aS ?aL ?_; (case aR => exact qc_ (Kd.C_below HR0.out HB.out)); (case aB => exact qz3_); (case aF => exact (fun _ _ => trivial)); (case aO => exact qz10_); (case aS => exact (below_size qz3_)); (case aL => have := Nlim.out; omega); intro v105 w7 ho hb hg hat; rw [← Ny104.out] at ho; have n0_ := am_ (hb); have n1_ := am_ (ho); clear HB; clear HO103; have HB := n0_; have HO106 := n1_; clear n0_ n1_; clear ho hb hg hat))
   go_ret
   exact ⟨_, (by first | rfl | (simp; done)), (by rw [← Nend.out]; (with_reducible repeat (first | apply Kd.R_alloc | apply Kd.R_drewN | apply Kd.R_drew)); exact HO106.out), qz3_⟩
 ·
  rw [if_neg c4] at h; exact absurd h (by simp)

def impl_sub.f (a0 : Int) (a1 : Int) : Option (Int) := some (Int.tmod (wrap64 ((wrap64 (a0 - a1)) + 2130706433)) 2130706433)
set_option maxHeartbeats 8000000 in
set_option maxRecDepth 100000 in
theorem impl_sub.calls (a0 : Int) (a1 : Int) (r : Int) (w : World) (h : impl_sub.f a0 a1 = some r) :
  Calls Try.prog 145 #[.int .i64 a0, .int .i64 a1] w fun e w' => e = .returned (.int .i64 r) ∧ Drawn0 w w' := by
 have H : (some (Int.tmod (wrap64 ((wrap64 (a0 - a1)) + 2130706433)) 2130706433)) = some r := h
 clear h
 obtain rfl := Option.some.inj H
 go_enter Try.func145, Try.ntmps145
 go_wp2
 go_ret
 exact ⟨qz0_, qz1_⟩

def impl_Ext_minus.f (a0_0 : Int) (a0_1 : Int) (a1_0 : Int) (a1_1 : Int) : Option (Int × Int) := (impl_sub.f a0_0 a1_0).bind fun t104 => ((impl_sub.f a0_1 a1_1).bind fun t105 => (some (t104, t105)))
def impl_Ext_minus.T1 : Bool × List (List Nat × List Nat) := (true, [([], []), ([0], [0]), ([], []), ([2], [2]), ([1, 3], [1, 3]), ([], []), ([5], [5]), ([], []), ([7], [7]), ([6, 8, 4], [6, 8]), ([4, 9], [4, 9]), ([10, 9, 0, 1, 2, 3, 4, 5, 6, 7, 8, 9, 10], [10])])
def impl_Ext_minus.B1 : List Nat := [0, 1, 0, 4, 15, 0, 32, 0, 128, 511, 1023, 2047]
theorem impl_Ext_minus.tab1 : rtab .any (opsOf Try.f113 1) = impl_Ext_minus.T1 := by kernel_rfl
theorem impl_Ext_minus.bits1 : waitsOk impl_Ext_minus.T1.2 impl_Ext_minus.B1 = true := by kernel_rfl
set_option maxHeartbeats 8000000 in
set_option maxRecDepth 100000 in
theorem impl_Ext_minus.calls (a0_0 : Int) (a0_1 : Int) (a1_0 : Int) (a1_1 : Int) (r1 : Int) (r2 : Int) (w : World) (h : impl_Ext_minus.f a0_0 a0_1 a1_0 a1_1 = some (r1, r2)) :
  Calls Try.prog 113 #[.agg #[.int .i64 a0_0, .int .i64 a0_1], .agg #[.int .i64 a1_0, .int .i64 a1_1]] w fun e w' => e = .returned (.agg #[.int .i64 r1, .int .i64 r2]) ∧ Below w.heap.size w w' := by
 have hu34 := Try.underlying34
 have HB := am_ (Below.refl w.heap.size w)
 have H : ((impl_sub.f a0_0 a1_0).bind fun t104 => ((impl_sub.f a0_1 a1_1).bind fun t105 => (some (t104, t105)))) = some (r1, r2) := h
 clear h
 replace H := Option.bind_eq_some_iff.mp H
 obtain ⟨t104, A30, H⟩ := H
 replace H : ((impl_sub.f a0_1 a1_1).bind fun t105 => (some (t104, t105))) = some (r1, r2) := H
 have A3 := am_ A30
 clear A30
 replace H := Option.bind_eq_some_iff.mp H
 obtain ⟨t105, A40, H⟩ := H
 replace H : (some (t104, t105)) = some (r1, r2) := H
 have A4 := am_ A40
 clear A40
 simp only [Option.some.injEq, Prod.mk.injEq] at H
 obtain ⟨rfl, rfl⟩ := H
 go_enter Try.func113, Try.ntmps113
 try go_wp2_with (first | ((with_reducible refine gate_dst (N := 2) rfl ?_); refine box_event ?hg (N := 2) ?hd (cs := #[.int .i64 a0_0, .int .i64 a0_1]) (t := 34) ?hr ?_; (case hd => rfl); (case hg => rfl); (case hr => first | (go_simp; done) | (go_simp; rfl)); intro gb101 hg w5 hbox hb; have n0_ := am_ (below_step qz3_ hb); have n1_ := am_ (hbox); have n2_ := am_ ((by rw [hg]; exact (below_size qz3_) : w.heap.size ≤ gb101)); have n3_ := am_ ((by rw [hg]; exact (below_size qz3_) : w.heap.size ≤ gb101)); clear HB; have HB := n0_; have BK101 := n1_; have GW101 := n2_; have GE101 := n3_; clear n0_ n1_ n2_ n3_; clear hb hbox hg) | ((with_reducible refine gate_dst (N := 3) rfl ?_); refine box_event ?hg (N := 3) ?hd (cs := #[.int .i64 a1_0, .int .i64 a1_1]) (t := 34) ?hr ?_; (case hd => rfl); (case hg => rfl); (case hr => first | (go_simp; done) | (go_simp; rfl)); intro gb102 hg w6 hbox hb; have n0_ := am_ (blk_below (g := gb101) (o := .cells #[.int .i64 a0_0, .int .i64 a0_1] 34 (0, 0)) qz13_ hb); have n1_ := am_ (below_step qz5_ hb); have n2_ := am_ (hbox); have n3_ := am_ ((by rw [hg]; exact (below_size qz5_) : w.heap.size ≤ gb102)); have n4_ := am_ ((by rw [hg]; exact (below_size qz5_) : w.heap.size ≤ gb102)); have n5_ := am_ ((by rw [hg]; exact Nat.ne_of_lt (blk_lt (g := gb101) (o := .cells #[.int .i64 a0_0, .int .i64 a0_1] 34 (0, 0)) qz13_) : gb101 ≠ gb102)); have n6_ := am_ ((by rw [hg]; exact Nat.ne_of_gt (blk_lt (g := gb101) (o := .cells #[.int .i64 a0_0, .int .i64 a0_1] 34 (0, 0)) qz13_) : gb102 ≠ gb101)); clear BK101; clear HB; have BK101 := n0_; have HB := n1_; have BK102 := n2_; have GW102 := n3_; have GE102 := n4_; have NB101_102 := n5_; have NB102_101 := n6_; clear n0_ n1_ n2_ n3_ n4_ n5_ n6_; clear hb hbox hg) | ((with_reducible refine gate_dst (N := 4) rfl ?_); refine box_event ?hg (N := 4) ?hd (cs := #[.int .i64 0, .int .i64 0]) (t := 34) ?hr ?_; (case hd => rfl); (case hg => rfl); (case hr => first | (go_simp; done) | (go_simp; rfl)); intro gb103 hg w7 hbox hb; have n0_ := am_ (blk_below (g := gb101) (o := .cells #[.int .i64 a0_0, .int .i64 a0_1] 34 (0, 0)) qz13_ hb); have n1_ := am_ (blk_below (g := gb102) (o := .cells #[.int .i64 a1_0, .int .i64 a1_1] 34 (0, 0)) qz14_ hb); have n2_ := am_ (below_step qz15_ hb); have n3_ := am_ (hbox); have n4_ := am_ ((by rw [hg]; exact (below_size qz15_) : w.heap.size ≤ gb103)); have n5_ := am_ ((by rw [hg]; exact (below_size qz15_) : w.heap.size ≤ gb103)); have n6_ := am_ ((by rw [hg]; exact Nat.ne_of_lt (blk_lt (g := gb101) (o := .cells #[.int .i64 a0_0, .int .i64 a0_1] 34 (0, 0)) qz13_) : gb101 ≠ gb103)); have n7_ := am_ ((by rw [hg]; exact Nat.ne_of_gt (blk_lt (g := gb101) (o := .cells #[.int .i64 a0_0, .int .i64 a0_1] 34 (0, 0)) qz13_) : gb103 ≠ gb101)); have n8_ := am_ ((by rw [hg]; exact Nat.ne_of_lt (blk_lt (g := gb102) (o := .cells #[.int .i64 a1_0, .int .i64 a1_1] 34 (0, 0)) qz14_) : gb102 ≠ gb103)); have n9_ := am_ ((by rw [hg]; exact Nat.ne_of_gt (blk_lt (g := gb102) (o := .cells #[.int .i64 a1_0, .int .i64 a1_1] 34 (0, 0)) qz14_) : gb103 ≠ gb102)); clear BK101; clear BK102; clear HB; have BK101 := n0_; have BK102 := n1_; have HB := n2_; have BK103 := n3_; have GW103 := n4_; have GE103 := n5_; have NB101_103 := n6_; have NB103_101 := n7_; have NB102_103 := n8_; have NB103_102 := n9_; clear n0_ n1_ n2_ n3_ n4_ n5_ n6_ n7_ n8_ n9_; clear hb hbox hg))
 have n0_ := am_ (blk_drew BK101.out)
 have n1_ := am_ (blk_drew BK102.out)
 have n2_ := am_ (blk_drew BK103.out)
 have n3_ := am_ (below_drew1 HB.out)
 clear BK101
 clear BK102
 clear BK103
 clear HB
 have BK101 := n0_
 have BK102 := n1_
 have BK103 := n2_
 have HB := n3_
 clear n0_ n1_ n2_ n3_
 refine start_ (n := 12) (S := fun w' => w'.cell? ⟨gb101, 0, none⟩ = some (.int .i64 a0_0) ∧ w'.cell? ⟨gb101, 1, none⟩ = some (.int .i64 a0_1) ∧ w'.cell? ⟨gb102, 0, none⟩ = some (.int .i64 a1_0) ∧ w'.cell? ⟨gb102, 1, none⟩ = some (.int .i64 a1_1)) (ds := []) #[false, false, false, false, false, false, false, false, false, false, false, false] (by kernel_rfl) rfl rfl ⟨(blk_cell BK101.out 0).trans rfl, (blk_cell BK101.out 1).trans rfl, (blk_cell BK102.out 0).trans rfl, (blk_cell BK102.out 1).trans rfl⟩ (fun hHeld => ?_); refine with_tabW impl_Ext_minus.tab1 impl_Ext_minus.bits1 (fun HT_ HW_ => ?_)
 generalize w7.drew = w8 at BK101 BK102 BK103 HB hHeld ⊢
 refine pure_ (i := 0) (N := some 5) (v := ?_) (a' := ?_) #[true, false, false, false, false, false, false, false, false, false, false, false] rfl rfl (any_of HT_.out (by kernel_rfl)) (fun _ _ _ h => h) (Or.inl ⟨(by rfl), ?_⟩) ?_ ?_
 rotate_left
 ·
  intro w'
  go_simp
  with_reducible rfl
 rotate_left
 ·
  exact ap_
 refine pure_ (i := 2) (N := some 7) (v := ?_) (a' := ?_) #[true, false, true, false, false, false, false, false, false, false, false, false] rfl rfl (any_of HT_.out (by kernel_rfl)) (fun _ _ _ h => h) (Or.inl ⟨(by rfl), ?_⟩) ?_ ?_
 rotate_left
 ·
  intro w'
  go_simp
  with_reducible rfl
 rotate_left
 ·
  exact ap_
 refine pure_ (i := 5) (N := some 10) (v := ?_) (a' := ?_) #[true, false, true, false, false, true, false, false, false, false, false, false] rfl rfl (any_of HT_.out (by kernel_rfl)) (fun _ _ _ h => h) (Or.inl ⟨(by rfl), ?_⟩) ?_ ?_
 rotate_left
 ·
  intro w'
  go_simp
  with_reducible rfl
 rotate_left
 ·
  exact ap_
 refine pure_ (i := 7) (N := some 12) (v := ?_) (a' := ?_) #[true, false, true, false, false, true, false, true, false, false, false, false] rfl rfl (any_of HT_.out (by kernel_rfl)) (fun _ _ _ h => h) (Or.inl ⟨(by rfl), ?_⟩) ?_ ?_
 rotate_left
 ·
  intro w'
  go_simp
  with_reducible rfl
 rotate_left
 ·
  exact ap_
 refine take_ (i := 1) (N := some 6) (v := ?_) (a' := ?_) #[true, true, true, false, false, true, false, true, false, false, false, false] rfl rfl (take_ofW HT_.out HW_.out (by kernel_rfl)) (fun _ _ _ h => h) (Or.inl ⟨(by rfl), ?_⟩) hHeld ?_ ?_
 rotate_left
 ·
  rintro w' ⟨s0, s1, s2, s3⟩
  go_simp
  with_reducible rfl
 rotate_left
 ·
  exact ap_
 refine take_ (i := 3) (N := some 8) (v := ?_) (a' := ?_) #[true, true, true, true, false, true, false, true, false, false, false, false] rfl rfl (take_ofW HT_.out HW_.out (by kernel_rfl)) (fun _ _ _ h => h) (Or.inl ⟨(by rfl), ?_⟩) hHeld ?_ ?_
 rotate_left
 ·
  rintro w' ⟨s0, s1, s2, s3⟩
  go_simp
  with_reducible rfl
 rotate_left
 ·
  exact ap_
 refine take_ (i := 6) (N := some 11) (v := ?_) (a' := ?_) #[true, true, true, true, false, true, true, true, false, false, false, false] rfl rfl (take_ofW HT_.out HW_.out (by kernel_rfl)) (fun _ _ _ h => h) (Or.inl ⟨(by rfl), ?_⟩) hHeld ?_ ?_
 rotate_left
 ·
  rintro w' ⟨s0, s1, s2, s3⟩
  go_simp
  with_reducible rfl
 rotate_left
 ·
  exact ap_
 refine take_ (i := 8) (N := some 13) (v := ?_) (a' := ?_) #[true, true, true, true, false, true, true, true, true, false, false, false] rfl rfl (take_ofW HT_.out HW_.out (by kernel_rfl)) (fun _ _ _ h => h) (Or.inl ⟨(by rfl), ?_⟩) hHeld ?_ ?_
 rotate_left
 ·
  rintro w' ⟨s0, s1, s2, s3⟩
  go_simp
  with_reducible rfl
 rotate_left
 ·
  exact ap_
 refine one_ (i := 4) (N := some 9) #[true, true, true, true, true, true, true, true, true, false, false, false] rfl rfl (one_of HT_.out (by kernel_rfl)) (by decide) (fun K hK => ?_)
 refine goes_ Try.func145 (by kernel_rfl) rfl #[.int .i64 a0_0, .int .i64 a1_0] (by rfl) rfl rfl qz2_ ?_
 with_reducible refine (impl_sub.calls a0_0 a1_0 t104 _ A3.out).mono ?_
 rintro e w' ⟨rfl, ⟨nd, rfl⟩⟩
 refine ⟨_, rfl, ?_⟩
 refine hK.out _ _ ⟨(blk_cell BK101.out 0).trans rfl, (blk_cell BK101.out 1).trans rfl, (blk_cell BK102.out 0).trans rfl, (blk_cell BK102.out 1).trans rfl⟩ (fun hHeld => ?_)
 clear hK K
 refine norm_ (a' := ?_) ?_ ?_
 rotate_left
 ·
  show Act.put _ (some 9) _ = _
  exact ap_
 refine one_ (i := 9) (N := some 14) #[true, true, true, true, true, true, true, true, true, true, false, false] rfl rfl (one_of HT_.out (by kernel_rfl)) (by decide) (fun K hK => ?_)
 refine goes_ Try.func145 (by kernel_rfl) rfl #[.int .i64 a0_1, .int .i64 a1_1] (by rfl) rfl rfl qz2_ ?_
 with_reducible refine (impl_sub.calls a0_1 a1_1 t105 _ A4.out).mono ?_
 rintro e w' ⟨rfl, ⟨nd, rfl⟩⟩
 refine ⟨_, rfl, ?_⟩
 refine hK.out _ _ ⟨(blk_cell BK101.out 0).trans rfl, (blk_cell BK101.out 1).trans rfl, (blk_cell BK102.out 0).trans rfl, (blk_cell BK102.out 1).trans rfl⟩ (fun hHeld => ?_)
 clear hK K
 refine norm_ (a' := ?_) ?_ ?_
 rotate_left
 ·
  show Act.put _ (some 14) _ = _
  exact ap_
 refine pure_ (i := 10) (N := some 15) (v := ?_) (a' := ?_) #[true, true, true, true, true, true, true, true, true, true, true, false] rfl rfl (any_of HT_.out (by kernel_rfl)) (fun _ _ _ h => h) (Or.inl ⟨(by rfl), ?_⟩) ?_ ?_
 rotate_left
 ·
  intro w'
  go_simp
  with_reducible rfl
 rotate_left
 ·
  exact ap_
 refine one_ (i := 11) (N := none) #[true, true, true, true, true, true, true, true, true, true, true, true] rfl rfl (one_of HT_.out (by kernel_rfl)) (by decide) (fun K hK => ?_)
 have hs9 : w8.cell? ⟨gb103, 0, none⟩ = some (.int .i64 0) := (blk_cell BK103.out 0).trans rfl
 have hfs9 := blk_frozen BK103.out 0
 have hns9_0 := NB101_103.out
 have hns9_1 := NB102_103.out
 have hms9_0 := NB103_101.out
 have hms9_1 := NB103_102.out
 have hs10 : w8.cell? ⟨gb103, 1, none⟩ = some (.int .i64 0) := (blk_cell BK103.out 1).trans rfl
 have hfs10 := blk_frozen BK103.out 1
 have hns10_0 := NB101_103.out
 have hns10_1 := NB102_103.out
 have hms10_0 := NB103_101.out
 have hms10_1 := NB103_102.out
 refine skip_ (w1 := ?_) (by rfl) rfl ?_ ?_
 rotate_left
 ·
  go_simp
  rfl
 refine hK.out _ _ ⟨((cell_far (p := ⟨gb103, _, none⟩) NB101_103.out _).trans (((cell_far (p := ⟨gb103, _, none⟩) NB101_103.out _).trans (hHeld.1)))), ((cell_far (p := ⟨gb103, _, none⟩) NB101_103.out _).trans (((cell_far (p := ⟨gb103, _, none⟩) NB101_103.out _).trans (hHeld.2.1)))), ((cell_far (p := ⟨gb103, _, none⟩) NB102_103.out _).trans (((cell_far (p := ⟨gb103, _, none⟩) NB102_103.out _).trans (hHeld.2.2.1)))), ((cell_far (p := ⟨gb103, _, none⟩) NB102_103.out _).trans (((cell_far (p := ⟨gb103, _, none⟩) NB102_103.out _).trans (hHeld.2.2.2))))⟩ (fun hHeld => ?_)
 clear hK K
 refine done_ (done_of HT_.out (by kernel_rfl)) ?_
 try go_wp2
 refine bodyPost_ret (results_cell_row rfl _ _ gb103 34 #[.int .i64 t104, .int .i64 t105] (0, 0) _ rfl qz16_ Try.underlying34 rfl (by kernel_rfl)) rfl ?_
 exact ⟨qz4_, qz17_⟩

def impl_add.f (a0 : Int) (a1 : Int) : Option (Int) := some (Int.tmod (wrap64 (a0 + a1)) 2130706433)
set_option maxHeartbeats 8000000 in
set_option maxRecDepth 100000 in
theorem impl_add.calls (a0 : Int) (a1 : Int) (r : Int) (w : World) (h : impl_add.f a0 a1 = some r) :
  Calls Try.prog 154 #[.int .i64 a0, .int .i64 a1] w fun e w' => e = .returned (.int .i64 r) ∧ Drawn0 w w' := by
 have H : (some (Int.tmod (wrap64 (a0 + a1)) 2130706433)) = some r := h
 clear h
 obtain rfl := Option.some.inj H
 go_enter Try.func154, Try.ntmps154
 go_wp2
 go_ret
 exact ⟨qz0_, qz1_⟩

end Go.Proofs.Ytgookagndlfehaa.PT
end
section
namespace Go.Proofs.Ytgookagndlfehaa.PT
open Go.RowKit Go.Proofs.YtgookagndlfehaaW.PrintWords Go.Proofs.YtgookagndlfehaaW.PrintLast Go.Proofs.YtgookagndlfehaaW.PrintMore
attribute [local go_sem] max2_int min2_int max_two min_two max_three min_three max_four min_four   -- for this text's walks alone
set_option linter.unusedVariables false
set_option linter.unusedSimpArgs false
def impl_Ext_plus.f (a0_0 : Int) (a0_1 : Int) (a1_0 : Int) (a1_1 : Int) : Option (Int × Int) := (impl_add.f a0_0 a1_0).bind fun t104 => ((impl_add.f a0_1 a1_1).bind fun t105 => (some (t104, t105)))
def impl_Ext_plus.T1 : Bool × List (List Nat × List Nat) := (true, [([], []), ([0], [0]), ([], []), ([2], [2]), ([1, 3], [1, 3]), ([], []), ([5], [5]), ([], []), ([7], [7]), ([6, 8, 4], [6, 8]), ([4, 9], [4, 9]), ([10, 9, 0, 1, 2, 3, 4, 5, 6, 7, 8, 9, 10], [10])])
def impl_Ext_plus.B1 : List Nat := [0, 1, 0, 4, 15, 0, 32, 0, 128, 511, 1023, 2047]
theorem impl_Ext_plus.tab1 : rtab .any (opsOf Try.f121 1) = impl_Ext_plus.T1 := by kernel_rfl
theorem impl_Ext_plus.bits1 : waitsOk impl_Ext_plus.T1.2 impl_Ext_plus.B1 = true := by kernel_rfl
set_option maxHeartbeats 8000000 in
set_option maxRecDepth 100000 in
theorem impl_Ext_plus.calls (a0_0 : Int) (a0_1 : Int) (a1_0 : Int) (a1_1 : Int) (r1 : Int) (r2 : Int) (w : World) (h : impl_Ext_plus.f a0_0 a0_1 a1_0 a1_1 = some (r1, r2)) :
  Calls Try.prog 121 #[.agg #[.int .i64 a0_0, .int .i64 a0_1], .agg #[.int .i64 a1_0, .int .i64 a1_1]] w fun e w' => e = .returned (.agg #[.int .i64 r1, .int .i64 r2]) ∧ Below w.heap.size w w' := by
 have hu34 := Try.underlying34
 have HB := am_ (Below.refl w.heap.size w)
 have H : ((impl_add.f a0_0 a1_0).bind fun t104 => ((impl_add.f a0_1 a1_1).bind fun t105 => (some (t104, t105)))) = some (r1, r2) := h
 clear h
 replace H := Option.bind_eq_some_iff.mp H
 obtain ⟨t104, A30, H⟩ := H
 replace H : ((impl_add.f a0_1 a1_1).bind fun t105 => (some (t104, t105))) = some (r1, r2) := H
 have A3 := am_ A30
 clear A30
 replace H := Option.bind_eq_some_iff.mp H
 obtain ⟨t105, A40, H⟩ := H
 replace H : (some (t104, t105)) = some (r1, r2) := H
 have A4 := am_ A40
 clear A40
 simp only [Option.some.injEq, Prod.mk.injEq] at H
 obtain ⟨rfl, rfl⟩ := H
 go_enter Try.func121, Try.ntmps121
 try go_wp2_with (first | ((with_reducible refine gate_dst (N := 2) rfl ?_); refine box_event ?hg (N := 2) ?hd (cs := #[.int .i64 a0_0, .int .i64 a0_1]) (t := 34) ?hr ?_; (case hd => rfl); (case hg => rfl); (case hr => first | (go_simp; done) | (go_simp; rfl)); intro gb101 hg w5 hbox hb; have n0_ := am_ (below_step qz3_ hb); have n1_ := am_ (hbox); have n2_ := am_ ((by rw [hg]; exact (below_size qz3_) : w.heap.size ≤ gb101)); have n3_ := am_ ((by rw [hg]; exact (below_size qz3_) : w.heap.size ≤ gb101)); clear HB; have HB := n0_; have BK101 := n1_; have GW101 := n2_; have GE101 := n3_; clear n0_ n1_ n2_ n3_; clear hb hbox hg) | ((with_reducible refine gate_dst (N := 3) rfl ?_); refine box_event ?hg (N := 3) ?hd (cs := #[.int .i64 a1_0, .int .i64 a1_1]) (t := 34) ?hr ?_; (case hd => rfl); (case hg => rfl); (case hr => first | (go_simp; done) | (go_simp; rfl)); intro gb102 hg w6 hbox hb; have n0_ := am_ (blk_below (g := gb101) (o := .cells #[.int .i64 a0_0, .int .i64 a0_1] 34 (0, 0)) qz13_ hb); have n1_ := am_ (below_step qz5_ hb); have n2_ := am_ (hbox); have n3_ := am_ ((by rw [hg]; exact (below_size qz5_) : w.heap.size ≤ gb102)); have n4_ := am_ ((by rw [hg]; exact (below_size qz5_) : w.heap.size ≤ gb102)); have n5_ := am_ ((by rw [hg]; exact Nat.ne_of_lt (blk_lt (g := gb101) (o := .cells #[.int .i64 a0_0, .int .i64 a0_1] 34 (0, 0)) qz13_) : gb101 ≠ gb102)); have n6_ := am_ ((by rw [hg]; exact Nat.ne_of_gt (blk_lt (g := gb101) (o := .cells #[.int .i64 a0_0, .int .i64 a0_1] 34 (0, 0)) qz13_) : gb102 ≠ gb101)); clear BK101; clear HB; have BK101 := n0_; have HB := n1_; have BK102 := n2_; have GW102 := n3_; have GE102 := n4_; have NB101_102 := n5_; have NB102_101 := n6_; clear n0_ n1_ n2_ n3_ n4_ n5_ n6_; clear hb hbox hg) | ((with_reducible refine gate_dst (N := 4) rfl ?_); refine box_event ?hg (N := 4) ?hd (cs := #[.int .i64 0, .int .i64 0]) (t := 34) ?hr ?_; (case hd => rfl); (case hg => rfl); (case hr => first | (go_simp; done) | (go_simp; rfl)); intro gb103 hg w7 hbox hb; have n0_ := am_ (blk_below (g := gb101) (o := .cells #[.int .i64 a0_0, .int .i64 a0_1] 34 (0, 0)) qz13_ hb); have n1_ := am_ (blk_below (g := gb102) (o := .cells #[.int .i64 a1_0, .int .i64 a1_1] 34 (0, 0)) qz14_ hb); have n2_ := am_ (below_step qz15_ hb); have n3_ := am_ (hbox); have n4_ := am_ ((by rw [hg]; exact (below_size qz15_) : w.heap.size ≤ gb103)); have n5_ := am_ ((by rw [hg]; exact (below_size qz15_) : w.heap.size ≤ gb103)); have n6_ := am_ ((by rw [hg]; exact Nat.ne_of_lt (blk_lt (g := gb101) (o := .cells #[.int .i64 a0_0, .int .i64 a0_1] 34 (0, 0)) qz13_) : gb101 ≠ gb103)); have n7_ := am_ ((by rw [hg]; exact Nat.ne_of_gt (blk_lt (g := gb101) (o := .cells #[.int .i64 a0_0, .int .i64 a0_1] 34 (0, 0)) qz13_) : gb103 ≠ gb101)); have n8_ := am_ ((by rw [hg]; exact Nat.ne_of_lt (blk_lt (g := gb102) (o := .cells #[.int .i64 a1_0, .int .i64 a1_1] 34 (0, 0)) qz14_) : gb102 ≠ gb103)); have n9_ := am_ ((by rw [hg]; exact Nat.ne_of_gt (blk_lt (g := gb102) (o := .cells #[.int .i64 a1_0, .int .i64 a1_1] 34 (0, 0)) qz14_) : gb103 ≠ gb102)); clear BK101; clear BK102; clear HB; have BK101 := n0_; have BK102 := n1_; have HB := n2_; have BK103 := n3_; have GW103 := n4_; have GE103 := n5_; have NB101_103 := n6_; have NB103_101 := n7_; have NB102_103 := n8_; have NB103_102 := n9_; clear n0_ n1_ n2_ n3_ n4_ n5_ n6_ n7_ n8_ n9_; clear hb hbox hg))
 have n0_ := am_ (blk_drew BK101.out)
 have n1_ := am_ (blk_drew BK102.out)
 have n2_ := am_ (blk_drew BK103.out)
 have n3_ := am_ (below_drew1 HB.out)
 clear BK101
 clear BK102
 clear BK103
 clear HB
 have BK101 := n0_
 have BK102 := n1_
 have BK103 := n2_
 have HB := n3_
 clear n0_ n1_ n2_ n3_
 refine start_ (n := 12) (S := fun w' => w'.cell? ⟨gb101, 0, none⟩ = some (.int .i64 a0_0) ∧ w'.cell? ⟨gb101, 1, none⟩ = some (.int .i64 a0_1) ∧ w'.cell? ⟨gb102, 0, none⟩ = some (.int .i64 a1_0) ∧ w'.cell? ⟨gb102, 1, none⟩ = some (.int .i64 a1_1)) (ds := []) #[false, false, false, false, false, false, false, false, false, false, false, false] (by kernel_rfl) rfl rfl ⟨(blk_cell BK101.out 0).trans rfl, (blk_cell BK101.out 1).trans rfl, (blk_cell BK102.out 0).trans rfl, (blk_cell BK102.out 1).trans rfl⟩ (fun hHeld => ?_); refine with_tabW impl_Ext_plus.tab1 impl_Ext_plus.bits1 (fun HT_ HW_ => ?_)
 generalize w7.drew = w8 at BK101 BK102 BK103 HB hHeld ⊢
 refine pure_ (i := 0) (N := some 5) (v := ?_) (a' := ?_) #[true, false, false, false, false, false, false, false, false, false, false, false] rfl rfl (any_of HT_.out (by kernel_rfl)) (fun _ _ _ h => h) (Or.inl ⟨(by rfl), ?_⟩) ?_ ?_
 rotate_left
 ·
  intro w'
  go_simp
  with_reducible rfl
 rotate_left
 ·
  exact ap_
 refine pure_ (i := 2) (N := some 7) (v := ?_) (a' := ?_) #[true, false, true, false, false, false, false, false, false, false, false, false] rfl rfl (any_of HT_.out (by kernel_rfl)) (fun _ _ _ h => h) (Or.inl ⟨(by rfl), ?_⟩) ?_ ?_
 rotate_left
 ·
  intro w'
  go_simp
  with_reducible rfl
 rotate_left
 ·
  exact ap_
 refine pure_ (i := 5) (N := some 10) (v := ?_) (a' := ?_) #[true, false, true, false, false, true, false, false, false, false, false, false] rfl rfl (any_of HT_.out (by kernel_rfl)) (fun _ _ _ h => h) (Or.inl ⟨(by rfl), ?_⟩) ?_ ?_
 rotate_left
 ·
  intro w'
  go_simp
  with_reducible rfl
 rotate_left
 ·
  exact ap_
 refine pure_ (i := 7) (N := some 12) (v := ?_) (a' := ?_) #[true, false, true, false, false, true, false, true, false, false, false, false] rfl rfl (any_of HT_.out (by kernel_rfl)) (fun _ _ _ h => h) (Or.inl ⟨(by rfl), ?_⟩) ?_ ?_
 rotate_left
 ·
  intro w'
  go_simp
  with_reducible rfl
 rotate_left
 ·
  exact ap_
 refine take_ (i := 1) (N := some 6) (v := ?_) (a' := ?_) #[true, true, true, false, false, true, false, true, false, false, false, false] rfl rfl (take_ofW HT_.out HW_.out (by kernel_rfl)) (fun _ _ _ h => h) (Or.inl ⟨(by rfl), ?_⟩) hHeld ?_ ?_
 rotate_left
 ·
  rintro w' ⟨s0, s1, s2, s3⟩
  go_simp
  with_reducible rfl
 rotate_left
 ·
  exact ap_
 refine take_ (i := 3) (N := some 8) (v := ?_) (a' := ?_) #[true, true, true, true, false, true, false, true, false, false, false, false] rfl rfl (take_ofW HT_.out HW_.out (by kernel_rfl)) (fun _ _ _ h => h) (Or.inl ⟨(by rfl), ?_⟩) hHeld ?_ ?_
 rotate_left
 ·
  rintro w' ⟨s0, s1, s2, s3⟩
  go_simp
  with_reducible rfl
 rotate_left
 ·
  exact ap_
 refine take_ (i := 6) (N := some 11) (v := ?_) (a' := ?_) #[true, true, true, true, false, true, true, true, false, false, false, false] rfl rfl (take_ofW HT_.out HW_.out (by kernel_rfl)) (fun _ _ _ h => h) (Or.inl ⟨(by rfl), ?_⟩) hHeld ?_ ?_
 rotate_left
 ·
  rintro w' ⟨s0, s1, s2, s3⟩
  go_simp
  with_reducible rfl
 rotate_left
 ·
  exact ap_
 refine take_ (i := 8) (N := some 13) (v := ?_) (a' := ?_) #[true, true, true, true, false, true, true, true, true, false, false, false] rfl rfl (take_ofW HT_.out HW_.out (by kernel_rfl)) (fun _ _ _ h => h) (Or.inl ⟨(by rfl), ?_⟩) hHeld ?_ ?_
 rotate_left
 ·
  rintro w' ⟨s0, s1, s2, s3⟩
  go_simp
  with_reducible rfl
 rotate_left
 ·
  exact ap_
 refine one_ (i := 4) (N := some 9) #[true, true, true, true, true, true, true, true, true, false, false, false] rfl rfl (one_of HT_.out (by kernel_rfl)) (by decide) (fun K hK => ?_)
 refine goes_ Try.func154 (by kernel_rfl) rfl #[.int .i64 a0_0, .int .i64 a1_0] (by rfl) rfl rfl qz2_ ?_
 with_reducible refine (impl_add.calls a0_0 a1_0 t104 _ A3.out).mono ?_
 rintro e w' ⟨rfl, ⟨nd, rfl⟩⟩
 refine ⟨_, rfl, ?_⟩
 refine hK.out _ _ ⟨(blk_cell BK101.out 0).trans rfl, (blk_cell BK101.out 1).trans rfl, (blk_cell BK102.out 0).trans rfl, (blk_cell BK102.out 1).trans rfl⟩ (fun hHeld => ?_)
 clear hK K
 refine norm_ (a' := ?_) ?_ ?_
 rotate_left
 ·
  show Act.put _ (some 9) _ = _
  exact ap_
 refine one_ (i := 9) (N := some 14) #[true, true, true, true, true, true, true, true, true, true, false, false] rfl rfl (one_of HT_.out (by kernel_rfl)) (by decide) (fun K hK => ?_)
 refine goes_ Try.func154 (by kernel_rfl) rfl #[.int .i64 a0_1, .int .i64 a1_1] (by rfl) rfl rfl qz2_ ?_
 with_reducible refine (impl_add.calls a0_1 a1_1 t105 _ A4.out).mono ?_
 rintro e w' ⟨rfl, ⟨nd, rfl⟩⟩
 refine ⟨_, rfl, ?_⟩
 refine hK.out _ _ ⟨(blk_cell BK101.out 0).trans rfl, (blk_cell BK101.out 1).trans rfl, (blk_cell BK102.out 0).trans rfl, (blk_cell BK102.out 1).trans rfl⟩ (fun hHeld => ?_)
 clear hK K
 refine norm_ (a' := ?_) ?_ ?_
 rotate_left
 ·
  show Act.put _ (some 14) _ = _
  exact ap_
 refine pure_ (i := 10) (N := some 15) (v := ?_) (a' := ?_) #[true, true, true, true, true, true, true, true, true, true, true, false] rfl rfl (any_of HT_.out (by kernel_rfl)) (fun _ _ _ h => h) (Or.inl ⟨(by rfl), ?_⟩) ?_ ?_
 rotate_left
 ·
  intro w'
  go_simp
  with_reducible rfl
 rotate_left
 ·
  exact ap_
 refine one_ (i := 11) (N := none) #[true, true, true, true, true, true, true, true, true, true, true, true] rfl rfl (one_of HT_.out (by kernel_rfl)) (by decide) (fun K hK => ?_)
 have hs9 : w8.cell? ⟨gb103, 0, none⟩ = some (.int .i64 0) := (blk_cell BK103.out 0).trans rfl
 have hfs9 := blk_frozen BK103.out 0
 have hns9_0 := NB101_103.out
 have hns9_1 := NB102_103.out
 have hms9_0 := NB103_101.out
 have hms9_1 := NB103_102.out
 have hs10 : w8.cell? ⟨gb103, 1, none⟩ = some (.int .i64 0) := (blk_cell BK103.out 1).trans rfl
 have hfs10 := blk_frozen BK103.out 1
 have hns10_0 := NB101_103.out
 have hns10_1 := NB102_103.out
 have hms10_0 := NB103_101.out
 have hms10_1 := NB103_102.out
 refine skip_ (w1 := ?_) (by rfl) rfl ?_ ?_
 rotate_left
 ·
  go_simp
  rfl
 refine hK.out _ _ ⟨((cell_far (p := ⟨gb103, _, none⟩) NB101_103.out _).trans (((cell_far (p := ⟨gb103, _, none⟩) NB101_103.out _).trans (hHeld.1)))), ((cell_far (p := ⟨gb103, _, none⟩) NB101_103.out _).trans (((cell_far (p := ⟨gb103, _, none⟩) NB101_103.out _).trans (hHeld.2.1)))), ((cell_far (p := ⟨gb103, _, none⟩) NB102_103.out _).trans (((cell_far (p := ⟨gb103, _, none⟩) NB102_103.out _).trans (hHeld.2.2.1)))), ((cell_far (p := ⟨gb103, _, none⟩) NB102_103.out _).trans (((cell_far (p := ⟨gb103, _, none⟩) NB102_103.out _).trans (hHeld.2.2.2))))⟩ (fun hHeld => ?_)
 clear hK K
 refine done_ (done_of HT_.out (by kernel_rfl)) ?_
 try go_wp2
 refine bodyPost_ret (results_cell_row rfl _ _ gb103 34 #[.int .i64 t104, .int .i64 t105] (0, 0) _ rfl qz16_ Try.underlying34 rfl (by kernel_rfl)) rfl ?_
 exact ⟨qz4_, qz17_⟩

def impl_mul.f (a0 : Int) (a1 : Int) : Option (Int) := some (Int.tmod (wrap64 (a0 * a1)) 2130706433)
set_option maxHeartbeats 8000000 in
set_option maxRecDepth 100000 in
theorem impl_mul.calls (a0 : Int) (a1 : Int) (r : Int) (w : World) (h : impl_mul.f a0 a1 = some r) :
  Calls Try.prog 166 #[.int .i64 a0, .int .i64 a1] w fun e w' => e = .returned (.int .i64 r) ∧ Drawn0 w w' := by
 have H : (some (Int.tmod (wrap64 (a0 * a1)) 2130706433)) = some r := h
 clear h
 obtain rfl := Option.some.inj H
 go_enter Try.func166, Try.ntmps166
 go_wp2
 go_ret
 exact ⟨qz0_, qz1_⟩

def impl_Ext_scaled.f (a0_0 : Int) (a0_1 : Int) (a1 : Int) : Option (Int × Int) := (impl_mul.f a0_0 a1).bind fun t103 => ((impl_mul.f a0_1 a1).bind fun t104 => (some (t103, t104)))
def impl_Ext_scaled.T1 : Bool × List (List Nat × List Nat) := (true, [([], []), ([0], [0]), ([], []), ([1, 2], [1, 2]), ([], []), ([4], [4]), ([], []), ([5, 6, 3], [5, 6]), ([3, 7], [3, 7]), ([8, 7, 0, 1, 2, 3, 4, 5, 6, 7, 8], [8])])
def impl_Ext_scaled.B1 : List Nat := [0, 1, 0, 7, 0, 16, 0, 127, 255, 511]
theorem impl_Ext_scaled.tab1 : rtab .any (opsOf Try.f157 1) = impl_Ext_scaled.T1 := by kernel_rfl
theorem impl_Ext_scaled.bits1 : waitsOk impl_Ext_scaled.T1.2 impl_Ext_scaled.B1 = true := by kernel_rfl
set_option maxHeartbeats 8000000 in
set_option maxRecDepth 100000 in
theorem impl_Ext_scaled.calls (a0_0 : Int) (a0_1 : Int) (a1 : Int) (r1 : Int) (r2 : Int) (w : World) (h : impl_Ext_scaled.f a0_0 a0_1 a1 = some (r1, r2)) :
  Calls Try.prog 157 #[.agg #[.int .i64 a0_0, .int .i64 a0_1], .int .i64 a1] w fun e w' => e = .returned (.agg #[.int .i64 r1, .int .i64 r2]) ∧ Below w.heap.size w w' := by
 have hu34 := Try.underlying34
 have HB := am_ (Below.refl w.heap.size w)
 have H : ((impl_mul.f a0_0 a1).bind fun t103 => ((impl_mul.f a0_1 a1).bind fun t104 => (some (t103, t104)))) = some (r1, r2) := h
 clear h
 replace H := Option.bind_eq_some_iff.mp H
 obtain ⟨t103, A30, H⟩ := H
 replace H : ((impl_mul.f a0_1 a1).bind fun t104 => (some (t103, t104))) = some (r1, r2) := H
 have A3 := am_ A30
 clear A30
 replace H := Option.bind_eq_some_iff.mp H
 obtain ⟨t104, A40, H⟩ := H
 replace H : (some (t103, t104)) = some (r1, r2) := H
 have A4 := am_ A40
 clear A40
 simp only [Option.some.injEq, Prod.mk.injEq] at H
 obtain ⟨rfl, rfl⟩ := H
 go_enter Try.func157, Try.ntmps157
 try go_wp2_with (first | ((with_reducible refine gate_dst (N := 2) rfl ?_); refine box_event ?hg (N := 2) ?hd (cs := #[.int .i64 a0_0, .int .i64 a0_1]) (t := 34) ?hr ?_; (case hd => rfl); (case hg => rfl); (case hr => first | (go_simp; done) | (go_simp; rfl)); intro gb101 hg w5 hbox hb; have n0_ := am_ (below_step qz3_ hb); have n1_ := am_ (hbox); have n2_ := am_ ((by rw [hg]; exact (below_size qz3_) : w.heap.size ≤ gb101)); have n3_ := am_ ((by rw [hg]; exact (below_size qz3_) : w.heap.size ≤ gb101)); clear HB; have HB := n0_; have BK101 := n1_; have GW101 := n2_; have GE101 := n3_; clear n0_ n1_ n2_ n3_; clear hb hbox hg) | ((with_reducible refine gate_dst (N := 4) rfl ?_); refine box_event ?hg (N := 4) ?hd (cs := #[.int .i64 0, .int .i64 0]) (t := 34) ?hr ?_; (case hd => rfl); (case hg => rfl); (case hr => first | (go_simp; done) | (go_simp; rfl)); intro gb102 hg w6 hbox hb; have n0_ := am_ (blk_below (g := gb101) (o := .cells #[.int .i64 a0_0, .int .i64 a0_1] 34 (0, 0)) qz13_ hb); have n1_ := am_ (below_step qz5_ hb); have n2_ := am_ (hbox); have n3_ := am_ ((by rw [hg]; exact (below_size qz5_) : w.heap.size ≤ gb102)); have n4_ := am_ ((by rw [hg]; exact (below_size qz5_) : w.heap.size ≤ gb102)); have n5_ := am_ ((by rw [hg]; exact Nat.ne_of_lt (blk_lt (g := gb101) (o := .cells #[.int .i64 a0_0, .int .i64 a0_1] 34 (0, 0)) qz13_) : gb101 ≠ gb102)); have n6_ := am_ ((by rw [hg]; exact Nat.ne_of_gt (blk_lt (g := gb101) (o := .cells #[.int .i64 a0_0, .int .i64 a0_1] 34 (0, 0)) qz13_) : gb102 ≠ gb101)); clear BK101; clear HB; have BK101 := n0_; have HB := n1_; have BK102 := n2_; have GW102 := n3_; have GE102 := n4_; have NB101_102 := n5_; have NB102_101 := n6_; clear n0_ n1_ n2_ n3_ n4_ n5_ n6_; clear hb hbox hg))
 have n0_ := am_ (blk_drew BK101.out)
 have n1_ := am_ (blk_drew BK102.out)
 have n2_ := am_ (below_drew1 HB.out)
 clear BK101
 clear BK102
 clear HB
 have BK101 := n0_
 have BK102 := n1_
 have HB := n2_
 clear n0_ n1_ n2_
 refine start_ (n := 10) (S := fun w' => w'.cell? ⟨gb101, 0, none⟩ = some (.int .i64 a0_0) ∧ w'.cell? ⟨gb101, 1, none⟩ = some (.int .i64 a0_1)) (ds := []) #[false, false, false, false, false, false, false, false, false, false] (by kernel_rfl) rfl rfl ⟨(blk_cell BK101.out 0).trans rfl, (blk_cell BK101.out 1).trans rfl⟩ (fun hHeld => ?_); refine with_tabW impl_Ext_scaled.tab1 impl_Ext_scaled.bits1 (fun HT_ HW_ => ?_)
 generalize w6.drew = w7 at BK101 BK102 HB hHeld ⊢
 refine pure_ (i := 0) (N := some 5) (v := ?_) (a' := ?_) #[true, false, false, false, false, false, false, false, false, false] rfl rfl (any_of HT_.out (by kernel_rfl)) (fun _ _ _ h => h) (Or.inl ⟨(by rfl), ?_⟩) ?_ ?_
 rotate_left
 ·
  intro w'
  go_simp
  with_reducible rfl
 rotate_left
 ·
  exact ap_
 refine pure_ (i := 2) (N := some 7) (v := ?_) (a' := ?_) #[true, false, true, false, false, false, false, false, false, false] rfl rfl (any_of HT_.out (by kernel_rfl)) (fun _ _ _ h => h) (Or.inl ⟨(by rfl), ?_⟩) ?_ ?_
 rotate_left
 ·
  intro w'
  go_simp
  with_reducible rfl
 rotate_left
 ·
  exact ap_
 refine pure_ (i := 4) (N := some 9) (v := ?_) (a' := ?_) #[true, false, true, false, true, false, false, false, false, false] rfl rfl (any_of HT_.out (by kernel_rfl)) (fun _ _ _ h => h) (Or.inl ⟨(by rfl), ?_⟩) ?_ ?_
 rotate_left
 ·
  intro w'
  go_simp
  with_reducible rfl
 rotate_left
 ·
  exact ap_
 refine pure_ (i := 6) (N := some 11) (v := ?_) (a' := ?_) #[true, false, true, false, true, false, true, false, false, false] rfl rfl (any_of HT_.out (by kernel_rfl)) (fun _ _ _ h => h) (Or.inl ⟨(by rfl), ?_⟩) ?_ ?_
 rotate_left
 ·
  intro w'
  go_simp
  with_reducible rfl
 rotate_left
 ·
  exact ap_
 refine take_ (i := 1) (N := some 6) (v := ?_) (a' := ?_) #[true, true, true, false, true, false, true, false, false, false] rfl rfl (take_ofW HT_.out HW_.out (by kernel_rfl)) (fun _ _ _ h => h) (Or.inl ⟨(by rfl), ?_⟩) hHeld ?_ ?_
 rotate_left
 ·
  rintro w' ⟨s0, s1⟩
  go_simp
  with_reducible rfl
 rotate_left
 ·
  exact ap_
 refine take_ (i := 5) (N := some 10) (v := ?_) (a' := ?_) #[true, true, true, false, true, true, true, false, false, false] rfl rfl (take_ofW HT_.out HW_.out (by kernel_rfl)) (fun _ _ _ h => h) (Or.inl ⟨(by rfl), ?_⟩) hHeld ?_ ?_
 rotate_left
 ·
  rintro w' ⟨s0, s1⟩
  go_simp
  with_reducible rfl
 rotate_left
 ·
  exact ap_
 refine one_ (i := 3) (N := some 8) #[true, true, true, true, true, true, true, false, false, false] rfl rfl (one_of HT_.out (by kernel_rfl)) (by decide) (fun K hK => ?_)
 refine goes_ Try.func166 (by kernel_rfl) rfl #[.int .i64 a0_0, .int .i64 a1] (by rfl) rfl rfl qz2_ ?_
 with_reducible refine (impl_mul.calls a0_0 a1 t103 _ A3.out).mono ?_
 rintro e w' ⟨rfl, ⟨nd, rfl⟩⟩
 refine ⟨_, rfl, ?_⟩
 refine hK.out _ _ ⟨(blk_cell BK101.out 0).trans rfl, (blk_cell BK101.out 1).trans rfl⟩ (fun hHeld => ?_)
 clear hK K
 refine norm_ (a' := ?_) ?_ ?_
 rotate_left
 ·
  show Act.put _ (some 8) _ = _
  exact ap_
 refine one_ (i := 7) (N := some 12) #[true, true, true, true, true, true, true, true, false, false] rfl rfl (one_of HT_.out (by kernel_rfl)) (by decide) (fun K hK => ?_)
 refine goes_ Try.func166 (by kernel_rfl) rfl #[.int .i64 a0_1, .int .i64 a1] (by rfl) rfl rfl qz2_ ?_
 with_reducible refine (impl_mul.calls a0_1 a1 t104 _ A4.out).mono ?_
 rintro e w' ⟨rfl, ⟨nd, rfl⟩⟩
 refine ⟨_, rfl, ?_⟩
 refine hK.out _ _ ⟨(blk_cell BK101.out 0).trans rfl, (blk_cell BK101.out 1).trans rfl⟩ (fun hHeld => ?_)
 clear hK K
 refine norm_ (a' := ?_) ?_ ?_
 rotate_left
 ·
  show Act.put _ (some 12) _ = _
  exact ap_
 refine pure_ (i := 8) (N := some 13) (v := ?_) (a' := ?_) #[true, true, true, true, true, true, true, true, true, false] rfl rfl (any_of HT_.out (by kernel_rfl)) (fun _ _ _ h => h) (Or.inl ⟨(by rfl), ?_⟩) ?_ ?_
 rotate_left
 ·
  intro w'
  go_simp
  with_reducible rfl
 rotate_left
 ·
  exact ap_
 refine one_ (i := 9) (N := none) #[true, true, true, true, true, true, true, true, true, true] rfl rfl (one_of HT_.out (by kernel_rfl)) (by decide) (fun K hK => ?_)
 have hs8 : w7.cell? ⟨gb102, 0, none⟩ = some (.int .i64 0) := (blk_cell BK102.out 0).trans rfl
 have hfs8 := blk_frozen BK102.out 0
 have hns8_0 := NB101_102.out
 have hms8_0 := NB102_101.out
 have hs9 : w7.cell? ⟨gb102, 1, none⟩ = some (.int .i64 0) := (blk_cell BK102.out 1).trans rfl
 have hfs9 := blk_frozen BK102.out 1
 have hns9_0 := NB101_102.out
 have hms9_0 := NB102_101.out
 refine skip_ (w1 := ?_) (by rfl) rfl ?_ ?_
 rotate_left
 ·
  go_simp
  rfl
 refine hK.out _ _ ⟨((cell_far (p := ⟨gb102, _, none⟩) NB101_102.out _).trans (((cell_far (p := ⟨gb102, _, none⟩) NB101_102.out _).trans (hHeld.1)))), ((cell_far (p := ⟨gb102, _, none⟩) NB101_102.out _).trans (((cell_far (p := ⟨gb102, _, none⟩) NB101_102.out _).trans (hHeld.2))))⟩ (fun hHeld => ?_)
 clear hK K
 refine done_ (done_of HT_.out (by kernel_rfl)) ?_
 try go_wp2
 refine bodyPost_ret (results_cell_row rfl _ _ gb102 34 #[.int .i64 t103, .int .i64 t104] (0, 0) _ rfl (by (with_reducible repeat (first | refine blk_drewN ?_ _ | refine blk_drew ?_ | refine blk_alloc ?_ _)); refine blk_put (cs := #[.int .i64 t103, .int .i64 0]) ?_ 1 _ rfl; (with_reducible repeat (first | refine blk_drewN ?_ _ | refine blk_drew ?_ | refine blk_alloc ?_ _)); refine blk_put (cs := #[.int .i64 0, .int .i64 0]) ?_ 0 _ rfl; (with_reducible repeat (first | refine blk_drewN ?_ _ | refine blk_drew ?_ | refine blk_alloc ?_ _)); exact BK102.out) Try.underlying34 rfl (by kernel_rfl)) rfl ?_
 exact ⟨qz4_, qz15_⟩

end Go.Proofs.Ytgookagndlfehaa.PT
end
section
namespace Go.Proofs.Ytgookagndlfehaa.PT
open Go.RowKit Go.Proofs.YtgookagndlfehaaW.PrintWords Go.Proofs.YtgookagndlfehaaW.PrintLast Go.Proofs.YtgookagndlfehaaW.PrintMore
attribute [local go_sem] max2_int min2_int max_two min_two max_three min_three max_four min_four   -- for this text's walks alone
set_option linter.unusedVariables false
set_option linter.unusedSimpArgs false
mutual
def impl_values.l0 : Nat → List (S34) → Int → List (S34) → List (S34) → Int → Option ((List (S34)))
 | 0, _, _, _, _, _ => none
 | k + 1, x0, x1, x5, x6, x7 => if x7 < (x0.length : Int) then (if 0 ≤ x7 then ((some (([(⟨(rd_T34 x0 x7).f0, (rd_T34 x0 x7).f1⟩ : S34)] : List (S34)) : List (S34))).bind fun y111 => (if x5.length + y111.length < 8796093022208 then (if 0 ≤ (wrap64 (x7 + 1)) then (if (wrap64 (x7 + 1)) < (x0.length : Int) then ((some (([(⟨(rd_T34 x0 (wrap64 (x7 + 1))).f0, (rd_T34 x0 (wrap64 (x7 + 1))).f1⟩ : S34)] : List (S34)) : List (S34))).bind fun y118 => (if x6.length + y118.length < 8796093022208 then (impl_values.l0 k x0 x1 (x5 ++ y111) (x6 ++ y118) (wrap64 (x7 + 2))) else (none))) else (none)) else (none)) else (none))) else (none)) else ((impl_mul.f x1 x1).bind fun t124 => ((impl_values.f k x5 t124).bind fun t125 => ((impl_mul.f x1 x1).bind fun t128 => ((impl_values.f k x6 t128).bind fun t129 => (if 0 ≤ (wrap64 (2 * (t125.length : Int))) then (if (wrap64 (2 * (t125.length : Int)) : Int).toNat ≤ 17592186044416 then (impl_values.l1 k x1 t125 t129 (t125.length : Int) 1 (List.replicate (wrap64 (2 * (t125.length : Int)) : Int).toNat z34) (t125.length : Int) 0) else (none)) else (none))))))
def impl_values.l1 : Nat → Int → List (S34) → List (S34) → Int → Int → List (S34) → Int → Int → Option ((List (S34)))
 | 0, _, _, _, _, _, _, _, _ => none
 | k + 1, x1, x8, x9, x10, x11, x12, x58, x59 => if x59 < x58 then (if 0 ≤ x59 then (if x59 < (x9.length : Int) then ((impl_Ext_scaled.f ((rd_T34 x9 x59).f0) ((rd_T34 x9 x59).f1) x11).bind fun bt136 => (if x59 < (x8.length : Int) then ((impl_Ext_plus.f ((rd_T34 x8 x59).f0) ((rd_T34 x8 x59).f1) bt136.1 bt136.2).bind fun bt140 => ((impl_Ext_minus.f ((rd_T34 x8 x59).f0) ((rd_T34 x8 x59).f1) bt136.1 bt136.2).bind fun bt143 => (if x59 < (x12.length : Int) then (if 0 ≤ (wrap64 (x59 + x10)) then (if (wrap64 (x59 + x10)) < (x12.length : Int) then ((impl_mul.f x11 x1).bind fun t147 => (impl_values.l1 k x1 x8 x9 x10 t147 ((x12.set (x59 : Int).toNat (⟨bt140.1, bt140.2⟩ : S34)).set ((wrap64 (x59 + x10)) : Int).toNat (⟨bt143.1, bt143.2⟩ : S34)) x58 (wrap64 (x59 + 1)))) else (none)) else (none)) else (none)))) else (none))) else (none)) else (none)) else (some x12)
def impl_values.f : Nat → List (S34) → Int → Option ((List (S34)))
 | 0, _, _ => none
 | k + 1, l0, a1 => if (l0.length : Int) = 1 then ((impl_Ext_45.f l0).bind fun t101 => (some t101)) else (impl_values.l0 k l0 a1 (([] : List (S34))) (([] : List (S34))) 0)
end
theorem impl_values.mono_l : ∀ k, (∀ y0 y1, LeO (impl_values.f k y0 y1) (impl_values.f (k + 1) y0 y1)) ∧ (∀ y0 y1 y2 y3 y4, LeO (impl_values.l0 k y0 y1 y2 y3 y4) (impl_values.l0 (k + 1) y0 y1 y2 y3 y4)) ∧ (∀ y0 y1 y2 y3 y4 y5 y6 y7, LeO (impl_values.l1 k y0 y1 y2 y3 y4 y5 y6 y7) (impl_values.l1 (k + 1) y0 y1 y2 y3 y4 y5 y6 y7))
 | 0 => ⟨fun _ _ r h => by simp [impl_values.f] at h, fun _ _ _ _ _ r h => by simp [impl_values.l0] at h, fun _ _ _ _ _ _ _ _ r h => by simp [impl_values.l1] at h⟩
 | k + 1 => by
  obtain ⟨ih0, ih1, ih2⟩ := impl_values.mono_l k
  refine ⟨?_, ?_, ?_⟩
  ·
   intro y0 y1
   unfold impl_values.f
   repeat' first
   | (with_reducible exact ih0 _ _)
   | (with_reducible exact ih1 _ _ _ _ _)
   | (with_reducible exact ih2 _ _ _ _ _ _ _ _)
   | (with_reducible exact LeO.refl _)
   | (with_reducible exact LeO.none _)
   | (with_reducible refine LeO.ite ?_ ?_)
   | (with_reducible refine LeO.bind ?_ (fun _ => ?_))
   | exact ih0 _ _
   | exact ih1 _ _ _ _ _
   | exact ih2 _ _ _ _ _ _ _ _
   | exact LeO.none _
   | refine LeO.ite ?_ ?_
   | refine LeO.bind ?_ (fun _ => ?_)
  ·
   intro y0 y1 y2 y3 y4
   unfold impl_values.l0
   repeat' first
   | (with_reducible exact ih0 _ _)
   | (with_reducible exact ih1 _ _ _ _ _)
   | (with_reducible exact ih2 _ _ _ _ _ _ _ _)
   | (with_reducible exact LeO.refl _)
   | (with_reducible exact LeO.none _)
   | (with_reducible refine LeO.ite ?_ ?_)
   | (with_reducible refine LeO.bind ?_ (fun _ => ?_))
   | exact ih0 _ _
   | exact ih1 _ _ _ _ _
   | exact ih2 _ _ _ _ _ _ _ _
   | exact LeO.none _
   | refine LeO.ite ?_ ?_
   | refine LeO.bind ?_ (fun _ => ?_)
  ·
   intro y0 y1 y2 y3 y4 y5 y6 y7
   unfold impl_values.l1
   repeat' first
   | (with_reducible exact ih0 _ _)
   | (with_reducible exact ih1 _ _ _ _ _)
   | (with_reducible exact ih2 _ _ _ _ _ _ _ _)
   | (with_reducible exact LeO.refl _)
   | (with_reducible exact LeO.none _)
   | (with_reducible refine LeO.ite ?_ ?_)
   | (with_reducible refine LeO.bind ?_ (fun _ => ?_))
   | exact ih0 _ _
   | exact ih1 _ _ _ _ _
   | exact ih2 _ _ _ _ _ _ _ _
   | exact LeO.none _
   | refine LeO.ite ?_ ?_
   | refine LeO.bind ?_ (fun _ => ?_)
theorem impl_values.mono : ∀ a0 a1 k, LeO (impl_values.f k a0 a1) (impl_values.f (k + 1) a0 a1) := by
 intro a0 a1 k
 obtain ⟨ih0, ih1, ih2⟩ := impl_values.mono_l k
 exact ih0 a0 a1
def impl_values.T7 : Bool × List (List Nat × List Nat) := (true, [([], []), ([], []), ([], []), ([1, 2], [1, 2]), ([3], [3]), ([4], [4]), ([0, 5], [0, 5]), ([], []), ([], []), ([], []), ([9], [9]), ([8, 10], [8, 10]), ([11], [11]), ([12], [12]), ([7, 13, 6], [7, 13]), ([6, 14, 0, 1, 2, 3, 4, 5, 6], [0, 6]), ([14, 15, 0, 1, 2, 3, 4, 5, 6, 7, 8, 9, 10, 11, 12, 13, 14, 15], [7, 14])])
def impl_values.B7 : List Nat := [0, 0, 0, 6, 14, 30, 63, 0, 0, 0, 512, 1792, 3840, 7936, 16383, 32767, 65535]
theorem impl_values.tab7 : rtab .any (opsOf Try.f142 7) = impl_values.T7 := by kernel_rfl
theorem impl_values.bits7 : waitsOk impl_values.T7.2 impl_values.B7 = true := by kernel_rfl
def impl_values.T15 : Bool × List (List Nat × List Nat) := (true, [([], []), ([], []), ([], []), ([], []), ([], []), ([3, 4], [3, 4]), ([], []), ([], []), ([6, 7], [6, 7]), ([8], [8]), ([], []), ([9, 10], [9, 10]), ([], []), ([], []), ([12, 13], [12, 13]), ([14], [14]), ([], []), ([15, 16, 11], [15, 16]), ([0, 1, 0, 1, 6, 7, 8, 9, 10, 11, 15, 17], [0, 1]), ([18, 11, 17, 0, 1, 6, 7, 8, 9, 10, 11, 15, 17], [11, 18]), ([2, 5, 0, 1, 2, 3, 4, 5, 6, 7, 8, 9, 10, 11, 12, 13, 14, 15, 16, 17, 18, 19], [2, 5]), ([20, 17, 19, 0, 1, 2, 3, 4, 5, 6, 7, 8, 9, 10, 11, 12, 13, 14, 15, 16, 17, 18, 19], [17, 20])])
def impl_values.B15 : List Nat := [0, 0, 0, 0, 0, 24, 0, 0, 192, 448, 0, 1984, 0, 0, 12288, 28672, 0, 131008, 262083, 524227, 1048575, 2097151]
theorem impl_values.tab15 : rtab .any (opsOf Try.f142 15) = impl_values.T15 := by kernel_rfl
theorem impl_values.bits15 : waitsOk impl_values.T15.2 impl_values.B15 = true := by kernel_rfl
set_option maxHeartbeats 8000000 in
set_option maxRecDepth 100000 in
theorem impl_values.calls (k : Nat) : ∀ (A0 : Option Addr) (c0 : Nat) (l0 : List (S34)) (a1 : Int) (r : List (S34)) (w : World) (hr0 : Kd.C k34 w A0 l0.length l0) (hc0 : l0.length ≤ c0) (h : impl_values.f k l0 a1 = some r),
  Calls Try.prog 142 #[.slice A0 l0.length c0, .int .i64 a1] w fun e w' => ∃ v0_ : Value, e = .returned (v0_) ∧ Kd.R k34 34 w' w.heap.size (fun _ => True) v0_ r ∧ Below w.heap.size w w' := by
 induction k using Nat.strongRecOn with
 | _ k ih =>
 intro A0 c0 l0 a1 r w hr0 hc0 h
 cases k with
 | zero => exact absurd h (by simp [impl_values.f])
 | succ k =>
 simp only [impl_values.f] at h
 have hu34 := Try.underlying34
 have HR0 := am_ hr0
 have HC0 := am_ hc0
 clear hr0 hc0
 have HB := am_ (Below.refl w.heap.size w)
 have H : (if (l0.length : Int) = 1 then ((impl_Ext_45.f l0).bind fun t101 => (some t101)) else (impl_values.l0 k l0 a1 (([] : List (S34))) (([] : List (S34))) 0)) = some r := h
 clear h
 by_cases c3 : (l0.length : Int) = 1
 ·
  rw [if_pos c3] at H
  have c3b0 : ((l0.length : Int) == 1) = true := beq_iff_eq.mpr c3
  have c3b1 : ((l0.length : Int) != 1) = false := bne_eq_false_iff_eq.mpr c3
  clear c3
  replace H := Option.bind_eq_some_iff.mp H
  obtain ⟨t101, A40, H⟩ := H
  replace H : (some t101) = some r := H
  have A4 := am_ A40
  clear A40
  obtain rfl := Option.some.inj H
  go_enter Try.func142, Try.ntmps142
  go_wp2_with (first | ((with_reducible refine gate_callee (f := 45) rfl ?_); refine goesL_ (some 19) rfl rfl Try.func45 (by kernel_rfl) rfl #[.slice A0 l0.length c0] rfl qz2_ ?_; (with_reducible refine (impl_Ext_45.calls _ _ l0 t101 _ ?side1 ?side2 A4.out).mono ?_); (case side1 => exact qc_ HR0.out); (case side2 => exact HC0.out); rintro e w5 ⟨v102, rfl, ho0, hb⟩; refine ⟨_, rfl, ?_⟩; have n0_ := am_ (Kd.R_lower ho0 (below_size qz3_)); have n1_ := am_ (below_step qz3_ hb); clear HB; have HO103 := n0_; have HB := n1_; clear n0_ n1_; (try clear hb); (try clear hb2); (try clear hk); (try clear hi); (try clear ho0)))
  go_ret
  exact ⟨_, qz4_, qz10_, qz3_⟩
 ·
  rw [if_neg c3] at H
  have c3b0 : ((l0.length : Int) == 1) = false := beq_eq_false_iff_ne.mpr c3
  have c3b1 : ((l0.length : Int) != 1) = true := bne_iff_ne.mpr c3
  obtain ⟨y104, hy104⟩ : ∃ y_ : List (S34), y_ = (([] : List (S34))) := ⟨_, rfl⟩
  replace H : (impl_values.l0 k l0 a1 y104 (([] : List (S34))) 0) = some r := by first | (rw [hy104]; with_reducible exact H) | (have H2_ := (Option.bind_some _ _).symm.trans H; rw [hy104]; with_reducible exact H2_) | (have H2_ := (Option.bind_some _ _).symm.trans H; with_reducible exact H2_) | with_reducible exact H | (rw [hy104]; exact H) | exact H
  have Ny104 := am_ hy104
  clear hy104
  obtain ⟨y107, hy107⟩ : ∃ y_ : List (S34), y_ = (([] : List (S34))) := ⟨_, rfl⟩
  replace H : (impl_values.l0 k l0 a1 y104 y107 0) = some r := by first | (rw [hy107]; with_reducible exact H) | (have H2_ := (Option.bind_some _ _).symm.trans H; rw [hy107]; with_reducible exact H2_) | (have H2_ := (Option.bind_some _ _).symm.trans H; with_reducible exact H2_) | with_reducible exact H | (rw [hy107]; exact H) | exact H
  have Ny107 := am_ hy107
  clear hy107
  have H' := am_ H
  clear H
  go_enter Try.func142, Try.ntmps142
  go_wp2_with (first | ((with_reducible refine gate_dst (N := 20) rfl ?_); refine Kd.R_lit k34 _ 34 ?hg (N := 20) ?hd (xs := ([] : List (S34))) (inner := []) (ok := fun _ => True) (okp := fun _ => True) ?hr ?hp (fun _ hk => hk) trivial (Below.refl _ _) (Nat.le_refl _) (by simp) ?_; (case hd => rfl); (case hg => rfl); (case hr => first | (go_simp; done) | (go_simp; rfl)); (case hp => exact (Reps.none _ _)); intro v105 w6 ho7 hb hg_ hnew_; clear hg_ hnew_; (first | rw [← Ny104.out] at ho7 | (simp only [Int.reduceToNat] at ho7; rw [← Ny104.out] at ho7)); have n0_ := am_ (Kd.R_lower ho7 (below_size qz3_)); have n1_ := am_ (below_step qz3_ hb); clear HB; have HO106 := n0_; have HB := n1_; clear n0_ n1_; clear hb ho7) | ((with_reducible refine gate_dst (N := 21) rfl ?_); refine Kd.R_lit k34 _ 34 ?hg (N := 21) ?hd (xs := ([] : List (S34))) (inner := []) (ok := fun _ => True) (okp := fun _ => True) ?hr ?hp (fun _ hk => hk) trivial (Below.refl _ _) (Nat.le_refl _) (by simp) ?_; (case hd => rfl); (case hg => rfl); (case hr => first | (go_simp; done) | (go_simp; rfl)); (case hp => exact (Reps.none _ _)); intro v108 w8 ho9 hb hg_ hnew_; clear hg_ hnew_; (first | rw [← Ny107.out] at ho9 | (simp only [Int.reduceToNat] at ho9; rw [← Ny107.out] at ho9)); have n0_ := am_ (Kd.R_elder' qz12_ (Kd.R_base ho9) hb); have n1_ := am_ (Kd.R_lower (Kd.R_new' ho9 (Kd.R_lt qz12_)) (below_size qz3_)); have n2_ := am_ (below_step qz3_ hb); clear HO106; clear HB; have HO106 := n0_; have HO109 := n1_; have HB := n2_; clear n0_ n1_ n2_; clear hb ho9))
  go_loopg [5, 6, 7] k (fun kq v5 v6 v7 w' => ∃ (x5_1 : List (S34)) (x6_1 : List (S34)) (x7_1 : Int), v7 = .int .i64 x7_1 ∧ Aside0 (impl_values.l0 kq l0 a1 x5_1 x6_1 x7_1 = some r) ∧ Aside0 (kq ≤ k) ∧ Aside0 (Kd.R k34 34 w' w.heap.size (fun k_ => some k_ ≠ (v6 : Value).ownBlock) v5 x5_1) ∧ Aside0 (Kd.R k34 34 w' w.heap.size (fun k_ => some k_ ≠ (v5 : Value).ownBlock) v6 x6_1) ∧ Aside0 (Below w.heap.size w w'))
  case atStart => exact ⟨(y104), (y107), (0), qz0_, H', ⟨Nat.le_refl _⟩, ⟨(by (with_reducible repeat (first | apply Kd.R_alloc | apply Kd.R_drewN | apply Kd.R_drew)); exact Kd.R_mono HO106.out (fun _ hk => hk.2))⟩, ⟨(by (with_reducible repeat (first | apply Kd.R_alloc | apply Kd.R_drewN | apply Kd.R_drew)); exact Kd.R_mono HO109.out (fun _ hk => hk.2))⟩, ⟨qz3_⟩⟩
  case round =>
   clear H'
   try clear c1
   try clear p2
   try clear c3
   try clear c3b0
   try clear c3b1
   try clear c4
   obtain ⟨x5_1, x6_1, x7_1, rfl, HA, HK1, HO_5, HO_6, HB⟩ := hrel
   cases gk with
   | zero => exact absurd HA.out (by simp [impl_values.l0])
   | succ k1 =>
    have H := HA.out
    clear HA
    simp only [impl_values.l0] at H
    by_cases c10 : x7_1 < (l0.length : Int)
    ·
     rw [if_pos c10] at H
     have c10b0 : decide (x7_1 < (l0.length : Int)) = true := decide_eq_true c10
     clear c10
     by_cases c11 : 0 ≤ x7_1
     ·
      rw [if_pos c11] at H
      have c11b0 : decide (0 ≤ x7_1) = true := decide_eq_true c11
      clear c11
      obtain ⟨y111, hy111⟩ : ∃ y_ : List (S34), y_ = (([(⟨(rd_T34 l0 x7_1).f0, (rd_T34 l0 x7_1).f1⟩ : S34)] : List (S34))) := ⟨_, rfl⟩
      replace H : (if x5_1.length + y111.length < 8796093022208 then (if 0 ≤ (wrap64 (x7_1 + 1)) then (if (wrap64 (x7_1 + 1)) < (l0.length : Int) then ((some (([(⟨(rd_T34 l0 (wrap64 (x7_1 + 1))).f0, (rd_T34 l0 (wrap64 (x7_1 + 1))).f1⟩ : S34)] : List (S34)) : List (S34))).bind fun y118 => (if x6_1.length + y118.length < 8796093022208 then (impl_values.l0 k1 l0 a1 (x5_1 ++ y111) (x6_1 ++ y118) (wrap64 (x7_1 + 2))) else (none))) else (none)) else (none)) else (none)) = some r := by first | (rw [hy111]; with_reducible exact H) | (have H2_ := (Option.bind_some _ _).symm.trans H; rw [hy111]; with_reducible exact H2_) | (have H2_ := (Option.bind_some _ _).symm.trans H; with_reducible exact H2_) | with_reducible exact H | (rw [hy111]; exact H) | exact H
      have Ny111 := am_ hy111
      clear hy111
      by_cases c12 : x5_1.length + y111.length < 8796093022208
      ·
       rw [if_pos c12] at H
       have LMc12 := am_ c12
       clear c12
       obtain ⟨y114, hy114⟩ : ∃ y_ : List (S34), y_ = (x5_1 ++ y111) := ⟨_, rfl⟩
       replace H : (if 0 ≤ (wrap64 (x7_1 + 1)) then (if (wrap64 (x7_1 + 1)) < (l0.length : Int) then ((some (([(⟨(rd_T34 l0 (wrap64 (x7_1 + 1))).f0, (rd_T34 l0 (wrap64 (x7_1 + 1))).f1⟩ : S34)] : List (S34)) : List (S34))).bind fun y118 => (if x6_1.length + y118.length < 8796093022208 then (impl_values.l0 k1 l0 a1 y114 (x6_1 ++ y118) (wrap64 (x7_1 + 2))) else (none))) else (none)) else (none)) = some r := by first | (rw [hy114]; with_reducible exact H) | (have H2_ := (Option.bind_some _ _).symm.trans H; rw [hy114]; with_reducible exact H2_) | (have H2_ := (Option.bind_some _ _).symm.trans H; with_reducible exact H2_) | with_reducible exact H | (rw [hy114]; exact H) | exact H
       have Ny114 := am_ hy114
       clear hy114
       obtain ⟨ji13, hji13⟩ : ∃ j_ : Int, (wrap64 (x7_1 + 1)) = j_ := ⟨_, rfl⟩
       replace H : (if 0 ≤ (ji13) then (if (ji13) < (l0.length : Int) then ((some (([(⟨(rd_T34 l0 (ji13)).f0, (rd_T34 l0 (ji13)).f1⟩ : S34)] : List (S34)) : List (S34))).bind fun y118 => (if x6_1.length + y118.length < 8796093022208 then (impl_values.l0 k1 l0 a1 y114 (x6_1 ++ y118) (wrap64 (x7_1 + 2))) else (none))) else (none)) else (none)) = some r := by first | (rw [hji13] at H; exact H) | (simp only [hji13] at H ⊢; exact H)
       have hji13w : (IntKind.i64.wrap (x7_1 + 1)) = ji13 := (i64_w _).trans hji13
       by_cases c14 : 0 ≤ (ji13)
       ·
        rw [if_pos c14] at H
        have c14b0 : decide (0 ≤ (ji13)) = true := decide_eq_true c14
        clear c14
        by_cases c15 : (ji13) < (l0.length : Int)
        ·
         rw [if_pos c15] at H
         have c15b0 : decide ((ji13) < (l0.length : Int)) = true := decide_eq_true c15
         clear c15
         obtain ⟨y118, hy118⟩ : ∃ y_ : List (S34), y_ = (([(⟨(rd_T34 l0 (ji13)).f0, (rd_T34 l0 (ji13)).f1⟩ : S34)] : List (S34))) := ⟨_, rfl⟩
         replace H : (if x6_1.length + y118.length < 8796093022208 then (impl_values.l0 k1 l0 a1 y114 (x6_1 ++ y118) (wrap64 (x7_1 + 2))) else (none)) = some r := by first | (rw [hy118]; with_reducible exact H) | (have H2_ := (Option.bind_some _ _).symm.trans H; rw [hy118]; with_reducible exact H2_) | (have H2_ := (Option.bind_some _ _).symm.trans H; with_reducible exact H2_) | with_reducible exact H | (rw [hy118]; exact H) | exact H
         have Ny118 := am_ hy118
         clear hy118
         by_cases c16 : x6_1.length + y118.length < 8796093022208
         ·
          rw [if_pos c16] at H
          have LMc16 := am_ c16
          clear c16
          obtain ⟨y121, hy121⟩ : ∃ y_ : List (S34), y_ = (x6_1 ++ y118) := ⟨_, rfl⟩
          replace H : (impl_values.l0 k1 l0 a1 y114 y121 (wrap64 (x7_1 + 2))) = some r := by first | (rw [hy121]; with_reducible exact H) | (have H2_ := (Option.bind_some _ _).symm.trans H; rw [hy121]; with_reducible exact H2_) | (have H2_ := (Option.bind_some _ _).symm.trans H; with_reducible exact H2_) | with_reducible exact H | (rw [hy121]; exact H) | exact H
          have Ny121 := am_ hy121
          clear hy121
          have H' := am_ H
          clear H
          obtain ⟨Ao17, co17, eo17⟩ := Kd.R_slice HO_5.out
          subst eo17
          obtain ⟨Ao18, co18, eo18⟩ := Kd.R_slice HO_6.out
          subst eo18
          try go_wp2
          have n0_ := am_ (Kd.R_drew HO_5.out)
          have n1_ := am_ (Kd.R_drew HO_6.out)
          have n2_ := am_ (below_drew1 HB.out)
          clear HO_5
          clear HO_6
          clear HB
          have HO_5 := n0_
          have HO_6 := n1_
          have HB := n2_
          clear n0_ n1_ n2_
          have p110 : 0 ≤ (x7_1 : Int) := of_decide_eq_true qz6_
          have q110 : x7_1 < (l0.length : Int) := of_decide_eq_true qz6_
          obtain ⟨ad110, e110, hx110_0, hx110_1⟩ := at_T34 HR0.out x7_1 p110 q110
          have hw110_1 := hx110_1
          have hw110_0 := hx110_0
          cases e110
          replace hx110_0 := (HB.out.cell (World.block_lt_of_cell? w _ hx110_0)).trans hx110_0
          replace hx110_1 := (HB.out.cell (World.block_lt_of_cell? w _ hx110_1)).trans hx110_1
          replace p110 := eq_true p110
          replace q110 := eq_true q110
          have p117 : 0 ≤ ((ji13) : Int) := of_decide_eq_true qz6_
          have q117 : (ji13) < (l0.length : Int) := of_decide_eq_true qz6_
          obtain ⟨ad117, e117, hx117_0, hx117_1⟩ := at_T34 HR0.out (ji13) p117 q117
          have hw117_1 := hx117_1
          have hw117_0 := hx117_0
          obtain rfl : ad110 = ad117 := (by injection e117)
          replace hx117_0 := (HB.out.cell (World.block_lt_of_cell? w _ hx117_0)).trans hx117_0
          replace hx117_1 := (HB.out.cell (World.block_lt_of_cell? w _ hx117_1)).trans hx117_1
          replace p117 := eq_true p117
          replace q117 := eq_true q117
          refine start_ (n := 17) (S := fun w' => w'.cell? (ad110.add ((x7_1).toNat * 2)) = some (.int .i64 ((rd_T34 l0 x7_1).f0)) ∧ w'.cell? ⟨(ad110.add ((x7_1).toNat * 2)).block, (ad110.add ((x7_1).toNat * 2)).off + 1, none⟩ = some (.int .i64 ((rd_T34 l0 x7_1).f1)) ∧ w'.cell? (ad110.add (((ji13)).toNat * 2)) = some (.int .i64 ((rd_T34 l0 (ji13)).f0)) ∧ w'.cell? ⟨(ad110.add (((ji13)).toNat * 2)).block, (ad110.add (((ji13)).toNat * 2)).off + 1, none⟩ = some (.int .i64 ((rd_T34 l0 (ji13)).f1))) (ds := []) #[false, false, false, false, false, false, false, false, false, false, false, false, false, false, false, false, false] (by kernel_rfl) rfl rfl ⟨((HB.out.cell (World.block_lt_of_cell? w _ hw110_0)).trans hw110_0), ((HB.out.cell (World.block_lt_of_cell? w _ hw110_1)).trans hw110_1), ((HB.out.cell (World.block_lt_of_cell? w _ hw117_0)).trans hw117_0), ((HB.out.cell (World.block_lt_of_cell? w _ hw117_1)).trans hw117_1)⟩ (fun hHeld => ?_); refine with_tabW impl_values.tab7 impl_values.bits7 (fun HT_ HW_ => ?_)
          generalize wr.drew = w19 at HO_5 HO_6 HB hx110_0 hx110_1 hx117_0 hx117_1 hHeld ⊢
          refine pure_ (i := 0) (N := some 28) (v := ?_) (a' := ?_) #[true, false, false, false, false, false, false, false, false, false, false, false, false, false, false, false, false] rfl rfl (any_of HT_.out (by kernel_rfl)) (fun _ _ _ h => h) (Or.inl ⟨(by rfl), ?_⟩) ?_ ?_
          rotate_left
          ·
           intro w'
           go_simp
           with_reducible rfl
          rotate_left
          ·
           exact ap_
          refine pure_ (i := 1) (N := some 29) (v := ?_) (a' := ?_) #[true, true, false, false, false, false, false, false, false, false, false, false, false, false, false, false, false] rfl rfl (any_of HT_.out (by kernel_rfl)) (fun _ _ _ h => h) (Or.inl ⟨(by rfl), ?_⟩) ?_ ?_
          rotate_left
          ·
           intro w'
           go_simp
           with_reducible rfl
          rotate_left
          ·
           exact ap_
          refine pure_ (i := 2) (N := some 30) (v := ?_) (a' := ?_) #[true, true, true, false, false, false, false, false, false, false, false, false, false, false, false, false, false] rfl rfl (any_of HT_.out (by kernel_rfl)) (fun _ _ _ h => h) (Or.inl ⟨(by rfl), ?_⟩) ?_ ?_
          rotate_left
          ·
           intro w'
           go_simp
           with_reducible rfl
          rotate_left
          ·
           exact ap_
          refine pure_ (i := 3) (N := some 31) (v := ?_) (a' := ?_) #[true, true, true, true, false, false, false, false, false, false, false, false, false, false, false, false, false] rfl rfl (any_of HT_.out (by kernel_rfl)) (fun _ _ _ h => h) (Or.inl ⟨(by rfl), ?_⟩) ?_ ?_
          rotate_left
          ·
           intro w'
           go_simp
           with_reducible rfl
          rotate_left
          ·
           exact ap_
          refine pure_ (i := 7) (N := some 35) (v := ?_) (a' := ?_) #[true, true, true, true, false, false, false, true, false, false, false, false, false, false, false, false, false] rfl rfl (any_of HT_.out (by kernel_rfl)) (fun _ _ _ h => h) (Or.inl ⟨(by rfl), ?_⟩) ?_ ?_
          rotate_left
          ·
           intro w'
           go_simp
           with_reducible rfl
          rotate_left
          ·
           exact ap_
          refine pure_ (i := 8) (N := some 36) (v := ?_) (a' := ?_) #[true, true, true, true, false, false, false, true, true, false, false, false, false, false, false, false, false] rfl rfl (any_of HT_.out (by kernel_rfl)) (fun _ _ _ h => h) (Or.inl ⟨(by rfl), ?_⟩) ?_ ?_
          rotate_left
          ·
           intro w'
           go_simp
           with_reducible rfl
          rotate_left
          ·
           exact ap_
          refine pure_ (i := 9) (N := some 37) (v := ?_) (a' := ?_) #[true, true, true, true, false, false, false, true, true, true, false, false, false, false, false, false, false] rfl rfl (any_of HT_.out (by kernel_rfl)) (fun _ _ _ h => h) (Or.inl ⟨(by rfl), ?_⟩) ?_ ?_
          rotate_left
          ·
           intro w'
           go_simp
           with_reducible rfl
          rotate_left
          ·
           exact ap_
          refine pure_ (i := 10) (N := some 38) (v := ?_) (a' := ?_) #[true, true, true, true, false, false, false, true, true, true, true, false, false, false, false, false, false] rfl rfl (any_of HT_.out (by kernel_rfl)) (fun _ _ _ h => h) (Or.inl ⟨(by rfl), ?_⟩) ?_ ?_
          rotate_left
          ·
           intro w'
           go_simp
           with_reducible rfl
          rotate_left
          ·
           exact ap_
          refine pure_ (i := 11) (N := some 39) (v := ?_) (a' := ?_) #[true, true, true, true, false, false, false, true, true, true, true, true, false, false, false, false, false] rfl rfl (any_of HT_.out (by kernel_rfl)) (fun _ _ _ h => h) (Or.inl ⟨(by rfl), ?_⟩) ?_ ?_
          rotate_left
          ·
           intro w'
           go_simp
           with_reducible rfl
          rotate_left
          ·
           exact ap_
          refine take_ (i := 4) (N := some 32) (v := ?_) (a' := ?_) #[true, true, true, true, true, false, false, true, true, true, true, true, false, false, false, false, false] rfl rfl (take_ofW HT_.out HW_.out (by kernel_rfl)) (fun _ _ _ h => h) (Or.inl ⟨(by rfl), ?_⟩) hHeld ?_ ?_
          rotate_left
          ·
           rintro w' ⟨s0, s1, s2, s3⟩
           go_simp
           with_reducible rfl
          rotate_left
          ·
           exact ap_
          refine take_ (i := 12) (N := some 40) (v := ?_) (a' := ?_) #[true, true, true, true, true, false, false, true, true, true, true, true, true, false, false, false, false] rfl rfl (take_ofW HT_.out HW_.out (by kernel_rfl)) (fun _ _ _ h => h) (Or.inl ⟨(by rfl), ?_⟩) hHeld ?_ ?_
          rotate_left
          ·
           rintro w' ⟨s0, s1, s2, s3⟩
           go_simp
           with_reducible rfl
          rotate_left
          ·
           exact ap_
          refine join_ (σ := Value × Value × Value) 3 #[true, true, true, true, true, true, true, true, true, true, true, true, true, true, false, false, false] (fun s_ => [(33, s_.1), (34, s_.2.1), (41, s_.2.2)]) (fun s_ w' => (w'.cell? (ad110.add ((x7_1).toNat * 2)) = some (.int .i64 ((rd_T34 l0 x7_1).f0)) ∧ w'.cell? ⟨(ad110.add ((x7_1).toNat * 2)).block, (ad110.add ((x7_1).toNat * 2)).off + 1, none⟩ = some (.int .i64 ((rd_T34 l0 x7_1).f1)) ∧ w'.cell? (ad110.add (((ji13)).toNat * 2)) = some (.int .i64 ((rd_T34 l0 (ji13)).f0)) ∧ w'.cell? ⟨(ad110.add (((ji13)).toNat * 2)).block, (ad110.add (((ji13)).toNat * 2)).off + 1, none⟩ = some (.int .i64 ((rd_T34 l0 (ji13)).f1))) ∧ (Kd.R k34 34 w' w.heap.size (fun k_ => some k_ ≠ (s_.2.1 : Value).ownBlock ∧ some k_ ≠ (s_.2.2 : Value).ownBlock ∧ some k_ ≠ (.slice Ao18 x6_1.length co18 : Value).ownBlock) s_.1 y111) ∧ (Kd.R k34 34 w' w.heap.size (fun k_ => some k_ ≠ (s_.1 : Value).ownBlock ∧ some k_ ≠ (s_.2.2 : Value).ownBlock ∧ some k_ ≠ (.slice Ao18 x6_1.length co18 : Value).ownBlock) s_.2.1 y114) ∧ (Kd.R k34 34 w' w.heap.size (fun k_ => some k_ ≠ (s_.1 : Value).ownBlock ∧ some k_ ≠ (s_.2.1 : Value).ownBlock ∧ some k_ ≠ (.slice Ao18 x6_1.length co18 : Value).ownBlock) s_.2.2 y118) ∧ (Kd.R k34 34 w' w.heap.size (fun k_ => some k_ ≠ (s_.1 : Value).ownBlock ∧ some k_ ≠ (s_.2.1 : Value).ownBlock ∧ some k_ ≠ (s_.2.2 : Value).ownBlock) (.slice Ao18 x6_1.length co18) x6_1) ∧ (Below w.heap.size w w')) ?_ ?_
          rotate_left
          ·
           intro hCont
           refine two_ (i := 5) (j := 13) (Ni := some 33) (Nj := some 41) #[true, true, true, true, true, true, false, true, true, true, true, true, true, false, false, false, false] #[true, true, true, true, true, false, false, true, true, true, true, true, true, true, false, false, false] rfl rfl rfl rfl (two_of HT_.out (by kernel_rfl)) (by decide) (by decide) (fun K hK => ?_) (fun K hK => ?_)
           ·
            skip
            refine Kd.R_lit_step k34 _ 34 ?hg (N := 33) ?hd (xs := ([(⟨(rd_T34 l0 x7_1).f0, (rd_T34 l0 x7_1).f1⟩ : S34)] : List (S34))) (inner := [.int .i64 ((rd_T34 l0 x7_1).f0), .int .i64 ((rd_T34 l0 x7_1).f1)]) (ok := fun _ => True) (okp := fun _ => True) ?hr ?hp (fun _ hk => hk) trivial (Below.refl _ _) (Nat.le_refl _) (by simp) ?_; (case hd => rfl); (case hg => rfl); (case hr => first | (go_simp; done) | (go_simp; rfl)); (case hp => exact (Reps.c2 (show Kd.M k34 _ _ _ (⟨(rd_T34 l0 x7_1).f0, (rd_T34 l0 x7_1).f1⟩ : S34) [.int .i64 ((rd_T34 l0 x7_1).f0), .int .i64 ((rd_T34 l0 x7_1).f1)] from (k34_mkM _ _ _ (⟨(rd_T34 l0 x7_1).f0, (rd_T34 l0 x7_1).f1⟩ : S34) )) (Reps.none _ _)))
            intro v112 w20 ho21 hb hg_ hnew_
            clear hg_ hnew_
            (first | rw [← Ny111.out] at ho21 | (simp only [Int.reduceToNat] at ho21; rw [← Ny111.out] at ho21))
            have n0_ := am_ (Kd.R_elder' qz11_ (Kd.R_base ho21) hb)
            have n1_ := am_ (Kd.R_elder' qz20_ (Kd.R_base ho21) hb)
            have n2_ := am_ (Kd.R_lower (Kd.R_new' (Kd.R_new' ho21 (Kd.R_lt qz11_)) (Kd.R_lt qz20_)) (below_size qz3_))
            have n3_ := am_ (below_step qz3_ hb)
            clear HO_5
            clear HO_6
            clear HB
            have HO_5 := n0_
            have HO_6 := n1_
            have HO113 := n2_
            have HB := n3_
            clear n0_ n1_ n2_ n3_
            clear hb ho21
            obtain ⟨Ao23, co23, eo23⟩ := Kd.R_slice HO113.out
            (first | subst eo23 | (injection eo23 with f1_ f2_ f3_; have f4_ := f1_.symm; have f5_ := f3_.symm; clear f1_ f2_ f3_; subst f4_; subst f5_))
            refine hK.out _ _ ⟨((HB.out.cell (World.block_lt_of_cell? w _ hw110_0)).trans hw110_0), ((HB.out.cell (World.block_lt_of_cell? w _ hw110_1)).trans hw110_1), ((HB.out.cell (World.block_lt_of_cell? w _ hw117_0)).trans hw117_0), ((HB.out.cell (World.block_lt_of_cell? w _ hw117_1)).trans hw117_1)⟩ (fun hHeld => ?_)
            clear hK K
            refine norm_ (a' := ?_) ?_ ?_
            rotate_left
            ·
             show Act.put _ (some 33) _ = _
             exact ap_
            refine two_ (i := 6) (j := 13) (Ni := some 34) (Nj := some 41) #[true, true, true, true, true, true, true, true, true, true, true, true, true, false, false, false, false] #[true, true, true, true, true, true, false, true, true, true, true, true, true, true, false, false, false] rfl rfl rfl rfl (two_of HT_.out (by kernel_rfl)) (by decide) (by decide) (fun K hK => ?_) (fun K hK => ?_)
            ·
             skip
             refine Kd.R_append_rows_step k34 (w0 := w) w.heap.size (by rfl) (.tmp 28) (.tmp 33) 24 34 (.agg #[(.int .i64 0), (.int .i64 0)]) 16 rfl Try.underlying24 info34 rfl (by decide) (by omega) (.slice Ao17 x5_1.length co17) x5_1 y111 _ _ _ (fun k_ => some k_ ≠ (.slice Ao18 x6_1.length co18 : Value).ownBlock ∧ some k_ ≠ (.slice Ao23 y111.length co23 : Value).ownBlock) (fun _ => False) rfl rfl ?aO ?aR (fun _ _ h => h) (fun _ h => h.elim) ?aF ?aB ?aS ?aL ?_
             (case aR => exact qc_ (Kd.R_reads' HO113.out).2.2)
             (case aB => exact qz3_)
             (case aF => exact (fun k_ hk => ⟨Kd.fresh' (Kd.R_lt qz20_) k_ hk, Kd.fresh' (Kd.R_lt qz31_) k_ hk⟩))
             (case aO => exact qz11_)
             (case aS => exact (below_size qz3_))
             (case aL => have := LMc12.out; omega)
             intro v115 w22 ho hb hg hat
             rw [← Ny114.out] at ho
             have n0_ := am_ (Kd.R_after (ok := (fun k_ => some k_ ≠ (.slice Ao23 y111.length co23 : Value).ownBlock)) (by (with_reducible repeat (first | apply Kd.R_alloc | apply Kd.R_drewN | apply Kd.R_drew)); exact Kd.R_mono HO_6.out (fun _ hk => ⟨hk.2, hk.1⟩)) hg hat)
             have n1_ := am_ (Kd.R_after (ok := (fun k_ => some k_ ≠ (.slice Ao18 x6_1.length co18 : Value).ownBlock)) (by (with_reducible repeat (first | apply Kd.R_alloc | apply Kd.R_drewN | apply Kd.R_drew)); exact Kd.R_mono HO113.out (fun _ hk => ⟨hk.2, hk.1.2⟩)) hg hat)
             have n2_ := am_ (hb)
             have n3_ := am_ (ho)
             clear HO_6
             clear HO113
             clear HB
             clear HO_5
             have HO_6 := n0_
             have HO113 := n1_
             have HB := n2_
             have HO116 := n3_
             clear n0_ n1_ n2_ n3_
             clear ho hb hg hat
             refine hK.out _ _ ⟨((HB.out.cell (World.block_lt_of_cell? w _ hw110_0)).trans hw110_0), ((HB.out.cell (World.block_lt_of_cell? w _ hw110_1)).trans hw110_1), ((HB.out.cell (World.block_lt_of_cell? w _ hw117_0)).trans hw117_0), ((HB.out.cell (World.block_lt_of_cell? w _ hw117_1)).trans hw117_1)⟩ (fun hHeld => ?_)
             clear hK K
             refine norm_ (a' := ?_) ?_ ?_
             rotate_left
             ·
              show Act.put _ (some 34) _ = _
              exact ap_
             refine one_ (i := 13) (N := some 41) #[true, true, true, true, true, true, true, true, true, true, true, true, true, true, false, false, false] rfl rfl (one_of HT_.out (by kernel_rfl)) (by decide) (fun K hK => ?_)
             refine Kd.R_lit_step k34 _ 34 ?hg (N := 41) ?hd (xs := ([(⟨(rd_T34 l0 (ji13)).f0, (rd_T34 l0 (ji13)).f1⟩ : S34)] : List (S34))) (inner := [.int .i64 ((rd_T34 l0 (ji13)).f0), .int .i64 ((rd_T34 l0 (ji13)).f1)]) (ok := fun _ => True) (okp := fun _ => True) ?hr ?hp (fun _ hk => hk) trivial (Below.refl _ _) (Nat.le_refl _) (by simp) ?_; (case hd => rfl); (case hg => rfl); (case hr => first | (go_simp; done) | (go_simp; rfl)); (case hp => exact (Reps.c2 (show Kd.M k34 _ _ _ (⟨(rd_T34 l0 (ji13)).f0, (rd_T34 l0 (ji13)).f1⟩ : S34) [.int .i64 ((rd_T34 l0 (ji13)).f0), .int .i64 ((rd_T34 l0 (ji13)).f1)] from (k34_mkM _ _ _ (⟨(rd_T34 l0 (ji13)).f0, (rd_T34 l0 (ji13)).f1⟩ : S34) )) (Reps.none _ _)))
             intro v119 w24 ho25 hb hg_ hnew_
             clear hg_ hnew_
             (first | rw [← Ny118.out] at ho25 | (simp only [Int.reduceToNat] at ho25; rw [← Ny118.out] at ho25))
             have n0_ := am_ (Kd.R_elder' qz20_ (Kd.R_base ho25) hb)
             have n1_ := am_ (Kd.R_elder' qz31_ (Kd.R_base ho25) hb)
             have n2_ := am_ (Kd.R_elder' (by (with_reducible repeat (first | apply Kd.R_alloc | apply Kd.R_drewN | apply Kd.R_drew)); exact HO116.out) (Kd.R_base ho25) hb)
             have n3_ := am_ (Kd.R_lower (Kd.R_new' (Kd.R_new' (Kd.R_new' ho25 (Kd.R_lt qz20_)) (Kd.R_lt qz31_)) (Kd.R_lt (by (with_reducible repeat (first | apply Kd.R_alloc | apply Kd.R_drewN | apply Kd.R_drew)); exact HO116.out))) (below_size qz3_))
             have n4_ := am_ (below_step qz3_ hb)
             clear HO_6
             clear HO113
             clear HO116
             clear HB
             have HO_6 := n0_
             have HO113 := n1_
             have HO116 := n2_
             have HO120 := n3_
             have HB := n4_
             clear n0_ n1_ n2_ n3_ n4_
             clear hb ho25
             refine hK.out _ _ ⟨((HB.out.cell (World.block_lt_of_cell? w _ hw110_0)).trans hw110_0), ((HB.out.cell (World.block_lt_of_cell? w _ hw110_1)).trans hw110_1), ((HB.out.cell (World.block_lt_of_cell? w _ hw117_0)).trans hw117_0), ((HB.out.cell (World.block_lt_of_cell? w _ hw117_1)).trans hw117_1)⟩ (fun hHeld => ?_)
             clear hK K
             refine norm_ (a' := ?_) ?_ ?_
             rotate_left
             ·
              show Act.put _ (some 41) _ = _
              exact ap_
             exact norm_ qz25_ (hCont (.slice Ao23 y111.length co23, v115, v119) _ ⟨hHeld, (by (with_reducible repeat (first | apply Kd.R_alloc | apply Kd.R_drewN | apply Kd.R_drew)); exact Kd.R_mono HO113.out (fun _ hk => ⟨hk.1.2, ⟨hk.2, hk.1.1⟩⟩)), (by (with_reducible repeat (first | apply Kd.R_alloc | apply Kd.R_drewN | apply Kd.R_drew)); exact Kd.R_mono HO116.out (fun _ hk => ⟨hk.1.2, ⟨hk.2, hk.1.1⟩⟩)), (by (with_reducible repeat (first | apply Kd.R_alloc | apply Kd.R_drewN | apply Kd.R_drew)); exact Kd.R_mono HO120.out (fun _ hk => ⟨hk.1.2, ⟨hk.2, hk.1.1.2⟩⟩)), (by (with_reducible repeat (first | apply Kd.R_alloc | apply Kd.R_drewN | apply Kd.R_drew)); exact Kd.R_mono HO_6.out (fun _ hk => ⟨hk.1.1, ⟨hk.1.2, hk.2⟩⟩)), qz3_⟩)
            ·
             skip
             refine Kd.R_lit_step k34 _ 34 ?hg (N := 41) ?hd (xs := ([(⟨(rd_T34 l0 (ji13)).f0, (rd_T34 l0 (ji13)).f1⟩ : S34)] : List (S34))) (inner := [.int .i64 ((rd_T34 l0 (ji13)).f0), .int .i64 ((rd_T34 l0 (ji13)).f1)]) (ok := fun _ => True) (okp := fun _ => True) ?hr ?hp (fun _ hk => hk) trivial (Below.refl _ _) (Nat.le_refl _) (by simp) ?_; (case hd => rfl); (case hg => rfl); (case hr => first | (go_simp; done) | (go_simp; rfl)); (case hp => exact (Reps.c2 (show Kd.M k34 _ _ _ (⟨(rd_T34 l0 (ji13)).f0, (rd_T34 l0 (ji13)).f1⟩ : S34) [.int .i64 ((rd_T34 l0 (ji13)).f0), .int .i64 ((rd_T34 l0 (ji13)).f1)] from (k34_mkM _ _ _ (⟨(rd_T34 l0 (ji13)).f0, (rd_T34 l0 (ji13)).f1⟩ : S34) )) (Reps.none _ _)))
             intro v119 w22 ho23 hb hg_ hnew_
             clear hg_ hnew_
             (first | rw [← Ny118.out] at ho23 | (simp only [Int.reduceToNat] at ho23; rw [← Ny118.out] at ho23))
             have n0_ := am_ (Kd.R_elder' qz11_ (Kd.R_base ho23) hb)
             have n1_ := am_ (Kd.R_elder' qz20_ (Kd.R_base ho23) hb)
             have n2_ := am_ (Kd.R_elder' qz31_ (Kd.R_base ho23) hb)
             have n3_ := am_ (Kd.R_lower (Kd.R_new' (Kd.R_new' (Kd.R_new' ho23 (Kd.R_lt qz11_)) (Kd.R_lt qz20_)) (Kd.R_lt qz31_)) (below_size qz3_))
             have n4_ := am_ (below_step qz3_ hb)
             clear HO_5
             clear HO_6
             clear HO113
             clear HB
             have HO_5 := n0_
             have HO_6 := n1_
             have HO113 := n2_
             have HO120 := n3_
             have HB := n4_
             clear n0_ n1_ n2_ n3_ n4_
             clear hb ho23
             obtain ⟨Ao25, co25, eo25⟩ := Kd.R_slice HO113.out
             (first | subst eo25 | (injection eo25 with f1_ f2_ f3_; have f4_ := f1_.symm; have f5_ := f3_.symm; clear f1_ f2_ f3_; subst f4_; subst f5_))
             refine hK.out _ _ ⟨((HB.out.cell (World.block_lt_of_cell? w _ hw110_0)).trans hw110_0), ((HB.out.cell (World.block_lt_of_cell? w _ hw110_1)).trans hw110_1), ((HB.out.cell (World.block_lt_of_cell? w _ hw117_0)).trans hw117_0), ((HB.out.cell (World.block_lt_of_cell? w _ hw117_1)).trans hw117_1)⟩ (fun hHeld => ?_)
             clear hK K
             refine norm_ (a' := ?_) ?_ ?_
             rotate_left
             ·
              show Act.put _ (some 41) _ = _
              exact ap_
             refine one_ (i := 6) (N := some 34) #[true, true, true, true, true, true, true, true, true, true, true, true, true, true, false, false, false] rfl rfl (one_of HT_.out (by kernel_rfl)) (by decide) (fun K hK => ?_)
             refine Kd.R_append_rows_step k34 (w0 := w) w.heap.size (by rfl) (.tmp 28) (.tmp 33) 24 34 (.agg #[(.int .i64 0), (.int .i64 0)]) 16 rfl Try.underlying24 info34 rfl (by decide) (by omega) (.slice Ao17 x5_1.length co17) x5_1 y111 _ _ _ (fun k_ => some k_ ≠ (.slice Ao18 x6_1.length co18 : Value).ownBlock ∧ some k_ ≠ (.slice Ao25 y111.length co25 : Value).ownBlock ∧ some k_ ≠ (v119 : Value).ownBlock) (fun _ => False) rfl rfl ?aO ?aR (fun _ _ h => h) (fun _ h => h.elim) ?aF ?aB ?aS ?aL ?_
             (case aR => exact qc_ (Kd.R_reads' HO113.out).2.2)
             (case aB => exact qz3_)
             (case aF => exact (fun k_ hk => ⟨Kd.fresh' (Kd.R_lt qz20_) k_ hk, Kd.fresh' (Kd.R_lt qz31_) k_ hk, Kd.fresh' (Kd.R_lt qz21_) k_ hk⟩))
             (case aO => exact (by (with_reducible repeat (first | apply Kd.R_alloc | apply Kd.R_drewN | apply Kd.R_drew)); exact Kd.R_mono HO_5.out (fun _ hk => ⟨hk.1.1, ⟨hk.1.2, hk.2⟩⟩)))
             (case aS => exact (below_size qz3_))
             (case aL => have := LMc12.out; omega)
             intro v115 w24 ho hb hg hat
             rw [← Ny114.out] at ho
             have n0_ := am_ (Kd.R_after (ok := (fun k_ => some k_ ≠ (.slice Ao25 y111.length co25 : Value).ownBlock ∧ some k_ ≠ (v119 : Value).ownBlock)) (by (with_reducible repeat (first | apply Kd.R_alloc | apply Kd.R_drewN | apply Kd.R_drew)); exact Kd.R_mono HO_6.out (fun _ hk => ⟨⟨hk.1.2, hk.2⟩, hk.1.1⟩)) hg hat)
             have n1_ := am_ (Kd.R_after (ok := (fun k_ => some k_ ≠ (.slice Ao18 x6_1.length co18 : Value).ownBlock ∧ some k_ ≠ (v119 : Value).ownBlock)) (by (with_reducible repeat (first | apply Kd.R_alloc | apply Kd.R_drewN | apply Kd.R_drew)); exact Kd.R_mono HO113.out (fun _ hk => ⟨⟨hk.1.2, hk.2⟩, hk.1.1.2⟩)) hg hat)
             have n2_ := am_ (Kd.R_after (ok := (fun k_ => some k_ ≠ (.slice Ao18 x6_1.length co18 : Value).ownBlock ∧ some k_ ≠ (.slice Ao25 y111.length co25 : Value).ownBlock)) (by (with_reducible repeat (first | apply Kd.R_alloc | apply Kd.R_drewN | apply Kd.R_drew)); exact Kd.R_mono HO120.out (fun _ hk => ⟨⟨hk.1.2, hk.2⟩, hk.1.1.2⟩)) hg hat)
             have n3_ := am_ (hb)
             have n4_ := am_ (ho)
             clear HO_6
             clear HO113
             clear HO120
             clear HB
             clear HO_5
             have HO_6 := n0_
             have HO113 := n1_
             have HO120 := n2_
             have HB := n3_
             have HO116 := n4_
             clear n0_ n1_ n2_ n3_ n4_
             clear ho hb hg hat
             refine hK.out _ _ ⟨((HB.out.cell (World.block_lt_of_cell? w _ hw110_0)).trans hw110_0), ((HB.out.cell (World.block_lt_of_cell? w _ hw110_1)).trans hw110_1), ((HB.out.cell (World.block_lt_of_cell? w _ hw117_0)).trans hw117_0), ((HB.out.cell (World.block_lt_of_cell? w _ hw117_1)).trans hw117_1)⟩ (fun hHeld => ?_)
             clear hK K
             refine norm_ (a' := ?_) ?_ ?_
             rotate_left
             ·
              show Act.put _ (some 34) _ = _
              exact ap_
             exact norm_ qz25_ (hCont (.slice Ao25 y111.length co25, v115, v119) _ ⟨hHeld, (by (with_reducible repeat (first | apply Kd.R_alloc | apply Kd.R_drewN | apply Kd.R_drew)); exact Kd.R_mono HO113.out (fun _ hk => ⟨hk.2, ⟨hk.1.2, hk.1.1⟩⟩)), (by (with_reducible repeat (first | apply Kd.R_alloc | apply Kd.R_drewN | apply Kd.R_drew)); exact Kd.R_mono HO116.out (fun _ hk => ⟨hk.2.1, ⟨hk.2.2, hk.1⟩⟩)), (by (with_reducible repeat (first | apply Kd.R_alloc | apply Kd.R_drewN | apply Kd.R_drew)); exact Kd.R_mono HO120.out (fun _ hk => ⟨hk.1.2, ⟨hk.2, hk.1.1⟩⟩)), (by (with_reducible repeat (first | apply Kd.R_alloc | apply Kd.R_drewN | apply Kd.R_drew)); exact Kd.R_mono HO_6.out (fun _ hk => ⟨hk.1.1, ⟨hk.2, hk.1.2⟩⟩)), qz3_⟩)
           ·
            skip
            refine Kd.R_lit_step k34 _ 34 ?hg (N := 41) ?hd (xs := ([(⟨(rd_T34 l0 (ji13)).f0, (rd_T34 l0 (ji13)).f1⟩ : S34)] : List (S34))) (inner := [.int .i64 ((rd_T34 l0 (ji13)).f0), .int .i64 ((rd_T34 l0 (ji13)).f1)]) (ok := fun _ => True) (okp := fun _ => True) ?hr ?hp (fun _ hk => hk) trivial (Below.refl _ _) (Nat.le_refl _) (by simp) ?_; (case hd => rfl); (case hg => rfl); (case hr => first | (go_simp; done) | (go_simp; rfl)); (case hp => exact (Reps.c2 (show Kd.M k34 _ _ _ (⟨(rd_T34 l0 (ji13)).f0, (rd_T34 l0 (ji13)).f1⟩ : S34) [.int .i64 ((rd_T34 l0 (ji13)).f0), .int .i64 ((rd_T34 l0 (ji13)).f1)] from (k34_mkM _ _ _ (⟨(rd_T34 l0 (ji13)).f0, (rd_T34 l0 (ji13)).f1⟩ : S34) )) (Reps.none _ _)))
            intro v119 w20 ho21 hb hg_ hnew_
            clear hg_ hnew_
            (first | rw [← Ny118.out] at ho21 | (simp only [Int.reduceToNat] at ho21; rw [← Ny118.out] at ho21))
            have n0_ := am_ (Kd.R_elder' qz11_ (Kd.R_base ho21) hb)
            have n1_ := am_ (Kd.R_elder' qz20_ (Kd.R_base ho21) hb)
            have n2_ := am_ (Kd.R_lower (Kd.R_new' (Kd.R_new' ho21 (Kd.R_lt qz11_)) (Kd.R_lt qz20_)) (below_size qz3_))
            have n3_ := am_ (below_step qz3_ hb)
            clear HO_5
            clear HO_6
            clear HB
            have HO_5 := n0_
            have HO_6 := n1_
            have HO120 := n2_
            have HB := n3_
            clear n0_ n1_ n2_ n3_
            clear hb ho21
            refine hK.out _ _ ⟨((HB.out.cell (World.block_lt_of_cell? w _ hw110_0)).trans hw110_0), ((HB.out.cell (World.block_lt_of_cell? w _ hw110_1)).trans hw110_1), ((HB.out.cell (World.block_lt_of_cell? w _ hw117_0)).trans hw117_0), ((HB.out.cell (World.block_lt_of_cell? w _ hw117_1)).trans hw117_1)⟩ (fun hHeld => ?_)
            clear hK K
            refine norm_ (a' := ?_) ?_ ?_
            rotate_left
            ·
             show Act.put _ (some 41) _ = _
             exact ap_
            refine one_ (i := 5) (N := some 33) #[true, true, true, true, true, true, false, true, true, true, true, true, true, true, false, false, false] rfl rfl (one_of HT_.out (by kernel_rfl)) (by decide) (fun K hK => ?_)
            refine Kd.R_lit_step k34 _ 34 ?hg (N := 33) ?hd (xs := ([(⟨(rd_T34 l0 x7_1).f0, (rd_T34 l0 x7_1).f1⟩ : S34)] : List (S34))) (inner := [.int .i64 ((rd_T34 l0 x7_1).f0), .int .i64 ((rd_T34 l0 x7_1).f1)]) (ok := fun _ => True) (okp := fun _ => True) ?hr ?hp (fun _ hk => hk) trivial (Below.refl _ _) (Nat.le_refl _) (by simp) ?_; (case hd => rfl); (case hg => rfl); (case hr => first | (go_simp; done) | (go_simp; rfl)); (case hp => exact (Reps.c2 (show Kd.M k34 _ _ _ (⟨(rd_T34 l0 x7_1).f0, (rd_T34 l0 x7_1).f1⟩ : S34) [.int .i64 ((rd_T34 l0 x7_1).f0), .int .i64 ((rd_T34 l0 x7_1).f1)] from (k34_mkM _ _ _ (⟨(rd_T34 l0 x7_1).f0, (rd_T34 l0 x7_1).f1⟩ : S34) )) (Reps.none _ _)))
            intro v112 w22 ho23 hb hg_ hnew_
            clear hg_ hnew_
            (first | rw [← Ny111.out] at ho23 | (simp only [Int.reduceToNat] at ho23; rw [← Ny111.out] at ho23))
            have n0_ := am_ (Kd.R_elder' qz11_ (Kd.R_base ho23) hb)
            have n1_ := am_ (Kd.R_elder' qz20_ (Kd.R_base ho23) hb)
            have n2_ := am_ (Kd.R_elder' qz21_ (Kd.R_base ho23) hb)
            have n3_ := am_ (Kd.R_lower (Kd.R_new' (Kd.R_new' (Kd.R_new' ho23 (Kd.R_lt qz11_)) (Kd.R_lt qz20_)) (Kd.R_lt qz21_)) (below_size qz3_))
            have n4_ := am_ (below_step qz3_ hb)
            clear HO_5
            clear HO_6
            clear HO120
            clear HB
            have HO_5 := n0_
            have HO_6 := n1_
            have HO120 := n2_
            have HO113 := n3_
            have HB := n4_
            clear n0_ n1_ n2_ n3_ n4_
            clear hb ho23
            obtain ⟨Ao25, co25, eo25⟩ := Kd.R_slice HO113.out
            (first | subst eo25 | (injection eo25 with f1_ f2_ f3_; have f4_ := f1_.symm; have f5_ := f3_.symm; clear f1_ f2_ f3_; subst f4_; subst f5_))
            refine hK.out _ _ ⟨((HB.out.cell (World.block_lt_of_cell? w _ hw110_0)).trans hw110_0), ((HB.out.cell (World.block_lt_of_cell? w _ hw110_1)).trans hw110_1), ((HB.out.cell (World.block_lt_of_cell? w _ hw117_0)).trans hw117_0), ((HB.out.cell (World.block_lt_of_cell? w _ hw117_1)).trans hw117_1)⟩ (fun hHeld => ?_)
            clear hK K
            refine norm_ (a' := ?_) ?_ ?_
            rotate_left
            ·
             show Act.put _ (some 33) _ = _
             exact ap_
            refine one_ (i := 6) (N := some 34) #[true, true, true, true, true, true, true, true, true, true, true, true, true, true, false, false, false] rfl rfl (one_of HT_.out (by kernel_rfl)) (by decide) (fun K hK => ?_)
            refine Kd.R_append_rows_step k34 (w0 := w) w.heap.size (by rfl) (.tmp 28) (.tmp 33) 24 34 (.agg #[(.int .i64 0), (.int .i64 0)]) 16 rfl Try.underlying24 info34 rfl (by decide) (by omega) (.slice Ao17 x5_1.length co17) x5_1 y111 _ _ _ (fun k_ => some k_ ≠ (.slice Ao18 x6_1.length co18 : Value).ownBlock ∧ some k_ ≠ (v119 : Value).ownBlock ∧ some k_ ≠ (.slice Ao25 y111.length co25 : Value).ownBlock) (fun _ => False) rfl rfl ?aO ?aR (fun _ _ h => h) (fun _ h => h.elim) ?aF ?aB ?aS ?aL ?_
            (case aR => exact qc_ (Kd.R_reads' HO113.out).2.2)
            (case aB => exact qz3_)
            (case aF => exact (fun k_ hk => ⟨Kd.fresh' (Kd.R_lt qz20_) k_ hk, Kd.fresh' (Kd.R_lt qz21_) k_ hk, Kd.fresh' (Kd.R_lt qz31_) k_ hk⟩))
            (case aO => exact (by (with_reducible repeat (first | apply Kd.R_alloc | apply Kd.R_drewN | apply Kd.R_drew)); exact Kd.R_mono HO_5.out (fun _ hk => ⟨hk.1.1, ⟨hk.1.2, hk.2⟩⟩)))
            (case aS => exact (below_size qz3_))
            (case aL => have := LMc12.out; omega)
            intro v115 w24 ho hb hg hat
            rw [← Ny114.out] at ho
            have n0_ := am_ (Kd.R_after (ok := (fun k_ => some k_ ≠ (v119 : Value).ownBlock ∧ some k_ ≠ (.slice Ao25 y111.length co25 : Value).ownBlock)) (by (with_reducible repeat (first | apply Kd.R_alloc | apply Kd.R_drewN | apply Kd.R_drew)); exact Kd.R_mono HO_6.out (fun _ hk => ⟨⟨hk.1.2, hk.2⟩, hk.1.1⟩)) hg hat)
            have n1_ := am_ (Kd.R_after (ok := (fun k_ => some k_ ≠ (.slice Ao18 x6_1.length co18 : Value).ownBlock ∧ some k_ ≠ (.slice Ao25 y111.length co25 : Value).ownBlock)) (by (with_reducible repeat (first | apply Kd.R_alloc | apply Kd.R_drewN | apply Kd.R_drew)); exact Kd.R_mono HO120.out (fun _ hk => ⟨⟨hk.1.2, hk.2⟩, hk.1.1.2⟩)) hg hat)
            have n2_ := am_ (Kd.R_after (ok := (fun k_ => some k_ ≠ (.slice Ao18 x6_1.length co18 : Value).ownBlock ∧ some k_ ≠ (v119 : Value).ownBlock)) (by (with_reducible repeat (first | apply Kd.R_alloc | apply Kd.R_drewN | apply Kd.R_drew)); exact Kd.R_mono HO113.out (fun _ hk => ⟨⟨hk.1.2, hk.2⟩, hk.1.1.2⟩)) hg hat)
            have n3_ := am_ (hb)
            have n4_ := am_ (ho)
            clear HO_6
            clear HO120
            clear HO113
            clear HB
            clear HO_5
            have HO_6 := n0_
            have HO120 := n1_
            have HO113 := n2_
            have HB := n3_
            have HO116 := n4_
            clear n0_ n1_ n2_ n3_ n4_
            clear ho hb hg hat
            refine hK.out _ _ ⟨((HB.out.cell (World.block_lt_of_cell? w _ hw110_0)).trans hw110_0), ((HB.out.cell (World.block_lt_of_cell? w _ hw110_1)).trans hw110_1), ((HB.out.cell (World.block_lt_of_cell? w _ hw117_0)).trans hw117_0), ((HB.out.cell (World.block_lt_of_cell? w _ hw117_1)).trans hw117_1)⟩ (fun hHeld => ?_)
            clear hK K
            refine norm_ (a' := ?_) ?_ ?_
            rotate_left
            ·
             show Act.put _ (some 34) _ = _
             exact ap_
            exact norm_ qz25_ (hCont (.slice Ao25 y111.length co25, v115, v119) _ ⟨hHeld, (by (with_reducible repeat (first | apply Kd.R_alloc | apply Kd.R_drewN | apply Kd.R_drew)); exact Kd.R_mono HO113.out (fun _ hk => ⟨hk.2, ⟨hk.1.2, hk.1.1⟩⟩)), (by (with_reducible repeat (first | apply Kd.R_alloc | apply Kd.R_drewN | apply Kd.R_drew)); exact Kd.R_mono HO116.out (fun _ hk => ⟨hk.2.2, ⟨hk.2.1, hk.1⟩⟩)), (by (with_reducible repeat (first | apply Kd.R_alloc | apply Kd.R_drewN | apply Kd.R_drew)); exact Kd.R_mono HO120.out (fun _ hk => ⟨hk.1.2, ⟨hk.2, hk.1.1⟩⟩)), (by (with_reducible repeat (first | apply Kd.R_alloc | apply Kd.R_drewN | apply Kd.R_drew)); exact Kd.R_mono HO_6.out (fun _ hk => ⟨hk.1.2, ⟨hk.2, hk.1.1⟩⟩)), qz3_⟩)
          rintro ⟨v112, v115, v119⟩ w26 ⟨hS_, h0_, h1_, h2_, h3_, h4_⟩
          have n0_ : Aside0 (Kd.R k34 34 w26 w.heap.size (fun k_ => some k_ ≠ (v115 : Value).ownBlock ∧ some k_ ≠ (v119 : Value).ownBlock ∧ some k_ ≠ (.slice Ao18 x6_1.length co18 : Value).ownBlock) v112 y111) := ⟨h0_⟩
          have n1_ : Aside0 (Kd.R k34 34 w26 w.heap.size (fun k_ => some k_ ≠ (v112 : Value).ownBlock ∧ some k_ ≠ (v119 : Value).ownBlock ∧ some k_ ≠ (.slice Ao18 x6_1.length co18 : Value).ownBlock) v115 y114) := ⟨h1_⟩
          have n2_ : Aside0 (Kd.R k34 34 w26 w.heap.size (fun k_ => some k_ ≠ (v112 : Value).ownBlock ∧ some k_ ≠ (v115 : Value).ownBlock ∧ some k_ ≠ (.slice Ao18 x6_1.length co18 : Value).ownBlock) v119 y118) := ⟨h2_⟩
          have n3_ : Aside0 (Kd.R k34 34 w26 w.heap.size (fun k_ => some k_ ≠ (v112 : Value).ownBlock ∧ some k_ ≠ (v115 : Value).ownBlock ∧ some k_ ≠ (v119 : Value).ownBlock) (.slice Ao18 x6_1.length co18) x6_1) := ⟨h3_⟩
          have n4_ : Aside0 (Below w.heap.size w w26) := ⟨h4_⟩
          clear HO_5
          clear HO_6
          clear HB
          clear h0_ h1_ h2_ h3_ h4_
          have HO113 := n0_
          have HO116 := n1_
          have HO120 := n2_
          have HO_6 := n3_
          have HB := n4_
          clear n0_ n1_ n2_ n3_ n4_
          have hHeld : w26.cell? (ad110.add ((x7_1).toNat * 2)) = some (.int .i64 ((rd_T34 l0 x7_1).f0)) ∧ w26.cell? ⟨(ad110.add ((x7_1).toNat * 2)).block, (ad110.add ((x7_1).toNat * 2)).off + 1, none⟩ = some (.int .i64 ((rd_T34 l0 x7_1).f1)) ∧ w26.cell? (ad110.add (((ji13)).toNat * 2)) = some (.int .i64 ((rd_T34 l0 (ji13)).f0)) ∧ w26.cell? ⟨(ad110.add (((ji13)).toNat * 2)).block, (ad110.add (((ji13)).toNat * 2)).off + 1, none⟩ = some (.int .i64 ((rd_T34 l0 (ji13)).f1)) := hS_
          obtain ⟨Ao28, co28, eo28⟩ := Kd.R_slice HO120.out
          (first | subst eo28 | (injection eo28 with f1_ f2_ f3_; have f4_ := f1_.symm; have f5_ := f3_.symm; clear f1_ f2_ f3_; subst f4_; subst f5_))
          refine norm_ (a' := ?_) ?_ ?_
          rotate_left
          ·
           simp only [putAll, Act.put, List.setIfInBounds_toArray, List.set_cons_zero, List.set_cons_succ]
           rfl
          refine one_ (i := 14) (N := some 42) #[true, true, true, true, true, true, true, true, true, true, true, true, true, true, true, false, false] rfl rfl (one_of HT_.out (by kernel_rfl)) (by decide) (fun K hK => ?_)
          refine Kd.R_append_rows_step k34 (w0 := w) w.heap.size (by rfl) (.tmp 35) (.tmp 41) 24 34 (.agg #[(.int .i64 0), (.int .i64 0)]) 16 rfl Try.underlying24 info34 rfl (by decide) (by omega) (.slice Ao18 x6_1.length co18) x6_1 y118 _ _ _ (fun k_ => some k_ ≠ (v112 : Value).ownBlock ∧ some k_ ≠ (v115 : Value).ownBlock ∧ some k_ ≠ (.slice Ao28 y118.length co28 : Value).ownBlock) (fun _ => False) rfl rfl ?aO ?aR (fun _ _ h => h) (fun _ h => h.elim) ?aF ?aB ?aS ?aL ?_
          (case aR => exact qc_ (Kd.R_reads' HO120.out).2.2)
          (case aB => exact qz3_)
          (case aF => exact (fun k_ hk => ⟨Kd.fresh' (Kd.R_lt qz31_) k_ hk, Kd.fresh' (Kd.R_lt (by (with_reducible repeat (first | apply Kd.R_alloc | apply Kd.R_drewN | apply Kd.R_drew)); exact HO116.out)) k_ hk, Kd.fresh' (Kd.R_lt qz21_) k_ hk⟩))
          (case aO => exact qz20_)
          (case aS => exact (below_size qz3_))
          (case aL => have := LMc16.out; omega)
          intro v122 w27 ho hb hg hat
          rw [← Ny121.out] at ho
          have n0_ := am_ (Kd.R_after (ok := (fun k_ => some k_ ≠ (v115 : Value).ownBlock ∧ some k_ ≠ (.slice Ao28 y118.length co28 : Value).ownBlock)) (by (with_reducible repeat (first | apply Kd.R_alloc | apply Kd.R_drewN | apply Kd.R_drew)); exact Kd.R_mono HO113.out (fun _ hk => ⟨⟨hk.1, hk.2.1⟩, hk.2.2⟩)) hg hat)
          have n1_ := am_ (Kd.R_after (ok := (fun k_ => some k_ ≠ (v112 : Value).ownBlock ∧ some k_ ≠ (.slice Ao28 y118.length co28 : Value).ownBlock)) (by (with_reducible repeat (first | apply Kd.R_alloc | apply Kd.R_drewN | apply Kd.R_drew)); exact Kd.R_mono HO116.out (fun _ hk => ⟨⟨hk.1, hk.2.1⟩, hk.2.2⟩)) hg hat)
          have n2_ := am_ (Kd.R_after (ok := (fun k_ => some k_ ≠ (v112 : Value).ownBlock ∧ some k_ ≠ (v115 : Value).ownBlock)) (by (with_reducible repeat (first | apply Kd.R_alloc | apply Kd.R_drewN | apply Kd.R_drew)); exact Kd.R_mono HO120.out (fun _ hk => ⟨⟨hk.1, hk.2.1⟩, hk.2.2⟩)) hg hat)
          have n3_ := am_ (hb)
          have n4_ := am_ (ho)
          clear HO113
          clear HO116
          clear HO120
          clear HB
          clear HO_6
          have HO113 := n0_
          have HO116 := n1_
          have HO120 := n2_
          have HB := n3_
          have HO123 := n4_
          clear n0_ n1_ n2_ n3_ n4_
          clear ho hb hg hat
          refine hK.out _ _ ⟨((HB.out.cell (World.block_lt_of_cell? w _ hw110_0)).trans hw110_0), ((HB.out.cell (World.block_lt_of_cell? w _ hw110_1)).trans hw110_1), ((HB.out.cell (World.block_lt_of_cell? w _ hw117_0)).trans hw117_0), ((HB.out.cell (World.block_lt_of_cell? w _ hw117_1)).trans hw117_1)⟩ (fun hHeld => ?_)
          clear hK K
          refine norm_ (a' := ?_) ?_ ?_
          rotate_left
          ·
           show Act.put _ (some 42) _ = _
           exact ap_
          refine pure_ (i := 15) (N := some 5) (v := ?_) (a' := ?_) #[true, true, true, true, true, true, true, true, true, true, true, true, true, true, true, true, false] rfl rfl (any_of HT_.out (by kernel_rfl)) (fun _ _ _ h => h) (Or.inl ⟨(by rfl), ?_⟩) ?_ ?_
          rotate_left
          ·
           intro w'
           go_simp
           with_reducible rfl
          rotate_left
          ·
           exact ap_
          refine pure_ (i := 16) (N := some 6) (v := ?_) (a' := ?_) #[true, true, true, true, true, true, true, true, true, true, true, true, true, true, true, true, true] rfl rfl (any_of HT_.out (by kernel_rfl)) (fun _ _ _ h => h) (Or.inl ⟨(by rfl), ?_⟩) ?_ ?_
          rotate_left
          ·
           intro w'
           go_simp
           with_reducible rfl
          rotate_left
          ·
           exact ap_
          refine done_ (done_of HT_.out (by kernel_rfl)) ?_
          try go_wp2
          go_roundg k1
          case measure => have := HK1.out; omega
          case rel => exact ⟨(y114), (y121), (wrap64 (x7_1 + 2)), qz0_, H', ⟨(by have := HK1.out; omega)⟩, ⟨(by (with_reducible repeat (first | apply Kd.R_alloc | apply Kd.R_drewN | apply Kd.R_drew)); exact Kd.R_mono HO116.out (fun _ hk => hk.2))⟩, ⟨(by (with_reducible repeat (first | apply Kd.R_alloc | apply Kd.R_drewN | apply Kd.R_drew)); exact Kd.R_mono HO123.out (fun _ hk => hk.2.1))⟩, ⟨qz3_⟩⟩
         ·
          rw [if_neg c16] at H
          exact absurd H (by simp)
        ·
         rw [if_neg c15] at H
         exact absurd H (by simp)
       ·
        rw [if_neg c14] at H
        exact absurd H (by simp)
      ·
       rw [if_neg c12] at H
       exact absurd H (by simp)
     ·
      rw [if_neg c11] at H
      exact absurd H (by simp)
    ·
     rw [if_neg c10] at H
     have c10b0 : decide (x7_1 < (l0.length : Int)) = false := decide_eq_false c10
     clear c10
     replace H := Option.bind_eq_some_iff.mp H
     obtain ⟨t124, A290, H⟩ := H
     replace H : ((impl_values.f k1 x5_1 t124).bind fun t125 => ((impl_mul.f a1 a1).bind fun t128 => ((impl_values.f k1 x6_1 t128).bind fun t129 => (if 0 ≤ (wrap64 (2 * (t125.length : Int))) then (if (wrap64 (2 * (t125.length : Int)) : Int).toNat ≤ 17592186044416 then (impl_values.l1 k1 a1 t125 t129 (t125.length : Int) 1 (List.replicate (wrap64 (2 * (t125.length : Int)) : Int).toNat z34) (t125.length : Int) 0) else (none)) else (none))))) = some r := H
     have A29 := am_ A290
     clear A290
     replace H := Option.bind_eq_some_iff.mp H
     obtain ⟨t125, A300, H⟩ := H
     replace H : ((impl_mul.f a1 a1).bind fun t128 => ((impl_values.f k1 x6_1 t128).bind fun t129 => (if 0 ≤ (wrap64 (2 * (t125.length : Int))) then (if (wrap64 (2 * (t125.length : Int)) : Int).toNat ≤ 17592186044416 then (impl_values.l1 k1 a1 t125 t129 (t125.length : Int) 1 (List.replicate (wrap64 (2 * (t125.length : Int)) : Int).toNat z34) (t125.length : Int) 0) else (none)) else (none)))) = some r := H
     have A30 := am_ A300
     clear A300
     replace H := Option.bind_eq_some_iff.mp H
     obtain ⟨t128, A310, H⟩ := H
     replace H : ((impl_values.f k1 x6_1 t128).bind fun t129 => (if 0 ≤ (wrap64 (2 * (t125.length : Int))) then (if (wrap64 (2 * (t125.length : Int)) : Int).toNat ≤ 17592186044416 then (impl_values.l1 k1 a1 t125 t129 (t125.length : Int) 1 (List.replicate (wrap64 (2 * (t125.length : Int)) : Int).toNat z34) (t125.length : Int) 0) else (none)) else (none))) = some r := H
     have A31 := am_ A310
     clear A310
     replace H := Option.bind_eq_some_iff.mp H
     obtain ⟨t129, A320, H⟩ := H
     replace H : (if 0 ≤ (wrap64 (2 * (t125.length : Int))) then (if (wrap64 (2 * (t125.length : Int)) : Int).toNat ≤ 17592186044416 then (impl_values.l1 k1 a1 t125 t129 (t125.length : Int) 1 (List.replicate (wrap64 (2 * (t125.length : Int)) : Int).toNat z34) (t125.length : Int) 0) else (none)) else (none)) = some r := H
     have A32 := am_ A320
     clear A320
     obtain ⟨ji33, hji33⟩ : ∃ j_ : Int, (wrap64 (2 * (t125.length : Int))) = j_ := ⟨_, rfl⟩
     replace H : (if 0 ≤ (ji33) then (if (ji33 : Int).toNat ≤ 17592186044416 then (impl_values.l1 k1 a1 t125 t129 (t125.length : Int) 1 (List.replicate (ji33 : Int).toNat z34) (t125.length : Int) 0) else (none)) else (none)) = some r := by first | (rw [hji33] at H; exact H) | (simp only [hji33] at H ⊢; exact H)
     (try rw [hji33] at A29)
     (try rw [hji33] at A30)
     (try rw [hji33] at A31)
     (try rw [hji33] at A32)
     have hji33w : (IntKind.i64.wrap (2 * (t125.length : Int))) = ji33 := (i64_w _).trans hji33
     by_cases c34 : 0 ≤ (ji33)
     ·
      rw [if_pos c34] at H
      have c34b0 := eq_true c34
      have c34b1 : decide (0 ≤ (ji33)) = true := decide_eq_true c34
      clear c34
      by_cases c35 : (ji33 : Int).toNat ≤ 17592186044416
      ·
       rw [if_pos c35] at H
       have c35b0 := eq_true c35
       have c35b1 : decide ((ji33 : Int).toNat ≤ 17592186044416) = true := decide_eq_true c35
       clear c35
       obtain ⟨y132, hy132⟩ : ∃ y_ : List (S34), y_ = (List.replicate (ji33 : Int).toNat z34) := ⟨_, rfl⟩
       replace H : (impl_values.l1 k1 a1 t125 t129 (t125.length : Int) 1 y132 (t125.length : Int) 0) = some r := by first | (rw [hy132]; with_reducible exact H) | (have H2_ := (Option.bind_some _ _).symm.trans H; rw [hy132]; with_reducible exact H2_) | (have H2_ := (Option.bind_some _ _).symm.trans H; with_reducible exact H2_) | with_reducible exact H | (rw [hy132]; exact H) | exact H
       have Ny132 := am_ hy132
       clear hy132
       have H' := am_ H
       clear H
       go_wp2_with (first | ((with_reducible refine gate_callee (f := 166) rfl ?_); refine goesL_ (some 46) rfl rfl Try.func166 (by kernel_rfl) rfl #[.int .i64 a1, .int .i64 a1] rfl qz2_ ?_; (with_reducible refine (impl_mul.calls a1 a1 t124 _ A29.out).mono ?_); rintro e w' ⟨rfl, ⟨nd, rfl⟩⟩; refine ⟨_, rfl, ?_⟩; obtain ⟨Ao36, co36, eo36⟩ := Kd.R_slice HO_5.out; subst eo36) | ((with_reducible refine gate_callee (f := 142) rfl ?_); refine goesL_ (some 47) rfl rfl Try.func142 (by kernel_rfl) rfl #[.slice Ao36 x5_1.length co36, .int .i64 t124] rfl qz2_ ?_; (with_reducible refine (ih k1 (by have := HK1.out; omega) _ _ x5_1 t124 t125 _ ?side1 ?side2 A30.out).mono ?_); (case side1 => exact qc_ (Kd.R_reads' HO_5.out).2.2); (case side2 => exact (Kd.R_reads' HO_5.out).2.1); rintro e w37 ⟨v126, rfl, ho0, hb⟩; refine ⟨_, rfl, ?_⟩; have n0_ := am_ (Kd.R_elder' qz11_ (Kd.R_base ho0) hb); have n1_ := am_ (Kd.R_elder' qz20_ (Kd.R_base ho0) hb); have n2_ := am_ (Kd.R_lower (Kd.R_new' (Kd.R_new' ho0 (Kd.R_lt qz11_)) (Kd.R_lt qz20_)) (below_size qz3_)); have n3_ := am_ (below_step qz3_ hb); clear HO_5; clear HO_6; clear HB; have HO_5 := n0_; have HO_6 := n1_; have HO127 := n2_; have HB := n3_; clear n0_ n1_ n2_ n3_; (try clear hb); (try clear hb2); (try clear hk); (try clear hi); (try clear ho0)) | ((with_reducible refine gate_callee (f := 166) rfl ?_); refine goesL_ (some 51) rfl rfl Try.func166 (by kernel_rfl) rfl #[.int .i64 a1, .int .i64 a1] rfl qz2_ ?_; (with_reducible refine (impl_mul.calls a1 a1 t128 _ A31.out).mono ?_); rintro e w' ⟨rfl, ⟨nd, rfl⟩⟩; refine ⟨_, rfl, ?_⟩; obtain ⟨Ao38, co38, eo38⟩ := Kd.R_slice HO_6.out; subst eo38) | ((with_reducible refine gate_callee (f := 142) rfl ?_); refine goesL_ (some 52) rfl rfl Try.func142 (by kernel_rfl) rfl #[.slice Ao38 x6_1.length co38, .int .i64 t128] rfl qz2_ ?_; (with_reducible refine (ih k1 (by have := HK1.out; omega) _ _ x6_1 t128 t129 _ ?side1 ?side2 A32.out).mono ?_); (case side1 => exact qc_ (Kd.R_reads' HO_6.out).2.2); (case side2 => exact (Kd.R_reads' HO_6.out).2.1); rintro e w39 ⟨v130, rfl, ho0, hb⟩; refine ⟨_, rfl, ?_⟩; have n0_ := am_ (Kd.R_elder' qz11_ (Kd.R_base ho0) hb); have n1_ := am_ (Kd.R_elder' qz20_ (Kd.R_base ho0) hb); have n2_ := am_ (Kd.R_elder' (by (with_reducible repeat (first | apply Kd.R_alloc | apply Kd.R_drewN | apply Kd.R_drew)); exact HO127.out) (Kd.R_base ho0) hb); have n3_ := am_ (Kd.R_lower (Kd.R_new' (Kd.R_new' (Kd.R_new' ho0 (Kd.R_lt qz11_)) (Kd.R_lt qz20_)) (Kd.R_lt (by (with_reducible repeat (first | apply Kd.R_alloc | apply Kd.R_drewN | apply Kd.R_drew)); exact HO127.out))) (below_size qz3_)); have n4_ := am_ (below_step qz3_ hb); clear HO_5; clear HO_6; clear HO127; clear HB; have HO_5 := n0_; have HO_6 := n1_; have HO127 := n2_; have HO131 := n3_; have HB := n4_; clear n0_ n1_ n2_ n3_ n4_; (try clear hb); (try clear hb2); (try clear hk); (try clear hi); (try clear ho0); obtain ⟨Ao40, co40, eo40⟩ := Kd.R_slice HO127.out; subst eo40) | ((with_reducible refine gate_dst (N := 57) rfl ?_); refine Kd.R_make k34 _ 34 rfl (N := 57) rfl 24 _ _ rfl ji33 rfl rfl Try.underlying24 (.agg #[(.int .i64 0), (.int .i64 0)]) 16 info34 rfl (by decide) (by omega) z34 (ok := fun _ => True) (okp := fun _ => True) (k34_mkM _ _ _ z34 ) (fun _ hk => hk) trivial (of_decide_eq_true qz6_) (Nat.le_trans (Nat.mul_le_mul_right _ (of_decide_eq_true qz6_ : ji33.toNat ≤ 17592186044416)) (by omega)) (Below.refl _ _) (Nat.le_refl _) ?_; intro v133 w41 ho42 hb hg_ hnew_; clear hg_ hnew_; (first | rw [← Ny132.out] at ho42 | (simp only [Int.reduceToNat] at ho42; rw [← Ny132.out] at ho42)); have n0_ := am_ (Kd.R_elder' qz11_ (Kd.R_base ho42) hb); have n1_ := am_ (Kd.R_elder' qz20_ (Kd.R_base ho42) hb); have n2_ := am_ (Kd.R_elder' (by (with_reducible repeat (first | apply Kd.R_alloc | apply Kd.R_drewN | apply Kd.R_drew)); exact HO127.out) (Kd.R_base ho42) hb); have n3_ := am_ (Kd.R_elder' (by (with_reducible repeat (first | apply Kd.R_alloc | apply Kd.R_drewN | apply Kd.R_drew)); exact HO131.out) (Kd.R_base ho42) hb); have n4_ := am_ (Kd.R_lower (Kd.R_new' (Kd.R_new' (Kd.R_new' (Kd.R_new' ho42 (Kd.R_lt qz11_)) (Kd.R_lt qz20_)) (Kd.R_lt (by (with_reducible repeat (first | apply Kd.R_alloc | apply Kd.R_drewN | apply Kd.R_drew)); exact HO127.out))) (Kd.R_lt (by (with_reducible repeat (first | apply Kd.R_alloc | apply Kd.R_drewN | apply Kd.R_drew)); exact HO131.out))) (below_size qz3_)); have n5_ := am_ (below_step qz3_ hb); clear HO_5; clear HO_6; clear HO127; clear HO131; clear HB; have HO_5 := n0_; have HO_6 := n1_; have HO127 := n2_; have HO131 := n3_; have HO134 := n4_; have HB := n5_; clear n0_ n1_ n2_ n3_ n4_ n5_; clear hb ho42))
       go_loopg [11, 59] k1 (fun kq v11 v59 w' => ∃ (x11_2 : Int) (x12_2 : List (S34)) (x59_2 : Int), v11 = .int .i64 x11_2 ∧ v59 = .int .i64 x59_2 ∧ Aside0 (impl_values.l1 kq a1 t125 t129 (t125.length : Int) x11_2 x12_2 (t125.length : Int) x59_2 = some r) ∧ Aside0 (kq ≤ k1) ∧ Aside0 (Kd.R k34 34 w' w.heap.size (fun k_ => some k_ ≠ (v130 : Value).ownBlock ∧ some k_ ≠ (v133 : Value).ownBlock) (.slice Ao40 t125.length co40) t125) ∧ Aside0 (Kd.R k34 34 w' w.heap.size (fun k_ => some k_ ≠ ((.slice Ao40 t125.length co40) : Value).ownBlock ∧ some k_ ≠ (v133 : Value).ownBlock) v130 t129) ∧ Aside0 (Kd.R k34 34 w' w.heap.size (fun k_ => some k_ ≠ ((.slice Ao40 t125.length co40) : Value).ownBlock ∧ some k_ ≠ (v130 : Value).ownBlock) v133 x12_2) ∧ Aside0 (Below w.heap.size w w'))
       case atStart => exact ⟨(1), (y132), (0), qz0_, qz0_, H', ⟨Nat.le_refl _⟩, ⟨by (with_reducible repeat (first | apply Kd.R_alloc | apply Kd.R_drewN | apply Kd.R_drew)); exact Kd.R_mono HO127.out (fun _ hk => ⟨hk.1.2, hk.2⟩)⟩, ⟨by (with_reducible repeat (first | apply Kd.R_alloc | apply Kd.R_drewN | apply Kd.R_drew)); exact Kd.R_mono HO131.out (fun _ hk => ⟨hk.1.2, hk.2⟩)⟩, ⟨by (with_reducible repeat (first | apply Kd.R_alloc | apply Kd.R_drewN | apply Kd.R_drew)); exact Kd.R_mono HO134.out (fun _ hk => ⟨hk.1.2, hk.2⟩)⟩, ⟨qz3_⟩⟩
       case round =>
        clear H'
        try clear c1
        try clear p1
        try clear q1
        try clear hx1
        try clear c2
        try clear p2
        try clear c3
        try clear c3b0
        try clear c3b1
        try clear c4
        try clear p6
        try clear c10
        try clear c10b0
        try clear c11
        try clear c11b0
        try clear p11
        try clear q11
        try clear hx11
        try clear c12
        try clear c14
        try clear c14b0
        try clear c15
        try clear c15b0
        try clear c16
        try clear c34
        try clear c34b0
        try clear c34b1
        try clear c35
        try clear c35b0
        try clear c35b1
        try clear hx110_0
        try clear hx110_1
        try clear hx117_0
        try clear hx117_1
        try clear p110
        try clear p117
        try clear p2
        try clear q110
        try clear q117
        obtain ⟨x11_2, x12_2, x59_2, rfl, rfl, HA, HK2, HO_8, HO_9, HO_12, HB⟩ := hrel
        cases gk with
        | zero => exact absurd HA.out (by simp [impl_values.l1])
        | succ k2 =>
         have H := HA.out
         clear HA
         simp only [impl_values.l1] at H
         by_cases c43 : x59_2 < (t125.length : Int)
         ·
          rw [if_pos c43] at H
          have c43b0 : decide (x59_2 < (t125.length : Int)) = true := decide_eq_true c43
          clear c43
          by_cases c44 : 0 ≤ x59_2
          ·
           rw [if_pos c44] at H
           have c44b0 : decide (0 ≤ x59_2) = true := decide_eq_true c44
           clear c44
           by_cases c45 : x59_2 < (t129.length : Int)
           ·
            rw [if_pos c45] at H
            have c45b0 : decide (x59_2 < (t129.length : Int)) = true := decide_eq_true c45
            clear c45
            replace H := Option.bind_eq_some_iff.mp H
            obtain ⟨⟨t136, t137⟩, A460, H⟩ := H
            replace H : (if x59_2 < (t125.length : Int) then ((impl_Ext_plus.f ((rd_T34 t125 x59_2).f0) ((rd_T34 t125 x59_2).f1) t136 t137).bind fun bt140 => ((impl_Ext_minus.f ((rd_T34 t125 x59_2).f0) ((rd_T34 t125 x59_2).f1) t136 t137).bind fun bt143 => (if x59_2 < (x12_2.length : Int) then (if 0 ≤ (wrap64 (x59_2 + (t125.length : Int))) then (if (wrap64 (x59_2 + (t125.length : Int))) < (x12_2.length : Int) then ((impl_mul.f x11_2 a1).bind fun t147 => (impl_values.l1 k2 a1 t125 t129 (t125.length : Int) t147 ((x12_2.set (x59_2 : Int).toNat (⟨bt140.1, bt140.2⟩ : S34)).set ((wrap64 (x59_2 + (t125.length : Int))) : Int).toNat (⟨bt143.1, bt143.2⟩ : S34)) (t125.length : Int) (wrap64 (x59_2 + 1)))) else (none)) else (none)) else (none)))) else (none)) = some r := H
            have A46 := am_ A460
            clear A460
            by_cases c47 : x59_2 < (t125.length : Int)
            ·
             rw [if_pos c47] at H
             have c47b0 : decide (x59_2 < (t125.length : Int)) = true := decide_eq_true c47
             clear c47
             replace H := Option.bind_eq_some_iff.mp H
             obtain ⟨⟨t140, t141⟩, A480, H⟩ := H
             replace H : ((impl_Ext_minus.f ((rd_T34 t125 x59_2).f0) ((rd_T34 t125 x59_2).f1) t136 t137).bind fun bt143 => (if x59_2 < (x12_2.length : Int) then (if 0 ≤ (wrap64 (x59_2 + (t125.length : Int))) then (if (wrap64 (x59_2 + (t125.length : Int))) < (x12_2.length : Int) then ((impl_mul.f x11_2 a1).bind fun t147 => (impl_values.l1 k2 a1 t125 t129 (t125.length : Int) t147 ((x12_2.set (x59_2 : Int).toNat (⟨t140, t141⟩ : S34)).set ((wrap64 (x59_2 + (t125.length : Int))) : Int).toNat (⟨bt143.1, bt143.2⟩ : S34)) (t125.length : Int) (wrap64 (x59_2 + 1)))) else (none)) else (none)) else (none))) = some r := H
             have A48 := am_ A480
             clear A480
             replace H := Option.bind_eq_some_iff.mp H
             obtain ⟨⟨t143, t144⟩, A490, H⟩ := H
             replace H : (if x59_2 < (x12_2.length : Int) then (if 0 ≤ (wrap64 (x59_2 + (t125.length : Int))) then (if (wrap64 (x59_2 + (t125.length : Int))) < (x12_2.length : Int) then ((impl_mul.f x11_2 a1).bind fun t147 => (impl_values.l1 k2 a1 t125 t129 (t125.length : Int) t147 ((x12_2.set (x59_2 : Int).toNat (⟨t140, t141⟩ : S34)).set ((wrap64 (x59_2 + (t125.length : Int))) : Int).toNat (⟨t143, t144⟩ : S34)) (t125.length : Int) (wrap64 (x59_2 + 1)))) else (none)) else (none)) else (none)) = some r := H
             have A49 := am_ A490
             clear A490
             by_cases c50 : x59_2 < (x12_2.length : Int)
             ·
              rw [if_pos c50] at H
              have c50b0 : decide (x59_2 < (x12_2.length : Int)) = true := decide_eq_true c50
              clear c50
              obtain ⟨y145, hy145⟩ : ∃ y_ : List (S34), y_ = (x12_2.set (x59_2 : Int).toNat (⟨t140, t141⟩ : S34)) := ⟨_, rfl⟩
              replace H : (if 0 ≤ (wrap64 (x59_2 + (t125.length : Int))) then (if (wrap64 (x59_2 + (t125.length : Int))) < (x12_2.length : Int) then ((impl_mul.f x11_2 a1).bind fun t147 => (impl_values.l1 k2 a1 t125 t129 (t125.length : Int) t147 (y145.set ((wrap64 (x59_2 + (t125.length : Int))) : Int).toNat (⟨t143, t144⟩ : S34)) (t125.length : Int) (wrap64 (x59_2 + 1)))) else (none)) else (none)) = some r := by first | (rw [hy145]; with_reducible exact H) | (have H2_ := (Option.bind_some _ _).symm.trans H; rw [hy145]; with_reducible exact H2_) | (have H2_ := (Option.bind_some _ _).symm.trans H; with_reducible exact H2_) | with_reducible exact H | (rw [hy145]; exact H) | exact H
              have Ny145 := am_ hy145
              clear hy145
              obtain ⟨ji52, hji52⟩ : ∃ j_ : Int, (wrap64 (x59_2 + (t125.length : Int))) = j_ := ⟨_, rfl⟩
              replace H : (if 0 ≤ (ji52) then (if (ji52) < (x12_2.length : Int) then ((impl_mul.f x11_2 a1).bind fun t147 => (impl_values.l1 k2 a1 t125 t129 (t125.length : Int) t147 (y145.set ((ji52) : Int).toNat (⟨t143, t144⟩ : S34)) (t125.length : Int) (wrap64 (x59_2 + 1)))) else (none)) else (none)) = some r := by first | (rw [hji52] at H; exact H) | (simp only [hji52] at H ⊢; exact H)
              (try rw [hji52] at A46)
              (try rw [hji52] at A48)
              (try rw [hji52] at A49)
              have hji52w : (IntKind.i64.wrap (x59_2 + (t125.length : Int))) = ji52 := (i64_w _).trans hji52
              by_cases c53 : 0 ≤ (ji52)
              ·
               rw [if_pos c53] at H
               have c53b0 : decide (0 ≤ (ji52)) = true := decide_eq_true c53
               clear c53
               by_cases c54 : (ji52) < (x12_2.length : Int)
               ·
                rw [if_pos c54] at H
                have c54b0 : decide ((ji52) < (x12_2.length : Int)) = true := decide_eq_true c54
                clear c54
                obtain ⟨y146, hy146⟩ : ∃ y_ : List (S34), y_ = (y145.set ((ji52) : Int).toNat (⟨t143, t144⟩ : S34)) := ⟨_, rfl⟩
                replace H : ((impl_mul.f x11_2 a1).bind fun t147 => (impl_values.l1 k2 a1 t125 t129 (t125.length : Int) t147 y146 (t125.length : Int) (wrap64 (x59_2 + 1)))) = some r := by first | (rw [hy146]; with_reducible exact H) | (have H2_ := (Option.bind_some _ _).symm.trans H; rw [hy146]; with_reducible exact H2_) | (have H2_ := (Option.bind_some _ _).symm.trans H; with_reducible exact H2_) | with_reducible exact H | (rw [hy146]; exact H) | exact H
                have Ny146 := am_ hy146
                clear hy146
                replace H := Option.bind_eq_some_iff.mp H
                obtain ⟨t147, A560, H⟩ := H
                replace H : (impl_values.l1 k2 a1 t125 t129 (t125.length : Int) t147 y146 (t125.length : Int) (wrap64 (x59_2 + 1))) = some r := H
                have A56 := am_ A560
                clear A560
                have H' := am_ H
                clear H
                obtain ⟨Ao57, co57, eo57⟩ := Kd.R_slice HO_9.out
                subst eo57
                have p135 : 0 ≤ (x59_2 : Int) := of_decide_eq_true qz6_
                have q135 : x59_2 < (t129.length : Int) := of_decide_eq_true qz6_
                obtain ⟨ad135, e135, hx135_0, hx135_1⟩ := at_T34 (Kd.R_reads' HO_9.out).2.2 x59_2 p135 q135
                cases e135
                replace p135 := eq_true p135
                replace q135 := eq_true q135
                try go_wp2_with (first | ((with_reducible refine gate_callee (f := 157) rfl ?_); refine goesL_ (some 67) rfl rfl Try.func157 (by kernel_rfl) rfl #[.agg #[.int .i64 ((rd_T34 t129 x59_2).f0), .int .i64 ((rd_T34 t129 x59_2).f1)], .int .i64 x11_2] rfl qz2_ ?_; (with_reducible refine (impl_Ext_scaled.calls ((rd_T34 t129 x59_2).f0) ((rd_T34 t129 x59_2).f1) x11_2 t136 t137 _ A46.out).mono ?_); rintro e w58 ⟨rfl, hb⟩; refine ⟨_, rfl, ?_⟩; have n0_ := am_ (Kd.R_below qz32_ hb); have n1_ := am_ (Kd.R_below qz22_ hb); have n2_ := am_ (Kd.R_below (by (with_reducible repeat (first | apply Kd.R_alloc | apply Kd.R_drewN | apply Kd.R_drew)); exact HO_12.out) hb); have n3_ := am_ (below_step qz3_ hb); clear HO_8; clear HO_9; clear HO_12; clear HB; have HO_8 := n0_; have HO_9 := n1_; have HO_12 := n2_; have HB := n3_; clear n0_ n1_ n2_ n3_; (try clear hb); (try clear hb2); (try clear hk); (try clear hi)) | ((with_reducible refine gate_dst (N := 14) rfl ?_); refine box_event ?hg (N := 14) ?hd (cs := #[.int .i64 0, .int .i64 0]) (t := 34) ?hr ?_; (case hd => rfl); (case hg => rfl); (case hr => first | (go_simp; done) | (go_simp; rfl)); intro gb138 hg w59 hbox hb; have n0_ := am_ (Kd.R_below (Kd.R_elderB qz32_ gb138 (Nat.le_of_eq hg.symm)) hb); have n1_ := am_ (Kd.R_below (Kd.R_elderB qz22_ gb138 (Nat.le_of_eq hg.symm)) hb); have n2_ := am_ (Kd.R_below (Kd.R_elderB (by (with_reducible repeat (first | apply Kd.R_alloc | apply Kd.R_drewN | apply Kd.R_drew)); exact HO_12.out) gb138 (Nat.le_of_eq hg.symm)) hb); have n3_ := am_ (below_step qz3_ hb); have n4_ := am_ (hbox); have n5_ := am_ ((by rw [hg]; exact (below_size qz3_) : w.heap.size ≤ gb138)); have n6_ := am_ ((by rw [hg]; exact (below_size qz3_) : w.heap.size ≤ gb138)); clear HO_8; clear HO_9; clear HO_12; clear HB; have HO_8 := n0_; have HO_9 := n1_; have HO_12 := n2_; have HB := n3_; have BK138 := n4_; have GW138 := n5_; have GE138 := n6_; clear n0_ n1_ n2_ n3_ n4_ n5_ n6_; clear hb hbox hg; have hcz60_0 : w59.cell? ⟨gb138, 0, none⟩ = some (.int .i64 0) := (blk_cell BK138.out 0).trans rfl; have hcz60_1 : w59.cell? ⟨gb138, 1, none⟩ = some (.int .i64 0) := (blk_cell BK138.out 1).trans rfl; have hfz60_0 := blk_frozen BK138.out 0; have hfz60_1 := blk_frozen BK138.out 1))
                have n0_ : Aside0 (Kd.R k34 34 ((w59.setCell ⟨gb138, 0, none⟩ (.int .i64 t136)).setCell ⟨gb138, 1, none⟩ (.int .i64 t137)) w.heap.size (fun k_ => some k_ ≠ (.slice (some ad135) t129.length co57 : Value).ownBlock ∧ some k_ ≠ (v133 : Value).ownBlock ∧ k_ ≠ gb138) (.slice Ao40 t125.length co40) t125) := ⟨by (with_reducible repeat (first | apply Kd.R_alloc | apply Kd.R_drewN | apply Kd.R_drew)); exact Kd.R_mono (Kd.R_far (p := ⟨gb138, 1, none⟩) (Kd.R_far (p := ⟨gb138, 0, none⟩) (Kd.R_mono HO_8.out (fun k_ hk => (⟨hk, hk.2⟩ : _ ∧ k_ ≠ gb138))) (fun _ hk => hk.2) (.int .i64 t136)) (fun _ hk => hk.2) (.int .i64 t137)) (fun _ hk => ⟨hk.1.1.1, ⟨hk.1.1.2, hk.1.2⟩⟩)⟩
                have n1_ : Aside0 (Kd.R k34 34 ((w59.setCell ⟨gb138, 0, none⟩ (.int .i64 t136)).setCell ⟨gb138, 1, none⟩ (.int .i64 t137)) w.heap.size (fun k_ => some k_ ≠ (.slice Ao40 t125.length co40 : Value).ownBlock ∧ some k_ ≠ (v133 : Value).ownBlock ∧ k_ ≠ gb138) (.slice (some ad135) t129.length co57) t129) := ⟨by (with_reducible repeat (first | apply Kd.R_alloc | apply Kd.R_drewN | apply Kd.R_drew)); exact Kd.R_mono (Kd.R_far (p := ⟨gb138, 1, none⟩) (Kd.R_far (p := ⟨gb138, 0, none⟩) (Kd.R_mono HO_9.out (fun k_ hk => (⟨hk, hk.2⟩ : _ ∧ k_ ≠ gb138))) (fun _ hk => hk.2) (.int .i64 t136)) (fun _ hk => hk.2) (.int .i64 t137)) (fun _ hk => ⟨hk.1.1.1, ⟨hk.1.1.2, hk.1.2⟩⟩)⟩
                have n2_ : Aside0 (Kd.R k34 34 ((w59.setCell ⟨gb138, 0, none⟩ (.int .i64 t136)).setCell ⟨gb138, 1, none⟩ (.int .i64 t137)) w.heap.size (fun k_ => some k_ ≠ (.slice Ao40 t125.length co40 : Value).ownBlock ∧ some k_ ≠ (.slice (some ad135) t129.length co57 : Value).ownBlock ∧ k_ ≠ gb138) v133 x12_2) := ⟨by (with_reducible repeat (first | apply Kd.R_alloc | apply Kd.R_drewN | apply Kd.R_drew)); exact Kd.R_mono (Kd.R_far (p := ⟨gb138, 1, none⟩) (Kd.R_far (p := ⟨gb138, 0, none⟩) (Kd.R_mono HO_12.out (fun k_ hk => (⟨hk, hk.2⟩ : _ ∧ k_ ≠ gb138))) (fun _ hk => hk.2) (.int .i64 t136)) (fun _ hk => hk.2) (.int .i64 t137)) (fun _ hk => ⟨hk.1.1.1, ⟨hk.1.1.2, hk.1.2⟩⟩)⟩
                have n3_ : Aside0 (((w59.setCell ⟨gb138, 0, none⟩ (.int .i64 t136)).setCell ⟨gb138, 1, none⟩ (.int .i64 t137)).heap[gb138]? = some (.cells #[.int .i64 t136, .int .i64 t137] 34 (0, 0))) := ⟨(by (with_reducible repeat (first | refine blk_drewN ?_ _ | refine blk_drew ?_ | refine blk_alloc ?_ _)); refine blk_put (cs := #[.int .i64 t136, .int .i64 0]) ?_ 1 _ rfl; (with_reducible repeat (first | refine blk_drewN ?_ _ | refine blk_drew ?_ | refine blk_alloc ?_ _)); refine blk_put (cs := #[.int .i64 0, .int .i64 0]) ?_ 0 _ rfl; (with_reducible repeat (first | refine blk_drewN ?_ _ | refine blk_drew ?_ | refine blk_alloc ?_ _)); exact BK138.out)⟩
                have n4_ : Aside0 (Below w.heap.size w ((w59.setCell ⟨gb138, 0, none⟩ (.int .i64 t136)).setCell ⟨gb138, 1, none⟩ (.int .i64 t137))) := ⟨(by repeat (first | (with_reducible first | exact HB.out | apply below_alloc | apply pw_below_drewN | apply below_drew1 | refine below_set ?_ GE138.out) | exact HB.out))⟩
                (try clear HO_8)
                (try clear HO_9)
                (try clear HO_12)
                (try clear BK138)
                (try clear HB)
                generalize ((w59.setCell ⟨gb138, 0, none⟩ (.int .i64 t136)).setCell ⟨gb138, 1, none⟩ (.int .i64 t137)) = w61 at n0_ n1_ n2_ n3_ n4_ ⊢
                have HO_8 := n0_
                have HO_9 := n1_
                have HO_12 := n2_
                have BK138 := n3_
                have HB := n4_
                clear n0_ n1_ n2_ n3_ n4_
                have n0_ := am_ (Kd.R_drew HO_8.out)
                have n1_ := am_ (Kd.R_drew HO_9.out)
                have n2_ := am_ (Kd.R_drew HO_12.out)
                have n3_ := am_ (blk_drew BK138.out)
                have n4_ := am_ (below_drew1 HB.out)
                clear HO_8
                clear HO_9
                clear HO_12
                clear BK138
                clear HB
                have HO_8 := n0_
                have HO_9 := n1_
                have HO_12 := n2_
                have BK138 := n3_
                have HB := n4_
                clear n0_ n1_ n2_ n3_ n4_
                have p139 : 0 ≤ (x59_2 : Int) := of_decide_eq_true qz6_
                have q139 : x59_2 < (t125.length : Int) := of_decide_eq_true qz6_
                obtain ⟨ad139, e139, hx139_0, hx139_1⟩ := at_T34 (Kd.R_reads' HO_8.out).2.2 x59_2 p139 q139
                cases e139
                replace p139 := eq_true p139
                replace q139 := eq_true q139
                have p142 : 0 ≤ (x59_2 : Int) := of_decide_eq_true qz6_
                have q142 : x59_2 < (t125.length : Int) := of_decide_eq_true qz6_
                obtain ⟨ad142, e142, hx142_0, hx142_1⟩ := at_T34 (Kd.R_reads' HO_8.out).2.2 x59_2 p142 q142
                obtain rfl : ad139 = ad142 := (by injection e142)
                replace p142 := eq_true p142
                replace q142 := eq_true q142
                have hlen_b : t125.length ≤ 9223372036854775807 := by obtain ⟨_, _, _, _, h_⟩ := Kd.R_reads HO127.out; exact h_.2.1
                have hap_ : x59_2.toNat + 1 ≤ ji52.toNat := by
                 have a0_ : 0 ≤ x59_2 := by first | exact of_decide_eq_true (by assumption) | (simp_all; done)
                 have a1_ : x59_2 < (t125.length : Int) := by first | exact of_decide_eq_true (by assumption) | (simp_all; done)
                 have a2_ : 0 ≤ ji52 := by first | exact of_decide_eq_true (by assumption) | (simp_all; done)
                 have b_ := hji52
                 unfold wrap64 at b_
                 omega
                refine start_ (n := 22) (S := fun w' => w'.cell? ⟨gb138, 0, none⟩ = some (.int .i64 t136) ∧ w'.cell? ⟨gb138, 1, none⟩ = some (.int .i64 t137) ∧ w'.cell? (ad139.add ((x59_2).toNat * 2)) = some (.int .i64 ((rd_T34 t125 x59_2).f0)) ∧ w'.cell? ⟨(ad139.add ((x59_2).toNat * 2)).block, (ad139.add ((x59_2).toNat * 2)).off + 1, none⟩ = some (.int .i64 ((rd_T34 t125 x59_2).f1)) ∧ w'.cell? (ad139.add ((x59_2).toNat * 2)) = some (.int .i64 ((rd_T34 t125 x59_2).f0)) ∧ w'.cell? ⟨(ad139.add ((x59_2).toNat * 2)).block, (ad139.add ((x59_2).toNat * 2)).off + 1, none⟩ = some (.int .i64 ((rd_T34 t125 x59_2).f1))) (ds := [19, 21]) #[false, false, false, false, false, false, false, false, false, false, false, false, false, false, false, false, false, false, false, false, false, false] (by kernel_rfl) rfl rfl ⟨(blk_cell BK138.out 0).trans rfl, (blk_cell BK138.out 1).trans rfl, hx139_0, hx139_1, hx142_0, hx142_1⟩ (fun hHeld => ?_); refine with_tabW impl_values.tab15 impl_values.bits15 (fun HT_ HW_ => ?_)
                generalize w61.drew = w62 at HO_8 HO_9 HO_12 BK138 HB hx139_0 hx139_1 hx142_0 hx142_1 hHeld ⊢
                refine pure_ (i := 0) (N := some 68) (v := ?_) (a' := ?_) #[true, false, false, false, false, false, false, false, false, false, false, false, false, false, false, false, false, false, false, false, false, false] rfl rfl (any_of HT_.out (by kernel_rfl)) (fun _ _ _ h => h) (Or.inl ⟨(by rfl), ?_⟩) ?_ ?_
                rotate_left
                ·
                 intro w'
                 go_simp
                 with_reducible rfl
                rotate_left
                ·
                 exact ap_
                refine pure_ (i := 1) (N := some 69) (v := ?_) (a' := ?_) #[true, true, false, false, false, false, false, false, false, false, false, false, false, false, false, false, false, false, false, false, false, false] rfl rfl (any_of HT_.out (by kernel_rfl)) (fun _ _ _ h => h) (Or.inl ⟨(by rfl), ?_⟩) ?_ ?_
                rotate_left
                ·
                 intro w'
                 go_simp
                 with_reducible rfl
                rotate_left
                ·
                 exact ap_
                refine pure_ (i := 2) (N := some 70) (v := ?_) (a' := ?_) #[true, true, true, false, false, false, false, false, false, false, false, false, false, false, false, false, false, false, false, false, false, false] rfl rfl (any_of HT_.out (by kernel_rfl)) (fun _ _ _ h => h) (Or.inl ⟨(by rfl), ?_⟩) ?_ ?_
                rotate_left
                ·
                 intro w'
                 go_simp
                 with_reducible rfl
                rotate_left
                ·
                 exact ap_
                refine pure_ (i := 3) (N := some 71) (v := ?_) (a' := ?_) #[true, true, true, true, false, false, false, false, false, false, false, false, false, false, false, false, false, false, false, false, false, false] rfl rfl (any_of HT_.out (by kernel_rfl)) (fun _ _ _ h => h) (Or.inl ⟨(by rfl), ?_⟩) ?_ ?_
                rotate_left
                ·
                 intro w'
                 go_simp
                 with_reducible rfl
                rotate_left
                ·
                 exact ap_
                refine pure_ (i := 4) (N := some 72) (v := ?_) (a' := ?_) #[true, true, true, true, true, false, false, false, false, false, false, false, false, false, false, false, false, false, false, false, false, false] rfl rfl (any_of HT_.out (by kernel_rfl)) (fun _ _ _ h => h) (Or.inl ⟨(by rfl), ?_⟩) ?_ ?_
                rotate_left
                ·
                 intro w'
                 go_simp
                 with_reducible rfl
                rotate_left
                ·
                 exact ap_
                refine pure_ (i := 5) (N := some 73) (v := ?_) (a' := ?_) #[true, true, true, true, true, true, false, false, false, false, false, false, false, false, false, false, false, false, false, false, false, false] rfl rfl (any_of HT_.out (by kernel_rfl)) (fun _ _ _ h => h) (Or.inl ⟨(by rfl), ?_⟩) ?_ ?_
                rotate_left
                ·
                 intro w'
                 go_simp
                 with_reducible rfl
                rotate_left
                ·
                 exact ap_
                refine pure_ (i := 6) (N := some 74) (v := ?_) (a' := ?_) #[true, true, true, true, true, true, true, false, false, false, false, false, false, false, false, false, false, false, false, false, false, false] rfl rfl (any_of HT_.out (by kernel_rfl)) (fun _ _ _ h => h) (Or.inl ⟨(by rfl), ?_⟩) ?_ ?_
                rotate_left
                ·
                 intro w'
                 go_simp
                 with_reducible rfl
                rotate_left
                ·
                 exact ap_
                refine pure_ (i := 7) (N := some 75) (v := ?_) (a' := ?_) #[true, true, true, true, true, true, true, true, false, false, false, false, false, false, false, false, false, false, false, false, false, false] rfl rfl (any_of HT_.out (by kernel_rfl)) (fun _ _ _ h => h) (Or.inl ⟨(by rfl), ?_⟩) ?_ ?_
                rotate_left
                ·
                 intro w'
                 go_simp
                 with_reducible rfl
                rotate_left
                ·
                 exact ap_
                refine pure_ (i := 8) (N := some 76) (v := ?_) (a' := ?_) #[true, true, true, true, true, true, true, true, true, false, false, false, false, false, false, false, false, false, false, false, false, false] rfl rfl (any_of HT_.out (by kernel_rfl)) (fun _ _ _ h => h) (Or.inl ⟨(by rfl), ?_⟩) ?_ ?_
                rotate_left
                ·
                 intro w'
                 go_simp
                 with_reducible rfl
                rotate_left
                ·
                 exact ap_
                refine pure_ (i := 12) (N := some 80) (v := ?_) (a' := ?_) #[true, true, true, true, true, true, true, true, true, false, false, false, true, false, false, false, false, false, false, false, false, false] rfl rfl (any_of HT_.out (by kernel_rfl)) (fun _ _ _ h => h) (Or.inl ⟨(by rfl), ?_⟩) ?_ ?_
                rotate_left
                ·
                 intro w'
                 go_simp
                 with_reducible rfl
                rotate_left
                ·
                 exact ap_
                refine pure_ (i := 13) (N := some 81) (v := ?_) (a' := ?_) #[true, true, true, true, true, true, true, true, true, false, false, false, true, true, false, false, false, false, false, false, false, false] rfl rfl (any_of HT_.out (by kernel_rfl)) (fun _ _ _ h => h) (Or.inl ⟨(by rfl), ?_⟩) ?_ ?_
                rotate_left
                ·
                 intro w'
                 go_simp
                 with_reducible rfl
                rotate_left
                ·
                 exact ap_
                refine pure_ (i := 14) (N := some 82) (v := ?_) (a' := ?_) #[true, true, true, true, true, true, true, true, true, false, false, false, true, true, true, false, false, false, false, false, false, false] rfl rfl (any_of HT_.out (by kernel_rfl)) (fun _ _ _ h => h) (Or.inl ⟨(by rfl), ?_⟩) ?_ ?_
                rotate_left
                ·
                 intro w'
                 go_simp
                 with_reducible rfl
                rotate_left
                ·
                 exact ap_
                refine take_ (i := 9) (N := some 77) (v := ?_) (a' := ?_) #[true, true, true, true, true, true, true, true, true, true, false, false, true, true, true, false, false, false, false, false, false, false] rfl rfl (take_ofW HT_.out HW_.out (by kernel_rfl)) (fun _ _ _ h => h) (Or.inl ⟨(by rfl), ?_⟩) hHeld ?_ ?_
                rotate_left
                ·
                 rintro w' ⟨s0, s1, s2, s3, s4, s5⟩
                 go_simp
                 with_reducible rfl
                rotate_left
                ·
                 exact ap_
                refine take_ (i := 10) (N := some 78) (v := ?_) (a' := ?_) #[true, true, true, true, true, true, true, true, true, true, true, false, true, true, true, false, false, false, false, false, false, false] rfl rfl (take_ofW HT_.out HW_.out (by kernel_rfl)) (fun _ _ _ h => h) (Or.inl ⟨(by rfl), ?_⟩) hHeld ?_ ?_
                rotate_left
                ·
                 rintro w' ⟨s0, s1, s2, s3, s4, s5⟩
                 go_simp
                 with_reducible rfl
                rotate_left
                ·
                 exact ap_
                refine take_ (i := 15) (N := some 83) (v := ?_) (a' := ?_) #[true, true, true, true, true, true, true, true, true, true, true, false, true, true, true, true, false, false, false, false, false, false] rfl rfl (take_ofW HT_.out HW_.out (by kernel_rfl)) (fun _ _ _ h => h) (Or.inl ⟨(by rfl), ?_⟩) hHeld ?_ ?_
                rotate_left
                ·
                 rintro w' ⟨s0, s1, s2, s3, s4, s5⟩
                 go_simp
                 with_reducible rfl
                rotate_left
                ·
                 exact ap_
                refine take_ (i := 16) (N := some 84) (v := ?_) (a' := ?_) #[true, true, true, true, true, true, true, true, true, true, true, false, true, true, true, true, true, false, false, false, false, false] rfl rfl (take_ofW HT_.out HW_.out (by kernel_rfl)) (fun _ _ _ h => h) (Or.inl ⟨(by rfl), ?_⟩) hHeld ?_ ?_
                rotate_left
                ·
                 rintro w' ⟨s0, s1, s2, s3, s4, s5⟩
                 go_simp
                 with_reducible rfl
                rotate_left
                ·
                 exact ap_
                refine one_ (i := 11) (N := some 79) #[true, true, true, true, true, true, true, true, true, true, true, true, true, true, true, true, true, false, false, false, false, false] rfl rfl (one_of HT_.out (by kernel_rfl)) (by decide) (fun K hK => ?_)
                refine goes_ Try.func121 (by kernel_rfl) rfl #[.agg #[.int .i64 ((rd_T34 t125 x59_2).f0), .int .i64 ((rd_T34 t125 x59_2).f1)], .agg #[.int .i64 t136, .int .i64 t137]] (by rfl) rfl rfl qz2_ ?_
                with_reducible refine (impl_Ext_plus.calls ((rd_T34 t125 x59_2).f0) ((rd_T34 t125 x59_2).f1) t136 t137 t140 t141 _ A48.out).mono ?_
                rintro e w63 ⟨rfl, hb⟩
                have HS2_ := (hb.cell (World.block_lt_of_cell? _ _ (hHeld.2.2.1))).trans (hHeld.2.2.1)
                have HS3_ := (hb.cell (World.block_lt_of_cell? _ _ (hHeld.2.2.2.1))).trans (hHeld.2.2.2.1)
                have HS4_ := (hb.cell (World.block_lt_of_cell? _ _ (hHeld.2.2.2.2.1))).trans (hHeld.2.2.2.2.1)
                have HS5_ := (hb.cell (World.block_lt_of_cell? _ _ (hHeld.2.2.2.2.2))).trans (hHeld.2.2.2.2.2)
                refine ⟨_, rfl, ?_⟩
                have n0_ := am_ (Kd.R_below qz32_ hb)
                have n1_ := am_ (Kd.R_below qz22_ hb)
                have n2_ := am_ (Kd.R_below (by (with_reducible repeat (first | apply Kd.R_alloc | apply Kd.R_drewN | apply Kd.R_drew)); exact HO_12.out) hb)
                have n3_ := am_ (blk_below (g := gb138) (o := .cells #[.int .i64 t136, .int .i64 t137] 34 (0, 0)) (by (with_reducible repeat (first | refine blk_drewN ?_ _ | refine blk_drew ?_ | refine blk_alloc ?_ _)); exact BK138.out) hb)
                have n4_ := am_ (below_step (by repeat (first | (with_reducible first | exact HB.out | apply below_alloc | apply pw_below_drewN | apply below_drew1 | refine below_set ?_ GE138.out) | exact HB.out)) hb)
                clear HO_8
                clear HO_9
                clear HO_12
                clear BK138
                clear HB
                have HO_8 := n0_
                have HO_9 := n1_
                have HO_12 := n2_
                have BK138 := n3_
                have HB := n4_
                clear n0_ n1_ n2_ n3_ n4_
                (try clear hb)
                (try clear hb2)
                (try clear hk)
                (try clear hi)
                refine hK.out _ _ ⟨(blk_cell BK138.out 0).trans rfl, (blk_cell BK138.out 1).trans rfl, HS2_, HS3_, HS4_, HS5_⟩ (fun hHeld => ?_)
                clear hK K
                refine norm_ (a' := ?_) ?_ ?_
                rotate_left
                ·
                 show Act.put _ (some 79) _ = _
                 exact ap_
                refine one_ (i := 17) (N := some 85) #[true, true, true, true, true, true, true, true, true, true, true, true, true, true, true, true, true, true, false, false, false, false] rfl rfl (one_of HT_.out (by kernel_rfl)) (by decide) (fun K hK => ?_)
                refine goes_ Try.func113 (by kernel_rfl) rfl #[.agg #[.int .i64 ((rd_T34 t125 x59_2).f0), .int .i64 ((rd_T34 t125 x59_2).f1)], .agg #[.int .i64 t136, .int .i64 t137]] (by rfl) rfl rfl qz2_ ?_
                with_reducible refine (impl_Ext_minus.calls ((rd_T34 t125 x59_2).f0) ((rd_T34 t125 x59_2).f1) t136 t137 t143 t144 _ A49.out).mono ?_
                rintro e w64 ⟨rfl, hb⟩
                have HS2_ := (hb.cell (World.block_lt_of_cell? _ _ (hHeld.2.2.1))).trans (hHeld.2.2.1)
                have HS3_ := (hb.cell (World.block_lt_of_cell? _ _ (hHeld.2.2.2.1))).trans (hHeld.2.2.2.1)
                have HS4_ := (hb.cell (World.block_lt_of_cell? _ _ (hHeld.2.2.2.2.1))).trans (hHeld.2.2.2.2.1)
                have HS5_ := (hb.cell (World.block_lt_of_cell? _ _ (hHeld.2.2.2.2.2))).trans (hHeld.2.2.2.2.2)
                refine ⟨_, rfl, ?_⟩
                have n0_ := am_ (Kd.R_below qz32_ hb)
                have n1_ := am_ (Kd.R_below qz22_ hb)
                have n2_ := am_ (Kd.R_below (by (with_reducible repeat (first | apply Kd.R_alloc | apply Kd.R_drewN | apply Kd.R_drew)); exact HO_12.out) hb)
                have n3_ := am_ (blk_below (g := gb138) (o := .cells #[.int .i64 t136, .int .i64 t137] 34 (0, 0)) (by (with_reducible repeat (first | refine blk_drewN ?_ _ | refine blk_drew ?_ | refine blk_alloc ?_ _)); exact BK138.out) hb)
                have n4_ := am_ (below_step (by repeat (first | (with_reducible first | exact HB.out | apply below_alloc | apply pw_below_drewN | apply below_drew1 | refine below_set ?_ GE138.out) | exact HB.out)) hb)
                clear HO_8
                clear HO_9
                clear HO_12
                clear BK138
                clear HB
                have HO_8 := n0_
                have HO_9 := n1_
                have HO_12 := n2_
                have BK138 := n3_
                have HB := n4_
                clear n0_ n1_ n2_ n3_ n4_
                (try clear hb)
                (try clear hb2)
                (try clear hk)
                (try clear hi)
                have p51 : 0 ≤ (x59_2 : Int) := of_decide_eq_true qz6_
                have q51 : (x59_2 : Int) < ((x12_2.length : Int) : Int) := of_decide_eq_true qz6_
                obtain ⟨go51, co51, eo51, gb51, gl51, cl51, HG51⟩ := Kd.R_form HO_12.out (by omega)
                (first | cases eo51 | (injection eo51 with ea_ en_ ec_; (first | subst ea_ | (injection ea_ with ea_; subst ea_)); subst ec_; clear en_))
                have GB51 := am_ gb51
                have GG51 := am_ HG51
                clear gb51 gl51 HG51
                obtain ⟨ce51, hcl51, hM51, hcc51, hfr51⟩ := Kd.R_elem HO_12.out z34 (x59_2 : Int) p51 q51
                obtain rfl := k34_openM hM51
                have hx51_0 : World.cell? _ ⟨go51, (x59_2 : Int).toNat * 2, none⟩ = some (.int .i64 ((rd_T34 x12_2 x59_2).f0)) := hcc51 0 _ rfl
                have hx51_1 : World.cell? _ ⟨go51, (x59_2 : Int).toNat * 2 + 1, none⟩ = some (.int .i64 ((rd_T34 x12_2 x59_2).f1)) := hcc51 1 _ rfl
                have hf51_0 : World.frozen? _ ⟨go51, (x59_2 : Int).toNat * 2, none⟩ = false := hfr51 0
                have hf51_1 : World.frozen? _ ⟨go51, (x59_2 : Int).toNat * 2 + 1, none⟩ = false := hfr51 1
                (try clear hcl51); (try clear hcc51); (try clear hfr51); (try clear hM51)
                replace p51 := eq_true p51
                replace q51 := eq_true q51
                obtain ⟨ce65, hcl65, hM65, hcc65, hfr65⟩ := Kd.R_elem HO_12.out z34 (x59_2 : Int) (of_decide_eq_true qz6_) (by have h_ : (x59_2 : Int) < ((x12_2.length : Int) : Int) := of_decide_eq_true qz6_; first | exact h_ | (have e_ := (Kd.R_reads' HO_12.out).1; omega) | simpa using h_)
                obtain rfl := k34_openM hM65
                have HP65 := (Kd.R_seg HO_12.out (x59_2 : Int) (of_decide_eq_true qz6_) (by have h_ : (x59_2 : Int) < ((x12_2.length : Int) : Int) := of_decide_eq_true qz6_; first | exact h_ | (have e_ := (Kd.R_reads' HO_12.out).1; omega) | simpa using h_) (seg := [.int .i64 t140, .int .i64 t141]) (j := 0) hcl65 hcc65 (show 2 ≤ 2 from by decide) (x' := (⟨t140, t141⟩ : S34)) (k34_mkM _ _ _ (⟨t140, t141⟩ : S34) ) (fun _ hk => hk)).1
                rw [← Ny145.out] at HP65
                have HQ65 := am_ HP65
                (try clear hcl65); (try clear hcc65); (try clear hfr65); (try clear hM65); (try clear HP65)
                have p55 : 0 ≤ ((ji52) : Int) := of_decide_eq_true qz6_
                have q55 : ((ji52) : Int) < ((x12_2.length : Int) : Int) := of_decide_eq_true qz6_
                obtain ⟨ce55, hcl55, hM55, hcc55, hfr55⟩ := Kd.R_elem HQ65.out z34 ((ji52) : Int) p55 q55
                obtain rfl := k34_openM hM55
                have hx55_0 : World.cell? _ ⟨go51, ((ji52) : Int).toNat * 2, none⟩ = some (.int .i64 ((rd_T34 y145 (ji52)).f0)) := hcc55 0 _ rfl
                have hx55_1 : World.cell? _ ⟨go51, ((ji52) : Int).toNat * 2 + 1, none⟩ = some (.int .i64 ((rd_T34 y145 (ji52)).f1)) := hcc55 1 _ rfl
                have hf55_0 : World.frozen? _ ⟨go51, ((ji52) : Int).toNat * 2, none⟩ = false := hfr55 0
                have hf55_1 : World.frozen? _ ⟨go51, ((ji52) : Int).toNat * 2 + 1, none⟩ = false := hfr55 1
                (try clear hcl55); (try clear hcc55); (try clear hfr55); (try clear hM55)
                replace p55 := eq_true p55
                replace q55 := eq_true q55
                obtain ⟨ce66, hcl66, hM66, hcc66, hfr66⟩ := Kd.R_elem HQ65.out z34 ((ji52) : Int) (of_decide_eq_true qz6_) (by have h_ : ((ji52) : Int) < ((x12_2.length : Int) : Int) := of_decide_eq_true qz6_; first | exact h_ | (have e_ := (Kd.R_reads' HO_12.out).1; omega) | simpa using h_)
                obtain rfl := k34_openM hM66
                have HP66 := (Kd.R_seg HQ65.out ((ji52) : Int) (of_decide_eq_true qz6_) (by have h_ : ((ji52) : Int) < ((x12_2.length : Int) : Int) := of_decide_eq_true qz6_; first | exact h_ | (have e_ := (Kd.R_reads' HO_12.out).1; omega) | simpa using h_) (seg := [.int .i64 t143, .int .i64 t144]) (j := 0) hcl66 hcc66 (show 2 ≤ 2 from by decide) (x' := (⟨t143, t144⟩ : S34)) (k34_mkM _ _ _ (⟨t143, t144⟩ : S34) ) (fun _ hk => hk)).1
                rw [← Ny146.out] at HP66
                have HQ66 := am_ HP66
                (try clear hcl66); (try clear hcc66); (try clear hfr66); (try clear hM66); (try clear HP66)
                refine hK.out _ _ ⟨(blk_cell BK138.out 0).trans rfl, (blk_cell BK138.out 1).trans rfl, HS2_, HS3_, HS4_, HS5_⟩ (fun hHeld => ?_)
                clear hK K
                refine norm_ (a' := ?_) ?_ ?_
                rotate_left
                ·
                 show Act.put _ (some 85) _ = _
                 exact ap_
                refine pure_ (i := 18) (N := some 86) (v := ?_) (a' := ?_) #[true, true, true, true, true, true, true, true, true, true, true, true, true, true, true, true, true, true, true, false, false, false] rfl rfl (any_of HT_.out (by kernel_rfl)) (fun _ _ _ h => h) (Or.inl ⟨(by rfl), ?_⟩) ?_ ?_
                rotate_left
                ·
                 intro w'
                 go_simp
                 with_reducible rfl
                rotate_left
                ·
                 exact ap_
                refine last_ (i := 19) (N := none) #[true, true, true, true, true, true, true, true, true, true, true, true, true, true, true, true, true, true, true, true, false, false] rfl rfl (one_of HT_.out (by kernel_rfl)) (by decide) (fun K hK => ?_)
                refine skip_ (w1 := ?_) (by rfl) rfl ?_ ?_
                rotate_left
                ·
                 go_simp
                 rfl
                refine hK.out _ _ ?_
                clear hK K
                refine pure_ (i := 20) (N := some 87) (v := ?_) (a' := ?_) #[true, true, true, true, true, true, true, true, true, true, true, true, true, true, true, true, true, true, true, true, true, false] rfl rfl (any_of HT_.out (by kernel_rfl)) (fun _ _ _ h => h) (Or.inl ⟨(by rfl), ?_⟩) ?_ ?_
                rotate_left
                ·
                 intro w'
                 go_simp
                 with_reducible rfl
                rotate_left
                ·
                 exact ap_
                have hw55_0 := (World.cell?_setCells_out go51 _ _ w64 ⟨go51, ji52.toNat * 2, none⟩ (fun _ _ => Or.inr (by show x59_2.toNat * 2 + 0 + 2 ≤ ji52.toNat * 2; omega))).symm.trans hx55_0
                have hv55_0 : w64.frozen? ⟨go51, ji52.toNat * 2, none⟩ = false := by have h_ := hf55_0; simp only [World.setCells, World.frozen?_setCell] at h_; exact h_
                have hw55_1 := (World.cell?_setCells_out go51 _ _ w64 ⟨go51, ji52.toNat * 2 + 1, none⟩ (fun _ _ => Or.inr (by show x59_2.toNat * 2 + 0 + 2 ≤ ji52.toNat * 2 + 1; omega))).symm.trans hx55_1
                have hv55_1 : w64.frozen? ⟨go51, ji52.toNat * 2 + 1, none⟩ = false := by have h_ := hf55_1; simp only [World.setCells, World.frozen?_setCell] at h_; exact h_
                clear hx55_0 hx55_1 hf55_0 hf55_1
                have hap0_ : ¬ (x59_2.toNat = ji52.toNat) := by omega
                have haq0_ : ¬ (ji52.toNat = x59_2.toNat) := by omega
                have hap1_ : ¬ (x59_2.toNat * 2 = ji52.toNat * 2) := by omega
                have haq1_ : ¬ (ji52.toNat * 2 = x59_2.toNat * 2) := by omega
                have hap2_ : ¬ (x59_2.toNat * 2 + 1 = ji52.toNat * 2) := by omega
                have haq2_ : ¬ (ji52.toNat * 2 + 1 = x59_2.toNat * 2) := by omega
                have hap3_ : ¬ (x59_2.toNat * 2 = ji52.toNat * 2 + 1) := by omega
                have haq3_ : ¬ (ji52.toNat * 2 = x59_2.toNat * 2 + 1) := by omega
                have hap4_ : ¬ (x59_2.toNat * 2 + 1 = ji52.toNat * 2 + 1) := by omega
                have haq4_ : ¬ (ji52.toNat * 2 + 1 = x59_2.toNat * 2 + 1) := by omega
                refine last_ (i := 21) (N := none) #[true, true, true, true, true, true, true, true, true, true, true, true, true, true, true, true, true, true, true, true, true, true] rfl rfl (one_of HT_.out (by kernel_rfl)) (by decide) (fun K hK => ?_)
                refine skip_ (w1 := ?_) (by rfl) rfl ?_ ?_
                rotate_left
                ·
                 go_simp
                 rfl
                refine hK.out _ _ ?_
                clear hK K
                refine done_ (done_of HT_.out (by kernel_rfl)) ?_
                try go_wp2_with (first | ((with_reducible refine gate_callee (f := 166) rfl ?_); refine goesL_ (some 90) rfl rfl Try.func166 (by kernel_rfl) rfl #[.int .i64 x11_2, .int .i64 a1] rfl qz2_ ?_; (with_reducible refine (impl_mul.calls x11_2 a1 t147 _ A56.out).mono ?_); rintro e w' ⟨rfl, ⟨nd, rfl⟩⟩; refine ⟨_, rfl, ?_⟩))
                go_roundg k2
                case measure => have := HK1.out; have := HK2.out; omega
                case rel => exact ⟨(t147), (y146), (wrap64 (x59_2 + 1)), qz0_, qz0_, H', ⟨(by have := HK1.out; have := HK2.out; omega)⟩, ⟨by (with_reducible repeat (first | apply Kd.R_alloc | apply Kd.R_drewN | apply Kd.R_drew)); exact Kd.R_mono (Kd.R_far (p := ⟨go51, ((ji52) : Int).toNat * 2 + 1, none⟩) (Kd.R_far (p := ⟨go51, ((ji52) : Int).toNat * 2, none⟩) (Kd.R_far (p := ⟨go51, (x59_2 : Int).toNat * 2 + 1, none⟩) (Kd.R_far (p := ⟨go51, (x59_2 : Int).toNat * 2, none⟩) (Kd.R_mono HO_8.out (fun k_ hk => (⟨hk, fun e_ => hk.2.1 (by rw [e_]; rfl)⟩ : _ ∧ k_ ≠ go51))) (fun _ hk => hk.2) (.int .i64 t140)) (fun _ hk => hk.2) (.int .i64 t141)) (fun _ hk => hk.2) (.int .i64 t143)) (fun _ hk => hk.2) (.int .i64 t144)) (fun _ hk => ⟨hk.1.1, hk.1.2.1⟩)⟩, ⟨by (with_reducible repeat (first | apply Kd.R_alloc | apply Kd.R_drewN | apply Kd.R_drew)); exact Kd.R_mono (Kd.R_far (p := ⟨go51, ((ji52) : Int).toNat * 2 + 1, none⟩) (Kd.R_far (p := ⟨go51, ((ji52) : Int).toNat * 2, none⟩) (Kd.R_far (p := ⟨go51, (x59_2 : Int).toNat * 2 + 1, none⟩) (Kd.R_far (p := ⟨go51, (x59_2 : Int).toNat * 2, none⟩) (Kd.R_mono HO_9.out (fun k_ hk => (⟨hk, fun e_ => hk.2.1 (by rw [e_]; rfl)⟩ : _ ∧ k_ ≠ go51))) (fun _ hk => hk.2) (.int .i64 t140)) (fun _ hk => hk.2) (.int .i64 t141)) (fun _ hk => hk.2) (.int .i64 t143)) (fun _ hk => hk.2) (.int .i64 t144)) (fun _ hk => ⟨hk.1.1, hk.1.2.1⟩)⟩, ⟨by (with_reducible repeat (first | apply Kd.R_alloc | apply Kd.R_drewN | apply Kd.R_drew)); exact Kd.R_mono HQ66.out (fun _ hk => ⟨hk.1, hk.2.1⟩)⟩, ⟨(by repeat (first | (with_reducible first | exact HB.out | apply below_alloc | apply pw_below_drewN | apply below_drew1 | refine below_set ?_ GB51.out | refine below_set ?_ GB51.out | refine below_set ?_ GB51.out | refine below_set ?_ GB51.out | refine below_set ?_ GE138.out) | exact HB.out))⟩⟩
               ·
                rw [if_neg c54] at H
                exact absurd H (by simp)
              ·
               rw [if_neg c53] at H
               exact absurd H (by simp)
             ·
              rw [if_neg c50] at H
              exact absurd H (by simp)
            ·
             rw [if_neg c47] at H
             exact absurd H (by simp)
           ·
            rw [if_neg c45] at H
            exact absurd H (by simp)
          ·
           rw [if_neg c44] at H
           exact absurd H (by simp)
         ·
          rw [if_neg c43] at H
          have c43b0 : decide (x59_2 < (t125.length : Int)) = false := decide_eq_false c43
          clear c43
          obtain rfl := Option.some.inj H
          go_wp2
          go_ret
          exact ⟨_, (by first | rfl | (simp [errW_none, errW_some] <;> rfl) | (simp only [← hji33]; first | rfl | (simp [errW_none, errW_some] <;> rfl)) | (simp [*, errW_none, errW_some] <;> rfl)), (by (with_reducible repeat (first | apply Kd.R_alloc | apply Kd.R_drewN | apply Kd.R_drew)); exact Kd.R_mono HO_12.out (fun _ hk => trivial)), qz3_⟩
      ·
       rw [if_neg c35] at H
       exact absurd H (by simp)
     ·
      rw [if_neg c34] at H
      exact absurd H (by simp)

end Go.Proofs.Ytgookagndlfehaa.PT
end
