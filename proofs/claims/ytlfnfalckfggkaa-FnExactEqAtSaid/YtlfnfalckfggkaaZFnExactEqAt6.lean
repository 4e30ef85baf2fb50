/- Part 6 of the proof of FnExactEqAt: what functions compute, shown step by step, and what that says (the claim's last text states the law). -/
import Derived.Test.YtlfnfalckfggkaaProg
import Derived.Test.YtlfnfalckfggkaaWMore
import Derived.Test.YtlfnfalckfggkaaWWords
import Derived.Test.YtlfnfalckfggkaaWLast
import Derived.Test.YtlfnfalckfggkaaWTab
import Derived.Test.YtlfnfalckfggkaaWFour
import Derived.Test.YtlfnfalckfggkaaWQPut
import Derived.Test.YtlfnfalckfggkaaWApart
import Derived.Test.YtlfnfalckfggkaaWArr
import Derived.Test.YtlfnfalckfggkaaWZeros
import Derived.Test.YtlfnfalckfggkaaWFoot
import Derived.Test.YtlfnfalckfggkaaWKept
import Derived.Test.YtlfnfalckfggkaaWShare
import Derived.Test.YtlfnfalckfggkaaWN
import Derived.Test.YtlfnfalckfggkaaWFootNe
import Derived.Test.YtlfnfalckfggkaaWAt
import Derived.Test.YtlfnfalckfggkaaWEqStruct
import Derived.Test.YtlfnfalckfggkaaWRepsOne
import Derived.Test.YtlfnfalckfggkaaWInv
import Derived.Test.YtlfnfalckfggkaaWInvWords
import Derived.Test.YtlfnfalckfggkaaWGuard
import Derived.Test.YtlfnfalckfggkaaWNEv
import Derived.Test.YtlfnfalckfggkaaRows
import Derived.JoinedOf
import Derived.WalkKit
import Derived.ProofKit
import Derived.Below
import Derived.Deep.Draws
import Derived.Deep.AppendLies
import Derived.Maps.AppendAt
import Derived.OwnWalk
import Derived.Laws.BytesArg
import Derived.Laws.MakeOwn
import Derived.Laws.OwnMore
import Derived.Deep.OwnRows
import Derived.Tactics
import Derived.Lib.ConvBytes
import Derived.Laws.Slices
import Derived.KernelRfl
import Derived.RowKit3
import Derived.Deep.LoopGhost
import Derived.Deep.QuietTactic
import Derived.BigQuiet
import Derived.WideLaws
import Derived.Deep.DeepCutAuto
import Derived.Deep.CutBlock
import Derived.Deep.RegionHeld3
import Derived.Laws.Rows
import Derived.Lib.AppendStr
import Derived.ArgAppend
import Derived.Laws.IdiomCopy
import Derived.OrdersHeld
import Derived.Laws.BitsLemmas
import Derived.RowKit
import Derived.OpenShut
import Derived.ShutString
import Derived.ChangeOld
import Derived.SizedLaws
import Derived.Deep.Slices
import Derived.ChangeArms
import Derived.Test.YtlfnfalckfggkaaZFnExactEqAt5
section
namespace Go.Proofs.Ytlfnfalckfggkaa.PT
open Go.RowKit Go.Proofs.YtlfnfalckfggkaaW.PrintWords Go.Proofs.YtlfnfalckfggkaaW.PrintLast Go.Proofs.YtlfnfalckfggkaaW.PrintMore
attribute [local go_sem] max2_int min2_int max_two min_two max_three min_three max_four min_four   -- for this text's walks alone
set_option linter.unusedVariables false
set_option linter.unusedSimpArgs false

/-! ### impl_eqTable: function 127 -/
mutual
def impl_eqTable.l0 : Nat → List (S42) → List (S42) → Int → Int → Option ((List (S42)))
  | 0, _, _, _, _ => none
  | k + 1, x3, x12, x13, x14 => if x14 < x13 then (if 0 ≤ x14 then (if x14 < (x12.length : Int) then (impl_eqTable.l1 k (([] : List (S42))) (([] : List (S42))) x12 x13 x14 x3 (x3.length : Int) 0 ((rd_T42 x12 x14).f0) ((rd_T42 x12 x14).f1)) else (none)) else (none)) else (some x3)
def impl_eqTable.l1 : Nat → List (S42) → List (S42) → List (S42) → Int → Int → List (S42) → Int → Int → Int → Int → Option ((List (S42)))
  | 0, _, _, _, _, _, _, _, _, _, _ => none
  | k + 1, x6, x7, x12, x13, x14, x20, x21, x22, x108000, x108001 => if x22 < x21 then (if 0 ≤ x22 then (if x22 < (x20.length : Int) then ((impl_one.f).bind fun bt119 => ((impl_Ext_minus.f bt119.1 bt119.2 x108000 x108001).bind fun bt121 => ((impl_Ext_times.f ((rd_T42 x20 x22).f0) ((rd_T42 x20 x22).f1) bt121.1 bt121.2).bind fun bt123 => (if x6.length < 8796093022208 then ((impl_Ext_times.f ((rd_T42 x20 x22).f0) ((rd_T42 x20 x22).f1) x108000 x108001).bind fun bt128 => (if x7.length < 8796093022208 then (impl_eqTable.l1 k (x6 ++ [(⟨bt123.1, bt123.2⟩ : S42)]) (x7 ++ [(⟨bt128.1, bt128.2⟩ : S42)]) x12 x13 x14 x20 x21 (wrap64 (x22 + 1)) x108000 x108001) else (none))) else (none))))) else (none)) else (none)) else (if x6.length + x7.length < 8796093022208 then (impl_eqTable.l0 k (x6 ++ x7) x12 x13 (wrap64 (x14 + 1))) else (none))
end
def impl_eqTable.f (k : Nat) (l0 : List (S42)) : Option ((List (S42))) := (impl_one.f).bind fun bt101 => (impl_eqTable.l0 k (([(⟨bt101.1, bt101.2⟩ : S42)] : List (S42))) l0 (l0.length : Int) 0)
theorem impl_eqTable.mono_l : ∀ k, (∀ y0 y1 y2 y3, LeO (impl_eqTable.l0 k y0 y1 y2 y3) (impl_eqTable.l0 (k + 1) y0 y1 y2 y3)) ∧ (∀ y0 y1 y2 y3 y4 y5 y6 y7 y8 y9, LeO (impl_eqTable.l1 k y0 y1 y2 y3 y4 y5 y6 y7 y8 y9) (impl_eqTable.l1 (k + 1) y0 y1 y2 y3 y4 y5 y6 y7 y8 y9))
  | 0 => ⟨fun _ _ _ _ r h => by simp [impl_eqTable.l0] at h, fun _ _ _ _ _ _ _ _ _ _ r h => by simp [impl_eqTable.l1] at h⟩
  | k + 1 => by
    obtain ⟨ih0, ih1⟩ := impl_eqTable.mono_l k
    refine ⟨?_, ?_⟩
    · intro y0 y1 y2 y3
      unfold impl_eqTable.l0
      repeat' first
      | (with_reducible exact ih0 _ _ _ _)
      | (with_reducible exact ih1 _ _ _ _ _ _ _ _ _ _)
      | (with_reducible exact LeO.refl _)
      | (with_reducible exact LeO.none _)
      | (with_reducible refine LeO.ite ?_ ?_)
      | (with_reducible refine LeO.bind ?_ (fun _ => ?_))
      | exact ih0 _ _ _ _
      | exact ih1 _ _ _ _ _ _ _ _ _ _
      | exact LeO.none _
      | refine LeO.ite ?_ ?_
      | refine LeO.bind ?_ (fun _ => ?_)
    · intro y0 y1 y2 y3 y4 y5 y6 y7 y8 y9
      unfold impl_eqTable.l1
      repeat' first
      | (with_reducible exact ih0 _ _ _ _)
      | (with_reducible exact ih1 _ _ _ _ _ _ _ _ _ _)
      | (with_reducible exact LeO.refl _)
      | (with_reducible exact LeO.none _)
      | (with_reducible refine LeO.ite ?_ ?_)
      | (with_reducible refine LeO.bind ?_ (fun _ => ?_))
      | exact ih0 _ _ _ _
      | exact ih1 _ _ _ _ _ _ _ _ _ _
      | exact LeO.none _
      | refine LeO.ite ?_ ?_
      | refine LeO.bind ?_ (fun _ => ?_)
theorem impl_eqTable.mono : ∀ a0 k, LeO (impl_eqTable.f k a0) (impl_eqTable.f (k + 1) a0) := by
  intro a0 k
  obtain ⟨ih0, ih1⟩ := impl_eqTable.mono_l k
  unfold impl_eqTable.f
  repeat' first
      | (with_reducible exact ih0 _ _ _ _)
      | (with_reducible exact ih1 _ _ _ _ _ _ _ _ _ _)
      | (with_reducible exact LeO.refl _)
      | (with_reducible exact LeO.none _)
      | (with_reducible refine LeO.ite ?_ ?_)
      | (with_reducible refine LeO.bind ?_ (fun _ => ?_))
      | exact ih0 _ _ _ _
      | exact ih1 _ _ _ _ _ _ _ _ _ _
      | exact LeO.none _
      | refine LeO.ite ?_ ?_
      | refine LeO.bind ?_ (fun _ => ?_)
def impl_eqTable.T9 : Bool × List (List Nat × List Nat) := (true, [([], []), ([], []), ([], []), ([], []), ([2, 3, 2], [2, 3]), ([1, 4, 4], [1, 4]), ([5], [5]), ([0, 6, 5], [0, 6]), ([], []), ([], []), ([], []), ([9, 10, 7], [9, 10]), ([11], [11]), ([8, 12, 11], [8, 12]), ([7, 13, 0, 1, 2, 3, 4, 5, 6, 7], [0, 7]), ([13, 14, 0, 1, 2, 3, 4, 5, 6, 7, 8, 9, 10, 11, 12, 13, 14], [8, 13])])
def impl_eqTable.B9 : List Nat := [0, 0, 0, 0, 12, 30, 62, 127, 0, 0, 0, 1791, 3839, 8191, 16383, 32767]
theorem impl_eqTable.tab9 : rtab .any (opsOf Try.f127 9) = impl_eqTable.T9 := by kernel_rfl
theorem impl_eqTable.bits9 : waitsOk impl_eqTable.T9.2 impl_eqTable.B9 = true := by kernel_rfl
set_option maxHeartbeats 8000000 in
set_option maxRecDepth 100000 in
theorem impl_eqTable.calls (k : Nat) (A0 : Option Addr) (c0 : Nat) (l0 : List (S42)) (r : List (S42)) (w : World) (hr0 : Kd.C k42 w A0 l0.length l0) (hc0 : l0.length ≤ c0) (h : impl_eqTable.f k l0 = some r) :
    Calls Try.prog 127 #[.slice A0 l0.length c0] w fun e w' => ∃ v0_ : Value, e = .returned (v0_) ∧ Kd.R k42 42 w' w.heap.size (fun _ => True) v0_ r ∧ Below w.heap.size w w' := by
  have hu42 := Try.underlying42
  have HR0 := Aside0.mk hr0
  have HC0 := Aside0.mk hc0
  clear hr0 hc0
  have HB := Aside0.mk (Below.refl w.heap.size w)
  have H : ((impl_one.f).bind fun bt101 => (impl_eqTable.l0 k (([(⟨bt101.1, bt101.2⟩ : S42)] : List (S42))) l0 (l0.length : Int) 0)) = some r := h
  clear h
  replace H := Option.bind_eq_some_iff.mp H
  obtain ⟨⟨t101, t102⟩, A20, H⟩ := H
  replace H : (impl_eqTable.l0 k (([(⟨t101, t102⟩ : S42)] : List (S42))) l0 (l0.length : Int) 0) = some r := H
  have A2 := Aside0.mk A20
  clear A20
  obtain ⟨y103, hy103⟩ : ∃ y_ : List (S42), y_ = (([(⟨t101, t102⟩ : S42)] : List (S42))) := ⟨_, rfl⟩
  replace H : (impl_eqTable.l0 k y103 l0 (l0.length : Int) 0) = some r := by first | (rw [hy103]; with_reducible exact H) | (have H2_ := (Option.bind_some _ _).symm.trans H; rw [hy103]; with_reducible exact H2_) | (have H2_ := (Option.bind_some _ _).symm.trans H; with_reducible exact H2_) | with_reducible exact H | (rw [hy103]; exact H) | exact H
  have Ny103 := Aside0.mk hy103
  clear hy103
  have H' := Aside0.mk H
  clear H
  go_enter Try.func127, Try.ntmps127
  go_wp2_with (first | ((with_reducible refine gate_callee (f := 176) rfl ?_); refine goesL_ (some 10) rfl rfl Try.func176 (by kernel_rfl) rfl #[] rfl (by (try simp only [List.map_toArray, List.map_cons, List.map_nil]); first | done | rfl | (simp only [List.length_drop, List.length_take]; rfl)) ?_; (with_reducible refine (impl_one.calls  t101 t102 _ A2.out).mono ?_); rintro e w3 ⟨rfl, hb⟩; refine ⟨_, rfl, ?_⟩; have n0_ := Aside0.mk (below_step (by repeat (first | (with_reducible first | exact HB.out | apply below_alloc | apply pw_below_drewN | apply below_drew1) | exact HB.out)) hb); clear HB; have HB := n0_; clear n0_; (try clear hb); (try clear hb2); (try clear hk); (try clear hi)) | ((with_reducible refine gate_dst (N := 11) rfl ?_); refine Kd.R_lit k42 _ 42 ?hg (N := 11) ?hd (xs := ([(⟨t101, t102⟩ : S42)] : List (S42))) (inner := [.int .i64 t101, .int .i64 t102]) (ok := fun _ => True) (okp := fun _ => True) ?hr ?hp (fun _ hk => hk) trivial (Below.refl _ _) (Nat.le_refl _) (by simp) ?_; (case hd => rfl); (case hg => rfl); (case hr => first | (go_simp; done) | (go_simp; rfl)); (case hp => exact (Reps.c2 (show Kd.M k42 _ _ _ (⟨t101, t102⟩ : S42) [.int .i64 t101, .int .i64 t102] from (k42_mkM _ _ _ (⟨t101, t102⟩ : S42) )) (Reps.none _ _))); intro v104 w4 ho5 hb hg_ hnew_; clear hg_ hnew_; (first | rw [← Ny103.out] at ho5 | (simp only [Int.reduceToNat] at ho5; rw [← Ny103.out] at ho5)); have n0_ := Aside0.mk (Kd.R_lower ho5 (below_size (by repeat (first | (with_reducible first | exact HB.out | apply below_alloc | apply pw_below_drewN | apply below_drew1) | exact HB.out)))); have n1_ := Aside0.mk (below_step (by repeat (first | (with_reducible first | exact HB.out | apply below_alloc | apply pw_below_drewN | apply below_drew1) | exact HB.out)) hb); clear HB; have HO105 := n0_; have HB := n1_; clear n0_ n1_; clear hb ho5))
  go_loopg [3, 14] k (fun kq v3 v14 w' => ∃ (x3_1 : List (S42)) (x14_1 : Int), v14 = .int .i64 x14_1 ∧ Aside0 (impl_eqTable.l0 kq x3_1 l0 (l0.length : Int) x14_1 = some r) ∧ Aside0 (kq ≤ k) ∧ Aside0 (Kd.R k42 42 w' w.heap.size (fun _ => True) v3 x3_1) ∧ Aside0 (Below w.heap.size w w'))
  case atStart => exact ⟨(y103), (0), (by first | rfl | (simp; done) | (simp [*]; done)), H', ⟨Nat.le_refl _⟩, ⟨by (with_reducible repeat (first | apply Kd.R_alloc | apply Kd.R_drewN | apply Kd.R_drew)); exact HO105.out⟩, ⟨by repeat (first | (with_reducible first | exact HB.out | apply below_alloc | apply pw_below_drewN | apply below_drew1) | exact HB.out)⟩⟩
  case round =>
    clear H'
    try clear c1
    try clear c2
    try clear p2
    obtain ⟨x3_1, x14_1, rfl, HA, HK1, HO_3, HB⟩ := hrel
    cases gk with
    | zero => exact absurd HA.out (by simp [impl_eqTable.l0])
    | succ k1 =>
      have H := HA.out
      clear HA
      simp only [impl_eqTable.l0] at H
      by_cases c6 : x14_1 < (l0.length : Int)
      · rw [if_pos c6] at H
        have c6b0 : decide (x14_1 < (l0.length : Int)) = true := decide_eq_true c6
        clear c6
        by_cases c7 : 0 ≤ x14_1
        · rw [if_pos c7] at H
          have c7b0 : decide (0 ≤ x14_1) = true := decide_eq_true c7
          clear c7
          by_cases c8 : x14_1 < (l0.length : Int)
          · rw [if_pos c8] at H
            have c8b0 : decide (x14_1 < (l0.length : Int)) = true := decide_eq_true c8
            clear c8
            obtain ⟨y108, hy108⟩ : ∃ y_ : List (S42), y_ = (([] : List (S42))) := ⟨_, rfl⟩
            replace H : (impl_eqTable.l1 k1 y108 (([] : List (S42))) l0 (l0.length : Int) x14_1 x3_1 (x3_1.length : Int) 0 ((rd_T42 l0 x14_1).f0) ((rd_T42 l0 x14_1).f1)) = some r := by first | (rw [hy108]; with_reducible exact H) | (have H2_ := (Option.bind_some _ _).symm.trans H; rw [hy108]; with_reducible exact H2_) | (have H2_ := (Option.bind_some _ _).symm.trans H; with_reducible exact H2_) | with_reducible exact H | (rw [hy108]; exact H) | exact H
            have Ny108 := Aside0.mk hy108
            clear hy108
            obtain ⟨y111, hy111⟩ : ∃ y_ : List (S42), y_ = (([] : List (S42))) := ⟨_, rfl⟩
            replace H : (impl_eqTable.l1 k1 y108 y111 l0 (l0.length : Int) x14_1 x3_1 (x3_1.length : Int) 0 ((rd_T42 l0 x14_1).f0) ((rd_T42 l0 x14_1).f1)) = some r := by first | (rw [hy111]; with_reducible exact H) | (have H2_ := (Option.bind_some _ _).symm.trans H; rw [hy111]; with_reducible exact H2_) | (have H2_ := (Option.bind_some _ _).symm.trans H; with_reducible exact H2_) | with_reducible exact H | (rw [hy111]; exact H) | exact H
            have Ny111 := Aside0.mk hy111
            clear hy111
            have H' := Aside0.mk H
            clear H
            have p106 : 0 ≤ (x14_1 : Int) := of_decide_eq_true (by first | (with_reducible assumption) | assumption)
            have q106 : x14_1 < (l0.length : Int) := of_decide_eq_true (by first | (with_reducible assumption) | assumption)
            obtain ⟨ad106, e106, hx106_0, hx106_1⟩ := at_T42 HR0.out x14_1 p106 q106
            cases e106
            replace hx106_0 := (HB.out.cell (World.block_lt_of_cell? w _ hx106_0)).trans hx106_0
            replace hx106_1 := (HB.out.cell (World.block_lt_of_cell? w _ hx106_1)).trans hx106_1
            replace p106 := eq_true p106
            replace q106 := eq_true q106
            go_wp2_with (first | ((with_reducible refine gate_dst (N := 5) rfl ?_); refine box_event ?hg (N := 5) ?hd (cs := #[.int .i64 0, .int .i64 0]) (t := 42) ?hr ?_; (case hd => rfl); (case hg => rfl); (case hr => first | (go_simp; done) | (go_simp; rfl)); intro gb107 hg w9 hbox hb; have n0_ := Aside0.mk (Kd.R_below (Kd.R_elderB (by (with_reducible repeat (first | apply Kd.R_alloc | apply Kd.R_drewN | apply Kd.R_drew)); exact HO_3.out) gb107 (Nat.le_of_eq hg.symm)) hb); have n1_ := Aside0.mk (below_step (by repeat (first | (with_reducible first | exact HB.out | apply below_alloc | apply pw_below_drewN | apply below_drew1) | exact HB.out)) hb); have n2_ := Aside0.mk (hbox); have n3_ := Aside0.mk ((by rw [hg]; exact (below_size (by repeat (first | (with_reducible first | exact HB.out | apply below_alloc | apply pw_below_drewN | apply below_drew1) | exact HB.out))) : w.heap.size ≤ gb107)); have n4_ := Aside0.mk ((by rw [hg]; exact (below_size (by repeat (first | (with_reducible first | exact HB.out | apply below_alloc | apply pw_below_drewN | apply below_drew1) | exact HB.out))) : w.heap.size ≤ gb107)); clear HO_3; clear HB; have HO_3 := n0_; have HB := n1_; have BK107 := n2_; have GW107 := n3_; have GE107 := n4_; clear n0_ n1_ n2_ n3_ n4_; clear hb hbox hg; have hcz10_0 : w9.cell? ⟨gb107, 0, none⟩ = some (.int .i64 0) := (blk_cell BK107.out 0).trans rfl; have hcz10_1 : w9.cell? ⟨gb107, 1, none⟩ = some (.int .i64 0) := (blk_cell BK107.out 1).trans rfl; have hfz10_0 := blk_frozen BK107.out 0; have hfz10_1 := blk_frozen BK107.out 1) | ((with_reducible refine gate_dst (N := 18) rfl ?_); refine Kd.R_lit k42 _ 42 ?hg (N := 18) ?hd (xs := ([] : List (S42))) (inner := []) (ok := fun _ => True) (okp := fun _ => True) ?hr ?hp (fun _ hk => hk) trivial (Below.refl _ _) (Nat.le_refl _) (by simp) ?_; (case hd => rfl); (case hg => rfl); (case hr => first | (go_simp; done) | (go_simp; rfl)); (case hp => exact (Reps.none _ _)); intro v109 w11 ho12 hb hg_ hnew_; clear hg_ hnew_; (first | rw [← Ny108.out] at ho12 | (simp only [Int.reduceToNat] at ho12; rw [← Ny108.out] at ho12)); have n0_ := Aside0.mk (Kd.R_elder' (by (with_reducible repeat (first | apply Kd.R_alloc | apply Kd.R_drewN | apply Kd.R_drew)); exact (Kd.R_mono (Kd.R_far (p := ⟨gb107, 1, none⟩) (Kd.R_far (p := ⟨gb107, 0, none⟩) (Kd.R_mono HO_3.out (fun k_ hk => (⟨hk, hk.2⟩ : _ ∧ k_ ≠ gb107))) (fun _ hk => hk.2) (.int .i64 ((rd_T42 l0 x14_1).f0))) (fun _ hk => hk.2) (.int .i64 ((rd_T42 l0 x14_1).f1))) (fun _ h_ => h_.1))) (Kd.R_base ho12) hb); have n1_ := Aside0.mk (Kd.R_lower (Kd.R_newB (Kd.R_new' ho12 (Kd.R_lt (by (with_reducible repeat (first | apply Kd.R_alloc | apply Kd.R_drewN | apply Kd.R_drew)); exact (Kd.R_mono (Kd.R_far (p := ⟨gb107, 1, none⟩) (Kd.R_far (p := ⟨gb107, 0, none⟩) (Kd.R_mono HO_3.out (fun k_ hk => (⟨hk, hk.2⟩ : _ ∧ k_ ≠ gb107))) (fun _ hk => hk.2) (.int .i64 ((rd_T42 l0 x14_1).f0))) (fun _ hk => hk.2) (.int .i64 ((rd_T42 l0 x14_1).f1))) (fun _ h_ => h_.1))))) (g := gb107) (o := .cells #[.int .i64 ((rd_T42 l0 x14_1).f0), .int .i64 ((rd_T42 l0 x14_1).f1)] 42 (0, 0)) (by (with_reducible repeat (first | refine blk_drewN ?_ _ | refine blk_drew ?_ | refine blk_alloc ?_ _)); refine blk_put (cs := #[.int .i64 ((rd_T42 l0 x14_1).f0), .int .i64 0]) ?_ 1 _ rfl; (with_reducible repeat (first | refine blk_drewN ?_ _ | refine blk_drew ?_ | refine blk_alloc ?_ _)); refine blk_put (cs := #[.int .i64 0, .int .i64 0]) ?_ 0 _ rfl; (with_reducible repeat (first | refine blk_drewN ?_ _ | refine blk_drew ?_ | refine blk_alloc ?_ _)); exact BK107.out)) (below_size (by repeat (first | (with_reducible first | exact HB.out | apply below_alloc | apply pw_below_drewN | apply below_drew1 | refine below_set ?_ GE107.out) | exact HB.out)))); have n2_ := Aside0.mk (blk_below (g := gb107) (o := .cells #[.int .i64 ((rd_T42 l0 x14_1).f0), .int .i64 ((rd_T42 l0 x14_1).f1)] 42 (0, 0)) (by (with_reducible repeat (first | refine blk_drewN ?_ _ | refine blk_drew ?_ | refine blk_alloc ?_ _)); refine blk_put (cs := #[.int .i64 ((rd_T42 l0 x14_1).f0), .int .i64 0]) ?_ 1 _ rfl; (with_reducible repeat (first | refine blk_drewN ?_ _ | refine blk_drew ?_ | refine blk_alloc ?_ _)); refine blk_put (cs := #[.int .i64 0, .int .i64 0]) ?_ 0 _ rfl; (with_reducible repeat (first | refine blk_drewN ?_ _ | refine blk_drew ?_ | refine blk_alloc ?_ _)); exact BK107.out) hb); have n3_ := Aside0.mk (below_step (by repeat (first | (with_reducible first | exact HB.out | apply below_alloc | apply pw_below_drewN | apply below_drew1 | refine below_set ?_ GE107.out) | exact HB.out)) hb); clear HO_3; clear BK107; clear HB; have HO_3 := n0_; have HO110 := n1_; have BK107 := n2_; have HB := n3_; clear n0_ n1_ n2_ n3_; clear hb ho12) | ((with_reducible refine gate_dst (N := 19) rfl ?_); refine Kd.R_lit k42 _ 42 ?hg (N := 19) ?hd (xs := ([] : List (S42))) (inner := []) (ok := fun _ => True) (okp := fun _ => True) ?hr ?hp (fun _ hk => hk) trivial (Below.refl _ _) (Nat.le_refl _) (by simp) ?_; (case hd => rfl); (case hg => rfl); (case hr => first | (go_simp; done) | (go_simp; rfl)); (case hp => exact (Reps.none _ _)); intro v112 w13 ho14 hb hg_ hnew_; clear hg_ hnew_; (first | rw [← Ny111.out] at ho14 | (simp only [Int.reduceToNat] at ho14; rw [← Ny111.out] at ho14)); have n0_ := Aside0.mk (Kd.R_elder' (by (with_reducible repeat (first | apply Kd.R_alloc | apply Kd.R_drewN | apply Kd.R_drew)); exact HO_3.out) (Kd.R_base ho14) hb); have n1_ := Aside0.mk (Kd.R_elder' (by (with_reducible repeat (first | apply Kd.R_alloc | apply Kd.R_drewN | apply Kd.R_drew)); exact HO110.out) (Kd.R_base ho14) hb); have n2_ := Aside0.mk (Kd.R_lower (Kd.R_newB (Kd.R_new' (Kd.R_new' ho14 (Kd.R_lt (by (with_reducible repeat (first | apply Kd.R_alloc | apply Kd.R_drewN | apply Kd.R_drew)); exact HO_3.out))) (Kd.R_lt (by (with_reducible repeat (first | apply Kd.R_alloc | apply Kd.R_drewN | apply Kd.R_drew)); exact HO110.out))) (g := gb107) (o := .cells #[.int .i64 ((rd_T42 l0 x14_1).f0), .int .i64 ((rd_T42 l0 x14_1).f1)] 42 (0, 0)) (by (with_reducible repeat (first | refine blk_drewN ?_ _ | refine blk_drew ?_ | refine blk_alloc ?_ _)); exact BK107.out)) (below_size (by repeat (first | (with_reducible first | exact HB.out | apply below_alloc | apply pw_below_drewN | apply below_drew1 | refine below_set ?_ GE107.out) | exact HB.out)))); have n3_ := Aside0.mk (blk_below (g := gb107) (o := .cells #[.int .i64 ((rd_T42 l0 x14_1).f0), .int .i64 ((rd_T42 l0 x14_1).f1)] 42 (0, 0)) (by (with_reducible repeat (first | refine blk_drewN ?_ _ | refine blk_drew ?_ | refine blk_alloc ?_ _)); exact BK107.out) hb); have n4_ := Aside0.mk (below_step (by repeat (first | (with_reducible first | exact HB.out | apply below_alloc | apply pw_below_drewN | apply below_drew1 | refine below_set ?_ GE107.out) | exact HB.out)) hb); clear HO_3; clear HO110; clear BK107; clear HB; have HO_3 := n0_; have HO110 := n1_; have HO113 := n2_; have BK107 := n3_; have HB := n4_; clear n0_ n1_ n2_ n3_ n4_; clear hb ho14; obtain ⟨Ao15, co15, eo15⟩ := Kd.R_slice HO_3.out; subst eo15))
            go_loopg [6, 7, 22] k1 (fun kq v6 v7 v22 w' => ∃ (x6_2 : List (S42)) (x7_2 : List (S42)) (x22_2 : Int), v22 = .int .i64 x22_2 ∧ Aside0 (impl_eqTable.l1 kq x6_2 x7_2 l0 (l0.length : Int) x14_1 x3_1 (x3_1.length : Int) x22_2 ((rd_T42 l0 x14_1).f0) ((rd_T42 l0 x14_1).f1) = some r) ∧ Aside0 (kq ≤ k1) ∧ Aside0 (Kd.R k42 42 w' w.heap.size (fun k_ => some k_ ≠ (v7 : Value).ownBlock ∧ some k_ ≠ ((.slice Ao15 x3_1.length co15) : Value).ownBlock ∧ k_ ≠ gb107) v6 x6_2) ∧ Aside0 (Kd.R k42 42 w' w.heap.size (fun k_ => some k_ ≠ (v6 : Value).ownBlock ∧ some k_ ≠ ((.slice Ao15 x3_1.length co15) : Value).ownBlock ∧ k_ ≠ gb107) v7 x7_2) ∧ Aside0 (Kd.R k42 42 w' w.heap.size (fun k_ => some k_ ≠ (v6 : Value).ownBlock ∧ some k_ ≠ (v7 : Value).ownBlock ∧ k_ ≠ gb107) (.slice Ao15 x3_1.length co15) x3_1) ∧ Aside0 (w'.heap[gb107]? = some (.cells #[.int .i64 ((rd_T42 l0 x14_1).f0), .int .i64 ((rd_T42 l0 x14_1).f1)] 42 (0, 0))) ∧ Aside0 (Below w.heap.size w w'))
            case atStart => exact ⟨(y108), (y111), (0), (by first | rfl | (simp; done) | (simp [*]; done)), H', ⟨Nat.le_refl _⟩, ⟨by (with_reducible repeat (first | apply Kd.R_alloc | apply Kd.R_drewN | apply Kd.R_drew)); exact Kd.R_mono HO110.out (fun _ hk => ⟨hk.2, ⟨hk.1.1.2, hk.1.2⟩⟩)⟩, ⟨by (with_reducible repeat (first | apply Kd.R_alloc | apply Kd.R_drewN | apply Kd.R_drew)); exact Kd.R_mono HO113.out (fun _ hk => ⟨hk.1.2, ⟨hk.1.1.2, hk.2⟩⟩)⟩, ⟨by (with_reducible repeat (first | apply Kd.R_alloc | apply Kd.R_drewN | apply Kd.R_drew)); exact Kd.R_mono HO_3.out (fun _ hk => ⟨hk.1.2, ⟨hk.2, hk.1.1.2⟩⟩)⟩, ⟨by (with_reducible repeat (first | refine blk_drewN ?_ _ | refine blk_drew ?_ | refine blk_alloc ?_ _)); exact BK107.out⟩, ⟨by repeat (first | (with_reducible first | exact HB.out | apply below_alloc | apply pw_below_drewN | apply below_drew1 | refine below_set ?_ GE107.out) | exact HB.out)⟩⟩
            case round =>
              clear H'
              try clear c1
              try clear p1
              try clear q1
              try clear hx1
              try clear c2
              try clear p2
              try clear c6
              try clear c6b0
              try clear c7
              try clear c7b0
              try clear c8
              try clear c8b0
              try clear p10
              try clear q10
              try clear hx10
              try clear c12
              try clear hcz10_0
              try clear hcz10_1
              try clear hfz10_0
              try clear hfz10_1
              try clear hx106_0
              try clear hx106_1
              try clear p106
              try clear p2
              try clear q106
              obtain ⟨x6_2, x7_2, x22_2, rfl, HA, HK2, HO_6, HO_7, HO_20, BK107, HB⟩ := hrel
              cases gk with
              | zero => exact absurd HA.out (by simp [impl_eqTable.l1])
              | succ k2 =>
                have H := HA.out
                clear HA
                simp only [impl_eqTable.l1] at H
                by_cases c16 : x22_2 < (x3_1.length : Int)
                · rw [if_pos c16] at H
                  have c16b0 : decide (x22_2 < (x3_1.length : Int)) = true := decide_eq_true c16
                  clear c16
                  by_cases c17 : 0 ≤ x22_2
                  · rw [if_pos c17] at H
                    have c17b0 : decide (0 ≤ x22_2) = true := decide_eq_true c17
                    clear c17
                    by_cases c18 : x22_2 < (x3_1.length : Int)
                    · rw [if_pos c18] at H
                      have c18b0 : decide (x22_2 < (x3_1.length : Int)) = true := decide_eq_true c18
                      clear c18
                      replace H := Option.bind_eq_some_iff.mp H
                      obtain ⟨⟨t119, t120⟩, A190, H⟩ := H
                      replace H : ((impl_Ext_minus.f t119 t120 ((rd_T42 l0 x14_1).f0) ((rd_T42 l0 x14_1).f1)).bind fun bt121 => ((impl_Ext_times.f ((rd_T42 x3_1 x22_2).f0) ((rd_T42 x3_1 x22_2).f1) bt121.1 bt121.2).bind fun bt123 => (if x6_2.length < 8796093022208 then ((impl_Ext_times.f ((rd_T42 x3_1 x22_2).f0) ((rd_T42 x3_1 x22_2).f1) ((rd_T42 l0 x14_1).f0) ((rd_T42 l0 x14_1).f1)).bind fun bt128 => (if x7_2.length < 8796093022208 then (impl_eqTable.l1 k2 (x6_2 ++ [(⟨bt123.1, bt123.2⟩ : S42)]) (x7_2 ++ [(⟨bt128.1, bt128.2⟩ : S42)]) l0 (l0.length : Int) x14_1 x3_1 (x3_1.length : Int) (wrap64 (x22_2 + 1)) ((rd_T42 l0 x14_1).f0) ((rd_T42 l0 x14_1).f1)) else (none))) else (none)))) = some r := H
                      have A19 := Aside0.mk A190
                      clear A190
                      replace H := Option.bind_eq_some_iff.mp H
                      obtain ⟨⟨t121, t122⟩, A200, H⟩ := H
                      replace H : ((impl_Ext_times.f ((rd_T42 x3_1 x22_2).f0) ((rd_T42 x3_1 x22_2).f1) t121 t122).bind fun bt123 => (if x6_2.length < 8796093022208 then ((impl_Ext_times.f ((rd_T42 x3_1 x22_2).f0) ((rd_T42 x3_1 x22_2).f1) ((rd_T42 l0 x14_1).f0) ((rd_T42 l0 x14_1).f1)).bind fun bt128 => (if x7_2.length < 8796093022208 then (impl_eqTable.l1 k2 (x6_2 ++ [(⟨bt123.1, bt123.2⟩ : S42)]) (x7_2 ++ [(⟨bt128.1, bt128.2⟩ : S42)]) l0 (l0.length : Int) x14_1 x3_1 (x3_1.length : Int) (wrap64 (x22_2 + 1)) ((rd_T42 l0 x14_1).f0) ((rd_T42 l0 x14_1).f1)) else (none))) else (none))) = some r := H
                      have A20 := Aside0.mk A200
                      clear A200
                      replace H := Option.bind_eq_some_iff.mp H
                      obtain ⟨⟨t123, t124⟩, A210, H⟩ := H
                      replace H : (if x6_2.length < 8796093022208 then ((impl_Ext_times.f ((rd_T42 x3_1 x22_2).f0) ((rd_T42 x3_1 x22_2).f1) ((rd_T42 l0 x14_1).f0) ((rd_T42 l0 x14_1).f1)).bind fun bt128 => (if x7_2.length < 8796093022208 then (impl_eqTable.l1 k2 (x6_2 ++ [(⟨t123, t124⟩ : S42)]) (x7_2 ++ [(⟨bt128.1, bt128.2⟩ : S42)]) l0 (l0.length : Int) x14_1 x3_1 (x3_1.length : Int) (wrap64 (x22_2 + 1)) ((rd_T42 l0 x14_1).f0) ((rd_T42 l0 x14_1).f1)) else (none))) else (none)) = some r := H
                      have A21 := Aside0.mk A210
                      clear A210
                      by_cases c22 : x6_2.length < 8796093022208
                      · rw [if_pos c22] at H
                        have LMc22 := Aside0.mk c22
                        clear c22
                        obtain ⟨y125, hy125⟩ : ∃ y_ : List (S42), y_ = (x6_2 ++ [(⟨t123, t124⟩ : S42)]) := ⟨_, rfl⟩
                        replace H : ((impl_Ext_times.f ((rd_T42 x3_1 x22_2).f0) ((rd_T42 x3_1 x22_2).f1) ((rd_T42 l0 x14_1).f0) ((rd_T42 l0 x14_1).f1)).bind fun bt128 => (if x7_2.length < 8796093022208 then (impl_eqTable.l1 k2 y125 (x7_2 ++ [(⟨bt128.1, bt128.2⟩ : S42)]) l0 (l0.length : Int) x14_1 x3_1 (x3_1.length : Int) (wrap64 (x22_2 + 1)) ((rd_T42 l0 x14_1).f0) ((rd_T42 l0 x14_1).f1)) else (none))) = some r := by first | (rw [hy125]; with_reducible exact H) | (have H2_ := (Option.bind_some _ _).symm.trans H; rw [hy125]; with_reducible exact H2_) | (have H2_ := (Option.bind_some _ _).symm.trans H; with_reducible exact H2_) | with_reducible exact H | (rw [hy125]; exact H) | exact H
                        have Ny125 := Aside0.mk hy125
                        clear hy125
                        replace H := Option.bind_eq_some_iff.mp H
                        obtain ⟨⟨t128, t129⟩, A230, H⟩ := H
                        replace H : (if x7_2.length < 8796093022208 then (impl_eqTable.l1 k2 y125 (x7_2 ++ [(⟨t128, t129⟩ : S42)]) l0 (l0.length : Int) x14_1 x3_1 (x3_1.length : Int) (wrap64 (x22_2 + 1)) ((rd_T42 l0 x14_1).f0) ((rd_T42 l0 x14_1).f1)) else (none)) = some r := H
                        have A23 := Aside0.mk A230
                        clear A230
                        by_cases c24 : x7_2.length < 8796093022208
                        · rw [if_pos c24] at H
                          have LMc24 := Aside0.mk c24
                          clear c24
                          obtain ⟨y130, hy130⟩ : ∃ y_ : List (S42), y_ = (x7_2 ++ [(⟨t128, t129⟩ : S42)]) := ⟨_, rfl⟩
                          replace H : (impl_eqTable.l1 k2 y125 y130 l0 (l0.length : Int) x14_1 x3_1 (x3_1.length : Int) (wrap64 (x22_2 + 1)) ((rd_T42 l0 x14_1).f0) ((rd_T42 l0 x14_1).f1)) = some r := by first | (rw [hy130]; with_reducible exact H) | (have H2_ := (Option.bind_some _ _).symm.trans H; rw [hy130]; with_reducible exact H2_) | (have H2_ := (Option.bind_some _ _).symm.trans H; with_reducible exact H2_) | with_reducible exact H | (rw [hy130]; exact H) | exact H
                          have Ny130 := Aside0.mk hy130
                          clear hy130
                          have H' := Aside0.mk H
                          clear H
                          have p117 : 0 ≤ (x22_2 : Int) := of_decide_eq_true (by first | (with_reducible assumption) | assumption)
                          have q117 : x22_2 < (x3_1.length : Int) := of_decide_eq_true (by first | (with_reducible assumption) | assumption)
                          obtain ⟨ad117, e117, hx117_0, hx117_1⟩ := at_T42 (Kd.R_reads' HO_20.out).2.2 x22_2 p117 q117
                          cases e117
                          replace p117 := eq_true p117
                          replace q117 := eq_true q117
                          try go_wp2_with (first | ((with_reducible refine gate_dst (N := 9) rfl ?_); refine box_event ?hg (N := 9) ?hd (cs := #[.int .i64 0, .int .i64 0]) (t := 42) ?hr ?_; (case hd => rfl); (case hg => rfl); (case hr => first | (go_simp; done) | (go_simp; rfl)); intro gb118 hg w25 hbox hb; have n0_ := Aside0.mk (Kd.R_below (Kd.R_elderB (by (with_reducible repeat (first | apply Kd.R_alloc | apply Kd.R_drewN | apply Kd.R_drew)); exact HO_6.out) gb118 (Nat.le_of_eq hg.symm)) hb); have n1_ := Aside0.mk (Kd.R_below (Kd.R_elderB (by (with_reducible repeat (first | apply Kd.R_alloc | apply Kd.R_drewN | apply Kd.R_drew)); exact HO_7.out) gb118 (Nat.le_of_eq hg.symm)) hb); have n2_ := Aside0.mk (Kd.R_below (Kd.R_elderB (by (with_reducible repeat (first | apply Kd.R_alloc | apply Kd.R_drewN | apply Kd.R_drew)); exact HO_20.out) gb118 (Nat.le_of_eq hg.symm)) hb); have n3_ := Aside0.mk (blk_below (g := gb107) (o := .cells #[.int .i64 ((rd_T42 l0 x14_1).f0), .int .i64 ((rd_T42 l0 x14_1).f1)] 42 (0, 0)) (by (with_reducible repeat (first | refine blk_drewN ?_ _ | refine blk_drew ?_ | refine blk_alloc ?_ _)); exact BK107.out) hb); have n4_ := Aside0.mk (below_step (by repeat (first | (with_reducible first | exact HB.out | apply below_alloc | apply pw_below_drewN | apply below_drew1 | refine below_set ?_ GE107.out) | exact HB.out)) hb); have n5_ := Aside0.mk (hbox); have n6_ := Aside0.mk ((by rw [hg]; exact (below_size (by repeat (first | (with_reducible first | exact HB.out | apply below_alloc | apply pw_below_drewN | apply below_drew1 | refine below_set ?_ GE107.out) | exact HB.out))) : w.heap.size ≤ gb118)); have n7_ := Aside0.mk ((by rw [hg]; exact (below_size (by repeat (first | (with_reducible first | exact HB.out | apply below_alloc | apply pw_below_drewN | apply below_drew1 | refine below_set ?_ GE107.out) | exact HB.out))) : w.heap.size ≤ gb118)); have n8_ := Aside0.mk ((by rw [hg]; exact Nat.ne_of_lt (blk_lt (g := gb107) (o := .cells #[.int .i64 ((rd_T42 l0 x14_1).f0), .int .i64 ((rd_T42 l0 x14_1).f1)] 42 (0, 0)) (by (with_reducible repeat (first | refine blk_drewN ?_ _ | refine blk_drew ?_ | refine blk_alloc ?_ _)); exact BK107.out)) : gb107 ≠ gb118)); have n9_ := Aside0.mk ((by rw [hg]; exact Nat.ne_of_gt (blk_lt (g := gb107) (o := .cells #[.int .i64 ((rd_T42 l0 x14_1).f0), .int .i64 ((rd_T42 l0 x14_1).f1)] 42 (0, 0)) (by (with_reducible repeat (first | refine blk_drewN ?_ _ | refine blk_drew ?_ | refine blk_alloc ?_ _)); exact BK107.out)) : gb118 ≠ gb107)); clear HO_6; clear HO_7; clear HO_20; clear BK107; clear HB; have HO_6 := n0_; have HO_7 := n1_; have HO_20 := n2_; have BK107 := n3_; have HB := n4_; have BK118 := n5_; have GW118 := n6_; have GE118 := n7_; have NB107_118 := n8_; have NB118_107 := n9_; clear n0_ n1_ n2_ n3_ n4_ n5_ n6_ n7_ n8_ n9_; clear hb hbox hg; have hnb26 := NB118_107.out; have hnc26 := NB107_118.out; have hcz27_0 : w25.cell? ⟨gb118, 0, none⟩ = some (.int .i64 0) := (blk_cell BK118.out 0).trans rfl; have hcz27_1 : w25.cell? ⟨gb118, 1, none⟩ = some (.int .i64 0) := (blk_cell BK118.out 1).trans rfl; have hfz27_0 := blk_frozen BK118.out 0; have hfz27_1 := blk_frozen BK118.out 1))
                          have n0_ : Aside0 (Kd.R k42 42 ((w25.setCell ⟨gb118, 0, none⟩ (.int .i64 ((rd_T42 x3_1 x22_2).f0))).setCell ⟨gb118, 1, none⟩ (.int .i64 ((rd_T42 x3_1 x22_2).f1))) w.heap.size (fun k_ => some k_ ≠ (u7 : Value).ownBlock ∧ some k_ ≠ (.slice (some ad117) x3_1.length co15 : Value).ownBlock ∧ k_ ≠ gb107 ∧ k_ ≠ gb118) u6 x6_2) := ⟨by (with_reducible repeat (first | apply Kd.R_alloc | apply Kd.R_drewN | apply Kd.R_drew)); exact Kd.R_mono (Kd.R_far (p := ⟨gb118, 1, none⟩) (Kd.R_far (p := ⟨gb118, 0, none⟩) (Kd.R_mono HO_6.out (fun k_ hk => (⟨hk, hk.2⟩ : _ ∧ k_ ≠ gb118))) (fun _ hk => hk.2) (.int .i64 ((rd_T42 x3_1 x22_2).f0))) (fun _ hk => hk.2) (.int .i64 ((rd_T42 x3_1 x22_2).f1))) (fun _ hk => ⟨hk.1.1.1, ⟨hk.1.1.2.1, ⟨hk.1.1.2.2, hk.1.2⟩⟩⟩)⟩
                          have n1_ : Aside0 (Kd.R k42 42 ((w25.setCell ⟨gb118, 0, none⟩ (.int .i64 ((rd_T42 x3_1 x22_2).f0))).setCell ⟨gb118, 1, none⟩ (.int .i64 ((rd_T42 x3_1 x22_2).f1))) w.heap.size (fun k_ => some k_ ≠ (u6 : Value).ownBlock ∧ some k_ ≠ (.slice (some ad117) x3_1.length co15 : Value).ownBlock ∧ k_ ≠ gb107 ∧ k_ ≠ gb118) u7 x7_2) := ⟨by (with_reducible repeat (first | apply Kd.R_alloc | apply Kd.R_drewN | apply Kd.R_drew)); exact Kd.R_mono (Kd.R_far (p := ⟨gb118, 1, none⟩) (Kd.R_far (p := ⟨gb118, 0, none⟩) (Kd.R_mono HO_7.out (fun k_ hk => (⟨hk, hk.2⟩ : _ ∧ k_ ≠ gb118))) (fun _ hk => hk.2) (.int .i64 ((rd_T42 x3_1 x22_2).f0))) (fun _ hk => hk.2) (.int .i64 ((rd_T42 x3_1 x22_2).f1))) (fun _ hk => ⟨hk.1.1.1, ⟨hk.1.1.2.1, ⟨hk.1.1.2.2, hk.1.2⟩⟩⟩)⟩
                          have n2_ : Aside0 (Kd.R k42 42 ((w25.setCell ⟨gb118, 0, none⟩ (.int .i64 ((rd_T42 x3_1 x22_2).f0))).setCell ⟨gb118, 1, none⟩ (.int .i64 ((rd_T42 x3_1 x22_2).f1))) w.heap.size (fun k_ => some k_ ≠ (u6 : Value).ownBlock ∧ some k_ ≠ (u7 : Value).ownBlock ∧ k_ ≠ gb107 ∧ k_ ≠ gb118) (.slice (some ad117) x3_1.length co15) x3_1) := ⟨by (with_reducible repeat (first | apply Kd.R_alloc | apply Kd.R_drewN | apply Kd.R_drew)); exact Kd.R_mono (Kd.R_far (p := ⟨gb118, 1, none⟩) (Kd.R_far (p := ⟨gb118, 0, none⟩) (Kd.R_mono HO_20.out (fun k_ hk => (⟨hk, hk.2⟩ : _ ∧ k_ ≠ gb118))) (fun _ hk => hk.2) (.int .i64 ((rd_T42 x3_1 x22_2).f0))) (fun _ hk => hk.2) (.int .i64 ((rd_T42 x3_1 x22_2).f1))) (fun _ hk => ⟨hk.1.1.1, ⟨hk.1.1.2.1, ⟨hk.1.1.2.2, hk.1.2⟩⟩⟩)⟩
                          have n3_ : Aside0 (((w25.setCell ⟨gb118, 0, none⟩ (.int .i64 ((rd_T42 x3_1 x22_2).f0))).setCell ⟨gb118, 1, none⟩ (.int .i64 ((rd_T42 x3_1 x22_2).f1))).heap[gb107]? = some (.cells #[.int .i64 ((rd_T42 l0 x14_1).f0), .int .i64 ((rd_T42 l0 x14_1).f1)] 42 (0, 0))) := ⟨by (with_reducible repeat (first | refine blk_drewN ?_ _ | refine blk_drew ?_ | refine blk_alloc ?_ _)); refine blk_far ?_ NB107_118.out _; (with_reducible repeat (first | refine blk_drewN ?_ _ | refine blk_drew ?_ | refine blk_alloc ?_ _)); refine blk_far ?_ NB107_118.out _; (with_reducible repeat (first | refine blk_drewN ?_ _ | refine blk_drew ?_ | refine blk_alloc ?_ _)); exact BK107.out⟩
                          have n4_ : Aside0 (((w25.setCell ⟨gb118, 0, none⟩ (.int .i64 ((rd_T42 x3_1 x22_2).f0))).setCell ⟨gb118, 1, none⟩ (.int .i64 ((rd_T42 x3_1 x22_2).f1))).heap[gb118]? = some (.cells #[.int .i64 ((rd_T42 x3_1 x22_2).f0), .int .i64 ((rd_T42 x3_1 x22_2).f1)] 42 (0, 0))) := ⟨by (with_reducible repeat (first | refine blk_drewN ?_ _ | refine blk_drew ?_ | refine blk_alloc ?_ _)); refine blk_put (cs := #[.int .i64 ((rd_T42 x3_1 x22_2).f0), .int .i64 0]) ?_ 1 _ rfl; (with_reducible repeat (first | refine blk_drewN ?_ _ | refine blk_drew ?_ | refine blk_alloc ?_ _)); refine blk_put (cs := #[.int .i64 0, .int .i64 0]) ?_ 0 _ rfl; (with_reducible repeat (first | refine blk_drewN ?_ _ | refine blk_drew ?_ | refine blk_alloc ?_ _)); exact BK118.out⟩
                          have n5_ : Aside0 (Below w.heap.size w ((w25.setCell ⟨gb118, 0, none⟩ (.int .i64 ((rd_T42 x3_1 x22_2).f0))).setCell ⟨gb118, 1, none⟩ (.int .i64 ((rd_T42 x3_1 x22_2).f1)))) := ⟨by repeat (first | (with_reducible first | exact HB.out | apply below_alloc | apply pw_below_drewN | apply below_drew1 | refine below_set ?_ GE107.out | refine below_set ?_ GE118.out) | exact HB.out)⟩
                          (try clear HO_6)
                          (try clear HO_7)
                          (try clear HO_20)
                          (try clear BK107)
                          (try clear BK118)
                          (try clear HB)
                          generalize ((w25.setCell ⟨gb118, 0, none⟩ (.int .i64 ((rd_T42 x3_1 x22_2).f0))).setCell ⟨gb118, 1, none⟩ (.int .i64 ((rd_T42 x3_1 x22_2).f1))) = w28 at n0_ n1_ n2_ n3_ n4_ n5_ ⊢
                          have HO_6 := n0_
                          have HO_7 := n1_
                          have HO_20 := n2_
                          have BK107 := n3_
                          have BK118 := n4_
                          have HB := n5_
                          clear n0_ n1_ n2_ n3_ n4_ n5_
                          have n0_ := Aside0.mk (Kd.R_drew HO_6.out)
                          have n1_ := Aside0.mk (Kd.R_drew HO_7.out)
                          have n2_ := Aside0.mk (Kd.R_drew HO_20.out)
                          have n3_ := Aside0.mk (blk_drew BK107.out)
                          have n4_ := Aside0.mk (blk_drew BK118.out)
                          have n5_ := Aside0.mk (below_drew1 HB.out)
                          clear HO_6
                          clear HO_7
                          clear HO_20
                          clear BK107
                          clear BK118
                          clear HB
                          have HO_6 := n0_
                          have HO_7 := n1_
                          have HO_20 := n2_
                          have BK107 := n3_
                          have BK118 := n4_
                          have HB := n5_
                          clear n0_ n1_ n2_ n3_ n4_ n5_
                          refine start_ (n := 16) (S := fun w' => w'.cell? ⟨gb118, 0, none⟩ = some (.int .i64 ((rd_T42 x3_1 x22_2).f0)) ∧ w'.cell? ⟨gb118, 1, none⟩ = some (.int .i64 ((rd_T42 x3_1 x22_2).f1)) ∧ w'.cell? ⟨gb107, 0, none⟩ = some (.int .i64 ((rd_T42 l0 x14_1).f0)) ∧ w'.cell? ⟨gb107, 1, none⟩ = some (.int .i64 ((rd_T42 l0 x14_1).f1))) (ds := []) #[false, false, false, false, false, false, false, false, false, false, false, false, false, false, false, false] (by kernel_rfl) rfl rfl ⟨(blk_cell BK118.out 0).trans rfl, (blk_cell BK118.out 1).trans rfl, (blk_cell BK107.out 0).trans rfl, (blk_cell BK107.out 1).trans rfl⟩ (fun hHeld => ?_); refine with_tabW impl_eqTable.tab9 impl_eqTable.bits9 (fun HT_ HW_ => ?_)
                          generalize w28.drew = w29 at HO_6 HO_7 HO_20 BK107 BK118 HB hHeld ⊢
                          refine pure_ (i := 0) (N := some 26) (v := ?_) (a' := ?_) #[true, false, false, false, false, false, false, false, false, false, false, false, false, false, false, false] rfl rfl (any_of HT_.out (by kernel_rfl)) (fun _ _ _ h => h) (Or.inl ⟨by rfl, ?_⟩) ?_ ?_
                          rotate_left
                          · intro w'
                            go_simp
                            with_reducible rfl
                          rotate_left
                          · simp only [Act.put, List.setIfInBounds_toArray, List.set_cons_zero, List.set_cons_succ, i64_w, i32_w]
                            rfl
                          refine pure_ (i := 8) (N := some 34) (v := ?_) (a' := ?_) #[true, false, false, false, false, false, false, false, true, false, false, false, false, false, false, false] rfl rfl (any_of HT_.out (by kernel_rfl)) (fun _ _ _ h => h) (Or.inl ⟨by rfl, ?_⟩) ?_ ?_
                          rotate_left
                          · intro w'
                            go_simp
                            with_reducible rfl
                          rotate_left
                          · simp only [Act.put, List.setIfInBounds_toArray, List.set_cons_zero, List.set_cons_succ, i64_w, i32_w]
                            rfl
                          refine take_ (i := 1) (N := some 27) (v := ?_) (a' := ?_) #[true, true, false, false, false, false, false, false, true, false, false, false, false, false, false, false] rfl rfl (take_ofW HT_.out HW_.out (by kernel_rfl)) (fun _ _ _ h => h) (Or.inl ⟨by rfl, ?_⟩) hHeld ?_ ?_
                          rotate_left
                          · rintro w' ⟨s0, s1, s2, s3⟩
                            go_simp
                            with_reducible rfl
                          rotate_left
                          · simp only [Act.put, List.setIfInBounds_toArray, List.set_cons_zero, List.set_cons_succ, i64_w, i32_w]
                            rfl
                          refine take_ (i := 3) (N := some 29) (v := ?_) (a' := ?_) #[true, true, false, true, false, false, false, false, true, false, false, false, false, false, false, false] rfl rfl (take_ofW HT_.out HW_.out (by kernel_rfl)) (fun _ _ _ h => h) (Or.inl ⟨by rfl, ?_⟩) hHeld ?_ ?_
                          rotate_left
                          · rintro w' ⟨s0, s1, s2, s3⟩
                            go_simp
                            with_reducible rfl
                          rotate_left
                          · simp only [Act.put, List.setIfInBounds_toArray, List.set_cons_zero, List.set_cons_succ, i64_w, i32_w]
                            rfl
                          refine take_ (i := 9) (N := some 35) (v := ?_) (a' := ?_) #[true, true, false, true, false, false, false, false, true, true, false, false, false, false, false, false] rfl rfl (take_ofW HT_.out HW_.out (by kernel_rfl)) (fun _ _ _ h => h) (Or.inl ⟨by rfl, ?_⟩) hHeld ?_ ?_
                          rotate_left
                          · rintro w' ⟨s0, s1, s2, s3⟩
                            go_simp
                            with_reducible rfl
                          rotate_left
                          · simp only [Act.put, List.setIfInBounds_toArray, List.set_cons_zero, List.set_cons_succ, i64_w, i32_w]
                            rfl
                          refine take_ (i := 10) (N := some 36) (v := ?_) (a' := ?_) #[true, true, false, true, false, false, false, false, true, true, true, false, false, false, false, false] rfl rfl (take_ofW HT_.out HW_.out (by kernel_rfl)) (fun _ _ _ h => h) (Or.inl ⟨by rfl, ?_⟩) hHeld ?_ ?_
                          rotate_left
                          · rintro w' ⟨s0, s1, s2, s3⟩
                            go_simp
                            with_reducible rfl
                          rotate_left
                          · simp only [Act.put, List.setIfInBounds_toArray, List.set_cons_zero, List.set_cons_succ, i64_w, i32_w]
                            rfl
                          refine one_ (i := 2) (N := some 28) #[true, true, true, true, false, false, false, false, true, true, true, false, false, false, false, false] rfl rfl (one_of HT_.out (by kernel_rfl)) (by decide) (fun K hK => ?_)
                          refine goes_ Try.func176 (by kernel_rfl) rfl #[] (by rfl) rfl rfl (by (try simp only [List.map_toArray, List.map_cons, List.map_nil]); first | done | rfl | (simp only [List.length_drop, List.length_take]; rfl)) ?_
                          with_reducible refine (impl_one.calls  t119 t120 _ A19.out).mono ?_
                          rintro e w30 ⟨rfl, hb⟩
                          refine ⟨_, rfl, ?_⟩
                          have n0_ := Aside0.mk (Kd.R_below (by (with_reducible repeat (first | apply Kd.R_alloc | apply Kd.R_drewN | apply Kd.R_drew)); exact HO_6.out) hb)
                          have n1_ := Aside0.mk (Kd.R_below (by (with_reducible repeat (first | apply Kd.R_alloc | apply Kd.R_drewN | apply Kd.R_drew)); exact HO_7.out) hb)
                          have n2_ := Aside0.mk (Kd.R_below (by (with_reducible repeat (first | apply Kd.R_alloc | apply Kd.R_drewN | apply Kd.R_drew)); exact HO_20.out) hb)
                          have n3_ := Aside0.mk (blk_below (g := gb107) (o := .cells #[.int .i64 ((rd_T42 l0 x14_1).f0), .int .i64 ((rd_T42 l0 x14_1).f1)] 42 (0, 0)) (by (with_reducible repeat (first | refine blk_drewN ?_ _ | refine blk_drew ?_ | refine blk_alloc ?_ _)); exact BK107.out) hb)
                          have n4_ := Aside0.mk (blk_below (g := gb118) (o := .cells #[.int .i64 ((rd_T42 x3_1 x22_2).f0), .int .i64 ((rd_T42 x3_1 x22_2).f1)] 42 (0, 0)) (by (with_reducible repeat (first | refine blk_drewN ?_ _ | refine blk_drew ?_ | refine blk_alloc ?_ _)); exact BK118.out) hb)
                          have n5_ := Aside0.mk (below_step (by repeat (first | (with_reducible first | exact HB.out | apply below_alloc | apply pw_below_drewN | apply below_drew1 | refine below_set ?_ GE107.out | refine below_set ?_ GE118.out) | exact HB.out)) hb)
                          clear HO_6
                          clear HO_7
                          clear HO_20
                          clear BK107
                          clear BK118
                          clear HB
                          have HO_6 := n0_
                          have HO_7 := n1_
                          have HO_20 := n2_
                          have BK107 := n3_
                          have BK118 := n4_
                          have HB := n5_
                          clear n0_ n1_ n2_ n3_ n4_ n5_
                          (try clear hb)
                          (try clear hb2)
                          (try clear hk)
                          (try clear hi)
                          refine hK.out _ _ ⟨(blk_cell BK118.out 0).trans rfl, (blk_cell BK118.out 1).trans rfl, (blk_cell BK107.out 0).trans rfl, (blk_cell BK107.out 1).trans rfl⟩ (fun hHeld => ?_)
                          clear hK K
                          refine norm_ (a' := ?_) ?_ ?_
                          rotate_left
                          · show Act.put _ (some 28) _ = _
                            simp only [Act.put, List.setIfInBounds_toArray, List.set_cons_zero, List.set_cons_succ, i64_w, i32_w]
                            rfl
                          refine one_ (i := 4) (N := some 30) #[true, true, true, true, true, false, false, false, true, true, true, false, false, false, false, false] rfl rfl (one_of HT_.out (by kernel_rfl)) (by decide) (fun K hK => ?_)
                          refine goes_ Try.func130 (by kernel_rfl) rfl #[.agg #[.int .i64 t119, .int .i64 t120], .agg #[.int .i64 ((rd_T42 l0 x14_1).f0), .int .i64 ((rd_T42 l0 x14_1).f1)]] (by rfl) rfl rfl (by (try simp only [List.map_toArray, List.map_cons, List.map_nil]); first | done | rfl | (simp only [List.length_drop, List.length_take]; rfl)) ?_
                          with_reducible refine (impl_Ext_minus.calls t119 t120 ((rd_T42 l0 x14_1).f0) ((rd_T42 l0 x14_1).f1) t121 t122 _ A20.out).mono ?_
                          rintro e w31 ⟨rfl, hb⟩
                          refine ⟨_, rfl, ?_⟩
                          have n0_ := Aside0.mk (Kd.R_below (by (with_reducible repeat (first | apply Kd.R_alloc | apply Kd.R_drewN | apply Kd.R_drew)); exact HO_6.out) hb)
                          have n1_ := Aside0.mk (Kd.R_below (by (with_reducible repeat (first | apply Kd.R_alloc | apply Kd.R_drewN | apply Kd.R_drew)); exact HO_7.out) hb)
                          have n2_ := Aside0.mk (Kd.R_below (by (with_reducible repeat (first | apply Kd.R_alloc | apply Kd.R_drewN | apply Kd.R_drew)); exact HO_20.out) hb)
                          have n3_ := Aside0.mk (blk_below (g := gb107) (o := .cells #[.int .i64 ((rd_T42 l0 x14_1).f0), .int .i64 ((rd_T42 l0 x14_1).f1)] 42 (0, 0)) (by (with_reducible repeat (first | refine blk_drewN ?_ _ | refine blk_drew ?_ | refine blk_alloc ?_ _)); exact BK107.out) hb)
                          have n4_ := Aside0.mk (blk_below (g := gb118) (o := .cells #[.int .i64 ((rd_T42 x3_1 x22_2).f0), .int .i64 ((rd_T42 x3_1 x22_2).f1)] 42 (0, 0)) (by (with_reducible repeat (first | refine blk_drewN ?_ _ | refine blk_drew ?_ | refine blk_alloc ?_ _)); exact BK118.out) hb)
                          have n5_ := Aside0.mk (below_step (by repeat (first | (with_reducible first | exact HB.out | apply below_alloc | apply pw_below_drewN | apply below_drew1 | refine below_set ?_ GE107.out | refine below_set ?_ GE118.out) | exact HB.out)) hb)
                          clear HO_6
                          clear HO_7
                          clear HO_20
                          clear BK107
                          clear BK118
                          clear HB
                          have HO_6 := n0_
                          have HO_7 := n1_
                          have HO_20 := n2_
                          have BK107 := n3_
                          have BK118 := n4_
                          have HB := n5_
                          clear n0_ n1_ n2_ n3_ n4_ n5_
                          (try clear hb)
                          (try clear hb2)
                          (try clear hk)
                          (try clear hi)
                          refine hK.out _ _ ⟨(blk_cell BK118.out 0).trans rfl, (blk_cell BK118.out 1).trans rfl, (blk_cell BK107.out 0).trans rfl, (blk_cell BK107.out 1).trans rfl⟩ (fun hHeld => ?_)
                          clear hK K
                          refine norm_ (a' := ?_) ?_ ?_
                          rotate_left
                          · show Act.put _ (some 30) _ = _
                            simp only [Act.put, List.setIfInBounds_toArray, List.set_cons_zero, List.set_cons_succ, i64_w, i32_w]
                            rfl
                          refine one_ (i := 5) (N := some 31) #[true, true, true, true, true, true, false, false, true, true, true, false, false, false, false, false] rfl rfl (one_of HT_.out (by kernel_rfl)) (by decide) (fun K hK => ?_)
                          refine goes_ Try.func109 (by kernel_rfl) rfl #[.agg #[.int .i64 ((rd_T42 x3_1 x22_2).f0), .int .i64 ((rd_T42 x3_1 x22_2).f1)], .agg #[.int .i64 t121, .int .i64 t122]] (by rfl) rfl rfl (by (try simp only [List.map_toArray, List.map_cons, List.map_nil]); first | done | rfl | (simp only [List.length_drop, List.length_take]; rfl)) ?_
                          with_reducible refine (impl_Ext_times.calls ((rd_T42 x3_1 x22_2).f0) ((rd_T42 x3_1 x22_2).f1) t121 t122 t123 t124 _ A21.out).mono ?_
                          rintro e w32 ⟨rfl, hb⟩
                          refine ⟨_, rfl, ?_⟩
                          have n0_ := Aside0.mk (Kd.R_below (by (with_reducible repeat (first | apply Kd.R_alloc | apply Kd.R_drewN | apply Kd.R_drew)); exact HO_6.out) hb)
                          have n1_ := Aside0.mk (Kd.R_below (by (with_reducible repeat (first | apply Kd.R_alloc | apply Kd.R_drewN | apply Kd.R_drew)); exact HO_7.out) hb)
                          have n2_ := Aside0.mk (Kd.R_below (by (with_reducible repeat (first | apply Kd.R_alloc | apply Kd.R_drewN | apply Kd.R_drew)); exact HO_20.out) hb)
                          have n3_ := Aside0.mk (blk_below (g := gb107) (o := .cells #[.int .i64 ((rd_T42 l0 x14_1).f0), .int .i64 ((rd_T42 l0 x14_1).f1)] 42 (0, 0)) (by (with_reducible repeat (first | refine blk_drewN ?_ _ | refine blk_drew ?_ | refine blk_alloc ?_ _)); exact BK107.out) hb)
                          have n4_ := Aside0.mk (blk_below (g := gb118) (o := .cells #[.int .i64 ((rd_T42 x3_1 x22_2).f0), .int .i64 ((rd_T42 x3_1 x22_2).f1)] 42 (0, 0)) (by (with_reducible repeat (first | refine blk_drewN ?_ _ | refine blk_drew ?_ | refine blk_alloc ?_ _)); exact BK118.out) hb)
                          have n5_ := Aside0.mk (below_step (by repeat (first | (with_reducible first | exact HB.out | apply below_alloc | apply pw_below_drewN | apply below_drew1 | refine below_set ?_ GE107.out | refine below_set ?_ GE118.out) | exact HB.out)) hb)
                          clear HO_6
                          clear HO_7
                          clear HO_20
                          clear BK107
                          clear BK118
                          clear HB
                          have HO_6 := n0_
                          have HO_7 := n1_
                          have HO_20 := n2_
                          have BK107 := n3_
                          have BK118 := n4_
                          have HB := n5_
                          clear n0_ n1_ n2_ n3_ n4_ n5_
                          (try clear hb)
                          (try clear hb2)
                          (try clear hk)
                          (try clear hi)
                          refine hK.out _ _ ⟨(blk_cell BK118.out 0).trans rfl, (blk_cell BK118.out 1).trans rfl, (blk_cell BK107.out 0).trans rfl, (blk_cell BK107.out 1).trans rfl⟩ (fun hHeld => ?_)
                          clear hK K
                          refine norm_ (a' := ?_) ?_ ?_
                          rotate_left
                          · show Act.put _ (some 31) _ = _
                            simp only [Act.put, List.setIfInBounds_toArray, List.set_cons_zero, List.set_cons_succ, i64_w, i32_w]
                            rfl
                          refine one_ (i := 6) (N := some 32) #[true, true, true, true, true, true, true, false, true, true, true, false, false, false, false, false] rfl rfl (one_of HT_.out (by kernel_rfl)) (by decide) (fun K hK => ?_)
                          refine value_ (w1 := ?_) (v := ?_) (by rfl) rfl ?_ ?_
                          rotate_left 2
                          · go_simp
                            constructor
                            · rfl
                            · rfl
                          refine hK.out _ _ ⟨(blk_cell (blk_alloc BK118.out _) 0).trans rfl, (blk_cell (blk_alloc BK118.out _) 1).trans rfl, (blk_cell (blk_alloc BK107.out _) 0).trans rfl, (blk_cell (blk_alloc BK107.out _) 1).trans rfl⟩ (fun hHeld => ?_)
                          clear hK K
                          refine norm_ (a' := ?_) ?_ ?_
                          rotate_left
                          · show Act.put _ (some 32) _ = _
                            simp only [Act.put, List.setIfInBounds_toArray, List.set_cons_zero, List.set_cons_succ, i64_w, i32_w]
                            rfl
                          refine one_ (i := 7) (N := some 33) #[true, true, true, true, true, true, true, true, true, true, true, false, false, false, false, false] rfl rfl (one_of HT_.out (by kernel_rfl)) (by decide) (fun K hK => ?_)
                          refine Kd.R_append_step k42 (w0 := w) w.heap.size (by rfl) (.tmp 26) (.tmp 32) 36 42 (.agg #[(.int .i64 0), (.int .i64 0)]) 16 rfl Try.underlying36 info42 rfl (by decide) (by omega) u6 x6_2 (⟨t123, t124⟩ : S42) [.int .i64 t123, .int .i64 t124] (fun k_ => some k_ ≠ (u7 : Value).ownBlock ∧ some k_ ≠ (.slice (some ad117) x3_1.length co15 : Value).ownBlock ∧ k_ ≠ gb107 ∧ k_ ≠ gb118) (fun _ => False) rfl rfl ?aP (fun _ hk => hk.elim) ?aF ?aO ?aB ?aS ?aL ?_
                          (case aP => exact k42_mkM _ _ _ (⟨t123, t124⟩ : S42))
                          (case aB => exact (by repeat (first | (with_reducible first | exact HB.out | apply below_alloc | apply pw_below_drewN | apply below_drew1 | refine below_set ?_ GE107.out | refine below_set ?_ GE118.out) | exact HB.out)))
                          (case aF => exact (fun k_ hk => ⟨Kd.fresh' (Kd.R_lt (by (with_reducible repeat (first | apply Kd.R_alloc | apply Kd.R_drewN | apply Kd.R_drew)); exact HO_7.out)) k_ hk, Kd.fresh' (Kd.R_lt (by (with_reducible repeat (first | apply Kd.R_alloc | apply Kd.R_drewN | apply Kd.R_drew)); exact HO_20.out)) k_ hk, Kd.freshB (g := gb107) (o := .cells #[.int .i64 ((rd_T42 l0 x14_1).f0), .int .i64 ((rd_T42 l0 x14_1).f1)] 42 (0, 0)) (by (with_reducible repeat (first | refine blk_drewN ?_ _ | refine blk_drew ?_ | refine blk_alloc ?_ _)); exact BK107.out) k_ hk, Kd.freshB (g := gb118) (o := .cells #[.int .i64 ((rd_T42 x3_1 x22_2).f0), .int .i64 ((rd_T42 x3_1 x22_2).f1)] 42 (0, 0)) (by (with_reducible repeat (first | refine blk_drewN ?_ _ | refine blk_drew ?_ | refine blk_alloc ?_ _)); exact BK118.out) k_ hk⟩))
                          (case aO => exact (by (with_reducible repeat (first | apply Kd.R_alloc | apply Kd.R_drewN | apply Kd.R_drew)); exact HO_6.out))
                          (case aS => exact (below_size (by repeat (first | (with_reducible first | exact HB.out | apply below_alloc | apply pw_below_drewN | apply below_drew1 | refine below_set ?_ GE107.out | refine below_set ?_ GE118.out) | exact HB.out))))
                          (case aL => have := LMc22.out; omega)
                          intro v126 w33 ho hb hg hat
                          rw [← Ny125.out] at ho
                          have n0_ := Aside0.mk (Kd.R_after (ok := (fun k_ => some k_ ≠ (.slice (some ad117) x3_1.length co15 : Value).ownBlock ∧ k_ ≠ gb107 ∧ k_ ≠ gb118)) (by (with_reducible repeat (first | apply Kd.R_alloc | apply Kd.R_drewN | apply Kd.R_drew)); exact Kd.R_mono HO_7.out (fun _ hk => ⟨⟨hk.2.1, ⟨hk.2.2.1, hk.2.2.2⟩⟩, hk.1⟩)) hg hat)
                          have n1_ := Aside0.mk (Kd.R_after (ok := (fun k_ => some k_ ≠ (u7 : Value).ownBlock ∧ k_ ≠ gb107 ∧ k_ ≠ gb118)) (by (with_reducible repeat (first | apply Kd.R_alloc | apply Kd.R_drewN | apply Kd.R_drew)); exact Kd.R_mono HO_20.out (fun _ hk => ⟨⟨hk.2.1, ⟨hk.2.2.1, hk.2.2.2⟩⟩, hk.1⟩)) hg hat)
                          have n2_ := Aside0.mk (blk_grown (g := gb107) (o := .cells #[.int .i64 ((rd_T42 l0 x14_1).f0), .int .i64 ((rd_T42 l0 x14_1).f1)] 42 (0, 0)) (by (with_reducible repeat (first | refine blk_drewN ?_ _ | refine blk_drew ?_ | refine blk_alloc ?_ _)); exact BK107.out) hg (Kd.R_away HO_6.out (fun _ hk => hk.2.2.1)))
                          have n3_ := Aside0.mk (blk_grown (g := gb118) (o := .cells #[.int .i64 ((rd_T42 x3_1 x22_2).f0), .int .i64 ((rd_T42 x3_1 x22_2).f1)] 42 (0, 0)) (by (with_reducible repeat (first | refine blk_drewN ?_ _ | refine blk_drew ?_ | refine blk_alloc ?_ _)); exact BK118.out) hg (Kd.R_away HO_6.out (fun _ hk => hk.2.2.2)))
                          have n4_ := Aside0.mk (hb)
                          have n5_ := Aside0.mk (ho)
                          clear HO_7
                          clear HO_20
                          clear BK107
                          clear BK118
                          clear HB
                          clear HO_6
                          have HO_7 := n0_
                          have HO_20 := n1_
                          have BK107 := n2_
                          have BK118 := n3_
                          have HB := n4_
                          have HO127 := n5_
                          clear n0_ n1_ n2_ n3_ n4_ n5_
                          clear ho hb hg hat
                          refine hK.out _ _ ⟨(blk_cell BK118.out 0).trans rfl, (blk_cell BK118.out 1).trans rfl, (blk_cell BK107.out 0).trans rfl, (blk_cell BK107.out 1).trans rfl⟩ (fun hHeld => ?_)
                          clear hK K
                          refine norm_ (a' := ?_) ?_ ?_
                          rotate_left
                          · show Act.put _ (some 33) _ = _
                            simp only [Act.put, List.setIfInBounds_toArray, List.set_cons_zero, List.set_cons_succ, i64_w, i32_w]
                            rfl
                          refine one_ (i := 11) (N := some 37) #[true, true, true, true, true, true, true, true, true, true, true, true, false, false, false, false] rfl rfl (one_of HT_.out (by kernel_rfl)) (by decide) (fun K hK => ?_)
                          refine goes_ Try.func109 (by kernel_rfl) rfl #[.agg #[.int .i64 ((rd_T42 x3_1 x22_2).f0), .int .i64 ((rd_T42 x3_1 x22_2).f1)], .agg #[.int .i64 ((rd_T42 l0 x14_1).f0), .int .i64 ((rd_T42 l0 x14_1).f1)]] (by rfl) rfl rfl (by (try simp only [List.map_toArray, List.map_cons, List.map_nil]); first | done | rfl | (simp only [List.length_drop, List.length_take]; rfl)) ?_
                          with_reducible refine (impl_Ext_times.calls ((rd_T42 x3_1 x22_2).f0) ((rd_T42 x3_1 x22_2).f1) ((rd_T42 l0 x14_1).f0) ((rd_T42 l0 x14_1).f1) t128 t129 _ A23.out).mono ?_
                          rintro e w34 ⟨rfl, hb⟩
                          refine ⟨_, rfl, ?_⟩
                          have n0_ := Aside0.mk (Kd.R_below (by (with_reducible repeat (first | apply Kd.R_alloc | apply Kd.R_drewN | apply Kd.R_drew)); exact HO_7.out) hb)
                          have n1_ := Aside0.mk (Kd.R_below (by (with_reducible repeat (first | apply Kd.R_alloc | apply Kd.R_drewN | apply Kd.R_drew)); exact HO_20.out) hb)
                          have n2_ := Aside0.mk (Kd.R_below (by (with_reducible repeat (first | apply Kd.R_alloc | apply Kd.R_drewN | apply Kd.R_drew)); exact HO127.out) hb)
                          have n3_ := Aside0.mk (blk_below (g := gb107) (o := .cells #[.int .i64 ((rd_T42 l0 x14_1).f0), .int .i64 ((rd_T42 l0 x14_1).f1)] 42 (0, 0)) (by (with_reducible repeat (first | refine blk_drewN ?_ _ | refine blk_drew ?_ | refine blk_alloc ?_ _)); exact BK107.out) hb)
                          have n4_ := Aside0.mk (blk_below (g := gb118) (o := .cells #[.int .i64 ((rd_T42 x3_1 x22_2).f0), .int .i64 ((rd_T42 x3_1 x22_2).f1)] 42 (0, 0)) (by (with_reducible repeat (first | refine blk_drewN ?_ _ | refine blk_drew ?_ | refine blk_alloc ?_ _)); exact BK118.out) hb)
                          have n5_ := Aside0.mk (below_step (by repeat (first | (with_reducible first | exact HB.out | apply below_alloc | apply pw_below_drewN | apply below_drew1 | refine below_set ?_ GE107.out | refine below_set ?_ GE118.out) | exact HB.out)) hb)
                          clear HO_7
                          clear HO_20
                          clear HO127
                          clear BK107
                          clear BK118
                          clear HB
                          have HO_7 := n0_
                          have HO_20 := n1_
                          have HO127 := n2_
                          have BK107 := n3_
                          have BK118 := n4_
                          have HB := n5_
                          clear n0_ n1_ n2_ n3_ n4_ n5_
                          (try clear hb)
                          (try clear hb2)
                          (try clear hk)
                          (try clear hi)
                          refine hK.out _ _ ⟨(blk_cell BK118.out 0).trans rfl, (blk_cell BK118.out 1).trans rfl, (blk_cell BK107.out 0).trans rfl, (blk_cell BK107.out 1).trans rfl⟩ (fun hHeld => ?_)
                          clear hK K
                          refine norm_ (a' := ?_) ?_ ?_
                          rotate_left
                          · show Act.put _ (some 37) _ = _
                            simp only [Act.put, List.setIfInBounds_toArray, List.set_cons_zero, List.set_cons_succ, i64_w, i32_w]
                            rfl
                          refine one_ (i := 12) (N := some 38) #[true, true, true, true, true, true, true, true, true, true, true, true, true, false, false, false] rfl rfl (one_of HT_.out (by kernel_rfl)) (by decide) (fun K hK => ?_)
                          refine value_ (w1 := ?_) (v := ?_) (by rfl) rfl ?_ ?_
                          rotate_left 2
                          · go_simp
                            constructor
                            · rfl
                            · rfl
                          refine hK.out _ _ ⟨(blk_cell (blk_alloc BK118.out _) 0).trans rfl, (blk_cell (blk_alloc BK118.out _) 1).trans rfl, (blk_cell (blk_alloc BK107.out _) 0).trans rfl, (blk_cell (blk_alloc BK107.out _) 1).trans rfl⟩ (fun hHeld => ?_)
                          clear hK K
                          refine norm_ (a' := ?_) ?_ ?_
                          rotate_left
                          · show Act.put _ (some 38) _ = _
                            simp only [Act.put, List.setIfInBounds_toArray, List.set_cons_zero, List.set_cons_succ, i64_w, i32_w]
                            rfl
                          refine one_ (i := 13) (N := some 39) #[true, true, true, true, true, true, true, true, true, true, true, true, true, true, false, false] rfl rfl (one_of HT_.out (by kernel_rfl)) (by decide) (fun K hK => ?_)
                          refine Kd.R_append_step k42 (w0 := w) w.heap.size (by rfl) (.tmp 34) (.tmp 38) 36 42 (.agg #[(.int .i64 0), (.int .i64 0)]) 16 rfl Try.underlying36 info42 rfl (by decide) (by omega) u7 x7_2 (⟨t128, t129⟩ : S42) [.int .i64 t128, .int .i64 t129] (fun k_ => some k_ ≠ (.slice (some ad117) x3_1.length co15 : Value).ownBlock ∧ some k_ ≠ (v126 : Value).ownBlock ∧ k_ ≠ gb107 ∧ k_ ≠ gb118) (fun _ => False) rfl rfl ?aP (fun _ hk => hk.elim) ?aF ?aO ?aB ?aS ?aL ?_
                          (case aP => exact k42_mkM _ _ _ (⟨t128, t129⟩ : S42))
                          (case aB => exact (by repeat (first | (with_reducible first | exact HB.out | apply below_alloc | apply pw_below_drewN | apply below_drew1 | refine below_set ?_ GE107.out | refine below_set ?_ GE118.out) | exact HB.out)))
                          (case aF => exact (fun k_ hk => ⟨Kd.fresh' (Kd.R_lt (by (with_reducible repeat (first | apply Kd.R_alloc | apply Kd.R_drewN | apply Kd.R_drew)); exact HO_20.out)) k_ hk, Kd.fresh' (Kd.R_lt (by (with_reducible repeat (first | apply Kd.R_alloc | apply Kd.R_drewN | apply Kd.R_drew)); exact HO127.out)) k_ hk, Kd.freshB (g := gb107) (o := .cells #[.int .i64 ((rd_T42 l0 x14_1).f0), .int .i64 ((rd_T42 l0 x14_1).f1)] 42 (0, 0)) (by (with_reducible repeat (first | refine blk_drewN ?_ _ | refine blk_drew ?_ | refine blk_alloc ?_ _)); exact BK107.out) k_ hk, Kd.freshB (g := gb118) (o := .cells #[.int .i64 ((rd_T42 x3_1 x22_2).f0), .int .i64 ((rd_T42 x3_1 x22_2).f1)] 42 (0, 0)) (by (with_reducible repeat (first | refine blk_drewN ?_ _ | refine blk_drew ?_ | refine blk_alloc ?_ _)); exact BK118.out) k_ hk⟩))
                          (case aO => exact (by (with_reducible repeat (first | apply Kd.R_alloc | apply Kd.R_drewN | apply Kd.R_drew)); exact Kd.R_mono HO_7.out (fun _ hk => ⟨hk.1.1, ⟨hk.2, ⟨hk.1.2.1, hk.1.2.2⟩⟩⟩)))
                          (case aS => exact (below_size (by repeat (first | (with_reducible first | exact HB.out | apply below_alloc | apply pw_below_drewN | apply below_drew1 | refine below_set ?_ GE107.out | refine below_set ?_ GE118.out) | exact HB.out))))
                          (case aL => have := LMc24.out; omega)
                          intro v131 w35 ho hb hg hat
                          rw [← Ny130.out] at ho
                          have n0_ := Aside0.mk (Kd.R_after (ok := (fun k_ => some k_ ≠ (v126 : Value).ownBlock ∧ k_ ≠ gb107 ∧ k_ ≠ gb118)) (by (with_reducible repeat (first | apply Kd.R_alloc | apply Kd.R_drewN | apply Kd.R_drew)); exact Kd.R_mono HO_20.out (fun _ hk => ⟨⟨hk.2, ⟨hk.1.2.1, hk.1.2.2⟩⟩, hk.1.1⟩)) hg hat)
                          have n1_ := Aside0.mk (blk_grown (g := gb107) (o := .cells #[.int .i64 ((rd_T42 l0 x14_1).f0), .int .i64 ((rd_T42 l0 x14_1).f1)] 42 (0, 0)) (by (with_reducible repeat (first | refine blk_drewN ?_ _ | refine blk_drew ?_ | refine blk_alloc ?_ _)); exact BK107.out) hg (Kd.R_away HO_7.out (fun _ hk => hk.1.2.1)))
                          have n2_ := Aside0.mk (blk_grown (g := gb118) (o := .cells #[.int .i64 ((rd_T42 x3_1 x22_2).f0), .int .i64 ((rd_T42 x3_1 x22_2).f1)] 42 (0, 0)) (by (with_reducible repeat (first | refine blk_drewN ?_ _ | refine blk_drew ?_ | refine blk_alloc ?_ _)); exact BK118.out) hg (Kd.R_away HO_7.out (fun _ hk => hk.1.2.2)))
                          have n3_ := Aside0.mk (Kd.R_after (ok := (fun k_ => some k_ ≠ (.slice (some ad117) x3_1.length co15 : Value).ownBlock ∧ k_ ≠ gb107 ∧ k_ ≠ gb118)) (by (with_reducible repeat (first | apply Kd.R_alloc | apply Kd.R_drewN | apply Kd.R_drew)); exact Kd.R_mono HO127.out (fun _ hk => ⟨⟨hk.2.1, ⟨hk.2.2.1, hk.2.2.2⟩⟩, hk.1⟩)) hg hat)
                          have n4_ := Aside0.mk (hb)
                          have n5_ := Aside0.mk (ho)
                          clear HO_20
                          clear BK107
                          clear BK118
                          clear HO127
                          clear HB
                          clear HO_7
                          have HO_20 := n0_
                          have BK107 := n1_
                          have BK118 := n2_
                          have HO127 := n3_
                          have HB := n4_
                          have HO132 := n5_
                          clear n0_ n1_ n2_ n3_ n4_ n5_
                          clear ho hb hg hat
                          refine hK.out _ _ ⟨(blk_cell BK118.out 0).trans rfl, (blk_cell BK118.out 1).trans rfl, (blk_cell BK107.out 0).trans rfl, (blk_cell BK107.out 1).trans rfl⟩ (fun hHeld => ?_)
                          clear hK K
                          refine norm_ (a' := ?_) ?_ ?_
                          rotate_left
                          · show Act.put _ (some 39) _ = _
                            simp only [Act.put, List.setIfInBounds_toArray, List.set_cons_zero, List.set_cons_succ, i64_w, i32_w]
                            rfl
                          refine pure_ (i := 14) (N := some 6) (v := ?_) (a' := ?_) #[true, true, true, true, true, true, true, true, true, true, true, true, true, true, true, false] rfl rfl (any_of HT_.out (by kernel_rfl)) (fun _ _ _ h => h) (Or.inl ⟨by rfl, ?_⟩) ?_ ?_
                          rotate_left
                          · intro w'
                            go_simp
                            with_reducible rfl
                          rotate_left
                          · simp only [Act.put, List.setIfInBounds_toArray, List.set_cons_zero, List.set_cons_succ, i64_w, i32_w]
                            rfl
                          refine pure_ (i := 15) (N := some 7) (v := ?_) (a' := ?_) #[true, true, true, true, true, true, true, true, true, true, true, true, true, true, true, true] rfl rfl (any_of HT_.out (by kernel_rfl)) (fun _ _ _ h => h) (Or.inl ⟨by rfl, ?_⟩) ?_ ?_
                          rotate_left
                          · intro w'
                            go_simp
                            with_reducible rfl
                          rotate_left
                          · simp only [Act.put, List.setIfInBounds_toArray, List.set_cons_zero, List.set_cons_succ, i64_w, i32_w]
                            rfl
                          refine done_ (done_of HT_.out (by kernel_rfl)) ?_
                          try go_wp2
                          go_roundg k2
                          case measure => have := HK1.out; have := HK2.out; omega
                          case rel => exact ⟨(y125), (y130), (wrap64 (x22_2 + 1)), (by first | rfl | (simp; done) | (simp [*]; done)), H', ⟨by have := HK1.out; have := HK2.out; omega⟩, ⟨by (with_reducible repeat (first | apply Kd.R_alloc | apply Kd.R_drewN | apply Kd.R_drew)); exact Kd.R_mono HO127.out (fun _ hk => ⟨hk.2, ⟨hk.1.1, hk.1.2.1⟩⟩)⟩, ⟨by (with_reducible repeat (first | apply Kd.R_alloc | apply Kd.R_drewN | apply Kd.R_drew)); exact Kd.R_mono HO132.out (fun _ hk => ⟨hk.2.1, ⟨hk.1, hk.2.2.1⟩⟩)⟩, ⟨by (with_reducible repeat (first | apply Kd.R_alloc | apply Kd.R_drewN | apply Kd.R_drew)); exact Kd.R_mono HO_20.out (fun _ hk => ⟨hk.1.1, ⟨hk.2, hk.1.2.1⟩⟩)⟩, ⟨by (with_reducible repeat (first | refine blk_drewN ?_ _ | refine blk_drew ?_ | refine blk_alloc ?_ _)); exact BK107.out⟩, ⟨by repeat (first | (with_reducible first | exact HB.out | apply below_alloc | apply pw_below_drewN | apply below_drew1 | refine below_set ?_ GE107.out | refine below_set ?_ GE118.out) | exact HB.out)⟩⟩
                        · rw [if_neg c24] at H
                          exact absurd H (by simp)
                      · rw [if_neg c22] at H
                        exact absurd H (by simp)
                    · rw [if_neg c18] at H
                      exact absurd H (by simp)
                  · rw [if_neg c17] at H
                    exact absurd H (by simp)
                · rw [if_neg c16] at H
                  have c16b0 : decide (x22_2 < (x3_1.length : Int)) = false := decide_eq_false c16
                  clear c16
                  by_cases c36 : x6_2.length + x7_2.length < 8796093022208
                  · rw [if_pos c36] at H
                    have LMc36 := Aside0.mk c36
                    clear c36
                    obtain ⟨y114, hy114⟩ : ∃ y_ : List (S42), y_ = (x6_2 ++ x7_2) := ⟨_, rfl⟩
                    replace H : (impl_eqTable.l0 k2 y114 l0 (l0.length : Int) (wrap64 (x14_1 + 1))) = some r := by first | (rw [hy114]; with_reducible exact H) | (have H2_ := (Option.bind_some _ _).symm.trans H; rw [hy114]; with_reducible exact H2_) | (have H2_ := (Option.bind_some _ _).symm.trans H; with_reducible exact H2_) | with_reducible exact H | (rw [hy114]; exact H) | exact H
                    have Ny114 := Aside0.mk hy114
                    clear hy114
                    have H' := Aside0.mk H
                    clear H
                    obtain ⟨Ao38, co38, eo38⟩ := Kd.R_slice HO_7.out
                    subst eo38
                    go_wp2_with (first | ((with_reducible refine gate_builtin (b := .append) (xs := #[.tmp 41, .tmp 42]) rfl ?_); at_builtin; refine Kd.R_append_rows k42 (w0 := w) w.heap.size rfl (.tmp 41) (.tmp 42) 36 42 (.agg #[(.int .i64 0), (.int .i64 0)]) 16 rfl Try.underlying36 info42 rfl (by decide) (by omega) u6 x6_2 x7_2 _ _ _ (fun k_ => some k_ ≠ (.slice Ao38 x7_2.length co38 : Value).ownBlock ∧ some k_ ≠ (.slice Ao15 x3_1.length co15 : Value).ownBlock ∧ k_ ≠ gb107) (fun _ => False) rfl rfl ?aO ?aR (fun _ _ h => h) (fun _ h => h.elim) ?aF ?aB ?aS ?aL ?_; (case aR => repeat (first | exact (Kd.R_reads' HO_7.out).2.2 | (with_reducible refine Kd.C_alloc ?_ _) | (with_reducible refine Kd.C_drewN ?_ _) | (with_reducible refine Kd.C_drew ?_))); (case aB => exact (by repeat (first | (with_reducible first | exact HB.out | apply below_alloc | apply pw_below_drewN | apply below_drew1 | refine below_set ?_ GE107.out) | exact HB.out))); (case aF => exact (fun k_ hk => ⟨Kd.fresh' (Kd.R_lt (by (with_reducible repeat (first | apply Kd.R_alloc | apply Kd.R_drewN | apply Kd.R_drew)); exact HO_7.out)) k_ hk, Kd.fresh' (Kd.R_lt (by (with_reducible repeat (first | apply Kd.R_alloc | apply Kd.R_drewN | apply Kd.R_drew)); exact HO_20.out)) k_ hk, Kd.freshB (g := gb107) (o := .cells #[.int .i64 ((rd_T42 l0 x14_1).f0), .int .i64 ((rd_T42 l0 x14_1).f1)] 42 (0, 0)) (by (with_reducible repeat (first | refine blk_drewN ?_ _ | refine blk_drew ?_ | refine blk_alloc ?_ _)); exact BK107.out) k_ hk⟩)); (case aO => exact (by (with_reducible repeat (first | apply Kd.R_alloc | apply Kd.R_drewN | apply Kd.R_drew)); exact HO_6.out)); (case aS => exact (below_size (by repeat (first | (with_reducible first | exact HB.out | apply below_alloc | apply pw_below_drewN | apply below_drew1 | refine below_set ?_ GE107.out) | exact HB.out)))); (case aL => have := LMc36.out; omega); intro v115 w37 ho hb hg hat; rw [← Ny114.out] at ho; have n0_ := Aside0.mk (Kd.R_after (ok := (fun k_ => some k_ ≠ (.slice Ao15 x3_1.length co15 : Value).ownBlock ∧ k_ ≠ gb107)) (by (with_reducible repeat (first | apply Kd.R_alloc | apply Kd.R_drewN | apply Kd.R_drew)); exact Kd.R_mono HO_7.out (fun _ hk => ⟨⟨hk.2.1, hk.2.2⟩, hk.1⟩)) hg hat); have n1_ := Aside0.mk (Kd.R_after (ok := (fun k_ => some k_ ≠ (.slice Ao38 x7_2.length co38 : Value).ownBlock ∧ k_ ≠ gb107)) (by (with_reducible repeat (first | apply Kd.R_alloc | apply Kd.R_drewN | apply Kd.R_drew)); exact Kd.R_mono HO_20.out (fun _ hk => ⟨⟨hk.2.1, hk.2.2⟩, hk.1⟩)) hg hat); have n2_ := Aside0.mk (blk_grown (g := gb107) (o := .cells #[.int .i64 ((rd_T42 l0 x14_1).f0), .int .i64 ((rd_T42 l0 x14_1).f1)] 42 (0, 0)) (by (with_reducible repeat (first | refine blk_drewN ?_ _ | refine blk_drew ?_ | refine blk_alloc ?_ _)); exact BK107.out) hg (Kd.R_away HO_6.out (fun _ hk => hk.2.2))); have n3_ := Aside0.mk (hb); have n4_ := Aside0.mk (ho); clear HO_7; clear HO_20; clear BK107; clear HB; clear HO_6; have HO_7 := n0_; have HO_20 := n1_; have BK107 := n2_; have HB := n3_; have HO116 := n4_; clear n0_ n1_ n2_ n3_ n4_; clear ho hb hg hat))
                    go_roundg k2
                    case measure => have := HK1.out; have := HK2.out; omega
                    case rel => exact ⟨(y114), (wrap64 (x14_1 + 1)), (by first | rfl | (simp; done) | (simp [*]; done)), H', ⟨by have := HK1.out; have := HK2.out; omega⟩, ⟨by (with_reducible repeat (first | apply Kd.R_alloc | apply Kd.R_drewN | apply Kd.R_drew)); exact Kd.R_mono HO116.out (fun _ hk => trivial)⟩, ⟨by repeat (first | (with_reducible first | exact HB.out | apply below_alloc | apply pw_below_drewN | apply below_drew1 | refine below_set ?_ GE107.out) | exact HB.out)⟩⟩
                  · rw [if_neg c36] at H
                    exact absurd H (by simp)
          · rw [if_neg c8] at H
            exact absurd H (by simp)
        · rw [if_neg c7] at H
          exact absurd H (by simp)
      · rw [if_neg c6] at H
        have c6b0 : decide (x14_1 < (l0.length : Int)) = false := decide_eq_false c6
        clear c6
        obtain rfl := Option.some.inj H
        go_wp2
        go_ret
        exact ⟨_, by first | rfl | (simp [errW_none, errW_some] <;> rfl) | (simp [*, errW_none, errW_some] <;> rfl), by (with_reducible repeat (first | apply Kd.R_alloc | apply Kd.R_drewN | apply Kd.R_drew)); exact HO_3.out, by repeat (first | (with_reducible first | exact HB.out | apply below_alloc | apply pw_below_drewN | apply below_drew1) | exact HB.out)⟩

end Go.Proofs.Ytlfnfalckfggkaa.PT
end
section
/- The equality weight, at a point and as a table: both sides walk the same numbers. -/
namespace Go.Proofs.Ytlfnfalckfggkaa.PT
open Go.RowKit Go.Proofs.YtlfnfalckfggkaaW.PrintWords Go.Proofs.YtlfnfalckfggkaaW.PrintLast Go.Proofs.YtlfnfalckfggkaaW.PrintMore
set_option linter.unusedVariables false
set_option linter.unusedSimpArgs false
theorem l06One_eq : spec_l06One.f = some ((eof 1).f0, (eof 1).f1) := rfl
theorem l06Less_eq {x : E} (hx : okE x) : spec_l06Less.f x.f0 x.f1 = some ((esub (eof 1) x).f0, (esub (eof 1) x).f1) := by
  unfold spec_l06Less.f
  rw [l06One_eq]
  simp only [bS]
  rw [spec_l02Sub_eq (ok_of inF_1) hx]
  rfl
def pointB (l : List E) : Bool := decide (l.length ≤ 6) && okLB l
theorem l06Point_eq {l : List E} {k : Nat} (hk : l.length < k) : spec_l06Point.f k l = some (pointB l) := by
  unfold spec_l06Point.f pointB
  by_cases h : l.length ≤ 6
  · rw [if_pos (by omega), spec_l02List_eq (by omega) hk, decide_eq_true h]; simp
  · rw [if_neg (by omega), decide_eq_false h]; rfl
theorem isPoint_eq (l : List E) : impl_isPoint.f l = some (pointB l) := by
  unfold impl_isPoint.f pointB
  by_cases h : l.length ≤ 6
  · rw [if_pos (by omega), impl_are_eq, decide_eq_true h]; simp
  · rw [if_neg (by omega), decide_eq_false h]; rfl
theorem pointB_iff {l : List E} (h : pointB l = true) : l.length ≤ 6 ∧ okL l := by
  unfold pointB at h
  rw [Bool.and_eq_true, decide_eq_true_eq] at h
  exact ⟨h.1, (okLB_iff l).1 h.2⟩
theorem eqAt_l0 (a b : List E) (ha : okL a) (hb : okL b) (hn : a.length = b.length) (hl : a.length ≤ 1048576) (d : Nat) : ∀ (k i : Nat) (r : E), i + d = a.length → d < k → okE r →
    ∃ q, spec_l06EqAt.l0 k a b i r.f0 r.f1 = some q ∧ impl_eqAt.l0 k b a (a.length : Int) i r.f0 r.f1 = some q := by
  induction d with
  | zero =>
    intro k i r hi hk hr
    obtain ⟨k, rfl⟩ : ∃ m, k = m + 1 := ⟨k - 1, by omega⟩
    simp only [spec_l06EqAt.l0, impl_eqAt.l0]
    rw [if_neg (by omega), if_neg (by omega)]; exact ⟨_, rfl, rfl⟩
  | succ d ih =>
    intro k i r hi hk hr
    obtain ⟨k, rfl⟩ : ∃ m, k = m + 1 := ⟨k - 1, by omega⟩
    have h1 : okE (rd_T42 a i) := okL_rd ha (by omega) (by omega)
    have h2 : okE (rd_T42 b i) := okL_rd hb (by omega) (by omega)
    simp only [spec_l06EqAt.l0, impl_eqAt.l0]
    rw [if_pos (by omega), if_pos (by omega), if_pos (by omega), if_pos (by omega), if_pos (by omega), if_pos (by omega), if_pos (by omega)]
    rw [spec_l02Mul_eq h1 h2, l06Less_eq h1, l06Less_eq h2, impl_times_eq h1 h2, impl_one_eq]
    simp only [bS]
    rw [spec_l02Mul_eq (ok_sub _ _) (ok_sub _ _), impl_minus_eq (ok_of inF_1) h1, impl_minus_eq (ok_of inF_1) h2]
    simp only [bS]
    rw [spec_l02Add_eq (ok_mul _ _) (ok_mul _ _), impl_times_eq (ok_sub _ _) (ok_sub _ _)]
    simp only [bS]
    rw [spec_l02Mul_eq hr (ok_add _ _), impl_plus_eq (ok_mul _ _) (ok_mul _ _)]
    simp only [bS]
    rw [impl_times_eq hr (ok_add _ _)]
    simp only [bS]
    rw [w64 (by omega) (by omega), show (i : Int) + 1 = ((i + 1 : Nat) : Int) by omega]
    exact ih k (i + 1) _ (by omega) (by omega) (ok_mul _ _)
theorem eqAt_same {a b : List E} (ha : okL a) (hb : okL b) (hn : a.length = b.length) (hl : a.length ≤ 1048576) {k : Nat} (hk : a.length < k) :
    ∃ q, spec_l06EqAt.f k a b = some q ∧ impl_eqAt.f k a b = some q := by
  unfold spec_l06EqAt.f impl_eqAt.f
  rw [l06One_eq, impl_one_eq]
  exact eqAt_l0 a b ha hb hn hl a.length k 0 (eof 1) (by omega) hk (ok_of inF_1)

/-! the table -/
def wA (p x : E) : E := emul x (esub (eof 1) p)
def wB (p x : E) : E := emul x p
def wNext (L : List E) (p : E) : List E := L.map (wA p) ++ L.map (wB p)
theorem wNext_length (L : List E) (p : E) : (wNext L p).length = 2 * L.length := by simp [wNext]; omega
theorem wNext_ok (L : List E) (p : E) : okL (wNext L p) := by
  intro y hy
  rcases List.mem_append.mp hy with h | h <;> obtain ⟨z, _, rfl⟩ := List.mem_map.mp h <;> exact ok_mul _ _
def wAll : List E → List E → List E
  | L, [] => L
  | L, p :: ps => wAll (wNext L p) ps
theorem etaE (x : E) : (⟨x.f0, x.f1⟩ : E) = x := rfl
theorem take_map_set {α : Type} (f : α → α) (L : List α) (z : α) (i : Nat) (h : i < L.length) :
    ((L.take i).map f ++ List.replicate (L.length - i) z).set i (f L[i]) = (L.take (i + 1)).map f ++ List.replicate (L.length - (i + 1)) z := by
  have e : L.length - i = (L.length - (i + 1)) + 1 := by omega
  have hl : ((L.take i).map f).length = i := by simp; omega
  rw [e, List.replicate_succ]
  have := set_mid ((L.take i).map f) (List.replicate (L.length - (i + 1)) z) z (f L[i])
  rw [hl] at this
  rw [this, List.take_succ_eq_append_getElem h, List.map_append]
  simp only [List.map_cons, List.map_nil, List.append_assoc, List.cons_append, List.nil_append]
theorem specEq_l1 (x0 L : List E) (h0 : okL x0) (hL : okL L) (j : Nat) (hj : j < x0.length) (hn : x0.length ≤ 64) (hm : L.length ≤ 1048576) (d : Nat) : ∀ (k i : Nat), i + d = L.length → d < k →
    spec_l06Eq.l1 k x0 L j (((L.take i).map (wA x0[j]) ++ List.replicate (L.length - i) zE) ++ ((L.take i).map (wB x0[j]) ++ List.replicate (L.length - i) zE)) i
    = spec_l06Eq.l0 (k - d - 1) x0 (wNext L x0[j]) (wrap64 (j + 1)) := by
  induction d with
  | zero =>
    intro k i hi hk
    obtain ⟨k, rfl⟩ : ∃ m, k = m + 1 := ⟨k - 1, by omega⟩
    simp only [spec_l06Eq.l1]
    rw [if_neg (by omega), List.take_of_length_le (by omega)]
    have e : L.length - i = 0 := by omega
    rw [e]
    simp [wNext]
  | succ d ih =>
    intro k i hi hk
    obtain ⟨k, rfl⟩ : ∃ m, k = m + 1 := ⟨k - 1, by omega⟩
    have h1 : okE (rd_T42 L i) := okL_rd hL (by omega) (by omega)
    have h2 : okE (rd_T42 x0 j) := okL_rd h0 (by omega) (by omega)
    have g1 : rd_T42 L i = L[i]'(by omega) := rdE_at _
    have g2 : rd_T42 x0 j = x0[j] := rdE_at _
    have lA : ((L.take i).map (wA x0[j]) ++ List.replicate (L.length - i) zE).length = L.length := by simp; omega
    have lB : ((L.take i).map (wB x0[j]) ++ List.replicate (L.length - i) zE).length = L.length := by simp; omega
    simp only [spec_l06Eq.l1]
    rw [if_pos (by omega), if_pos (by omega), if_pos (by omega), if_pos (by omega), l06Less_eq h2]
    simp only [bS]
    rw [spec_l02Mul_eq h1 (ok_sub _ _), spec_l02Mul_eq h1 h2]
    simp only [bS]
    rw [w64 (n := (i : Int) + (L.length : Int)) (by omega) (by omega), if_pos (by rw [List.length_append, lA, lB]; omega), if_pos (by omega), if_pos (by rw [List.length_append, lA, lB]; omega), w64 (n := (i : Int) + 1) (by omega) (by omega)]
    have t1 : ((i : Int) + (L.length : Int)).toNat = L.length + i := by omega
    rw [t1, Int.toNat_natCast, List.set_append_left _ _ (by rw [lA]; omega), List.set_append_right _ _ (by rw [List.length_set, lA]; omega), List.length_set, lA, Nat.add_sub_cancel_left]
    have s1 : ((L.take i).map (wA x0[j]) ++ List.replicate (L.length - i) zE).set i (emul L[i] (esub (eof 1) x0[j])) = _ := take_map_set (wA x0[j]) L zE i (by omega)
    have s2 : ((L.take i).map (wB x0[j]) ++ List.replicate (L.length - i) zE).set i (emul L[i] x0[j]) = _ := take_map_set (wB x0[j]) L zE i (by omega)
    rw [g1, g2, etaE, etaE, s1, s2, show (i : Int) + 1 = ((i + 1 : Nat) : Int) by omega, ih k (i + 1) (by omega) (by omega)]
    congr 1
    omega
theorem implEq_l1 (x0 L : List E) (h0 : okL x0) (hL : okL L) (j : Nat) (hj : j < x0.length) (hn : x0.length ≤ 64) (hm : L.length ≤ 1048576) (d : Nat) : ∀ (k i : Nat), i + d = L.length → d < k →
    impl_eqTable.l1 k ((L.take i).map (wA x0[j])) ((L.take i).map (wB x0[j])) x0 (x0.length : Int) j L (L.length : Int) i (x0[j]).f0 (x0[j]).f1
    = impl_eqTable.l0 (k - d - 1) (wNext L x0[j]) x0 (x0.length : Int) (wrap64 (j + 1)) := by
  induction d with
  | zero =>
    intro k i hi hk
    obtain ⟨k, rfl⟩ : ∃ m, k = m + 1 := ⟨k - 1, by omega⟩
    simp only [impl_eqTable.l1]
    rw [if_neg (by omega), List.take_of_length_le (by omega), if_pos (by simp; omega)]
    simp [wNext]
  | succ d ih =>
    intro k i hi hk
    obtain ⟨k, rfl⟩ : ∃ m, k = m + 1 := ⟨k - 1, by omega⟩
    have h1 : okE (rd_T42 L i) := okL_rd hL (by omega) (by omega)
    have g1 : rd_T42 L i = L[i]'(by omega) := rdE_at _
    have h2 : okE x0[j] := h0 _ (List.getElem_mem _)
    simp only [impl_eqTable.l1]
    rw [if_pos (by omega), if_pos (by omega), if_pos (by omega), impl_one_eq]
    simp only [bS]
    rw [impl_minus_eq (ok_of inF_1) h2]
    simp only [bS]
    rw [impl_times_eq h1 (ok_sub _ _), impl_times_eq h1 h2]
    simp only [bS]
    rw [if_pos (by simp; omega), if_pos (by simp; omega), w64 (by omega) (by omega), g1]
    have e := ih k (i + 1) (by omega) (by omega)
    rw [List.take_succ_eq_append_getElem (by omega), List.map_append, List.map_append] at e
    rw [show (i : Int) + 1 = ((i + 1 : Nat) : Int) by omega]
    refine Eq.trans e ?_
    congr 1
    omega
theorem eqT_l0 (x0 : List E) (h0 : okL x0) (hn : x0.length ≤ 6) (d : Nat) : ∀ (ks ki j : Nat) (L : List E), j + d = x0.length → d * 200 < ks → d * 200 < ki → okL L → L.length = 2 ^ j →
    spec_l06Eq.l0 ks x0 L j = some (wAll L (x0.drop j)) ∧ impl_eqTable.l0 ki L x0 (x0.length : Int) j = some (wAll L (x0.drop j)) := by
  induction d with
  | zero =>
    intro ks ki j L hj hks hki hL hl
    obtain ⟨ks, rfl⟩ : ∃ m, ks = m + 1 := ⟨ks - 1, by omega⟩
    obtain ⟨ki, rfl⟩ : ∃ m, ki = m + 1 := ⟨ki - 1, by omega⟩
    simp only [spec_l06Eq.l0, impl_eqTable.l0]
    rw [if_neg (by omega), if_neg (by omega), List.drop_eq_nil_of_le (by omega)]
    exact ⟨rfl, rfl⟩
  | succ d ih =>
    intro ks ki j L hj hks hki hL hl
    obtain ⟨ks, rfl⟩ : ∃ m, ks = m + 1 := ⟨ks - 1, by omega⟩
    obtain ⟨ki, rfl⟩ : ∃ m, ki = m + 1 := ⟨ki - 1, by omega⟩
    have hlt : j < x0.length := by omega
    have hp : L.length ≤ 64 := by
      rw [hl]
      exact Nat.le_trans (Nat.pow_le_pow_right (by omega) (show j ≤ 6 by omega)) (by decide)
    have hp2 : (wNext L x0[j]).length = 2 ^ (j + 1) := by rw [wNext_length, hl, Nat.pow_succ]; omega
    simp only [spec_l06Eq.l0, impl_eqTable.l0]
    rw [w64 (n := 2 * (L.length : Int)) (by omega) (by omega), if_pos (by omega), if_pos (by omega), if_pos (by omega), if_pos (by omega), if_pos (by omega), if_pos (by omega), rdE_at hlt]
    have e1 := specEq_l1 x0 L h0 hL j hlt (by omega) (by omega) L.length ks 0 (by omega) (by omega)
    have e2 := implEq_l1 x0 L h0 hL j hlt (by omega) (by omega) L.length ki 0 (by omega) (by omega)
    have e3 : List.replicate (2 * (L.length : Int)).toNat zE = List.replicate L.length zE ++ List.replicate L.length zE := by
      rw [List.replicate_append_replicate]; congr 1; omega
    simp only [List.take_zero, List.map_nil, List.nil_append, Nat.sub_zero, Int.natCast_zero] at e1 e2
    rw [show List.replicate (2 * (L.length : Int)).toNat z42 = _ from e3, e1, e2, w64 (by omega) (by omega), show (j : Int) + 1 = ((j + 1 : Nat) : Int) by omega]
    have e4 := ih (ks - L.length - 1) (ki - L.length - 1) (j + 1) (wNext L x0[j]) (by omega) (by omega) (by omega) (wNext_ok _ _) hp2
    rw [List.drop_eq_getElem_cons hlt]
    exact e4
theorem wAll_ok (ps : List E) : ∀ L, okL L → okL (wAll L ps) := by
  induction ps with
  | nil => intro L h; exact h
  | cons p ps ih => intro L h; exact ih _ (wNext_ok _ _)
theorem wAll_length (ps : List E) : ∀ L, (wAll L ps).length = L.length * 2 ^ ps.length := by
  induction ps with
  | nil => intro L; simp [wAll]
  | cons p ps ih => intro L; rw [wAll, ih, wNext_length, List.length_cons, Nat.pow_succ, Nat.mul_assoc, Nat.mul_left_comm, Nat.mul_comm 2 (2 ^ _)]
def eqTab (x0 : List E) : List E := wAll [eof 1] x0
theorem eqTab_ok (x0 : List E) : okL (eqTab x0) := wAll_ok _ _ (okL_one (ok_of inF_1))
theorem eqTab_length (x0 : List E) : (eqTab x0).length = 2 ^ x0.length := by unfold eqTab; rw [wAll_length]; simp
theorem l06Eq_eq {x0 : List E} (h0 : okL x0) (hn : x0.length ≤ 6) {k : Nat} (hk : 1200 < k) : spec_l06Eq.f k x0 = some (eqTab x0) := by
  unfold spec_l06Eq.f
  rw [l06One_eq]
  have := (eqT_l0 x0 h0 hn x0.length k k 0 [eof 1] (by omega) (by omega) (by omega) (okL_one (ok_of inF_1)) rfl).1
  exact this
theorem eqTable_eq {x0 : List E} (h0 : okL x0) (hn : x0.length ≤ 6) {k : Nat} (hk : 1200 < k) : impl_eqTable.f k x0 = some (eqTab x0) := by
  unfold impl_eqTable.f
  rw [impl_one_eq]
  have := (eqT_l0 x0 h0 hn x0.length k k 0 [eof 1] (by omega) (by omega) (by omega) (okL_one (ok_of inF_1)) rfl).2
  exact this
end Go.Proofs.Ytlfnfalckfggkaa.PT
end
section
/- The equality weight of two points, alike on both sides, the lists untouched. -/
namespace Go.Proofs.Ytlfnfalckfggkaa.fnExactEqAt
open Go.Proofs.Ytlfnfalckfggkaa.PT Go.RowKit Go.Proofs.YtlfnfalckfggkaaO Go.Proofs.YtlfnfalckfggkaaW.PrintWords Go.Proofs.YtlfnfalckfggkaaW.PrintLast Go.Proofs.YtlfnfalckfggkaaW.PrintMore
set_option linter.unusedSimpArgs false
theorem same (l m : List E) (hl : l.length + m.length ≤ 1048576) {k : Nat} (hk : l.length + m.length + 5000 ≤ k) : ∃ r, spec_EqAt.f k l m = some r ∧ impl_EqAt.f k l m = some r := by
  obtain ⟨k, rfl⟩ : ∃ m, k = m + 1 + 1 := ⟨k - 2, by omega⟩
  unfold spec_EqAt.f impl_EqAt.f
  have big : ∃ r, spec_EqAt.j0 (k + 1 + 1) l m true = some r ∧ impl_EqAt.j0 (k + 1 + 1) l m true = some r := by
    simp only [spec_EqAt.j0, impl_EqAt.j0, if_true]; exact ⟨_, rfl, rfl⟩
  have bad : ∃ r, spec_EqAt.j1 (k + 1) l m true = some r ∧ impl_EqAt.j1 (k + 1) l m true = some r := by
    simp only [spec_EqAt.j1, impl_EqAt.j1, if_true]; exact ⟨_, rfl, rfl⟩
  by_cases h1 : (l.length : Int) > 4096
  · rw [if_pos h1, if_pos h1]; exact big
  rw [if_neg h1, if_neg h1]
  by_cases h2 : (m.length : Int) > 4096
  · rw [decide_eq_true h2]; exact big
  rw [decide_eq_false h2]
  simp only [spec_EqAt.j0, impl_EqAt.j0, Bool.false_eq_true, if_false]
  rw [l06Point_eq (by omega), isPoint_eq]
  simp only [bS]
  by_cases p1 : pointB l = true
  · rw [if_pos p1, if_pos p1, l06Point_eq (by omega), isPoint_eq]
    simp only [bS]
    by_cases p2 : pointB m = true
    · rw [p2]
      simp only [Bool.not_true, spec_EqAt.j1, impl_EqAt.j1, Bool.false_eq_true, if_false]
      by_cases h3 : (l.length : Int) = (m.length : Int)
      · rw [if_pos h3, if_pos h3]
        obtain ⟨q, e1, e2⟩ := eqAt_same (pointB_iff p1).2 (pointB_iff p2).2 (by omega) (by omega) (k := k) (by omega)
        rw [e1, e2]; exact ⟨_, rfl, rfl⟩
      · rw [if_neg h3, if_neg h3]; exact ⟨_, rfl, rfl⟩
    · rw [Bool.eq_false_iff.mpr p2]; exact bad
  · rw [if_neg p1, if_neg p1]; exact bad
theorem pureFnExactEqAt : Pure := by
  intro x y hx hy
  by_cases h : (x.length : Int) ≤ 1048576
  · by_cases h2 : (y.length : Int) ≤ 1048576 - x.length
    · have hl := convL_length x
      have hm := convL_length y
      refine ⟨(x.length + y.length + 5000) + 1, ?_⟩
      unfold laws_FnExactEqAt.f
      generalize hK : x.length + y.length + 5000 = K
      obtain ⟨r, e1, e2⟩ := same (convL x) (convL y) (by omega) (k := K + 1) (by omega)
      rw [szExtS_fit (by omega) h]
      simp only [bS]
      rw [if_neg (by omega), szExtS_fit (by omega) h2]
      simp only [bS]
      rw [if_neg (by omega), toExtS_eq (k := K + 1) (by omega) (by omega), toExtS_eq (k := K + 1) (by omega) (by omega)]
      simp only [bS]
      rw [e1, e2]
      simp only [bS]
      rw [eqExt_refl]
      simp only [bS, if_true, bne_self_eq_false, laws_FnExactEqAt.j0, Bool.false_eq_true, if_false]
      rw [toExtS_eq (k := K) (by omega) (by omega), toExtS_eq (k := K) (by omega) (by omega)]
      simp only [bS]
      rw [eqExtS_refl (k := K) (by omega) (by omega)]
      simp only [bS, if_true]
      rw [eqExtS_refl (k := K) (by omega) (by omega)]
      simp only [bS, if_true]
    · refine ⟨1, ?_⟩
      unfold laws_FnExactEqAt.f
      rw [szExtS_fit (by omega) h]
      simp only [bS]
      rw [if_neg (by omega), szExtS_big (by omega) (by omega) hy.1 (by omega)]
      simp
  · refine ⟨1, ?_⟩
    unfold laws_FnExactEqAt.f
    rw [szExtS_big (by omega) (by omega) hx.1 (by omega)]
    simp
end Go.Proofs.Ytlfnfalckfggkaa.fnExactEqAt
end
