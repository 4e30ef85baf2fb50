/- Part 3 of the proof of FnExactRoundOf: what functions compute, shown step by step, and what that says (the claim's last text states the law). -/
import Derived.Test.YtcfdefkpheeibaaProg
import Derived.Test.YtcfdefkpheeibaaVMore
import Derived.Test.YtcfdefkpheeibaaVWords
import Derived.Test.YtcfdefkpheeibaaVLast
import Derived.Test.YtcfdefkpheeibaaVTab
import Derived.Test.YtcfdefkpheeibaaVQPut
import Derived.Test.YtcfdefkpheeibaaVApart
import Derived.Test.YtcfdefkpheeibaaVArr
import Derived.Test.YtcfdefkpheeibaaVZeros
import Derived.Test.YtcfdefkpheeibaaVFoot
import Derived.Test.YtcfdefkpheeibaaVKept
import Derived.Test.YtcfdefkpheeibaaVShare
import Derived.Test.YtcfdefkpheeibaaVN
import Derived.Test.YtcfdefkpheeibaaVRepsOne
import Derived.Test.YtcfdefkpheeibaaVNEv
import Derived.Test.YtcfdefkpheeibaaRows
import Derived.JoinedOf
import Derived.WalkKit
import Derived.ProofKit
import Derived.Below
import Derived.Deep.Draws
import Derived.Deep.AppendLies
import Derived.Maps.AppendAt
import Derived.OwnWalk
import Derived.Laws.BytesArg
import Derived.Laws.MakeOwn
import Derived.Laws.OwnMore
import Derived.Deep.OwnRows
import Derived.Tactics
import Derived.Lib.ConvBytes
import Derived.Laws.Slices
import Derived.KernelRfl
import Derived.RowKit3
import Derived.Deep.LoopGhost
import Derived.Deep.QuietTactic
import Derived.BigQuiet
import Derived.WideLaws
import Derived.Deep.DeepCutAuto
import Derived.Deep.CutBlock
import Derived.Deep.RegionHeld3
import Derived.Laws.Rows
import Derived.Lib.AppendStr
import Derived.ArgAppend
import Derived.Laws.IdiomCopy
import Derived.OrdersHeld
import Derived.Laws.BitsLemmas
import Derived.RowKit
import Derived.OpenShut
import Derived.ShutString
import Derived.ChangeOld
import Derived.SizedLaws
import Derived.Deep.Slices
import Derived.ChangeArms
import Derived.Test.YtcfdefkpheeibaaZFnExactRoundOf2
section
namespace Go.Proofs.Ytcfdefkpheeibaa.PT
open Go.RowKit Go.Proofs.YtcfdefkpheeibaaW.PrintWords Go.Proofs.YtcfdefkpheeibaaW.PrintLast Go.Proofs.YtcfdefkpheeibaaW.PrintMore
attribute [local go_sem] max2_int min2_int max_two min_two max_three min_three max_four min_four   -- for this text's walks alone
set_option linter.unusedVariables false
set_option linter.unusedSimpArgs false

/-! ### laws_markExtS: function 12 -/
def laws_markExtS.l0 : Nat → List (S44) → Int → Int → Option (Int × (List (S44)))
  | 0, _, _, _ => none
  | k + 1, x0, x1, x5 => if x5 < (x0.length : Int) then (if 0 ≤ x5 then ((some (x0.set (x5 : Int).toNat (⟨x1, (rd_T44 x0 x5).f1⟩ : S44) : List (S44))).bind fun y101 => (laws_markExtS.l0 k (y101.set (x5 : Int).toNat (⟨(rd_T44 y101 x5).f0, wrap64 (x1 + 1)⟩ : S44)) (wrap64 ((wrap64 (x1 + 1)) + 1)) (wrap64 (x5 + 1)))) else (none)) else (some (x1, x0))
def laws_markExtS.f (k : Nat) (l0 : List (S44)) (a1 : Int) : Option (Int × (List (S44))) := laws_markExtS.l0 k l0 a1 0
theorem laws_markExtS.mono_l : ∀ k, (∀ y0 y1 y2, LeO (laws_markExtS.l0 k y0 y1 y2) (laws_markExtS.l0 (k + 1) y0 y1 y2))
  | 0 => fun _ _ _ r h => by simp [laws_markExtS.l0] at h
  | k + 1 => by
    have ih0 := laws_markExtS.mono_l k
    · intro y0 y1 y2
      unfold laws_markExtS.l0
      repeat' first
      | (with_reducible exact ih0 _ _ _)
      | (with_reducible exact LeO.refl _)
      | (with_reducible exact LeO.none _)
      | (with_reducible refine LeO.ite ?_ ?_)
      | (with_reducible refine LeO.bind ?_ (fun _ => ?_))
      | exact ih0 _ _ _
      | exact LeO.none _
      | refine LeO.ite ?_ ?_
      | refine LeO.bind ?_ (fun _ => ?_)
theorem laws_markExtS.mono : ∀ a0 a1 k, LeO (laws_markExtS.f k a0 a1) (laws_markExtS.f (k + 1) a0 a1) := by
  intro a0 a1 k
  have ih0 := laws_markExtS.mono_l k
  unfold laws_markExtS.f
  repeat' first
      | (with_reducible exact ih0 _ _ _)
      | (with_reducible exact LeO.refl _)
      | (with_reducible exact LeO.none _)
      | (with_reducible refine LeO.ite ?_ ?_)
      | (with_reducible refine LeO.bind ?_ (fun _ => ?_))
      | exact ih0 _ _ _
      | exact LeO.none _
      | refine LeO.ite ?_ ?_
      | refine LeO.bind ?_ (fun _ => ?_)
set_option maxHeartbeats 8000000 in
set_option maxRecDepth 100000 in
theorem laws_markExtS.calls (k : Nat) (P0_ : Nat → Prop) (u9000_ : Value) (l0 : List (S44)) (a1 : Int) (r1 : Int) (r2 : List (S44)) (w0 w : World) (hB : Below w0.heap.size w0 w) (ho0 : Kd.R k44 44 w w0.heap.size P0_ u9000_ l0) (h : laws_markExtS.f k l0 a1 = some (r1, r2)) :
    Calls Try.prog 12 #[u9000_, .int .i64 a1] w fun e w' => e = .returned (.int .i64 r1) ∧ Kd.R k44 44 w' w0.heap.size (fun k_ => (P0_ k_ ∨ w.heap.size ≤ k_)) u9000_ r2 ∧ Below w0.heap.size w0 w' ∧ Kept w w' (fun k_ => P0_ k_) := by
  have HO0 := Aside0.mk (show Kd.R k44 44 w w0.heap.size (fun k_ => (P0_ k_ ∨ w.heap.size ≤ k_)) u9000_ l0 from Kd.R_mono ho0 (fun k_ hk => (.inl hk)))
  have HK := Aside0.mk (Kept.refl w (fun k_ => P0_ k_))
  have HW0 := Aside0.mk hB.size
  have HB := Aside0.mk hB
  clear hB
  have H : (laws_markExtS.l0 k l0 a1 0) = some (r1, r2) := h
  clear h
  have H' := Aside0.mk H
  clear H
  go_enter Try.func12, Try.ntmps12
  go_wp2
  go_loopg [1, 5] k (fun kq v1 v5 w' => ∃ (x0_1 : List (S44)) (x1_1 : Int) (x5_1 : Int), v1 = .int .i64 x1_1 ∧ v5 = .int .i64 x5_1 ∧ Aside0 (laws_markExtS.l0 kq x0_1 x1_1 x5_1 = some (r1, r2)) ∧ Aside0 (kq ≤ k) ∧ Aside0 (Kd.R k44 44 w' w0.heap.size (fun k_ => (P0_ k_ ∨ w.heap.size ≤ k_)) u9000_ x0_1) ∧ Aside0 (Kept w w' (fun k_ => P0_ k_)) ∧ Aside0 (Below w0.heap.size w0 w'))
  case atStart => exact ⟨(l0), (a1), (0), qz0_, qz0_, H', ⟨Nat.le_refl _⟩, ⟨by (with_reducible repeat (first | apply Kd.R_alloc | apply Kd.R_drewN | apply Kd.R_drew)); exact HO0.out⟩, ⟨by repeat (first | (with_reducible first | exact HK.out | apply Kept.alloc | apply Kept.drewN | apply Kept.drew) | exact HK.out)⟩, ⟨by repeat (first | (with_reducible first | exact HB.out | apply below_alloc | apply pw_below_drewN | apply below_drew1) | exact HB.out)⟩⟩
  case round =>
    clear H'
    try clear c1
    try clear p2
    obtain ⟨x0_1, x1_1, x5_1, rfl, rfl, HA, HK1, HO_0, HK, HB⟩ := hrel
    cases gk with
    | zero => exact absurd HA.out (by simp [laws_markExtS.l0])
    | succ k1 =>
      have H := HA.out
      clear HA
      simp only [laws_markExtS.l0] at H
      by_cases c3 : x5_1 < (x0_1.length : Int)
      · rw [if_pos c3] at H
        have c3b0 : decide (x5_1 < (x0_1.length : Int)) = true := decide_eq_true c3
        clear c3
        by_cases c4 : 0 ≤ x5_1
        · rw [if_pos c4] at H
          have c4b0 : decide (0 ≤ x5_1) = true := decide_eq_true c4
          clear c4
          obtain ⟨y101, hy101⟩ : ∃ y_ : List (S44), y_ = (x0_1.set (x5_1 : Int).toNat (⟨x1_1, (rd_T44 x0_1 x5_1).f1⟩ : S44)) := ⟨_, rfl⟩
          replace H : (laws_markExtS.l0 k1 (y101.set (x5_1 : Int).toNat (⟨(rd_T44 y101 x5_1).f0, wrap64 (x1_1 + 1)⟩ : S44)) (wrap64 ((wrap64 (x1_1 + 1)) + 1)) (wrap64 (x5_1 + 1))) = some (r1, r2) := by first | (rw [hy101]; with_reducible exact H) | (have H2_ := (Option.bind_some _ _).symm.trans H; rw [hy101]; with_reducible exact H2_) | (have H2_ := (Option.bind_some _ _).symm.trans H; with_reducible exact H2_) | with_reducible exact H | (rw [hy101]; exact H) | exact H
          have Ny101 := Aside0.mk hy101
          clear hy101
          obtain ⟨y102, hy102⟩ : ∃ y_ : List (S44), y_ = (y101.set (x5_1 : Int).toNat (⟨(rd_T44 y101 x5_1).f0, wrap64 (x1_1 + 1)⟩ : S44)) := ⟨_, rfl⟩
          replace H : (laws_markExtS.l0 k1 y102 (wrap64 ((wrap64 (x1_1 + 1)) + 1)) (wrap64 (x5_1 + 1))) = some (r1, r2) := by first | (rw [hy102]; with_reducible exact H) | (have H2_ := (Option.bind_some _ _).symm.trans H; rw [hy102]; with_reducible exact H2_) | (have H2_ := (Option.bind_some _ _).symm.trans H; with_reducible exact H2_) | with_reducible exact H | (rw [hy102]; exact H) | exact H
          have Ny102 := Aside0.mk hy102
          clear hy102
          have H' := Aside0.mk H
          clear H
          obtain ⟨Ao7, co7, eo7⟩ := Kd.R_slice HO_0.out
          subst eo7
          have p5 : 0 ≤ (x5_1 : Int) := of_decide_eq_true qz1_
          have q5 : (x5_1 : Int) < ((x0_1.length : Int) : Int) := of_decide_eq_true qz1_
          obtain ⟨go5, co5, eo5, gb5, gl5, cl5, HG5⟩ := Kd.R_form HO_0.out (by omega)
          (first | cases eo5 | (injection eo5 with ea_ en_ ec_; (first | subst ea_ | (injection ea_ with ea_; subst ea_)); subst ec_; clear en_))
          have GB5 := Aside0.mk gb5
          have GG5 := Aside0.mk HG5
          clear gb5 gl5 HG5
          have HMgo5 := Aside0.mk (show (P0_ go5 ∨ w.heap.size ≤ go5) from (HO_0.out.1 _ rfl))
          obtain ⟨ce5, hcl5, hM5, hcc5, hfr5⟩ := Kd.R_elem HO_0.out z44 (x5_1 : Int) p5 q5
          obtain rfl := k44_openM hM5
          have hx5_0 : wr.cell? ⟨go5, (x5_1 : Int).toNat * 2, none⟩ = some (.int .i64 ((rd_T44 x0_1 x5_1).f0)) := hcc5 0 _ rfl
          have hx5_1 : wr.cell? ⟨go5, (x5_1 : Int).toNat * 2 + 1, none⟩ = some (.int .i64 ((rd_T44 x0_1 x5_1).f1)) := hcc5 1 _ rfl
          have hf5_0 : wr.frozen? ⟨go5, (x5_1 : Int).toNat * 2, none⟩ = false := hfr5 0
          have hf5_1 : wr.frozen? ⟨go5, (x5_1 : Int).toNat * 2 + 1, none⟩ = false := hfr5 1
          (try clear hcl5); (try clear hcc5); (try clear hfr5); (try clear hM5)
          replace p5 := eq_true p5
          replace q5 := eq_true q5
          have HX8 := Aside0.mk (show Kd.R k44 44 wr w0.heap.size (fun k_ => (P0_ k_ ∨ w.heap.size ≤ k_)) (.slice (some ⟨go5, 0, none⟩) x0_1.length co7) x0_1 from (by (with_reducible repeat (first | apply Kd.R_alloc | apply Kd.R_drewN | apply Kd.R_drew)); exact HO_0.out))
          obtain ⟨ce8, hcl8, hM8, hcc8, hfr8⟩ := Kd.R_elem HX8.out z44 (x5_1 : Int) (of_decide_eq_true qz1_) (by have h_ : (x5_1 : Int) < ((x0_1.length : Int) : Int) := of_decide_eq_true qz1_; first | exact h_ | (have e_ := (Kd.R_reads' HO_0.out).1; omega) | simpa using h_)
          obtain rfl := k44_openM hM8
          have HP8 := Kd.R_seg HX8.out (x5_1 : Int) (of_decide_eq_true qz1_) (by have h_ : (x5_1 : Int) < ((x0_1.length : Int) : Int) := of_decide_eq_true qz1_; first | exact h_ | (have e_ := (Kd.R_reads' HO_0.out).1; omega) | simpa using h_) (seg := [.int .i64 x1_1]) (j := 0) hcl8 hcc8 (show 1 ≤ 2 from by decide) (x' := (⟨x1_1, (rd_T44 x0_1 x5_1).f1⟩ : S44)) (k44_mkM _ _ _ (⟨x1_1, (rd_T44 x0_1 x5_1).f1⟩ : S44) ) (fun _ hk => hk)
          have hx8_0 := hcc8 0 _ rfl
          (try simp only [show (k44).sz = 2 from rfl, Nat.mul_one, Nat.add_zero] at hx8_0)
          have hf8_0 := hfr8 0
          (try simp only [show (k44).sz = 2 from rfl, Nat.mul_one, Nat.add_zero] at hf8_0)
          (try clear hcl8); (try clear hcc8); (try clear hfr8); (try clear hM8)
          go_wp2_with (first | ((with_reducible refine gate_store (t := 3) (p := 16) rfl ?_); refine store_event (t := 3) (p := 16) (v := ?vo_w9) (w1 := (wr.setCell ⟨go5, (x5_1 : Int).toNat * 2, none⟩ (.int .i64 x1_1))) ?hg ?ho ?hn ?hr ?_; (case ho => rfl); (case hg => rfl); (case hn => rfl); (case hr => first | (go_simp; done) | (go_simp; rfl)); intro w9 hw; have hg : wr.grownBy w9 (some go5) := (by rw [hw]; exact HP8.2); have hp_ : Kd.R k44 44 w9 w0.heap.size (fun k_ => (P0_ k_ ∨ w.heap.size ≤ k_)) (.slice (some ⟨go5, 0, none⟩) x0_1.length co7) y101 := (by rw [hw, Ny101.out]; exact HP8.1); clear HP8; have n0_ := Aside0.mk (hp_); have n1_ := Aside0.mk ((by rw [hw]; exact below_set (HB.out) GB5.out : Below w0.heap.size w0 w9)); have n2_ := Aside0.mk (Kept.of_grown (S := (fun k_ => P0_ k_)) hg (by repeat (first | (with_reducible first | exact HK.out | apply Kept.alloc | apply Kept.drewN | apply Kept.drew) | exact HK.out)) (fun k_ e_ => (HO_0.out.1 k_ e_))); clear HO_0; clear HB; clear HK; have HO_0 := n0_; have HB := n1_; have HK := n2_; clear n0_ n1_ n2_; clear hg hw hp_; have p6 : 0 ≤ (x5_1 : Int) := of_decide_eq_true qz1_; have q6 : (x5_1 : Int) < ((x0_1.length : Int) : Int) := of_decide_eq_true qz1_; obtain ⟨ce6, hcl6, hM6, hcc6, hfr6⟩ := Kd.R_elem HO_0.out z44 (x5_1 : Int) p6 q6; obtain rfl := k44_openM hM6; have hx6_0 : w9.cell? ⟨go5, (x5_1 : Int).toNat * 2, none⟩ = some (.int .i64 ((rd_T44 y101 x5_1).f0)) := hcc6 0 _ rfl; have hx6_1 : w9.cell? ⟨go5, (x5_1 : Int).toNat * 2 + 1, none⟩ = some (.int .i64 ((rd_T44 y101 x5_1).f1)) := hcc6 1 _ rfl; have hf6_0 : w9.frozen? ⟨go5, (x5_1 : Int).toNat * 2, none⟩ = false := hfr6 0; have hf6_1 : w9.frozen? ⟨go5, (x5_1 : Int).toNat * 2 + 1, none⟩ = false := hfr6 1; (try clear hcl6); (try clear hcc6); (try clear hfr6); (try clear hM6); replace p6 := eq_true p6; replace q6 := eq_true q6; have HX10 := Aside0.mk (show Kd.R k44 44 w9 w0.heap.size (fun k_ => (P0_ k_ ∨ w.heap.size ≤ k_)) (.slice (some ⟨go5, 0, none⟩) x0_1.length co7) y101 from (by (with_reducible repeat (first | apply Kd.R_alloc | apply Kd.R_drewN | apply Kd.R_drew)); exact HO_0.out)); obtain ⟨ce10, hcl10, hM10, hcc10, hfr10⟩ := Kd.R_elem HX10.out z44 (x5_1 : Int) (of_decide_eq_true qz1_) (by have h_ : (x5_1 : Int) < ((x0_1.length : Int) : Int) := of_decide_eq_true qz1_; first | exact h_ | (have e_ := (Kd.R_reads' HO_0.out).1; omega) | simpa using h_); obtain rfl := k44_openM hM10; have HP10 := Kd.R_seg HX10.out (x5_1 : Int) (of_decide_eq_true qz1_) (by have h_ : (x5_1 : Int) < ((x0_1.length : Int) : Int) := of_decide_eq_true qz1_; first | exact h_ | (have e_ := (Kd.R_reads' HO_0.out).1; omega) | simpa using h_) (seg := [.int .i64 (wrap64 (x1_1 + 1))]) (j := 1) hcl10 hcc10 (show 2 ≤ 2 from by decide) (x' := (⟨(rd_T44 y101 x5_1).f0, wrap64 (x1_1 + 1)⟩ : S44)) (k44_mkM _ _ _ (⟨(rd_T44 y101 x5_1).f0, wrap64 (x1_1 + 1)⟩ : S44) ) (fun _ hk => hk); have hx10_1 := hcc10 1 _ rfl; (try simp only [show (k44).sz = 2 from rfl, Nat.mul_one, Nat.add_zero] at hx10_1); have hf10_1 := hfr10 1; (try simp only [show (k44).sz = 2 from rfl, Nat.mul_one, Nat.add_zero] at hf10_1); (try clear hcl10); (try clear hcc10); (try clear hfr10); (try clear hM10)) | ((with_reducible refine gate_store (t := 3) (p := 23) rfl ?_); refine store_event (t := 3) (p := 23) (v := ?vo_w11) (w1 := (w9.setCell ⟨go5, (x5_1 : Int).toNat * 2 + 1, none⟩ (.int .i64 (wrap64 (x1_1 + 1))))) ?hg ?ho ?hn ?hr ?_; (case ho => rfl); (case hg => rfl); (case hn => rfl); (case hr => first | (go_simp; done) | (go_simp; rfl)); intro w11 hw; have hg : w9.grownBy w11 (some go5) := (by rw [hw]; exact HP10.2); have hp_ : Kd.R k44 44 w11 w0.heap.size (fun k_ => (P0_ k_ ∨ w.heap.size ≤ k_)) (.slice (some ⟨go5, 0, none⟩) x0_1.length co7) y102 := (by rw [hw, Ny102.out]; exact HP10.1); clear HP10; have n0_ := Aside0.mk (hp_); have n1_ := Aside0.mk ((by rw [hw]; exact below_set (HB.out) GB5.out : Below w0.heap.size w0 w11)); have n2_ := Aside0.mk (Kept.of_grown (S := (fun k_ => P0_ k_)) hg (by repeat (first | (with_reducible first | exact HK.out | apply Kept.alloc | apply Kept.drewN | apply Kept.drew) | exact HK.out)) (fun k_ e_ => (HO_0.out.1 k_ e_))); clear HO_0; clear HB; clear HK; have HO_0 := n0_; have HB := n1_; have HK := n2_; clear n0_ n1_ n2_; clear hg hw hp_))
          go_roundg k1
          case measure => have := HK1.out; omega
          case rel => exact ⟨(y102), (wrap64 ((wrap64 (x1_1 + 1)) + 1)), (wrap64 (x5_1 + 1)), qz0_, qz0_, H', ⟨by have := HK1.out; omega⟩, ⟨by (with_reducible repeat (first | apply Kd.R_alloc | apply Kd.R_drewN | apply Kd.R_drew)); exact HO_0.out⟩, ⟨by repeat (first | (with_reducible first | exact HK.out | apply Kept.alloc | apply Kept.drewN | apply Kept.drew) | exact HK.out)⟩, ⟨by repeat (first | (with_reducible first | exact HB.out | apply below_alloc | apply pw_below_drewN | apply below_drew1) | exact HB.out)⟩⟩
        · rw [if_neg c4] at H
          exact absurd H (by simp)
      · rw [if_neg c3] at H
        have c3b0 : decide (x5_1 < (x0_1.length : Int)) = false := decide_eq_false c3
        clear c3
        simp only [Option.some.injEq, Prod.mk.injEq] at H
        obtain ⟨rfl, rfl⟩ := H
        obtain ⟨Ao12, co12, eo12⟩ := Kd.R_slice HO_0.out
        subst eo12
        go_wp2
        go_ret
        exact ⟨by first | rfl | (simp [errW_none, errW_some] <;> rfl) | (simp [*, errW_none, errW_some] <;> rfl), by (with_reducible repeat (first | apply Kd.R_alloc | apply Kd.R_drewN | apply Kd.R_drew)); exact HO_0.out, by repeat (first | (with_reducible first | exact HB.out | apply below_alloc | apply pw_below_drewN | apply below_drew1) | exact HB.out), by repeat (first | (with_reducible first | exact HK.out | apply Kept.alloc | apply Kept.drewN | apply Kept.drew) | exact HK.out)⟩

end Go.Proofs.Ytcfdefkpheeibaa.PT
end
section
namespace Go.Proofs.Ytcfdefkpheeibaa.PT
open Go.RowKit Go.Proofs.YtcfdefkpheeibaaW.PrintWords Go.Proofs.YtcfdefkpheeibaaW.PrintLast Go.Proofs.YtcfdefkpheeibaaW.PrintMore
attribute [local go_sem] max2_int min2_int max_two min_two max_three min_three max_four min_four   -- for this text's walks alone
set_option linter.unusedVariables false
set_option linter.unusedSimpArgs false

/-! ### laws_markExtSS: function 11 -/
def laws_markExtSS.go (k : Nat) : List (List (S44)) → Int → Option Int
  | [], a => some a
  | l :: ls, a => (laws_markExtS.f k l a).bind fun t => laws_markExtSS.go k ls t.1
def laws_markExtSS.f (k : Nat) (l0 : List (List (S44))) (a1 : Int) : Option Int := laws_markExtSS.go k l0 a1
theorem laws_markExtSS.mono_go (k : Nat) : ∀ (l : List (List (S44))) (a : Int), LeO (laws_markExtSS.go k l a) (laws_markExtSS.go (k + 1) l a)
  | [], a => LeO.refl _
  | l :: ls, a => by
    unfold laws_markExtSS.go
    exact LeO.bind (laws_markExtS.mono _ _ _) (fun t => laws_markExtSS.mono_go k ls t.1)
theorem laws_markExtSS.mono : ∀ a0 a1 k, LeO (laws_markExtSS.f k a0 a1) (laws_markExtSS.f (k + 1) a0 a1) := fun a0 a1 k => laws_markExtSS.mono_go k a0 a1
theorem laws_markExtSS.back {wr w6 : World} {base j : Nat} {ok oki ok1 : Nat → Prop} {v vi : Value} {xs : List (List (S44))} {l2 : List (S44)} (hH : Kd.H (Kd.slice 44 k44) 24 wr base ok v xs (j : Int) oki [vi]) (hk : Kept wr w6 oki) (hR : Kd.R k44 44 w6 base ok1 vi l2) (h0 : ∀ k, vi.ownBlock = some k → oki k) :
    Kd.S (Kd.slice 44 k44) 24 w6 base ok v (xs.set j l2) :=
  Kd.H_back (Kd.H_kept hH hk (fun _ _ hn => hn)) (x' := l2) (okp := oki) ⟨vi, rfl, Kd.R_mono (Kd.R_tight rfl hR) (fun k hk => h0 k hk.symm)⟩ (fun _ h => h)
set_option maxHeartbeats 8000000 in
set_option maxRecDepth 100000 in
theorem laws_markExtSS.calls (k : Nat) (P0_ : Nat → Prop) (u9000_ : Value) (l0 : List (List (S44))) (a1 : Int) (r : Int) (w0 w : World) (hB : Below w0.heap.size w0 w) (ho0 : Kd.S (Kd.slice 44 k44) 24 w w0.heap.size P0_ u9000_ l0) (h : laws_markExtSS.f k l0 a1 = some r) :
    Calls Try.prog 11 #[u9000_, .int .i64 a1] w fun e w' => e = .returned (.int .i64 r) ∧ Below w0.heap.size w0 w' ∧ Kept w w' (fun k_ => P0_ k_) := by
  have HO0 := Aside0.mk ho0
  have HK := Aside0.mk (Kept.refl w (fun k_ => P0_ k_))
  have HW0 := Aside0.mk hB.size
  have HB := Aside0.mk hB
  have HS := Aside0.mk (show laws_markExtSS.go k (l0.drop 0) a1 = some r from h)
  obtain ⟨A0, c0, rfl⟩ := Kd.S_slice ho0
  clear hB h ho0
  go_enter Try.func11, Try.ntmps11
  go_wp2
  go_loopg [1, 5] l0.length (fun kq v1 v5 w' => ∃ (a : Int) (j : Nat) (ll : List (List (S44))), v1 = .int .i64 a ∧ v5 = .int .i64 j ∧ Aside0 (j + kq = l0.length ∧ ll.length = l0.length ∧ ll.drop j = l0.drop j) ∧ Aside0 (laws_markExtSS.go k (l0.drop j) a = some r) ∧ Aside0 (Kd.S (Kd.slice 44 k44) 24 w' w0.heap.size P0_ (.slice A0 l0.length c0) ll) ∧ Aside0 (Kept w w' (fun k_ => P0_ k_)) ∧ Aside0 (Below w0.heap.size w0 w'))
  case atStart => exact ⟨a1, 0, l0, by first | rfl | simp, by first | rfl | simp, ⟨by omega, rfl, rfl⟩, HS, HO0, HK, HB⟩
  case round =>
    clear HS HO0 HK HB
    obtain ⟨a, j, ll, rfl, rfl, HJ, HS, HO, HK, HB⟩ := hrel
    obtain ⟨hj1, hj2, hj3⟩ := HJ.out
    have hm : l0.length ≤ 9223372036854775807 := by have := (Kd.S_reads' HO.out).2.2.2.1; omega
    cases gk with
    | zero =>
      have c1 : decide ((j : Int) < (l0.length : Int)) = false := decide_eq_false (by omega)
      have c2 : decide (j < l0.length) = false := decide_eq_false (by omega)
      have hnil : l0.drop j = [] := List.drop_eq_nil_of_le (by omega)
      have hr : a = r := by have h_ := HS.out; rw [hnil] at h_; exact Option.some.inj h_
      clear hj1 hj2 hj3 HJ hnil HS
      subst hr
      go_wp2
      go_ret
      exact ⟨by first | rfl | simp, by repeat (first | (with_reducible first | exact HB.out | apply below_alloc | apply pw_below_drewN | apply below_drew1) | exact HB.out), by repeat (first | (with_reducible first | exact HK.out | apply Kept.alloc | apply Kept.drewN | apply Kept.drew) | exact HK.out)⟩
    | succ k1 =>
      have hjl : j < l0.length := by omega
      have c1 : decide ((j : Int) < (l0.length : Int)) = true := decide_eq_true (by omega)
      have c2 : decide (j < l0.length) = true := decide_eq_true hjl
      obtain ⟨l, hl⟩ : ∃ l, l0.drop j = l :: l0.drop (j + 1) := ⟨l0[j], List.drop_eq_getElem_cons hjl⟩
      have hget : ll.getD j [] = l := by
        have h_ : (ll.drop j)[0]? = some l := by rw [hj3, hl]; rfl
        rw [List.getElem?_drop, Nat.add_zero] at h_
        rw [List.getD_eq_getElem?_getD, h_]; rfl
      have hS2 := HS.out
      rw [hl] at hS2
      obtain ⟨t, ht, hS3⟩ := Option.bind_eq_some_iff.mp hS2
      obtain ⟨t1, t2⟩ := t
      have HT := Aside0.mk ht
      have HS' := Aside0.mk (show laws_markExtSS.go k (l0.drop (j + 1)) t1 = some r from hS3)
      have hpos : 0 < ll.length := by omega
      obtain ⟨g, cap, ev, hge, hgl, cells, hcells⟩ := Kd.S_form HO.out hpos
      obtain ⟨hA, hc⟩ : A0 = some ⟨g, 0, none⟩ ∧ cap = c0 := by injection ev with e1 e2 e3; exact ⟨e1, e3.symm⟩
      subst hA
      subst hc
      have hS4 := HO.out
      obtain ⟨oki, c, hcl, hM, hcc, hfr, hoki, hH⟩ := Kd.S_elem hS4 [] (j : Int) (by omega) (by omega)
      simp only [Int.toNat_natCast] at hM hcc hfr hH
      rw [hget] at hM
      obtain ⟨v, hcv, hR⟩ := hM
      subst hcv
      obtain ⟨Av, cv, hv⟩ := Kd.R_slice hR
      subst hv
      have hx : wr.cell? ⟨g, j, none⟩ = some (.slice Av l.length cv) := by have h_ := hcc 0 _ rfl; simpa [Kd.slice] using h_
      have p5 : 0 ≤ (j : Int) := by omega
      have q5 : (j : Int) < (l0.length : Int) := by omega
      have p6 := eq_true p5
      have q6 := eq_true q5
      have HR := Aside0.mk hR
      have HH := Aside0.mk hH
      have HN := Aside0.mk hoki
      have HL := Aside0.mk (show ll.length = l0.length ∧ ll.drop (j + 1) = l0.drop (j + 1) by
        refine ⟨hj2, ?_⟩
        have h_ := congrArg (List.drop 1) hj3
        rwa [List.drop_drop, List.drop_drop] at h_)
      clear hS2 ht hS3 hS4 hcl hcc hfr hoki hH hget hl hj3 HS ev hcells hR p5 q5 hpos
      go_wp2_with ((with_reducible refine gate_callee (f := 12) rfl ?_); refine goesL_ (some 17) rfl rfl Try.func12 (by kernel_rfl) rfl #[.slice Av l.length cv, .int .i64 a] rfl (by (try simp only [List.map_toArray, List.map_cons, List.map_nil]); first | done | rfl) ?_; (with_reducible refine (laws_markExtS.calls k oki (.slice Av l.length cv) l a t1 t2 w0 _ ?side1 ?side2 HT.out).mono ?_); (case side1 => repeat (first | (with_reducible first | exact HB.out | apply below_alloc | apply pw_below_drewN | apply below_drew1) | exact HB.out)); (case side2 => (with_reducible repeat (first | apply Kd.R_alloc | apply Kd.R_drewN | apply Kd.R_drew)); exact HR.out); rintro e w6 ⟨rfl, hy0, hb, hkp⟩; refine ⟨_, rfl, ?_⟩; have n0_ := Aside0.mk (laws_markExtSS.back HH.out hkp hy0 HR.out.1); have n1_ := Aside0.mk (Kept.then_ HK.out hkp (fun k_ h_ => .inl (HN.out k_ h_).1)); have n2_ := Aside0.mk hb; clear HB HK HO HH HR HN; have HO := n0_; have HK := n1_; have HB := n2_; clear n0_ n1_ n2_ hy0 hb hkp)
      go_roundg k1
      case measure => omega
      case rel => exact ⟨t1, j + 1, ll.set j t2, by first | rfl | simp, by first | rfl | go_num, ⟨by omega, by rw [List.length_set]; exact HL.out.1, by rw [List.drop_set_of_lt (by omega)]; exact HL.out.2⟩, HS', HO, HK, HB⟩

end Go.Proofs.Ytcfdefkpheeibaa.PT
end
section
namespace Go.Proofs.Ytcfdefkpheeibaa.PT
open Go.RowKit Go.Proofs.YtcfdefkpheeibaaW.PrintWords Go.Proofs.YtcfdefkpheeibaaW.PrintLast Go.Proofs.YtcfdefkpheeibaaW.PrintMore
attribute [local go_sem] max2_int min2_int max_two min_two max_three min_three max_four min_four   -- for this text's walks alone
set_option linter.unusedVariables false
set_option linter.unusedSimpArgs false

/-! ### laws_heldExtS: function 13 -/
def laws_heldExtS.l0 : Nat → List (S44) → Int → Int → Option (Int)
  | 0, _, _, _ => none
  | k + 1, x0, x1, x5 => if x5 < (x0.length : Int) then (if 0 ≤ x5 then (if ((rd_T44 x0 x5).f0) = x1 then (if ((rd_T44 x0 x5).f1) = (wrap64 (x1 + 1)) then (laws_heldExtS.l0 k x0 (wrap64 ((wrap64 (x1 + 1)) + 1)) (wrap64 (x5 + 1))) else (some (-1))) else (some (-1))) else (none)) else (some x1)
def laws_heldExtS.f (k : Nat) (l0 : List (S44)) (a1 : Int) : Option (Int) := laws_heldExtS.l0 k l0 a1 0
theorem laws_heldExtS.mono_l : ∀ k, (∀ y0 y1 y2, LeO (laws_heldExtS.l0 k y0 y1 y2) (laws_heldExtS.l0 (k + 1) y0 y1 y2))
  | 0 => fun _ _ _ r h => by simp [laws_heldExtS.l0] at h
  | k + 1 => by
    have ih0 := laws_heldExtS.mono_l k
    · intro y0 y1 y2
      unfold laws_heldExtS.l0
      repeat' first
      | (with_reducible exact ih0 _ _ _)
      | (with_reducible exact LeO.refl _)
      | (with_reducible exact LeO.none _)
      | (with_reducible refine LeO.ite ?_ ?_)
      | (with_reducible refine LeO.bind ?_ (fun _ => ?_))
      | exact ih0 _ _ _
      | exact LeO.none _
      | refine LeO.ite ?_ ?_
      | refine LeO.bind ?_ (fun _ => ?_)
theorem laws_heldExtS.mono : ∀ a0 a1 k, LeO (laws_heldExtS.f k a0 a1) (laws_heldExtS.f (k + 1) a0 a1) := by
  intro a0 a1 k
  have ih0 := laws_heldExtS.mono_l k
  unfold laws_heldExtS.f
  repeat' first
      | (with_reducible exact ih0 _ _ _)
      | (with_reducible exact LeO.refl _)
      | (with_reducible exact LeO.none _)
      | (with_reducible refine LeO.ite ?_ ?_)
      | (with_reducible refine LeO.bind ?_ (fun _ => ?_))
      | exact ih0 _ _ _
      | exact LeO.none _
      | refine LeO.ite ?_ ?_
      | refine LeO.bind ?_ (fun _ => ?_)
set_option maxHeartbeats 8000000 in
set_option maxRecDepth 100000 in
theorem laws_heldExtS.calls (k : Nat) (A0 : Option Addr) (c0 : Nat) (l0 : List (S44)) (a1 : Int) (r : Int) (w : World) (hr0 : Kd.C k44 w A0 l0.length l0) (hc0 : l0.length ≤ c0) (h : laws_heldExtS.f k l0 a1 = some r) :
    Calls Try.prog 13 #[.slice A0 l0.length c0, .int .i64 a1] w fun e w' => e = .returned (.int .i64 r) ∧ Drawn0 w w' := by
  have HR0 := Aside0.mk hr0
  have HC0 := Aside0.mk hc0
  clear hr0 hc0
  have H : (laws_heldExtS.l0 k l0 a1 0) = some r := h
  clear h
  have H' := Aside0.mk H
  clear H
  go_enter Try.func13, Try.ntmps13
  go_wp2
  go_loopg [1, 5] k (fun kq v1 v5 w' => ∃ (x1_1 : Int) (x5_1 : Int), v1 = .int .i64 x1_1 ∧ v5 = .int .i64 x5_1 ∧ Aside0 (laws_heldExtS.l0 kq l0 x1_1 x5_1 = some r) ∧ Aside0 (kq ≤ k) ∧ Drawn0 w w')
  case atStart => exact ⟨(a1), (0), qz0_, qz0_, H', ⟨Nat.le_refl _⟩, by repeat (first | exact Drawn0.refl _ | apply Drawn0.step)⟩
  case round =>
    clear H'
    try clear c1
    try clear p2
    obtain ⟨x1_1, x5_1, rfl, rfl, HA, HK1, ⟨m1, rfl⟩⟩ := hrel
    cases gk with
    | zero => exact absurd HA.out (by simp [laws_heldExtS.l0])
    | succ k1 =>
      have H := HA.out
      clear HA
      simp only [laws_heldExtS.l0] at H
      by_cases c3 : x5_1 < (l0.length : Int)
      · rw [if_pos c3] at H
        have c3b0 : decide (x5_1 < (l0.length : Int)) = true := decide_eq_true c3
        clear c3
        by_cases c4 : 0 ≤ x5_1
        · rw [if_pos c4] at H
          have c4b0 : decide (0 ≤ x5_1) = true := decide_eq_true c4
          clear c4
          by_cases c5 : ((rd_T44 l0 x5_1).f0) = x1_1
          · rw [if_pos c5] at H
            have c5b0 : (((rd_T44 l0 x5_1).f0) == x1_1) = true := beq_iff_eq.mpr c5
            have c5b1 : (((rd_T44 l0 x5_1).f0) != x1_1) = false := bne_eq_false_iff_eq.mpr c5
            clear c5
            by_cases c6 : ((rd_T44 l0 x5_1).f1) = (wrap64 (x1_1 + 1))
            · rw [if_pos c6] at H
              have c6b0 : (((rd_T44 l0 x5_1).f1) == (wrap64 (x1_1 + 1))) = true := beq_iff_eq.mpr c6
              have c6b1 : (((rd_T44 l0 x5_1).f1) != (wrap64 (x1_1 + 1))) = false := bne_eq_false_iff_eq.mpr c6
              clear c6
              have H' := Aside0.mk H
              clear H
              have p101 : 0 ≤ (x5_1 : Int) := of_decide_eq_true qz1_
              have q101 : x5_1 < (l0.length : Int) := of_decide_eq_true qz1_
              obtain ⟨ad101, e101, hx101_0, hx101_1⟩ := at_T44 HR0.out x5_1 p101 q101
              cases e101
              replace p101 := eq_true p101
              replace q101 := eq_true q101
              have p102 : 0 ≤ (x5_1 : Int) := of_decide_eq_true qz1_
              have q102 : x5_1 < (l0.length : Int) := of_decide_eq_true qz1_
              obtain ⟨ad102, e102, hx102_0, hx102_1⟩ := at_T44 HR0.out x5_1 p102 q102
              obtain rfl : ad101 = ad102 := (by injection e102)
              replace p102 := eq_true p102
              replace q102 := eq_true q102
              go_wp2
              go_roundg k1
              case measure => have := HK1.out; omega
              case rel => exact ⟨(wrap64 ((wrap64 (x1_1 + 1)) + 1)), (wrap64 (x5_1 + 1)), qz0_, qz0_, H', ⟨by have := HK1.out; omega⟩, by repeat (first | exact Drawn0.refl _ | apply Drawn0.step)⟩
            · rw [if_neg c6] at H
              have c6b0 : (((rd_T44 l0 x5_1).f1) == (wrap64 (x1_1 + 1))) = false := beq_eq_false_iff_ne.mpr c6
              have c6b1 : (((rd_T44 l0 x5_1).f1) != (wrap64 (x1_1 + 1))) = true := bne_iff_ne.mpr c6
              obtain rfl := Option.some.inj H
              have p101 : 0 ≤ (x5_1 : Int) := of_decide_eq_true qz1_
              have q101 : x5_1 < (l0.length : Int) := of_decide_eq_true qz1_
              obtain ⟨ad101, e101, hx101_0, hx101_1⟩ := at_T44 HR0.out x5_1 p101 q101
              cases e101
              replace p101 := eq_true p101
              replace q101 := eq_true q101
              have p102 : 0 ≤ (x5_1 : Int) := of_decide_eq_true qz1_
              have q102 : x5_1 < (l0.length : Int) := of_decide_eq_true qz1_
              obtain ⟨ad102, e102, hx102_0, hx102_1⟩ := at_T44 HR0.out x5_1 p102 q102
              obtain rfl : ad101 = ad102 := (by injection e102)
              replace p102 := eq_true p102
              replace q102 := eq_true q102
              go_wp2
              go_ret
              exact ⟨by first | rfl | (simp; done) | (simp [*]; done), by repeat (first | exact Drawn0.refl _ | apply Drawn0.step)⟩
          · rw [if_neg c5] at H
            have c5b0 : (((rd_T44 l0 x5_1).f0) == x1_1) = false := beq_eq_false_iff_ne.mpr c5
            have c5b1 : (((rd_T44 l0 x5_1).f0) != x1_1) = true := bne_iff_ne.mpr c5
            obtain rfl := Option.some.inj H
            have p101 : 0 ≤ (x5_1 : Int) := of_decide_eq_true qz1_
            have q101 : x5_1 < (l0.length : Int) := of_decide_eq_true qz1_
            obtain ⟨ad101, e101, hx101_0, hx101_1⟩ := at_T44 HR0.out x5_1 p101 q101
            cases e101
            replace p101 := eq_true p101
            replace q101 := eq_true q101
            go_wp2
            go_ret
            exact ⟨by first | rfl | (simp; done) | (simp [*]; done), by repeat (first | exact Drawn0.refl _ | apply Drawn0.step)⟩
        · rw [if_neg c4] at H
          exact absurd H (by simp)
      · rw [if_neg c3] at H
        have c3b0 : decide (x5_1 < (l0.length : Int)) = false := decide_eq_false c3
        clear c3
        obtain rfl := Option.some.inj H
        go_wp2
        go_ret
        exact ⟨by first | rfl | (simp; done) | (simp [*]; done), by repeat (first | exact Drawn0.refl _ | apply Drawn0.step)⟩

end Go.Proofs.Ytcfdefkpheeibaa.PT
end
section
namespace Go.Proofs.Ytcfdefkpheeibaa.PT
open Go.RowKit Go.Proofs.YtcfdefkpheeibaaW.PrintWords Go.Proofs.YtcfdefkpheeibaaW.PrintLast Go.Proofs.YtcfdefkpheeibaaW.PrintMore
attribute [local go_sem] max2_int min2_int max_two min_two max_three min_three max_four min_four   -- for this text's walks alone
set_option linter.unusedVariables false
set_option linter.unusedSimpArgs false

/-! ### laws_FnExactRoundOf: function 3 -/
mutual
def laws_FnExactRoundOf.j0 : Nat → Int → List (List (S36)) → List (S44) → Int → List (List (S44)) → List (S44) → Int → Bool → Option (Bool)
  | 0, _, _, _, _, _, _, _, _ => none
  | k + 1, x0, x1, x6, x7, x8, x9, x10, x44 => if x44 = true then (some false) else ((laws_toExtSS.f k x1).bind fun t117 => ((laws_eqExtSS.f k x8 t117).bind fun t120 => (if t120 = true then ((laws_markExtSS.f k x8 1).bind fun t121 => (if t121 < 0 then (laws_FnExactRoundOf.j1 k x0 x1 x6 x7 x9 true) else ((laws_eqExtS.f k x9 x6).bind fun t122 => (if t122 = true then (laws_FnExactRoundOf.j1 k x0 x1 x6 x7 x9 (x10 != x7)) else (laws_FnExactRoundOf.j1 k x0 x1 x6 x7 x9 true))))) else (some false))))
def laws_FnExactRoundOf.j1 : Nat → Int → List (List (S36)) → List (S44) → Int → List (S44) → Bool → Option (Bool)
  | 0, _, _, _, _, _, _ => none
  | k + 1, x0, x1, x6, x7, x9, x65 => if x65 = true then (some false) else ((laws_markExtS.f k x9 1).bind fun bt123 => ((laws_heldExtS.f k bt123.2 1).bind fun t125 => (if t125 < 0 then (some false) else (if t125 = bt123.1 then ((laws_toExtSS.f k x1).bind fun t126 => ((impl_RoundOf.f k x0 t126).bind fun bt129 => ((laws_eqExtS.f k bt129.1 x6).bind fun t133 => (if t133 = true then (laws_FnExactRoundOf.j2 k bt123.2 bt123.1 (bt129.2 != x7)) else (laws_FnExactRoundOf.j2 k bt123.2 bt123.1 true))))) else (some false)))))
def laws_FnExactRoundOf.j2 : Nat → List (S44) → Int → Bool → Option (Bool)
  | 0, _, _, _ => none
  | k + 1, x9, x12, x92 => if x92 = true then (some false) else ((laws_heldExtS.f k x9 1).bind fun t134 => (if t134 < 0 then (some false) else (if t134 = x12 then (some true) else (some false))))
end
def laws_FnExactRoundOf.f (k : Nat) (a0 : Int) (l1 : List (List (S36))) : Option (Bool) := (laws_szExtSS.f k l1 1048576).bind fun t101 => (if t101 < 0 then (some true) else ((laws_toExtSS.f k l1).bind fun t102 => ((spec_RoundOf.f k a0 t102).bind fun bt105 => ((laws_toExtSS.f k l1).bind fun t109 => ((impl_RoundOf.f k a0 t109).bind fun bt112 => ((laws_eqExtS.f k bt112.1 bt105.1).bind fun t116 => (if t116 = true then (laws_FnExactRoundOf.j0 k a0 l1 bt105.1 bt105.2 t109 bt112.1 bt112.2 (bt112.2 != bt105.2)) else (laws_FnExactRoundOf.j0 k a0 l1 bt105.1 bt105.2 t109 bt112.1 bt112.2 true))))))))
theorem laws_FnExactRoundOf.mono_l : ∀ k, (∀ y0 y1 y2 y3 y4 y5 y6 y7, LeO (laws_FnExactRoundOf.j0 k y0 y1 y2 y3 y4 y5 y6 y7) (laws_FnExactRoundOf.j0 (k + 1) y0 y1 y2 y3 y4 y5 y6 y7)) ∧ (∀ y0 y1 y2 y3 y4 y5, LeO (laws_FnExactRoundOf.j1 k y0 y1 y2 y3 y4 y5) (laws_FnExactRoundOf.j1 (k + 1) y0 y1 y2 y3 y4 y5)) ∧ (∀ y0 y1 y2, LeO (laws_FnExactRoundOf.j2 k y0 y1 y2) (laws_FnExactRoundOf.j2 (k + 1) y0 y1 y2))
  | 0 => ⟨fun _ _ _ _ _ _ _ _ r h => by simp [laws_FnExactRoundOf.j0] at h, fun _ _ _ _ _ _ r h => by simp [laws_FnExactRoundOf.j1] at h, fun _ _ _ r h => by simp [laws_FnExactRoundOf.j2] at h⟩
  | k + 1 => by
    obtain ⟨ih0, ih1, ih2⟩ := laws_FnExactRoundOf.mono_l k
    refine ⟨?_, ?_, ?_⟩
    · intro y0 y1 y2 y3 y4 y5 y6 y7
      unfold laws_FnExactRoundOf.j0
      repeat' first
      | (with_reducible exact ih0 _ _ _ _ _ _ _ _)
      | (with_reducible exact ih1 _ _ _ _ _ _)
      | (with_reducible exact ih2 _ _ _)
      | (with_reducible exact impl_RoundOf.mono _ _ _)
      | (with_reducible exact laws_eqExtS.mono _ _ _)
      | (with_reducible exact laws_eqExtSS.mono _ _ _)
      | (with_reducible exact laws_heldExtS.mono _ _ _)
      | (with_reducible exact laws_markExtS.mono _ _ _)
      | (with_reducible exact laws_markExtSS.mono _ _ _)
      | (with_reducible exact laws_szExtSS.mono _ _ _)
      | (with_reducible exact laws_toExtSS.mono _ _)
      | (with_reducible exact spec_RoundOf.mono _ _ _)
      | (with_reducible exact LeO.refl _)
      | (with_reducible exact LeO.none _)
      | (with_reducible refine LeO.ite ?_ ?_)
      | (with_reducible refine LeO.bind ?_ (fun _ => ?_))
      | exact ih0 _ _ _ _ _ _ _ _
      | exact ih1 _ _ _ _ _ _
      | exact ih2 _ _ _
      | exact impl_RoundOf.mono _ _ _
      | exact laws_eqExtS.mono _ _ _
      | exact laws_eqExtSS.mono _ _ _
      | exact laws_heldExtS.mono _ _ _
      | exact laws_markExtS.mono _ _ _
      | exact laws_markExtSS.mono _ _ _
      | exact laws_szExtSS.mono _ _ _
      | exact laws_toExtSS.mono _ _
      | exact spec_RoundOf.mono _ _ _
      | exact LeO.none _
      | refine LeO.ite ?_ ?_
      | refine LeO.bind ?_ (fun _ => ?_)
    · intro y0 y1 y2 y3 y4 y5
      unfold laws_FnExactRoundOf.j1
      repeat' first
      | (with_reducible exact ih0 _ _ _ _ _ _ _ _)
      | (with_reducible exact ih1 _ _ _ _ _ _)
      | (with_reducible exact ih2 _ _ _)
      | (with_reducible exact impl_RoundOf.mono _ _ _)
      | (with_reducible exact laws_eqExtS.mono _ _ _)
      | (with_reducible exact laws_eqExtSS.mono _ _ _)
      | (with_reducible exact laws_heldExtS.mono _ _ _)
      | (with_reducible exact laws_markExtS.mono _ _ _)
      | (with_reducible exact laws_markExtSS.mono _ _ _)
      | (with_reducible exact laws_szExtSS.mono _ _ _)
      | (with_reducible exact laws_toExtSS.mono _ _)
      | (with_reducible exact spec_RoundOf.mono _ _ _)
      | (with_reducible exact LeO.refl _)
      | (with_reducible exact LeO.none _)
      | (with_reducible refine LeO.ite ?_ ?_)
      | (with_reducible refine LeO.bind ?_ (fun _ => ?_))
      | exact ih0 _ _ _ _ _ _ _ _
      | exact ih1 _ _ _ _ _ _
      | exact ih2 _ _ _
      | exact impl_RoundOf.mono _ _ _
      | exact laws_eqExtS.mono _ _ _
      | exact laws_eqExtSS.mono _ _ _
      | exact laws_heldExtS.mono _ _ _
      | exact laws_markExtS.mono _ _ _
      | exact laws_markExtSS.mono _ _ _
      | exact laws_szExtSS.mono _ _ _
      | exact laws_toExtSS.mono _ _
      | exact spec_RoundOf.mono _ _ _
      | exact LeO.none _
      | refine LeO.ite ?_ ?_
      | refine LeO.bind ?_ (fun _ => ?_)
    · intro y0 y1 y2
      unfold laws_FnExactRoundOf.j2
      repeat' first
      | (with_reducible exact ih0 _ _ _ _ _ _ _ _)
      | (with_reducible exact ih1 _ _ _ _ _ _)
      | (with_reducible exact ih2 _ _ _)
      | (with_reducible exact impl_RoundOf.mono _ _ _)
      | (with_reducible exact laws_eqExtS.mono _ _ _)
      | (with_reducible exact laws_eqExtSS.mono _ _ _)
      | (with_reducible exact laws_heldExtS.mono _ _ _)
      | (with_reducible exact laws_markExtS.mono _ _ _)
      | (with_reducible exact laws_markExtSS.mono _ _ _)
      | (with_reducible exact laws_szExtSS.mono _ _ _)
      | (with_reducible exact laws_toExtSS.mono _ _)
      | (with_reducible exact spec_RoundOf.mono _ _ _)
      | (with_reducible exact LeO.refl _)
      | (with_reducible exact LeO.none _)
      | (with_reducible refine LeO.ite ?_ ?_)
      | (with_reducible refine LeO.bind ?_ (fun _ => ?_))
      | exact ih0 _ _ _ _ _ _ _ _
      | exact ih1 _ _ _ _ _ _
      | exact ih2 _ _ _
      | exact impl_RoundOf.mono _ _ _
      | exact laws_eqExtS.mono _ _ _
      | exact laws_eqExtSS.mono _ _ _
      | exact laws_heldExtS.mono _ _ _
      | exact laws_markExtS.mono _ _ _
      | exact laws_markExtSS.mono _ _ _
      | exact laws_szExtSS.mono _ _ _
      | exact laws_toExtSS.mono _ _
      | exact spec_RoundOf.mono _ _ _
      | exact LeO.none _
      | refine LeO.ite ?_ ?_
      | refine LeO.bind ?_ (fun _ => ?_)
theorem laws_FnExactRoundOf.mono : ∀ a0 a1 k, LeO (laws_FnExactRoundOf.f k a0 a1) (laws_FnExactRoundOf.f (k + 1) a0 a1) := by
  intro a0 a1 k
  obtain ⟨ih0, ih1, ih2⟩ := laws_FnExactRoundOf.mono_l k
  unfold laws_FnExactRoundOf.f
  repeat' first
      | (with_reducible exact ih0 _ _ _ _ _ _ _ _)
      | (with_reducible exact ih1 _ _ _ _ _ _)
      | (with_reducible exact ih2 _ _ _)
      | (with_reducible exact impl_RoundOf.mono _ _ _)
      | (with_reducible exact laws_eqExtS.mono _ _ _)
      | (with_reducible exact laws_eqExtSS.mono _ _ _)
      | (with_reducible exact laws_heldExtS.mono _ _ _)
      | (with_reducible exact laws_markExtS.mono _ _ _)
      | (with_reducible exact laws_markExtSS.mono _ _ _)
      | (with_reducible exact laws_szExtSS.mono _ _ _)
      | (with_reducible exact laws_toExtSS.mono _ _)
      | (with_reducible exact spec_RoundOf.mono _ _ _)
      | (with_reducible exact LeO.refl _)
      | (with_reducible exact LeO.none _)
      | (with_reducible refine LeO.ite ?_ ?_)
      | (with_reducible refine LeO.bind ?_ (fun _ => ?_))
      | exact ih0 _ _ _ _ _ _ _ _
      | exact ih1 _ _ _ _ _ _
      | exact ih2 _ _ _
      | exact impl_RoundOf.mono _ _ _
      | exact laws_eqExtS.mono _ _ _
      | exact laws_eqExtSS.mono _ _ _
      | exact laws_heldExtS.mono _ _ _
      | exact laws_markExtS.mono _ _ _
      | exact laws_markExtSS.mono _ _ _
      | exact laws_szExtSS.mono _ _ _
      | exact laws_toExtSS.mono _ _
      | exact spec_RoundOf.mono _ _ _
      | exact LeO.none _
      | refine LeO.ite ?_ ?_
      | refine LeO.bind ?_ (fun _ => ?_)
set_option maxHeartbeats 8000000 in
set_option maxRecDepth 100000 in
theorem laws_FnExactRoundOf.calls (k : Nat) (a0 : Int) (A1 : Option Addr) (c1 : Nat) (l1 : List (List (S36))) (r : Bool) (w : World) (hr1 : Kd.C (Kd.slice 36 k36) w A1 l1.length l1) (hc1 : l1.length ≤ c1) (hr_ : r = true) (h : laws_FnExactRoundOf.f k a0 l1 = some r) :
    Calls Try.prog 3 #[.int .i64 a0, .slice A1 l1.length c1] w fun e w' => e = .returned (.bool r) ∧ Below w.heap.size w w' := by
  have HR1 := Aside0.mk hr1
  have HC1 := Aside0.mk hc1
  clear hr1 hc1
  have HB := Aside0.mk (Below.refl w.heap.size w)
  have H : ((laws_szExtSS.f k l1 1048576).bind fun t101 => (if t101 < 0 then (some true) else ((laws_toExtSS.f k l1).bind fun t102 => ((spec_RoundOf.f k a0 t102).bind fun bt105 => ((laws_toExtSS.f k l1).bind fun t109 => ((impl_RoundOf.f k a0 t109).bind fun bt112 => ((laws_eqExtS.f k bt112.1 bt105.1).bind fun t116 => (if t116 = true then (laws_FnExactRoundOf.j0 k a0 l1 bt105.1 bt105.2 t109 bt112.1 bt112.2 (bt112.2 != bt105.2)) else (laws_FnExactRoundOf.j0 k a0 l1 bt105.1 bt105.2 t109 bt112.1 bt112.2 true))))))))) = some r := h
  clear h
  replace H := Option.bind_eq_some_iff.mp H
  obtain ⟨t101, A30, H⟩ := H
  replace H : (if t101 < 0 then (some true) else ((laws_toExtSS.f k l1).bind fun t102 => ((spec_RoundOf.f k a0 t102).bind fun bt105 => ((laws_toExtSS.f k l1).bind fun t109 => ((impl_RoundOf.f k a0 t109).bind fun bt112 => ((laws_eqExtS.f k bt112.1 bt105.1).bind fun t116 => (if t116 = true then (laws_FnExactRoundOf.j0 k a0 l1 bt105.1 bt105.2 t109 bt112.1 bt112.2 (bt112.2 != bt105.2)) else (laws_FnExactRoundOf.j0 k a0 l1 bt105.1 bt105.2 t109 bt112.1 bt112.2 true)))))))) = some r := H
  have A3 := Aside0.mk A30
  clear A30
  by_cases c4 : t101 < 0
  · rw [if_pos c4] at H
    have c4b0 : decide (t101 < 0) = true := decide_eq_true c4
    clear c4
    obtain rfl := Option.some.inj H
    go_enter Try.func3, Try.ntmps3
    go_wp2_with (first | ((with_reducible refine gate_callee (f := 5) rfl ?_); refine goesL_ (some 18) rfl rfl Try.func5 (by kernel_rfl) rfl #[.slice A1 l1.length c1, .int .i64 1048576] rfl qz2_ ?_; (with_reducible refine (laws_szExtSS.calls k _ _ l1 1048576 t101 _ ?side1 ?side2 A3.out).mono ?_); (case side1 => repeat (first | exact HR1.out | (with_reducible refine Kd.C_alloc ?_ _) | (with_reducible refine Kd.C_drewN ?_ _) | (with_reducible refine Kd.C_drew ?_))); (case side2 => exact HC1.out); rintro e w' ⟨rfl, ⟨nd, rfl⟩⟩; refine ⟨_, rfl, ?_⟩))
    go_ret
    exact ⟨by first | rfl | (simp [errW_none, errW_some] <;> rfl) | (simp [*, errW_none, errW_some] <;> rfl), by repeat (first | (with_reducible first | exact HB.out | apply below_alloc | apply pw_below_drewN | apply below_drew1) | exact HB.out)⟩
  · rw [if_neg c4] at H
    have c4b0 : decide (t101 < 0) = false := decide_eq_false c4
    clear c4
    replace H := Option.bind_eq_some_iff.mp H
    obtain ⟨t102, A50, H⟩ := H
    replace H : ((spec_RoundOf.f k a0 t102).bind fun bt105 => ((laws_toExtSS.f k l1).bind fun t109 => ((impl_RoundOf.f k a0 t109).bind fun bt112 => ((laws_eqExtS.f k bt112.1 bt105.1).bind fun t116 => (if t116 = true then (laws_FnExactRoundOf.j0 k a0 l1 bt105.1 bt105.2 t109 bt112.1 bt112.2 (bt112.2 != bt105.2)) else (laws_FnExactRoundOf.j0 k a0 l1 bt105.1 bt105.2 t109 bt112.1 bt112.2 true)))))) = some r := H
    have A5 := Aside0.mk A50
    clear A50
    replace H := Option.bind_eq_some_iff.mp H
    obtain ⟨⟨t105, t106⟩, A60, H⟩ := H
    replace H : ((laws_toExtSS.f k l1).bind fun t109 => ((impl_RoundOf.f k a0 t109).bind fun bt112 => ((laws_eqExtS.f k bt112.1 t105).bind fun t116 => (if t116 = true then (laws_FnExactRoundOf.j0 k a0 l1 t105 t106 t109 bt112.1 bt112.2 (bt112.2 != t106)) else (laws_FnExactRoundOf.j0 k a0 l1 t105 t106 t109 bt112.1 bt112.2 true))))) = some r := H
    have A6 := Aside0.mk A60
    clear A60
    replace H := Option.bind_eq_some_iff.mp H
    obtain ⟨t109, A70, H⟩ := H
    replace H : ((impl_RoundOf.f k a0 t109).bind fun bt112 => ((laws_eqExtS.f k bt112.1 t105).bind fun t116 => (if t116 = true then (laws_FnExactRoundOf.j0 k a0 l1 t105 t106 t109 bt112.1 bt112.2 (bt112.2 != t106)) else (laws_FnExactRoundOf.j0 k a0 l1 t105 t106 t109 bt112.1 bt112.2 true)))) = some r := H
    have A7 := Aside0.mk A70
    clear A70
    replace H := Option.bind_eq_some_iff.mp H
    obtain ⟨⟨t112, t113⟩, A80, H⟩ := H
    replace H : ((laws_eqExtS.f k t112 t105).bind fun t116 => (if t116 = true then (laws_FnExactRoundOf.j0 k a0 l1 t105 t106 t109 t112 t113 (t113 != t106)) else (laws_FnExactRoundOf.j0 k a0 l1 t105 t106 t109 t112 t113 true))) = some r := H
    have A8 := Aside0.mk A80
    clear A80
    have HC9 := Aside0.mk H
    clear H
    go_enter Try.func3, Try.ntmps3
    go_upto_region 8 with (first | ((with_reducible refine gate_callee (f := 5) rfl ?_); refine goesL_ (some 18) rfl rfl Try.func5 (by kernel_rfl) rfl #[.slice A1 l1.length c1, .int .i64 1048576] rfl qz2_ ?_; (with_reducible refine (laws_szExtSS.calls k _ _ l1 1048576 t101 _ ?side1 ?side2 A3.out).mono ?_); (case side1 => repeat (first | exact HR1.out | (with_reducible refine Kd.C_alloc ?_ _) | (with_reducible refine Kd.C_drewN ?_ _) | (with_reducible refine Kd.C_drew ?_))); (case side2 => exact HC1.out); rintro e w' ⟨rfl, ⟨nd, rfl⟩⟩; refine ⟨_, rfl, ?_⟩) | ((with_reducible refine gate_callee (f := 7) rfl ?_); refine goesL_ (some 24) rfl rfl Try.func7 (by kernel_rfl) rfl #[.slice A1 l1.length c1] rfl qz2_ ?_; (with_reducible refine (laws_toExtSS.calls k _ _ l1 t102 _ ?side1 ?side2 A5.out).mono ?_); (case side1 => repeat (first | exact HR1.out | (with_reducible refine Kd.C_alloc ?_ _) | (with_reducible refine Kd.C_drewN ?_ _) | (with_reducible refine Kd.C_drew ?_))); (case side2 => exact HC1.out); rintro e w10 ⟨v103, rfl, ho0, hb⟩; refine ⟨_, rfl, ?_⟩; have n0_ := Aside0.mk (Kd.S_lower ho0 (below_size qz3_)); have n1_ := Aside0.mk (below_step qz3_ hb); clear HB; have HO104 := n0_; have HB := n1_; clear n0_ n1_; (try clear hb); (try clear hb2); (try clear hk); (try clear hi); (try clear ho0); obtain ⟨Ao11, co11, eo11⟩ := Kd.S_slice HO104.out; subst eo11) | ((with_reducible refine gate_callee (f := 6) rfl ?_); refine goesL_ (some 25) rfl rfl Try.func6 (by kernel_rfl) rfl #[.int .i64 a0, .slice Ao11 t102.length co11] rfl qz2_ ?_; (with_reducible refine (spec_RoundOf.calls k a0 _ _ t102 t105 t106 _ ?side1 ?side2 A6.out).mono ?_); (case side1 => repeat (first | exact (Kd.S_reads' HO104.out).2.2 | (with_reducible refine Kd.C_alloc ?_ _) | (with_reducible refine Kd.C_drewN ?_ _) | (with_reducible refine Kd.C_drew ?_))); (case side2 => exact (Kd.S_reads' HO104.out).2.1); rintro e w12 ⟨v107, rfl, ho0, hb⟩; refine ⟨_, rfl, ?_⟩; have n0_ := Aside0.mk (Kd.S_elder' qz24_ (Kd.R_base ho0) hb); have n1_ := Aside0.mk (Kd.R_lower ho0 (below_size qz3_)); have n2_ := Aside0.mk (below_step qz3_ hb); clear HO104; clear HB; have HO104 := n0_; have HO108 := n1_; have HB := n2_; clear n0_ n1_ n2_; (try clear hb); (try clear hb2); (try clear hk); (try clear hi); (try clear ho0)) | ((with_reducible refine gate_callee (f := 7) rfl ?_); refine goesL_ (some 29) rfl rfl Try.func7 (by kernel_rfl) rfl #[.slice A1 l1.length c1] rfl qz2_ ?_; (with_reducible refine (laws_toExtSS.calls k _ _ l1 t109 _ ?side1 ?side2 A7.out).mono ?_); (case side1 => repeat (first | exact (Kd.C_below HR1.out HB.out) | (with_reducible refine Kd.C_alloc ?_ _) | (with_reducible refine Kd.C_drewN ?_ _) | (with_reducible refine Kd.C_drew ?_))); (case side2 => exact HC1.out); rintro e w13 ⟨v110, rfl, ho0, hb⟩; refine ⟨_, rfl, ?_⟩; have n0_ := Aside0.mk (Kd.S_elder' qz24_ (Kd.S_base ho0) hb); have n1_ := Aside0.mk (Kd.R_below qz25_ hb); have n2_ := Aside0.mk (Kd.S_lower (Kd.S_new' (Kd.S_new' ho0 (Kd.S_lt qz24_)) (Kd.R_lt qz25_)) (below_size qz3_)); have n3_ := Aside0.mk (below_step qz3_ hb); clear HO104; clear HO108; clear HB; have HO104 := n0_; have HO108 := n1_; have HO111 := n2_; have HB := n3_; clear n0_ n1_ n2_ n3_; (try clear hb); (try clear hb2); (try clear hk); (try clear hi); (try clear ho0); obtain ⟨Ao14, co14, eo14⟩ := Kd.S_slice HO111.out; subst eo14) | ((with_reducible refine gate_callee (f := 8) rfl ?_); refine goesL_ (some 33) rfl rfl Try.func8 (by kernel_rfl) rfl #[.int .i64 a0, .slice Ao14 t109.length co14] rfl qz2_ ?_; (with_reducible refine (impl_RoundOf.calls k a0 _ _ t109 t112 t113 _ ?side1 ?side2 A8.out).mono ?_); (case side1 => repeat (first | exact (Kd.S_reads' HO111.out).2.2 | (with_reducible refine Kd.C_alloc ?_ _) | (with_reducible refine Kd.C_drewN ?_ _) | (with_reducible refine Kd.C_drew ?_))); (case side2 => exact (Kd.S_reads' HO111.out).2.1); rintro e w15 ⟨v114, rfl, ho0, hb⟩; refine ⟨_, rfl, ?_⟩; have n0_ := Aside0.mk (Kd.S_elder' qz24_ (Kd.R_base ho0) hb); have n1_ := Aside0.mk (Kd.R_elder' qz25_ (Kd.R_base ho0) hb); have n2_ := Aside0.mk (Kd.S_elder' (by (with_reducible repeat (first | apply Kd.S_alloc | apply Kd.S_drewN | apply Kd.S_drew)); exact HO111.out) (Kd.R_base ho0) hb); have n3_ := Aside0.mk (Kd.R_lower (Kd.R_new' ho0 (Kd.R_lt qz25_)) (below_size qz3_)); have n4_ := Aside0.mk (below_step qz3_ hb); clear HO104; clear HO108; clear HO111; clear HB; have HO104 := n0_; have HO108 := n1_; have HO111 := n2_; have HO115 := n3_; have HB := n4_; clear n0_ n1_ n2_ n3_ n4_; (try clear hb); (try clear hb2); (try clear hk); (try clear hi); (try clear ho0)))
    (try simp only [Act.put, List.setIfInBounds_toArray, List.set_cons_zero, List.set_cons_succ])
    go_cut [44] (fun v44 wc => ∃ (kq : Nat) (x44_8 : Bool), v44 = .bool x44_8 ∧ Aside0 (laws_FnExactRoundOf.j0 kq a0 l1 t105 t106 t109 t112 t113 x44_8 = some r) ∧ Aside0 (kq ≤ k) ∧ Aside0 (Kd.R k44 44 wc w.heap.size (fun k_ => some k_ ≠ (v114 : Value).ownBlock) v107 t105) ∧ Aside0 (Kd.S (Kd.slice 44 k44) 24 wc w.heap.size (fun k_ => some k_ ≠ (v107 : Value).ownBlock ∧ some k_ ≠ (v114 : Value).ownBlock) (.slice Ao14 t109.length co14) t109) ∧ Aside0 (Kd.R k44 44 wc w.heap.size (fun k_ => some k_ ≠ (v107 : Value).ownBlock) v114 t112) ∧ Aside0 (Below w.heap.size w wc))
    case first =>
      have H := HC9.out
      clear HC9
      replace H := Option.bind_eq_some_iff.mp H
      obtain ⟨t116, A160, H⟩ := H
      replace H : (if t116 = true then (laws_FnExactRoundOf.j0 k a0 l1 t105 t106 t109 t112 t113 (t113 != t106)) else (laws_FnExactRoundOf.j0 k a0 l1 t105 t106 t109 t112 t113 true)) = some r := H
      have A16 := Aside0.mk A160
      clear A160
      by_cases c17 : t116 = true
      · subst c17
        have H1 : (laws_FnExactRoundOf.j0 k a0 l1 t105 t106 t109 t112 t113 (t113 != t106)) = some r := by rw [if_pos rfl] at H; exact H
        clear H
        have H := H1
        clear H1
        have H' := Aside0.mk H
        clear H
        obtain ⟨Ao18, co18, eo18⟩ := Kd.R_slice HO115.out
        subst eo18
        obtain ⟨Ao19, co19, eo19⟩ := Kd.R_slice HO108.out
        subst eo19
        go_wp2_with (first | ((with_reducible refine gate_callee (f := 9) rfl ?_); refine goesL_ (some 38) rfl rfl Try.func9 (by kernel_rfl) rfl #[.slice Ao18 t112.length co18, .slice Ao19 t105.length co19] rfl qz2_ ?_; (with_reducible refine (laws_eqExtS.calls k _ _ t112 _ _ t105 true _ ?side1 ?side2 ?side3 ?side4 A16.out).mono ?_); (case side1 => repeat (first | exact (Kd.R_reads' HO115.out).2.2 | (with_reducible refine Kd.C_alloc ?_ _) | (with_reducible refine Kd.C_drewN ?_ _) | (with_reducible refine Kd.C_drew ?_))); (case side2 => exact (Kd.R_reads' HO115.out).2.1); (case side3 => repeat (first | exact (Kd.R_reads' HO108.out).2.2 | (with_reducible refine Kd.C_alloc ?_ _) | (with_reducible refine Kd.C_drewN ?_ _) | (with_reducible refine Kd.C_drew ?_))); (case side4 => exact (Kd.R_reads' HO108.out).2.1); rintro e w20 ⟨rfl, hb⟩; refine ⟨_, rfl, ?_⟩; have n0_ := Aside0.mk (Kd.S_below qz24_ hb); have n1_ := Aside0.mk (Kd.R_below qz25_ hb); have n2_ := Aside0.mk (Kd.S_below (by (with_reducible repeat (first | apply Kd.S_alloc | apply Kd.S_drewN | apply Kd.S_drew)); exact HO111.out) hb); have n3_ := Aside0.mk (Kd.R_below (by (with_reducible repeat (first | apply Kd.R_alloc | apply Kd.R_drewN | apply Kd.R_drew)); exact HO115.out) hb); have n4_ := Aside0.mk (below_step qz3_ hb); clear HO104; clear HO108; clear HO111; clear HO115; clear HB; have HO104 := n0_; have HO108 := n1_; have HO111 := n2_; have HO115 := n3_; have HB := n4_; clear n0_ n1_ n2_ n3_ n4_; (try clear hb); (try clear hb2); (try clear hk); (try clear hi)))
        go_meet
        case rel => exact ⟨_, ((t113 != t106)), qz0_, H', ⟨by first | omega | exact Nat.le_refl _⟩, ⟨by (with_reducible repeat (first | apply Kd.R_alloc | apply Kd.R_drewN | apply Kd.R_drew)); exact Kd.R_mono HO108.out (fun _ hk => hk.2)⟩, ⟨by (with_reducible repeat (first | apply Kd.S_alloc | apply Kd.S_drewN | apply Kd.S_drew)); exact Kd.S_mono HO111.out (fun _ hk => ⟨hk.1.2, hk.2⟩)⟩, ⟨by (with_reducible repeat (first | apply Kd.R_alloc | apply Kd.R_drewN | apply Kd.R_drew)); exact Kd.R_mono HO115.out (fun _ hk => hk.2)⟩, ⟨by repeat (first | (with_reducible first | exact HB.out | apply below_alloc | apply pw_below_drewN | apply below_drew1) | exact HB.out)⟩⟩
      · replace c17 := Bool.eq_false_iff.mpr c17
        subst c17
        have H1 : (laws_FnExactRoundOf.j0 k a0 l1 t105 t106 t109 t112 t113 true) = some r := by rw [if_neg (show ¬ (false = true) by decide)] at H; exact H
        clear H
        have H := H1
        clear H1
        have H' := Aside0.mk H
        clear H
        obtain ⟨Ao21, co21, eo21⟩ := Kd.R_slice HO115.out
        subst eo21
        obtain ⟨Ao22, co22, eo22⟩ := Kd.R_slice HO108.out
        subst eo22
        go_wp2_with (first | ((with_reducible refine gate_callee (f := 9) rfl ?_); refine goesL_ (some 38) rfl rfl Try.func9 (by kernel_rfl) rfl #[.slice Ao21 t112.length co21, .slice Ao22 t105.length co22] rfl qz2_ ?_; (with_reducible refine (laws_eqExtS.calls k _ _ t112 _ _ t105 false _ ?side1 ?side2 ?side3 ?side4 A16.out).mono ?_); (case side1 => repeat (first | exact (Kd.R_reads' HO115.out).2.2 | (with_reducible refine Kd.C_alloc ?_ _) | (with_reducible refine Kd.C_drewN ?_ _) | (with_reducible refine Kd.C_drew ?_))); (case side2 => exact (Kd.R_reads' HO115.out).2.1); (case side3 => repeat (first | exact (Kd.R_reads' HO108.out).2.2 | (with_reducible refine Kd.C_alloc ?_ _) | (with_reducible refine Kd.C_drewN ?_ _) | (with_reducible refine Kd.C_drew ?_))); (case side4 => exact (Kd.R_reads' HO108.out).2.1); rintro e w23 ⟨rfl, hb⟩; refine ⟨_, rfl, ?_⟩; have n0_ := Aside0.mk (Kd.S_below qz24_ hb); have n1_ := Aside0.mk (Kd.R_below qz25_ hb); have n2_ := Aside0.mk (Kd.S_below (by (with_reducible repeat (first | apply Kd.S_alloc | apply Kd.S_drewN | apply Kd.S_drew)); exact HO111.out) hb); have n3_ := Aside0.mk (Kd.R_below (by (with_reducible repeat (first | apply Kd.R_alloc | apply Kd.R_drewN | apply Kd.R_drew)); exact HO115.out) hb); have n4_ := Aside0.mk (below_step qz3_ hb); clear HO104; clear HO108; clear HO111; clear HO115; clear HB; have HO104 := n0_; have HO108 := n1_; have HO111 := n2_; have HO115 := n3_; have HB := n4_; clear n0_ n1_ n2_ n3_ n4_; (try clear hb); (try clear hb2); (try clear hk); (try clear hi)))
        go_meet
        case rel => exact ⟨_, (true), qz0_, H', ⟨by first | omega | exact Nat.le_refl _⟩, ⟨by (with_reducible repeat (first | apply Kd.R_alloc | apply Kd.R_drewN | apply Kd.R_drew)); exact Kd.R_mono HO108.out (fun _ hk => hk.2)⟩, ⟨by (with_reducible repeat (first | apply Kd.S_alloc | apply Kd.S_drewN | apply Kd.S_drew)); exact Kd.S_mono HO111.out (fun _ hk => ⟨hk.1.2, hk.2⟩)⟩, ⟨by (with_reducible repeat (first | apply Kd.R_alloc | apply Kd.R_drewN | apply Kd.R_drew)); exact Kd.R_mono HO115.out (fun _ hk => hk.2)⟩, ⟨by repeat (first | (with_reducible first | exact HB.out | apply below_alloc | apply pw_below_drewN | apply below_drew1) | exact HB.out)⟩⟩
    case rest =>
      clear HC9
      try clear c1
      try clear p2
      try clear c3
      try clear c4
      try clear c4b0
      try clear c5
      try clear c6
      try clear c7
      try clear c8
      try clear c9
      try clear c17
      obtain ⟨kq, x44_8, rfl, HA, HJ8, HO_6, HO_8, HO_9, HB⟩ := hcut
      cases kq with
      | zero => exact absurd HA.out (by simp [laws_FnExactRoundOf.j0])
      | succ kj8 =>
        have H := HA.out
        clear HA
        simp only [laws_FnExactRoundOf.j0] at H
        by_cases c24 : x44_8 = true
        · subst c24
          have H1 : (some false) = some r := by rw [if_pos rfl] at H; exact H
          clear H
          have H := H1
          clear H1
          exact absurd ((Option.some.inj H).trans hr_) (by decide)
        · replace c24 := Bool.eq_false_iff.mpr c24
          subst c24
          have H1 : ((laws_toExtSS.f kj8 l1).bind fun t117 => ((laws_eqExtSS.f kj8 t109 t117).bind fun t120 => (if t120 = true then ((laws_markExtSS.f kj8 t109 1).bind fun t121 => (if t121 < 0 then (laws_FnExactRoundOf.j1 kj8 a0 l1 t105 t106 t112 true) else ((laws_eqExtS.f kj8 t112 t105).bind fun t122 => (if t122 = true then (laws_FnExactRoundOf.j1 kj8 a0 l1 t105 t106 t112 (t113 != t106)) else (laws_FnExactRoundOf.j1 kj8 a0 l1 t105 t106 t112 true))))) else (some false)))) = some r := by rw [if_neg (show ¬ (false = true) by decide)] at H; exact H
          clear H
          have H := H1
          clear H1
          replace H := Option.bind_eq_some_iff.mp H
          obtain ⟨t117, A250, H⟩ := H
          replace H : ((laws_eqExtSS.f kj8 t109 t117).bind fun t120 => (if t120 = true then ((laws_markExtSS.f kj8 t109 1).bind fun t121 => (if t121 < 0 then (laws_FnExactRoundOf.j1 kj8 a0 l1 t105 t106 t112 true) else ((laws_eqExtS.f kj8 t112 t105).bind fun t122 => (if t122 = true then (laws_FnExactRoundOf.j1 kj8 a0 l1 t105 t106 t112 (t113 != t106)) else (laws_FnExactRoundOf.j1 kj8 a0 l1 t105 t106 t112 true))))) else (some false))) = some r := H
          have A25 := Aside0.mk A250
          clear A250
          replace H := Option.bind_eq_some_iff.mp H
          obtain ⟨t120, A260, H⟩ := H
          replace H : (if t120 = true then ((laws_markExtSS.f kj8 t109 1).bind fun t121 => (if t121 < 0 then (laws_FnExactRoundOf.j1 kj8 a0 l1 t105 t106 t112 true) else ((laws_eqExtS.f kj8 t112 t105).bind fun t122 => (if t122 = true then (laws_FnExactRoundOf.j1 kj8 a0 l1 t105 t106 t112 (t113 != t106)) else (laws_FnExactRoundOf.j1 kj8 a0 l1 t105 t106 t112 true))))) else (some false)) = some r := H
          have A26 := Aside0.mk A260
          clear A260
          by_cases c27 : t120 = true
          · subst c27
            have H1 : ((laws_markExtSS.f kj8 t109 1).bind fun t121 => (if t121 < 0 then (laws_FnExactRoundOf.j1 kj8 a0 l1 t105 t106 t112 true) else ((laws_eqExtS.f kj8 t112 t105).bind fun t122 => (if t122 = true then (laws_FnExactRoundOf.j1 kj8 a0 l1 t105 t106 t112 (t113 != t106)) else (laws_FnExactRoundOf.j1 kj8 a0 l1 t105 t106 t112 true))))) = some r := by rw [if_pos rfl] at H; exact H
            clear H
            have H := H1
            clear H1
            replace H := Option.bind_eq_some_iff.mp H
            obtain ⟨t121, A280, H⟩ := H
            replace H : (if t121 < 0 then (laws_FnExactRoundOf.j1 kj8 a0 l1 t105 t106 t112 true) else ((laws_eqExtS.f kj8 t112 t105).bind fun t122 => (if t122 = true then (laws_FnExactRoundOf.j1 kj8 a0 l1 t105 t106 t112 (t113 != t106)) else (laws_FnExactRoundOf.j1 kj8 a0 l1 t105 t106 t112 true)))) = some r := H
            have A28 := Aside0.mk A280
            clear A280
            have HC29 := Aside0.mk H
            clear H
            go_upto_region 14 with (first | ((with_reducible refine gate_callee (f := 7) rfl ?_); refine goesL_ (some 47) rfl rfl Try.func7 (by kernel_rfl) rfl #[.slice A1 l1.length c1] rfl qz2_ ?_; (with_reducible refine (laws_toExtSS.calls kj8 _ _ l1 t117 _ ?side1 ?side2 A25.out).mono ?_); (case side1 => repeat (first | exact (Kd.C_below HR1.out HB.out) | (with_reducible refine Kd.C_alloc ?_ _) | (with_reducible refine Kd.C_drewN ?_ _) | (with_reducible refine Kd.C_drew ?_))); (case side2 => exact HC1.out); rintro e w30 ⟨v118, rfl, ho0, hb⟩; refine ⟨_, rfl, ?_⟩; have n0_ := Aside0.mk (Kd.R_below qz26_ hb); have n1_ := Aside0.mk (Kd.S_elder' (by (with_reducible repeat (first | apply Kd.S_alloc | apply Kd.S_drewN | apply Kd.S_drew)); exact HO_8.out) (Kd.S_base ho0) hb); have n2_ := Aside0.mk (Kd.R_below qz27_ hb); have n3_ := Aside0.mk (Kd.S_lower (Kd.S_new' (Kd.S_new' (Kd.S_new' ho0 (Kd.R_lt qz26_)) (Kd.S_lt (by (with_reducible repeat (first | apply Kd.S_alloc | apply Kd.S_drewN | apply Kd.S_drew)); exact HO_8.out))) (Kd.R_lt qz27_)) (below_size qz3_)); have n4_ := Aside0.mk (below_step qz3_ hb); clear HO_6; clear HO_8; clear HO_9; clear HB; have HO_6 := n0_; have HO_8 := n1_; have HO_9 := n2_; have HO119 := n3_; have HB := n4_; clear n0_ n1_ n2_ n3_ n4_; (try clear hb); (try clear hb2); (try clear hk); (try clear hi); (try clear ho0); obtain ⟨Ao31, co31, eo31⟩ := Kd.S_slice HO119.out; subst eo31) | ((with_reducible refine gate_callee (f := 10) rfl ?_); refine goesL_ (some 48) rfl rfl Try.func10 (by kernel_rfl) rfl #[.slice Ao14 t109.length co14, .slice Ao31 t117.length co31] rfl qz2_ ?_; (with_reducible refine (laws_eqExtSS.calls kj8 _ _ t109 _ _ t117 true _ ?side1 ?side2 ?side3 ?side4 A26.out).mono ?_); (case side1 => repeat (first | exact (Kd.S_reads' HO_8.out).2.2 | (with_reducible refine Kd.C_alloc ?_ _) | (with_reducible refine Kd.C_drewN ?_ _) | (with_reducible refine Kd.C_drew ?_))); (case side2 => exact (Kd.S_reads' HO_8.out).2.1); (case side3 => repeat (first | exact (Kd.S_reads' HO119.out).2.2 | (with_reducible refine Kd.C_alloc ?_ _) | (with_reducible refine Kd.C_drewN ?_ _) | (with_reducible refine Kd.C_drew ?_))); (case side4 => exact (Kd.S_reads' HO119.out).2.1); rintro e w32 ⟨rfl, hb⟩; refine ⟨_, rfl, ?_⟩; have n0_ := Aside0.mk (Kd.R_below qz26_ hb); have n1_ := Aside0.mk (Kd.S_below (by (with_reducible repeat (first | apply Kd.S_alloc | apply Kd.S_drewN | apply Kd.S_drew)); exact HO_8.out) hb); have n2_ := Aside0.mk (Kd.R_below qz27_ hb); have n3_ := Aside0.mk (Kd.S_below (by (with_reducible repeat (first | apply Kd.S_alloc | apply Kd.S_drewN | apply Kd.S_drew)); exact HO119.out) hb); have n4_ := Aside0.mk (below_step qz3_ hb); clear HO_6; clear HO_8; clear HO_9; clear HO119; clear HB; have HO_6 := n0_; have HO_8 := n1_; have HO_9 := n2_; have HO119 := n3_; have HB := n4_; clear n0_ n1_ n2_ n3_ n4_; (try clear hb); (try clear hb2); (try clear hk); (try clear hi)) | ((with_reducible refine gate_callee (f := 11) rfl ?_); refine goesL_ (some 52) rfl rfl Try.func11 (by kernel_rfl) rfl #[.slice Ao14 t109.length co14, .int .i64 1] rfl qz2_ ?_; (with_reducible refine (laws_markExtSS.calls kj8 (fun k_ => some k_ ≠ (v107 : Value).ownBlock ∧ some k_ ≠ (v114 : Value).ownBlock) (.slice Ao14 t109.length co14) t109 1 t121 w _ ?side1 ?side2 A28.out).mono ?_); (case side1 => repeat (first | (with_reducible first | exact HB.out | apply below_alloc | apply pw_below_drewN | apply below_drew1) | exact HB.out)); (case side2 => (with_reducible repeat (first | apply Kd.S_alloc | apply Kd.S_drewN | apply Kd.S_drew)); (first | exact HO_8.out | exact Kd.S_mono HO_8.out (fun _ h_ => h_.1) | exact Kd.S_mono HO_8.out (fun _ h_ => h_.1.1))); rintro e w33 ⟨rfl, hb, hkp⟩; refine ⟨_, rfl, ?_⟩; have n0_ := Aside0.mk (Kd.R_mono (ok' := fun k_ => some k_ ≠ (v114 : Value).ownBlock) (Kd.R_keptB (Kd.R_tight2 rfl HO_6.out) hkp (fun k_ hk_ hs_ => hs_.1 hk_.1)) (fun k_ hk_ => hk_.1.2)); have n1_ := Aside0.mk (Kd.R_mono (ok' := fun k_ => some k_ ≠ (v107 : Value).ownBlock) (Kd.R_keptB (Kd.R_tight2 rfl HO_9.out) hkp (fun k_ hk_ hs_ => hs_.2 hk_.1)) (fun k_ hk_ => hk_.1.2)); have n3_ := Aside0.mk (hb); clear HO_6; clear HO_9; clear HO119; clear HB; clear HO_8; have HO_6 := n0_; have HO_9 := n1_; have HB := n3_; clear n0_ n1_ n3_; (try clear hb); (try clear hkp)))
            (try simp only [Act.put, List.setIfInBounds_toArray, List.set_cons_zero, List.set_cons_succ])
            go_cut [65] (fun v65 wc => ∃ (kq : Nat) (x65_28 : Bool), v65 = .bool x65_28 ∧ Aside0 (laws_FnExactRoundOf.j1 kq a0 l1 t105 t106 t112 x65_28 = some r) ∧ Aside0 (kq ≤ kj8) ∧ Aside0 (Kd.R k44 44 wc w.heap.size (fun k_ => some k_ ≠ (v114 : Value).ownBlock) v107 t105) ∧ Aside0 (Kd.R k44 44 wc w.heap.size (fun k_ => some k_ ≠ (v107 : Value).ownBlock) v114 t112) ∧ Aside0 (Below w.heap.size w wc))
            case first =>
              have H := HC29.out
              clear HC29
              by_cases c34 : t121 < 0
              · rw [if_pos c34] at H
                have c34b0 : decide (t121 < 0) = true := decide_eq_true c34
                clear c34
                (first | rw [c34b0] | (simp only [i64_w, i32_w]; rw [c34b0]) | skip)
                have H' := Aside0.mk H
                clear H
                go_wp2
                go_meet
                case rel => exact ⟨_, (true), qz0_, H', ⟨by have := HJ8.out; first | omega | exact Nat.le_refl _⟩, ⟨by (with_reducible repeat (first | apply Kd.R_alloc | apply Kd.R_drewN | apply Kd.R_drew)); exact HO_6.out⟩, ⟨by (with_reducible repeat (first | apply Kd.R_alloc | apply Kd.R_drewN | apply Kd.R_drew)); exact HO_9.out⟩, ⟨by repeat (first | (with_reducible first | exact HB.out | apply below_alloc | apply pw_below_drewN | apply below_drew1) | exact HB.out)⟩⟩
              · rw [if_neg c34] at H
                have c34b0 : decide (t121 < 0) = false := decide_eq_false c34
                clear c34
                (first | rw [c34b0] | (simp only [i64_w, i32_w]; rw [c34b0]) | skip)
                replace H := Option.bind_eq_some_iff.mp H
                obtain ⟨t122, A350, H⟩ := H
                replace H : (if t122 = true then (laws_FnExactRoundOf.j1 kj8 a0 l1 t105 t106 t112 (t113 != t106)) else (laws_FnExactRoundOf.j1 kj8 a0 l1 t105 t106 t112 true)) = some r := H
                have A35 := Aside0.mk A350
                clear A350
                by_cases c36 : t122 = true
                · subst c36
                  have H1 : (laws_FnExactRoundOf.j1 kj8 a0 l1 t105 t106 t112 (t113 != t106)) = some r := by rw [if_pos rfl] at H; exact H
                  clear H
                  have H := H1
                  clear H1
                  have H' := Aside0.mk H
                  clear H
                  obtain ⟨Ao37, co37, eo37⟩ := Kd.R_slice HO_9.out
                  subst eo37
                  obtain ⟨Ao38, co38, eo38⟩ := Kd.R_slice HO_6.out
                  subst eo38
                  go_wp2_with (first | (go_at_call 9; (with_reducible refine (laws_eqExtS.calls kj8 _ _ t112 _ _ t105 true _ ?side1 ?side2 ?side3 ?side4 A35.out).mono ?_); (case side1 => repeat (first | exact (Kd.R_reads' HO_9.out).2.2 | (with_reducible refine Kd.C_alloc ?_ _) | (with_reducible refine Kd.C_drewN ?_ _) | (with_reducible refine Kd.C_drew ?_))); (case side2 => exact (Kd.R_reads' HO_9.out).2.1); (case side3 => repeat (first | exact (Kd.R_reads' HO_6.out).2.2 | (with_reducible refine Kd.C_alloc ?_ _) | (with_reducible refine Kd.C_drewN ?_ _) | (with_reducible refine Kd.C_drew ?_))); (case side4 => exact (Kd.R_reads' HO_6.out).2.1); rintro e w39 ⟨rfl, hb⟩; have n0_ := Aside0.mk (Kd.R_below qz26_ hb); have n1_ := Aside0.mk (Kd.R_below qz27_ hb); have n3_ := Aside0.mk (below_step qz3_ hb); clear HO_6; clear HO_9; clear HB; have HO_6 := n0_; have HO_9 := n1_; have HB := n3_; clear n0_ n1_ n3_; (try clear hb); (try clear hb2); (try clear hk); (try clear hi)))
                  go_meet
                  case rel => exact ⟨_, ((t113 != t106)), qz0_, H', ⟨by have := HJ8.out; first | omega | exact Nat.le_refl _⟩, ⟨by (with_reducible repeat (first | apply Kd.R_alloc | apply Kd.R_drewN | apply Kd.R_drew)); exact HO_6.out⟩, ⟨by (with_reducible repeat (first | apply Kd.R_alloc | apply Kd.R_drewN | apply Kd.R_drew)); exact HO_9.out⟩, ⟨by repeat (first | (with_reducible first | exact HB.out | apply below_alloc | apply pw_below_drewN | apply below_drew1) | exact HB.out)⟩⟩
                · replace c36 := Bool.eq_false_iff.mpr c36
                  subst c36
                  have H1 : (laws_FnExactRoundOf.j1 kj8 a0 l1 t105 t106 t112 true) = some r := by rw [if_neg (show ¬ (false = true) by decide)] at H; exact H
                  clear H
                  have H := H1
                  clear H1
                  have H' := Aside0.mk H
                  clear H
                  obtain ⟨Ao40, co40, eo40⟩ := Kd.R_slice HO_9.out
                  subst eo40
                  obtain ⟨Ao41, co41, eo41⟩ := Kd.R_slice HO_6.out
                  subst eo41
                  go_wp2_with (first | (go_at_call 9; (with_reducible refine (laws_eqExtS.calls kj8 _ _ t112 _ _ t105 false _ ?side1 ?side2 ?side3 ?side4 A35.out).mono ?_); (case side1 => repeat (first | exact (Kd.R_reads' HO_9.out).2.2 | (with_reducible refine Kd.C_alloc ?_ _) | (with_reducible refine Kd.C_drewN ?_ _) | (with_reducible refine Kd.C_drew ?_))); (case side2 => exact (Kd.R_reads' HO_9.out).2.1); (case side3 => repeat (first | exact (Kd.R_reads' HO_6.out).2.2 | (with_reducible refine Kd.C_alloc ?_ _) | (with_reducible refine Kd.C_drewN ?_ _) | (with_reducible refine Kd.C_drew ?_))); (case side4 => exact (Kd.R_reads' HO_6.out).2.1); rintro e w42 ⟨rfl, hb⟩; have n0_ := Aside0.mk (Kd.R_below qz26_ hb); have n1_ := Aside0.mk (Kd.R_below qz27_ hb); have n3_ := Aside0.mk (below_step qz3_ hb); clear HO_6; clear HO_9; clear HB; have HO_6 := n0_; have HO_9 := n1_; have HB := n3_; clear n0_ n1_ n3_; (try clear hb); (try clear hb2); (try clear hk); (try clear hi)))
                  go_meet
                  case rel => exact ⟨_, (true), qz0_, H', ⟨by have := HJ8.out; first | omega | exact Nat.le_refl _⟩, ⟨by (with_reducible repeat (first | apply Kd.R_alloc | apply Kd.R_drewN | apply Kd.R_drew)); exact HO_6.out⟩, ⟨by (with_reducible repeat (first | apply Kd.R_alloc | apply Kd.R_drewN | apply Kd.R_drew)); exact HO_9.out⟩, ⟨by repeat (first | (with_reducible first | exact HB.out | apply below_alloc | apply pw_below_drewN | apply below_drew1) | exact HB.out)⟩⟩
            case rest =>
              clear HC29
              try clear c1
              try clear c2
              try clear p2
              try clear c3
              try clear c4
              try clear c4b0
              try clear c5
              try clear c6
              try clear c7
              try clear c8
              try clear c9
              try clear c10
              try clear c11
              try clear c17
              try clear c24
              try clear c27
              try clear c34
              try clear c34b0
              try clear c36
              try clear p2
              obtain ⟨kq, x65_28, rfl, HA, HJ28, HO_6, HO_9, HB⟩ := hcut
              cases kq with
              | zero => exact absurd HA.out (by simp [laws_FnExactRoundOf.j1])
              | succ kj28 =>
                have H := HA.out
                clear HA
                simp only [laws_FnExactRoundOf.j1] at H
                by_cases c43 : x65_28 = true
                · subst c43
                  have H1 : (some false) = some r := by rw [if_pos rfl] at H; exact H
                  clear H
                  have H := H1
                  clear H1
                  exact absurd ((Option.some.inj H).trans hr_) (by decide)
                · replace c43 := Bool.eq_false_iff.mpr c43
                  subst c43
                  have H1 : ((laws_markExtS.f kj28 t112 1).bind fun bt123 => ((laws_heldExtS.f kj28 bt123.2 1).bind fun t125 => (if t125 < 0 then (some false) else (if t125 = bt123.1 then ((laws_toExtSS.f kj28 l1).bind fun t126 => ((impl_RoundOf.f kj28 a0 t126).bind fun bt129 => ((laws_eqExtS.f kj28 bt129.1 t105).bind fun t133 => (if t133 = true then (laws_FnExactRoundOf.j2 kj28 bt123.2 bt123.1 (bt129.2 != t106)) else (laws_FnExactRoundOf.j2 kj28 bt123.2 bt123.1 true))))) else (some false))))) = some r := by rw [if_neg (show ¬ (false = true) by decide)] at H; exact H
                  clear H
                  have H := H1
                  clear H1
                  replace H := Option.bind_eq_some_iff.mp H
                  obtain ⟨⟨t123, t124⟩, A440, H⟩ := H
                  replace H : ((laws_heldExtS.f kj28 t124 1).bind fun t125 => (if t125 < 0 then (some false) else (if t125 = t123 then ((laws_toExtSS.f kj28 l1).bind fun t126 => ((impl_RoundOf.f kj28 a0 t126).bind fun bt129 => ((laws_eqExtS.f kj28 bt129.1 t105).bind fun t133 => (if t133 = true then (laws_FnExactRoundOf.j2 kj28 t124 t123 (bt129.2 != t106)) else (laws_FnExactRoundOf.j2 kj28 t124 t123 true))))) else (some false)))) = some r := H
                  have A44 := Aside0.mk A440
                  clear A440
                  replace H := Option.bind_eq_some_iff.mp H
                  obtain ⟨t125, A450, H⟩ := H
                  replace H : (if t125 < 0 then (some false) else (if t125 = t123 then ((laws_toExtSS.f kj28 l1).bind fun t126 => ((impl_RoundOf.f kj28 a0 t126).bind fun bt129 => ((laws_eqExtS.f kj28 bt129.1 t105).bind fun t133 => (if t133 = true then (laws_FnExactRoundOf.j2 kj28 t124 t123 (bt129.2 != t106)) else (laws_FnExactRoundOf.j2 kj28 t124 t123 true))))) else (some false))) = some r := H
                  have A45 := Aside0.mk A450
                  clear A450
                  by_cases c46 : t125 < 0
                  · rw [if_pos c46] at H
                    have c46b0 : decide (t125 < 0) = true := decide_eq_true c46
                    clear c46
                    exact absurd ((Option.some.inj H).trans hr_) (by decide)
                  · rw [if_neg c46] at H
                    have c46b0 : decide (t125 < 0) = false := decide_eq_false c46
                    clear c46
                    by_cases c47 : t125 = t123
                    · rw [if_pos c47] at H
                      have c47b0 : (t125 == t123) = true := beq_iff_eq.mpr c47
                      have c47b1 : (t125 != t123) = false := bne_eq_false_iff_eq.mpr c47
                      clear c47
                      replace H := Option.bind_eq_some_iff.mp H
                      obtain ⟨t126, A480, H⟩ := H
                      replace H : ((impl_RoundOf.f kj28 a0 t126).bind fun bt129 => ((laws_eqExtS.f kj28 bt129.1 t105).bind fun t133 => (if t133 = true then (laws_FnExactRoundOf.j2 kj28 t124 t123 (bt129.2 != t106)) else (laws_FnExactRoundOf.j2 kj28 t124 t123 true)))) = some r := H
                      have A48 := Aside0.mk A480
                      clear A480
                      replace H := Option.bind_eq_some_iff.mp H
                      obtain ⟨⟨t129, t130⟩, A490, H⟩ := H
                      replace H : ((laws_eqExtS.f kj28 t129 t105).bind fun t133 => (if t133 = true then (laws_FnExactRoundOf.j2 kj28 t124 t123 (t130 != t106)) else (laws_FnExactRoundOf.j2 kj28 t124 t123 true))) = some r := H
                      have A49 := Aside0.mk A490
                      clear A490
                      have HC50 := Aside0.mk H
                      clear H
                      obtain ⟨Ao51, co51, eo51⟩ := Kd.R_slice HO_9.out
                      subst eo51
                      go_upto_region 25 with (first | ((with_reducible refine gate_callee (f := 12) rfl ?_); refine goesL_ (some 68) rfl rfl Try.func12 (by kernel_rfl) rfl #[.slice Ao51 t112.length co51, .int .i64 1] rfl qz2_ ?_; (with_reducible refine (laws_markExtS.calls kj28 (fun k_ => some k_ = (.slice Ao51 t112.length co51 : Value).ownBlock) (.slice Ao51 t112.length co51) t112 1 t123 t124 w _ ?side1 ?side2 A44.out).mono ?_); (case side1 => repeat (first | (with_reducible first | exact HB.out | apply below_alloc | apply pw_below_drewN | apply below_drew1) | exact HB.out)); (case side2 => exact Kd.R_tight rfl HO_9.out); rintro e w52 ⟨rfl, hy0, hb, hkp⟩; refine ⟨_, rfl, ?_⟩; have n0_ := Aside0.mk (Kd.R_mono (ok' := fun k_ => some k_ ≠ (.slice Ao51 t112.length co51 : Value).ownBlock) (Kd.R_keptB (HO_6.out) hkp (fun k_ hk_ hs_ => (hk_) hs_)) (fun k_ hk_ => hk_.1)); have n1_ := Aside0.mk (Kd.R_reok rfl hy0 (fun k_ e_ => HO_9.out.1 k_ e_)); have n2_ := Aside0.mk (hb); clear HO_6; clear HO_9; clear HB; have HO_6 := n0_; have HO_9 := n1_; have HB := n2_; clear n0_ n1_ n2_; (try clear hb); (try clear hkp); (try clear hy0)) | ((with_reducible refine gate_callee (f := 13) rfl ?_); refine goesL_ (some 71) rfl rfl Try.func13 (by kernel_rfl) rfl #[.slice Ao51 t124.length co51, .int .i64 1] rfl (by (try simp only [List.map_toArray, List.map_cons, List.map_nil]); first | done | (rw [show t124.length = t112.length from (Kd.R_reads' HO_9.out).1.symm] <;> rfl) | rfl | (simp only [List.length_drop, List.length_take]; rfl)) ?_; (with_reducible refine (laws_heldExtS.calls kj28 _ _ t124 1 t125 _ ?side1 ?side2 A45.out).mono ?_); (case side1 => repeat (first | exact (Kd.R_reads' HO_9.out).2.2 | (with_reducible refine Kd.C_alloc ?_ _) | (with_reducible refine Kd.C_drewN ?_ _) | (with_reducible refine Kd.C_drew ?_))); (case side2 => rw [show t124.length = t112.length from (Kd.R_reads' HO_9.out).1.symm]; exact (Kd.R_reads' HO_9.out).2.1); rintro e w' ⟨rfl, ⟨nd, rfl⟩⟩; refine ⟨_, rfl, ?_⟩) | ((with_reducible refine gate_callee (f := 7) rfl ?_); refine goesL_ (some 80) rfl rfl Try.func7 (by kernel_rfl) rfl #[.slice A1 l1.length c1] rfl qz2_ ?_; (with_reducible refine (laws_toExtSS.calls kj28 _ _ l1 t126 _ ?side1 ?side2 A48.out).mono ?_); (case side1 => repeat (first | exact (Kd.C_below HR1.out qz3_) | (with_reducible refine Kd.C_alloc ?_ _) | (with_reducible refine Kd.C_drewN ?_ _) | (with_reducible refine Kd.C_drew ?_))); (case side2 => exact HC1.out); rintro e w53 ⟨v127, rfl, ho0, hb⟩; refine ⟨_, rfl, ?_⟩; have n0_ := Aside0.mk (Kd.R_below qz26_ hb); have n1_ := Aside0.mk (Kd.R_below qz27_ hb); have n2_ := Aside0.mk (Kd.S_lower (Kd.S_new' (Kd.S_new' ho0 (Kd.R_lt qz26_)) (Kd.R_lt qz27_)) (below_size qz3_)); have n3_ := Aside0.mk (below_step qz3_ hb); clear HO_6; clear HO_9; clear HB; have HO_6 := n0_; have HO_9 := n1_; have HO128 := n2_; have HB := n3_; clear n0_ n1_ n2_ n3_; (try clear hb); (try clear hb2); (try clear hk); (try clear hi); (try clear ho0); obtain ⟨Ao54, co54, eo54⟩ := Kd.S_slice HO128.out; subst eo54) | ((with_reducible refine gate_callee (f := 8) rfl ?_); refine goesL_ (some 81) rfl rfl Try.func8 (by kernel_rfl) rfl #[.int .i64 a0, .slice Ao54 t126.length co54] rfl qz2_ ?_; (with_reducible refine (impl_RoundOf.calls kj28 a0 _ _ t126 t129 t130 _ ?side1 ?side2 A49.out).mono ?_); (case side1 => repeat (first | exact (Kd.S_reads' HO128.out).2.2 | (with_reducible refine Kd.C_alloc ?_ _) | (with_reducible refine Kd.C_drewN ?_ _) | (with_reducible refine Kd.C_drew ?_))); (case side2 => exact (Kd.S_reads' HO128.out).2.1); rintro e w55 ⟨v131, rfl, ho0, hb⟩; refine ⟨_, rfl, ?_⟩; have n0_ := Aside0.mk (Kd.R_elder' qz26_ (Kd.R_base ho0) hb); have n1_ := Aside0.mk (Kd.R_elder' qz27_ (Kd.R_base ho0) hb); have n2_ := Aside0.mk (Kd.S_elder' (by (with_reducible repeat (first | apply Kd.S_alloc | apply Kd.S_drewN | apply Kd.S_drew)); exact HO128.out) (Kd.R_base ho0) hb); have n3_ := Aside0.mk (Kd.R_lower (Kd.R_new' (Kd.R_new' ho0 (Kd.R_lt qz26_)) (Kd.R_lt qz27_)) (below_size qz3_)); have n4_ := Aside0.mk (below_step qz3_ hb); clear HO_6; clear HO_9; clear HO128; clear HB; have HO_6 := n0_; have HO_9 := n1_; have HO128 := n2_; have HO132 := n3_; have HB := n4_; clear n0_ n1_ n2_ n3_ n4_; (try clear hb); (try clear hb2); (try clear hk); (try clear hi); (try clear ho0)))
                      (try simp only [Act.put, List.setIfInBounds_toArray, List.set_cons_zero, List.set_cons_succ])
                      go_cut [92] (fun v92 wc => ∃ (kq : Nat) (x92_49 : Bool), v92 = .bool x92_49 ∧ Aside0 (laws_FnExactRoundOf.j2 kq t124 t123 x92_49 = some r) ∧ Aside0 (kq ≤ kj28) ∧ Aside0 (Kd.R k44 44 wc w.heap.size (fun _ => True) (.slice Ao51 t112.length co51) t124) ∧ Aside0 (Below w.heap.size w wc))
                      case first =>
                        have H := HC50.out
                        clear HC50
                        replace H := Option.bind_eq_some_iff.mp H
                        obtain ⟨t133, A560, H⟩ := H
                        replace H : (if t133 = true then (laws_FnExactRoundOf.j2 kj28 t124 t123 (t130 != t106)) else (laws_FnExactRoundOf.j2 kj28 t124 t123 true)) = some r := H
                        have A56 := Aside0.mk A560
                        clear A560
                        by_cases c57 : t133 = true
                        · subst c57
                          have H1 : (laws_FnExactRoundOf.j2 kj28 t124 t123 (t130 != t106)) = some r := by rw [if_pos rfl] at H; exact H
                          clear H
                          have H := H1
                          clear H1
                          have H' := Aside0.mk H
                          clear H
                          obtain ⟨Ao58, co58, eo58⟩ := Kd.R_slice HO132.out
                          subst eo58
                          obtain ⟨Ao59, co59, eo59⟩ := Kd.R_slice HO_6.out
                          subst eo59
                          go_wp2_with (first | ((with_reducible refine gate_callee (f := 9) rfl ?_); refine goesL_ (some 86) rfl rfl Try.func9 (by kernel_rfl) rfl #[.slice Ao58 t129.length co58, .slice Ao59 t105.length co59] rfl qz2_ ?_; (with_reducible refine (laws_eqExtS.calls kj28 _ _ t129 _ _ t105 true _ ?side1 ?side2 ?side3 ?side4 A56.out).mono ?_); (case side1 => repeat (first | exact (Kd.R_reads' HO132.out).2.2 | (with_reducible refine Kd.C_alloc ?_ _) | (with_reducible refine Kd.C_drewN ?_ _) | (with_reducible refine Kd.C_drew ?_))); (case side2 => exact (Kd.R_reads' HO132.out).2.1); (case side3 => repeat (first | exact (Kd.R_reads' HO_6.out).2.2 | (with_reducible refine Kd.C_alloc ?_ _) | (with_reducible refine Kd.C_drewN ?_ _) | (with_reducible refine Kd.C_drew ?_))); (case side4 => exact (Kd.R_reads' HO_6.out).2.1); rintro e w60 ⟨rfl, hb⟩; refine ⟨_, rfl, ?_⟩; have n0_ := Aside0.mk (Kd.R_below qz26_ hb); have n1_ := Aside0.mk (Kd.R_below qz27_ hb); have n2_ := Aside0.mk (Kd.S_below (by (with_reducible repeat (first | apply Kd.S_alloc | apply Kd.S_drewN | apply Kd.S_drew)); exact HO128.out) hb); have n3_ := Aside0.mk (Kd.R_below (by (with_reducible repeat (first | apply Kd.R_alloc | apply Kd.R_drewN | apply Kd.R_drew)); exact HO132.out) hb); have n4_ := Aside0.mk (below_step qz3_ hb); clear HO_6; clear HO_9; clear HO128; clear HO132; clear HB; have HO_6 := n0_; have HO_9 := n1_; have HO128 := n2_; have HO132 := n3_; have HB := n4_; clear n0_ n1_ n2_ n3_ n4_; (try clear hb); (try clear hb2); (try clear hk); (try clear hi)))
                          go_meet
                          case rel => exact ⟨_, ((t130 != t106)), qz0_, H', ⟨by have := HJ8.out; have := HJ28.out; first | omega | exact Nat.le_refl _⟩, ⟨by (with_reducible repeat (first | apply Kd.R_alloc | apply Kd.R_drewN | apply Kd.R_drew)); exact Kd.R_mono HO_9.out (fun _ hk => trivial)⟩, ⟨by repeat (first | (with_reducible first | exact HB.out | apply below_alloc | apply pw_below_drewN | apply below_drew1) | exact HB.out)⟩⟩
                        · replace c57 := Bool.eq_false_iff.mpr c57
                          subst c57
                          have H1 : (laws_FnExactRoundOf.j2 kj28 t124 t123 true) = some r := by rw [if_neg (show ¬ (false = true) by decide)] at H; exact H
                          clear H
                          have H := H1
                          clear H1
                          have H' := Aside0.mk H
                          clear H
                          obtain ⟨Ao61, co61, eo61⟩ := Kd.R_slice HO132.out
                          subst eo61
                          obtain ⟨Ao62, co62, eo62⟩ := Kd.R_slice HO_6.out
                          subst eo62
                          go_wp2_with (first | ((with_reducible refine gate_callee (f := 9) rfl ?_); refine goesL_ (some 86) rfl rfl Try.func9 (by kernel_rfl) rfl #[.slice Ao61 t129.length co61, .slice Ao62 t105.length co62] rfl qz2_ ?_; (with_reducible refine (laws_eqExtS.calls kj28 _ _ t129 _ _ t105 false _ ?side1 ?side2 ?side3 ?side4 A56.out).mono ?_); (case side1 => repeat (first | exact (Kd.R_reads' HO132.out).2.2 | (with_reducible refine Kd.C_alloc ?_ _) | (with_reducible refine Kd.C_drewN ?_ _) | (with_reducible refine Kd.C_drew ?_))); (case side2 => exact (Kd.R_reads' HO132.out).2.1); (case side3 => repeat (first | exact (Kd.R_reads' HO_6.out).2.2 | (with_reducible refine Kd.C_alloc ?_ _) | (with_reducible refine Kd.C_drewN ?_ _) | (with_reducible refine Kd.C_drew ?_))); (case side4 => exact (Kd.R_reads' HO_6.out).2.1); rintro e w63 ⟨rfl, hb⟩; refine ⟨_, rfl, ?_⟩; have n0_ := Aside0.mk (Kd.R_below qz26_ hb); have n1_ := Aside0.mk (Kd.R_below qz27_ hb); have n2_ := Aside0.mk (Kd.S_below (by (with_reducible repeat (first | apply Kd.S_alloc | apply Kd.S_drewN | apply Kd.S_drew)); exact HO128.out) hb); have n3_ := Aside0.mk (Kd.R_below (by (with_reducible repeat (first | apply Kd.R_alloc | apply Kd.R_drewN | apply Kd.R_drew)); exact HO132.out) hb); have n4_ := Aside0.mk (below_step qz3_ hb); clear HO_6; clear HO_9; clear HO128; clear HO132; clear HB; have HO_6 := n0_; have HO_9 := n1_; have HO128 := n2_; have HO132 := n3_; have HB := n4_; clear n0_ n1_ n2_ n3_ n4_; (try clear hb); (try clear hb2); (try clear hk); (try clear hi)))
                          go_meet
                          case rel => exact ⟨_, (true), qz0_, H', ⟨by have := HJ8.out; have := HJ28.out; first | omega | exact Nat.le_refl _⟩, ⟨by (with_reducible repeat (first | apply Kd.R_alloc | apply Kd.R_drewN | apply Kd.R_drew)); exact Kd.R_mono HO_9.out (fun _ hk => trivial)⟩, ⟨by repeat (first | (with_reducible first | exact HB.out | apply below_alloc | apply pw_below_drewN | apply below_drew1) | exact HB.out)⟩⟩
                      case rest =>
                        clear HC50
                        try clear c1
                        try clear c2
                        try clear p2
                        try clear c3
                        try clear c4
                        try clear c4b0
                        try clear c5
                        try clear c6
                        try clear c7
                        try clear c8
                        try clear c9
                        try clear c10
                        try clear c11
                        try clear c12
                        try clear c13
                        try clear c17
                        try clear c24
                        try clear c27
                        try clear c34
                        try clear c34b0
                        try clear c36
                        try clear c43
                        try clear c46
                        try clear c46b0
                        try clear c47
                        try clear c47b0
                        try clear c47b1
                        try clear c57
                        try clear p2
                        obtain ⟨kq, x92_49, rfl, HA, HJ49, HO_9, HB⟩ := hcut
                        have hl9_49 := (Kd.R_reads' HO_9.out).1
                        rw [hl9_49] at HO_9
                        (try simp only [hl9_49])
                        cases kq with
                        | zero => exact absurd HA.out (by simp [laws_FnExactRoundOf.j2])
                        | succ kj49 =>
                          have H := HA.out
                          clear HA
                          simp only [laws_FnExactRoundOf.j2] at H
                          by_cases c64 : x92_49 = true
                          · subst c64
                            have H1 : (some false) = some r := by rw [if_pos rfl] at H; exact H
                            clear H
                            have H := H1
                            clear H1
                            exact absurd ((Option.some.inj H).trans hr_) (by decide)
                          · replace c64 := Bool.eq_false_iff.mpr c64
                            subst c64
                            have H1 : ((laws_heldExtS.f kj49 t124 1).bind fun t134 => (if t134 < 0 then (some false) else (if t134 = t123 then (some true) else (some false)))) = some r := by rw [if_neg (show ¬ (false = true) by decide)] at H; exact H
                            clear H
                            have H := H1
                            clear H1
                            replace H := Option.bind_eq_some_iff.mp H
                            obtain ⟨t134, A650, H⟩ := H
                            replace H : (if t134 < 0 then (some false) else (if t134 = t123 then (some true) else (some false))) = some r := H
                            have A65 := Aside0.mk A650
                            clear A650
                            by_cases c66 : t134 < 0
                            · rw [if_pos c66] at H
                              have c66b0 : decide (t134 < 0) = true := decide_eq_true c66
                              clear c66
                              exact absurd ((Option.some.inj H).trans hr_) (by decide)
                            · rw [if_neg c66] at H
                              have c66b0 : decide (t134 < 0) = false := decide_eq_false c66
                              clear c66
                              by_cases c67 : t134 = t123
                              · rw [if_pos c67] at H
                                have c67b0 : (t134 == t123) = true := beq_iff_eq.mpr c67
                                have c67b1 : (t134 != t123) = false := bne_eq_false_iff_eq.mpr c67
                                clear c67
                                obtain rfl := Option.some.inj H
                                go_wp2_with (first | ((with_reducible refine gate_callee (f := 13) rfl ?_); refine goesL_ (some 95) rfl rfl Try.func13 (by kernel_rfl) rfl #[.slice Ao51 t124.length co51, .int .i64 1] rfl qz2_ ?_; (with_reducible refine (laws_heldExtS.calls kj49 _ _ t124 1 t134 _ ?side1 ?side2 A65.out).mono ?_); (case side1 => repeat (first | exact (Kd.R_reads' HO_9.out).2.2 | (with_reducible refine Kd.C_alloc ?_ _) | (with_reducible refine Kd.C_drewN ?_ _) | (with_reducible refine Kd.C_drew ?_))); (case side2 => exact (Kd.R_reads' HO_9.out).2.1); rintro e w' ⟨rfl, ⟨nd, rfl⟩⟩; refine ⟨_, rfl, ?_⟩))
                                go_ret
                                exact ⟨by first | rfl | (simp [errW_none, errW_some] <;> rfl) | (simp [*, errW_none, errW_some] <;> rfl), by repeat (first | (with_reducible first | exact HB.out | apply below_alloc | apply pw_below_drewN | apply below_drew1) | exact HB.out)⟩
                              · rw [if_neg c67] at H
                                have c67b0 : (t134 == t123) = false := beq_eq_false_iff_ne.mpr c67
                                have c67b1 : (t134 != t123) = true := bne_iff_ne.mpr c67
                                exact absurd ((Option.some.inj H).trans hr_) (by decide)
                    · rw [if_neg c47] at H
                      have c47b0 : (t125 == t123) = false := beq_eq_false_iff_ne.mpr c47
                      have c47b1 : (t125 != t123) = true := bne_iff_ne.mpr c47
                      exact absurd ((Option.some.inj H).trans hr_) (by decide)
          · replace c27 := Bool.eq_false_iff.mpr c27
            subst c27
            have H1 : (some false) = some r := by rw [if_neg (show ¬ (false = true) by decide)] at H; exact H
            clear H
            have H := H1
            clear H1
            exact absurd ((Option.some.inj H).trans hr_) (by decide)

end Go.Proofs.Ytcfdefkpheeibaa.PT
end
section
/- Arguments that are read as data have the kinds' own form: for each kind, compositionally. Own text, for every seat (Ytcfdefkpheeibaa: the seat's name). -/
namespace Go.Proofs.YtcfdefkpheeibaaO
open Go.RowKit Go.ChangeShapes Go.WideShapes Go.ChangeAt Go.Proofs.YtcfdefkpheeibaaW.PrintWords

/-- What is read as data of type T is of the kind d, and good. -/
def Opens {α : Type} {H : Type} (enc : TypeId × Value → H) (P : Program) (w : World) (T : TypeId) (d : Kd α) (good : α → Prop) : Prop :=
  ∀ (fuel : Nat) (cs : List Value) (x : DataW H × List MemPlace), DataW.trod enc P w 0 (fun _ => true) true fuel T cs = some x → ∃ a, d.K w a cs ∧ good a

/-- What is read as a run of fields of these types (each with its cells) is of the kind d, and good. -/
def OpensSeq {α : Type} {H : Type} (enc : TypeId × Value → H) (P : Program) (w : World) (fs : List (TypeId × Nat)) (d : Kd α) (good : α → Prop) : Prop :=
  ∀ (fuel : Nat) (cs : List Value), cs.length = (fs.map (·.2)).sum → (∀ (j : Nat) (T n : Nat), fs[j]? = some (T, n) → ∃ x, DataW.trod enc P w 0 (fun _ => true) true fuel T ((cs.drop ((fs.take j).map (·.2)).sum).take n) = some x) → ∃ a, d.K w a cs ∧ good a

section
variable {H : Type} {enc : TypeId × Value → H} {P : Program} {w : World}

def IntGood (k : IntKind) (a : Int) : Prop := (Lit.int k a).wf = true
def StrGood (a : ByteArray) : Prop := a.size ≤ 9223372036854775807
def ListGood {α : Type} (g : α → Prop) (l : List α) : Prop := l.length ≤ 9223372036854775807 ∧ ∀ x ∈ l, g x

theorem opens_int {T : TypeId} {k : IntKind} (ht : P.underlying T = some (.int k)) : Opens enc P w T (Kd.int k) (IntGood k) := by
  intro fuel cs x h
  obtain ⟨n, rfl, _, hw⟩ := DataW.trod_int ht h
  exact ⟨n, rfl, hw⟩
theorem opens_bool {T : TypeId} (ht : P.underlying T = some .bool) : Opens enc P w T Kd.bool (fun _ => True) := by
  intro fuel cs x h
  obtain ⟨n, rfl, _⟩ := DataW.trod_bool ht h
  exact ⟨n, rfl, trivial⟩
theorem opens_string {T : TypeId} (ht : P.underlying T = some .string) : Opens enc P w T Kd.string StrGood := by
  intro fuel cs x h
  obtain ⟨s, rfl, _, hs⟩ := DataW.trod_string ht h
  exact ⟨s, rfl, by unfold StrGood; unfold maxLen at hs; omega⟩

theorem choose_list {α : Type} {n : Nat} {p : Nat → α → Prop} (h : ∀ i, i < n → ∃ a, p i a) : ∃ l : List α, l.length = n ∧ ∀ i a, l[i]? = some a → p i a := by
  induction n with
  | zero => exact ⟨[], rfl, fun i a hi => by simp at hi⟩
  | succ n ih =>
    obtain ⟨l, hl, hp⟩ := ih (fun i hi => h i (by omega))
    obtain ⟨a, ha⟩ := h n (by omega)
    refine ⟨l ++ [a], by simp [hl], fun i b hi => ?_⟩
    rcases Nat.lt_or_ge i l.length with hlt | hge
    · rw [List.getElem?_append_left hlt] at hi
      exact hp i b hi
    · rw [List.getElem?_append_right hge] at hi
      have : i - l.length = 0 := by
        rcases Nat.eq_zero_or_pos (i - l.length) with h0 | h0
        · exact h0
        · rw [List.getElem?_eq_none (by simp; omega)] at hi; simp at hi
      rw [this] at hi
      simp at hi
      subst hi
      have : i = n := by omega
      rw [this]
      exact ha

theorem opens_slice {α : Type} {d : Kd α} {good : α → Prop} {T e : TypeId} (ht : P.underlying T = some (.slice e)) (hc : P.cellsOf e = d.sz) (ho : Opens enc P w e d good) : Opens enc P w T (Kd.slice e d) (ListGood good) := by
  intro fuel cs x h
  rcases Deep.open_slice ht h with ⟨rfl, _⟩ | ⟨a, len, cap, m, n, D, Pl, rfl, _, hl, hm, hmm, _, hx⟩
  · exact ⟨[], ⟨none, 0, rfl, Nat.le_refl _, ⟨rfl, by simp, fun h0 => by simp at h0⟩⟩, ⟨by simp, fun x hx => by simp at hx⟩⟩
  · have hle : len ≤ m := by rw [hmm]; split <;> omega
    have hex : ∀ i, i < len → ∃ b : α, (∃ c, c.length = d.sz ∧ d.K w b c ∧ ∀ j u, c[j]? = some u → w.cell? (a.add (i * d.sz + j)) = some u) ∧ good b := by
      intro i hi
      obtain ⟨cs', h1, h2⟩ := hx i (by omega)
      obtain ⟨b, hK, hg⟩ := ho _ _ _ h2
      obtain ⟨_, hlen, hcell⟩ := World.cells?_some h1
      refine ⟨b, ⟨cs', by rw [hlen, hc], hK, fun j u hu => ?_⟩, hg⟩
      have hj : j < P.cellsOf e := by
        rw [← hlen]
        exact (List.getElem?_eq_some_iff.1 hu).1
      rw [← Deep.add_add, ← hc, hcell j hj, hu]
    obtain ⟨l, hll, hp⟩ := choose_list hex
    unfold maxLen at hm
    refine ⟨l, ⟨some a, cap, by rw [hll], by omega, ⟨rfl, by omega, fun _ => ⟨a, rfl, fun j p hj => (hp j p hj).1⟩⟩⟩, ⟨by omega, fun x hx => ?_⟩⟩
    obtain ⟨i, hi, rfl⟩ := List.getElem_of_mem hx
    exact (hp i _ (List.getElem?_eq_getElem hi)).2

theorem opensSeq_one {α : Type} {d : Kd α} {good : α → Prop} {T n : Nat} (ho : Opens enc P w T d good) : OpensSeq enc P w [(T, n)] d good := by
  intro fuel cs hlen h
  obtain ⟨x, hx⟩ := h 0 T n rfl
  simp at hlen
  simp [List.take_of_length_le (Nat.le_of_eq hlen)] at hx
  exact ho _ _ _ hx
theorem opensSeq_cons {α β : Type} {d : Kd α} {good : α → Prop} {d2 : Kd β} {good2 : β → Prop} {T n : Nat} {fs : List (TypeId × Nat)} (ho : Opens enc P w T d good) (hs : OpensSeq enc P w fs d2 good2) :
    OpensSeq enc P w ((T, n) :: fs) (Kd.pair d d2) (fun x => good x.1 ∧ good2 x.2) := by
  intro fuel cs hlen h
  obtain ⟨x, hx⟩ := h 0 T n rfl
  simp at hx
  obtain ⟨a, hK, hg⟩ := ho _ _ _ hx
  simp only [List.map_cons, List.sum_cons] at hlen
  obtain ⟨b, hK2, hg2⟩ := hs fuel (cs.drop n) (by rw [List.length_drop, hlen]; omega) (fun j T' n' hj => by
    obtain ⟨y, hy⟩ := h (j + 1) T' n' (by simpa using hj)
    refine ⟨y, ?_⟩
    simp only [List.take_succ_cons, List.map_cons, List.sum_cons] at hy
    rw [List.drop_drop]
    exact hy)
  exact ⟨(a, b), ⟨cs.take n, cs.drop n, (List.take_append_drop n cs).symm, hK, hK2⟩, hg, hg2⟩

/-- A struct whose fields stand one behind the other. -/
theorem opens_struct {α β : Type} {d : Kd α} {good : α → Prop} {T : TypeId} {fs : Array Field} {l : List (TypeId × Nat)} (f : β → α) (g : α → β) (hfg : ∀ a, f (g a) = a) (ht : P.underlying T = some (.struct fs))
    (hl : l.length = fs.size) (hf : ∀ (j : Nat) (T' n : Nat), l[j]? = some (T', n) → ∃ fd, fs[j]? = some fd ∧ fd.type = T' ∧ P.cellsOf T' = n ∧ fd.offset = ((l.take j).map (·.2)).sum) (hc : P.cellsOf T = (l.map (·.2)).sum)
    (hs : OpensSeq enc P w l d good) : Opens enc P w T (Kd.iso d f) (fun x => good (f x)) := by
  intro fuel cs x h
  obtain ⟨xs, n, _, _, hlen, hxl, hx⟩ := DataW.trod_struct ht h
  obtain ⟨a, hK, hg⟩ := hs n cs (by rw [hlen, hc]) (fun j T' n' hj => by
    obtain ⟨fd, h1, h2, h3, h4⟩ := hf j T' n' hj
    have h5 := hx j fd h1
    have hj2 : j < xs.length := by
      have := (List.getElem?_eq_some_iff.1 hj).1
      omega
    rw [List.getElem?_eq_getElem hj2, h2, h3, h4] at h5
    exact ⟨_, h5⟩)
  refine ⟨g a, ?_, ?_⟩
  · show d.K w (f (g a)) cs
    rw [hfg]; exact hK
  · show good (f (g a))
    rw [hfg]; exact hg
end
end Go.Proofs.YtcfdefkpheeibaaO
end
section
namespace Go.Proofs.Ytcfdefkpheeibaa.fnExactRoundOf
open Go.RowKit Go.ChangeShapes Go.WideShapes Go.ChangeAt Go.Proofs.YtcfdefkpheeibaaO Go.Proofs.Ytcfdefkpheeibaa.PT Go.Proofs.YtcfdefkpheeibaaW.PrintWords Go.Proofs.YtcfdefkpheeibaaW.PrintLast
set_option linter.unusedVariables false
theorem opensT3 {H : Type} {enc : TypeId × Value → H} {w : World} : Opens enc Try.prog w 3 (Kd.int .i64) (IntGood .i64) := opens_int Try.underlying3
def goodT36 : S36 → Prop := (fun x : S36 => (IntGood .i64) x.f0 ∧ (IntGood .i64) x.f1)
theorem opensT36 {H : Type} {enc : TypeId × Value → H} {w : World} : Opens enc Try.prog w 36 k36 goodT36 :=
  opens_struct (l := [(3, 1), (3, 1)]) (fun x : S36 => (x.f0, x.f1)) (fun a => ⟨a.1, a.2⟩) (fun _ => rfl) Try.underlying36 rfl (fun j T n h => match j, T, n, h with
    | 0, _, _, h => by cases h; exact ⟨_, rfl, rfl, by kernel_rfl, rfl⟩
    | 1, _, _, h => by cases h; exact ⟨_, rfl, rfl, by kernel_rfl, rfl⟩
    | _ + 2, _, _, h => by simp at h) (by kernel_rfl) (opensSeq_cons opensT3 (opensSeq_one opensT3))
theorem opensT54 {H : Type} {enc : TypeId × Value → H} {w : World} : Opens enc Try.prog w 54 (Kd.slice 36 k36) (ListGood goodT36) := opens_slice Try.underlying54 (by kernel_rfl) opensT36
theorem opensT22 {H : Type} {enc : TypeId × Value → H} {w : World} : Opens enc Try.prog w 22 (Kd.slice 54 (Kd.slice 36 k36)) (ListGood (ListGood goodT36)) := opens_slice Try.underlying22 (by kernel_rfl) opensT54
/-- What is to be shown of the law, over numbers and lists alone. -/
def Pure : Prop := ∀ (x0 : Int) (x1 : List (List (S36))), (IntGood .i64) x0 → (ListGood (ListGood goodT36)) x1 → ∃ k, laws_FnExactRoundOf.f k x0 x1 = some true
end Go.Proofs.Ytcfdefkpheeibaa.fnExactRoundOf
end
section
/- The field and the greater field, over whole numbers: what the printed functions of chapters 2 and 3 come to. -/
namespace Go.Proofs.Ytcfdefkpheeibaa.PT
open Go.RowKit Go.Proofs.YtcfdefkpheeibaaW.PrintWords Go.Proofs.YtcfdefkpheeibaaW.PrintLast Go.Proofs.YtcfdefkpheeibaaW.PrintMore
set_option linter.unusedVariables false
set_option linter.unusedSimpArgs false

abbrev E := S44
abbrev LE := S36
theorem rdE (l : List E) (i : Int) : rd_T44 l i = l.getD i.toNat z44 := rfl
theorem rdL (l : List LE) (i : Int) : rd_T36 l i = l.getD i.toNat z36 := rfl
abbrev zE : E := z44
instance : DecidableEq S44 := fun x y => decidable_of_iff (x.f0 = y.f0 ∧ x.f1 = y.f1) ⟨fun h => by cases x; cases y; simp_all, fun h => by rw [h]; exact ⟨rfl, rfl⟩⟩
theorem E.ext_ {x y : E} (h0 : x.f0 = y.f0) (h1 : x.f1 = y.f1) : x = y := by cases x; cases y; simp_all
theorem LE.ext_ {x y : LE} (h0 : x.f0 = y.f0) (h1 : x.f1 = y.f1) : x = y := by cases x; cases y; simp_all

theorem w64 {n : Int} (h0 : -9223372036854775808 ≤ n) (h1 : n ≤ 9223372036854775807) : wrap64 n = n := by unfold wrap64; omega
theorem tmod_nn {a b : Int} (h : 0 ≤ a) : Int.tmod a b = a % b := Int.tmod_eq_emod_of_nonneg h
def inF (a : Int) : Prop := 0 ≤ a ∧ a ≤ 2130706432
instance (a : Int) : Decidable (inF a) := by unfold inF; infer_instance
def fadd (a b : Int) : Int := (a + b) % 2130706433
def fsub (a b : Int) : Int := (a - b) % 2130706433
def fmul (a b : Int) : Int := (a * b) % 2130706433
theorem inF_add (a b : Int) : inF (fadd a b) := by unfold inF fadd; omega
theorem inF_sub (a b : Int) : inF (fsub a b) := by unfold inF fsub; omega
theorem inF_mul (a b : Int) : inF (fmul a b) := by unfold inF fmul; omega
theorem mul_bd {a b : Int} (ha : inF a) (hb : inF b) : 0 ≤ a * b ∧ a * b ≤ 4539909903617114624 := by
  obtain ⟨h1, h2⟩ := ha
  obtain ⟨h3, h4⟩ := hb
  refine ⟨Int.mul_nonneg h1 h3, Int.le_trans (Int.mul_le_mul h2 h4 h3 (by omega)) (by decide)⟩
theorem inF_0 : inF 0 := by decide
theorem inF_3 : inF 3 := by decide

structure okE (x : E) : Prop where
  a : inF x.f0
  b : inF x.f1
def eadd (x y : E) : E := ⟨fadd x.f0 y.f0, fadd x.f1 y.f1⟩
def esub (x y : E) : E := ⟨fsub x.f0 y.f0, fsub x.f1 y.f1⟩
def emul (x y : E) : E := ⟨fadd (fmul x.f0 y.f0) (fmul 3 (fmul x.f1 y.f1)), fadd (fmul x.f0 y.f1) (fmul x.f1 y.f0)⟩
theorem ok_add (x y : E) : okE (eadd x y) := ⟨inF_add _ _, inF_add _ _⟩
theorem ok_sub (x y : E) : okE (esub x y) := ⟨inF_sub _ _, inF_sub _ _⟩
theorem ok_mul (x y : E) : okE (emul x y) := ⟨inF_add _ _, inF_add _ _⟩
theorem ok_zero : okE zE := ⟨inF_0, inF_0⟩
end Go.Proofs.Ytcfdefkpheeibaa.PT
end
section
/- What the printed functions of the field and of the greater field answer: the same sums and products on both sides. -/
namespace Go.Proofs.Ytcfdefkpheeibaa.PT
open Go.RowKit Go.Proofs.YtcfdefkpheeibaaW.PrintWords Go.Proofs.YtcfdefkpheeibaaW.PrintLast Go.Proofs.YtcfdefkpheeibaaW.PrintMore
set_option linter.unusedVariables false
set_option linter.unusedSimpArgs false

theorem impl_in_eq (a b c : Int) : impl_in.f a b c = some (decide (b ≤ a ∧ a ≤ c)) := by
  unfold impl_in.f; by_cases h : b ≤ a <;> simp [h]
theorem spec_l01In_eq (a b c : Int) : spec_l01In.f a b c = some (decide (b ≤ a ∧ a ≤ c)) := by
  unfold spec_l01In.f; by_cases h : b ≤ a <;> simp [h]
theorem impl_FieldOK_eq (a : Int) : impl_FieldOK.f a = some (decide (inF a)) := by
  unfold impl_FieldOK.f; rw [impl_in_eq]; rfl
theorem spec_FieldOK_eq (a : Int) : spec_FieldOK.f a = some (decide (inF a)) := by
  unfold spec_FieldOK.f; rw [spec_l01In_eq]; rfl
def okB (x : E) : Bool := decide (inF x.f0) && decide (inF x.f1)
theorem okB_iff (x : E) : okB x = true ↔ okE x := by
  unfold okB; rw [Bool.and_eq_true, decide_eq_true_eq, decide_eq_true_eq]; exact ⟨fun h => ⟨h.1, h.2⟩, fun h => ⟨h.a, h.b⟩⟩
theorem impl_ExtOK_eq (a b : Int) : impl_ExtOK.f a b = some (okB ⟨a, b⟩) := by
  unfold impl_ExtOK.f okB; rw [impl_FieldOK_eq, impl_FieldOK_eq]
  by_cases h : inF a <;> simp [h]
theorem spec_ExtOK_eq (a b : Int) : spec_ExtOK.f a b = some (okB ⟨a, b⟩) := by
  unfold spec_ExtOK.f okB; rw [spec_FieldOK_eq, spec_FieldOK_eq]
  by_cases h : inF a <;> simp [h]
theorem impl_add_eq {a b : Int} (ha : inF a) (hb : inF b) : impl_add.f a b = some (fadd a b) := by
  unfold inF at ha hb; unfold impl_add.f fadd; rw [w64 (by omega) (by omega), tmod_nn (by omega)]
theorem spec_l01Add_eq {a b : Int} (ha : inF a) (hb : inF b) : spec_l01Add.f a b = some (fadd a b) := by
  unfold inF at ha hb; unfold spec_l01Add.f fadd; rw [w64 (by omega) (by omega), tmod_nn (by omega)]
theorem impl_sub_eq {a b : Int} (ha : inF a) (hb : inF b) : impl_sub.f a b = some (fsub a b) := by
  unfold inF at ha hb; unfold impl_sub.f fsub; rw [w64 (n := a - b) (by omega) (by omega), w64 (by omega) (by omega), tmod_nn (by omega)]
  congr 1; omega
theorem spec_l01Sub_eq {a b : Int} (ha : inF a) (hb : inF b) : spec_l01Sub.f a b = some (fsub a b) := by
  unfold inF at ha hb; unfold spec_l01Sub.f fsub; rw [w64 (n := a + _) (by omega) (by omega), w64 (by omega) (by omega), tmod_nn (by omega)]
  congr 1; omega
theorem impl_mul_eq {a b : Int} (ha : inF a) (hb : inF b) : impl_mul.f a b = some (fmul a b) := by
  have := mul_bd ha hb
  unfold impl_mul.f fmul; rw [w64 (by omega) (by omega), tmod_nn (by omega)]
theorem spec_l01Mul_eq {a b : Int} (ha : inF a) (hb : inF b) : spec_l01Mul.f a b = some (fmul a b) := by
  have := mul_bd ha hb
  unfold spec_l01Mul.f fmul; rw [w64 (by omega) (by omega), tmod_nn (by omega)]
theorem impl_plus_eq {x y : E} (hx : okE x) (hy : okE y) : impl_Ext_plus.f x.f0 x.f1 y.f0 y.f1 = some ((eadd x y).f0, (eadd x y).f1) := by
  unfold impl_Ext_plus.f; rw [impl_add_eq hx.a hy.a, impl_add_eq hx.b hy.b]; rfl
theorem impl_minus_eq {x y : E} (hx : okE x) (hy : okE y) : impl_Ext_minus.f x.f0 x.f1 y.f0 y.f1 = some ((esub x y).f0, (esub x y).f1) := by
  unfold impl_Ext_minus.f; rw [impl_sub_eq hx.a hy.a, impl_sub_eq hx.b hy.b]; rfl
theorem impl_times_eq {x y : E} (hx : okE x) (hy : okE y) : impl_Ext_times.f x.f0 x.f1 y.f0 y.f1 = some ((emul x y).f0, (emul x y).f1) := by
  unfold impl_Ext_times.f
  simp only [impl_mul_eq hx.a hy.a, impl_mul_eq hx.b hy.b, impl_mul_eq hx.a hy.b, impl_mul_eq hx.b hy.a, impl_mul_eq inF_3 (inF_mul _ _), impl_add_eq (inF_mul _ _) (inF_mul _ _), Option.bind_some]
  rfl
theorem spec_l02Add_eq {x y : E} (hx : okE x) (hy : okE y) : spec_l02Add.f x.f0 x.f1 y.f0 y.f1 = some ((eadd x y).f0, (eadd x y).f1) := by
  unfold spec_l02Add.f; rw [spec_l01Add_eq hx.a hy.a, spec_l01Add_eq hx.b hy.b]; rfl
theorem spec_l02Sub_eq {x y : E} (hx : okE x) (hy : okE y) : spec_l02Sub.f x.f0 x.f1 y.f0 y.f1 = some ((esub x y).f0, (esub x y).f1) := by
  unfold spec_l02Sub.f; rw [spec_l01Sub_eq hx.a hy.a, spec_l01Sub_eq hx.b hy.b]; rfl
theorem spec_l02Mul_eq {x y : E} (hx : okE x) (hy : okE y) : spec_l02Mul.f x.f0 x.f1 y.f0 y.f1 = some ((emul x y).f0, (emul x y).f1) := by
  unfold spec_l02Mul.f
  have h3 : ∀ t, inF t → Int.tmod (wrap64 (3 * t)) 2130706433 = fmul 3 t := by
    intro t ht; unfold inF at ht; unfold fmul; rw [w64 (by omega) (by omega), tmod_nn (by omega)]
  simp only [spec_l01Mul_eq hx.a hy.a, spec_l01Mul_eq hx.b hy.b, spec_l01Mul_eq hx.a hy.b, spec_l01Mul_eq hx.b hy.a, Option.bind_some, h3 _ (inF_mul _ _), spec_l01Add_eq (inF_mul _ _) (inF_mul _ _)]
  rfl
/-! lists -/
def okL (l : List E) : Prop := ∀ x ∈ l, okE x
def okLB (l : List E) : Bool := l.all okB
theorem okLB_iff (l : List E) : okLB l = true ↔ okL l := by
  unfold okLB okL; rw [List.all_eq_true]; exact ⟨fun h x hx => (okB_iff x).1 (h x hx), fun h x hx => (okB_iff x).2 (h x hx)⟩
theorem okL_get {l : List E} (h : okL l) (i : Nat) (hi : i < l.length) : okE (l.getD i zE) := by
  rw [List.getD_eq_getElem?_getD, List.getElem?_eq_getElem hi]; exact h _ (List.getElem_mem hi)
theorem impl_are_eq (l : List E) : impl_are_Ext_ExtOK.f l = some (okLB l) := by
  unfold impl_are_Ext_ExtOK.f okLB
  congr 2; funext x; unfold impl_are_Ext_ExtOK.p; rw [impl_ExtOK_eq]; rfl
theorem spec_l02List_l0 (l : List E) (hl : l.length ≤ 4611686018427387904) (d : Nat) : ∀ (k i : Nat), i + d = l.length → d < k → spec_l02List.l0 k l i = some ((l.drop i).all okB) := by
  induction d with
  | zero =>
    intro k i hi hk
    obtain ⟨k, rfl⟩ : ∃ m, k = m + 1 := ⟨k - 1, by omega⟩
    simp only [spec_l02List.l0]; rw [if_neg (by omega), List.drop_eq_nil_of_le (by omega)]; rfl
  | succ d ih =>
    intro k i hi hk
    obtain ⟨k, rfl⟩ : ∃ m, k = m + 1 := ⟨k - 1, by omega⟩
    have hlt : i < l.length := by omega
    simp only [spec_l02List.l0]
    rw [if_pos (by omega), if_pos (by omega), spec_ExtOK_eq, List.drop_eq_getElem_cons hlt]
    have hg : rd_T44 l (i : Int) = l[i] := by rw [rdE, Int.toNat_natCast, List.getD_eq_getElem?_getD, List.getElem?_eq_getElem hlt]; rfl
    rw [hg]
    simp only [Option.bind_some, List.all_cons]
    by_cases hb : okB l[i] = true
    · have e : okB ⟨(l[i]).f0, (l[i]).f1⟩ = true := hb
      rw [e, if_pos rfl, w64 (by omega) (by omega), show (i : Int) + 1 = ((i + 1 : Nat) : Int) by omega, ih k (i + 1) (by omega) (by omega)]
      rfl
    · replace hb := Bool.eq_false_iff.mpr hb
      have e : okB ⟨(l[i]).f0, (l[i]).f1⟩ = false := hb
      rw [e]; rfl
theorem spec_l02List_eq {l : List E} (hl : l.length ≤ 4611686018427387904) {k : Nat} (hk : l.length < k) : spec_l02List.f k l = some (okLB l) := by
  have := spec_l02List_l0 l hl l.length k 0 (by omega) hk
  unfold spec_l02List.f; exact this
end Go.Proofs.Ytcfdefkpheeibaa.PT
end
section
/- The laws' own helpers: elements copied, compared, marked; and powers of two. -/
namespace Go.Proofs.Ytcfdefkpheeibaa.PT
open Go.RowKit Go.Proofs.YtcfdefkpheeibaaW.PrintWords Go.Proofs.YtcfdefkpheeibaaW.PrintLast Go.Proofs.YtcfdefkpheeibaaW.PrintMore
set_option linter.unusedVariables false
set_option linter.unusedSimpArgs false

theorem szExtS_big {l : List LE} {a : Int} (ha : 0 ≤ a) (ha2 : a ≤ 1048576) (hl : l.length ≤ 9223372036854775807) (h : a < l.length) : laws_szExtS.f l a = some (-1) := by
  unfold laws_szExtS.f; rw [w64 (by omega) (by omega), if_pos (by omega)]
theorem szExtS_fit {l : List LE} {a : Int} (ha2 : a ≤ 1048576) (h : (l.length : Int) ≤ a) : laws_szExtS.f l a = some (a - l.length) := by
  unfold laws_szExtS.f; rw [w64 (by omega) (by omega), if_neg (by omega)]
def conv (x : LE) : E := ⟨x.f0, x.f1⟩
def convL (l : List LE) : List E := l.map conv
theorem convL_length (l : List LE) : (convL l).length = l.length := by simp [convL]
theorem getD_at {α : Type} {l : List α} {z : α} {i : Nat} (h : i < l.length) : l.getD i z = l[i] := by
  rw [List.getD_eq_getElem?_getD, List.getElem?_eq_getElem h]; rfl
theorem rdE_at {l : List E} {i : Nat} (h : i < l.length) : rd_T44 l (i : Int) = l[i] := by rw [rdE, Int.toNat_natCast, getD_at h]
theorem rdL_at {l : List LE} {i : Nat} (h : i < l.length) : rd_T36 l (i : Int) = l[i] := by rw [rdL, Int.toNat_natCast, getD_at h]
theorem set_mid {α : Type} (a b : List α) (x y : α) : (a ++ x :: b).set a.length y = a ++ y :: b := by
  rw [List.set_append_right _ _ (Nat.le_refl _)]; simp
theorem toExtS_l0 (l : List LE) (hl : l.length ≤ 4611686018427387904) (d : Nat) : ∀ (k i : Nat), i + d = l.length → d < k →
    laws_toExtS.l0 k l (convL (l.take i) ++ List.replicate d z44) i = some (convL l) := by
  induction d with
  | zero =>
    intro k i hi hk
    obtain ⟨k, rfl⟩ : ∃ m, k = m + 1 := ⟨k - 1, by omega⟩
    simp only [laws_toExtS.l0]; rw [if_neg (by omega), List.take_of_length_le (by omega)]; simp
  | succ d ih =>
    intro k i hi hk
    obtain ⟨k, rfl⟩ : ∃ m, k = m + 1 := ⟨k - 1, by omega⟩
    have hlt : i < l.length := by omega
    have hlen : (convL (l.take i)).length = i := by rw [convL_length, List.length_take]; omega
    simp only [laws_toExtS.l0]
    rw [if_pos (by omega), if_pos (by omega), rdL_at hlt]
    simp only [laws_toExt.f, Option.bind_some]
    rw [if_pos (by rw [List.length_append, hlen, List.length_replicate]; omega), Int.toNat_natCast, List.replicate_succ]
    have hs := set_mid (convL (l.take i)) (List.replicate d z44) z44 (conv l[i])
    rw [hlen] at hs
    show laws_toExtS.l0 k l ((convL (l.take i) ++ z44 :: List.replicate d z44).set i (conv l[i])) _ = _
    rw [hs, w64 (by omega) (by omega), show (i : Int) + 1 = ((i + 1 : Nat) : Int) by omega]
    have := ih k (i + 1) (by omega) (by omega)
    rw [List.take_succ_eq_append_getElem hlt] at this
    simp only [convL, List.map_append, List.map_cons, List.map_nil, List.append_assoc, List.cons_append, List.nil_append] at this
    exact this
theorem toExtS_eq {l : List LE} (hl : l.length ≤ 1048576) {k : Nat} (hk : l.length < k) : laws_toExtS.f k l = some (convL l) := by
  unfold laws_toExtS.f
  rw [if_pos (by omega), if_pos (by simp; omega)]
  have := toExtS_l0 l (by omega) l.length k 0 (by omega) hk
  simpa [convL] using this
theorem eqExt_eq (x y : E) : laws_eqExt.f x.f0 x.f1 y.f0 y.f1 = some (decide (x = y)) := by
  unfold laws_eqExt.f
  by_cases h0 : x.f0 = y.f0
  · by_cases h1 : x.f1 = y.f1
    · rw [if_pos h0, if_pos h1, decide_eq_true (E.ext_ h0 h1)]
    · rw [if_pos h0, if_neg h1, decide_eq_false (fun e => h1 (by rw [e]))]
  · rw [if_neg h0, decide_eq_false (fun e => h0 (by rw [e]))]
theorem eqExtS_l0 (a : List E) (hl : a.length ≤ 4611686018427387904) (d : Nat) : ∀ (k i : Nat), i + d = a.length → d < k → laws_eqExtS.l0 k a a i = some true := by
  induction d with
  | zero =>
    intro k i hi hk
    obtain ⟨k, rfl⟩ : ∃ m, k = m + 1 := ⟨k - 1, by omega⟩
    simp only [laws_eqExtS.l0]; rw [if_neg (by omega)]
  | succ d ih =>
    intro k i hi hk
    obtain ⟨k, rfl⟩ : ∃ m, k = m + 1 := ⟨k - 1, by omega⟩
    simp only [laws_eqExtS.l0]
    rw [if_pos (by omega), if_pos (by omega), if_pos (by omega), eqExt_eq]
    simp only [Option.bind_some, decide_true, if_true]
    rw [w64 (by omega) (by omega), show (i : Int) + 1 = ((i + 1 : Nat) : Int) by omega]
    exact ih k (i + 1) (by omega) (by omega)
theorem eqExtS_refl {a : List E} (hl : a.length ≤ 4611686018427387904) {k : Nat} (hk : a.length < k) : laws_eqExtS.f k a a = some true := by
  unfold laws_eqExtS.f; rw [if_pos rfl]; exact eqExtS_l0 a hl a.length k 0 (by omega) hk

/-! marks: a list's cells are numbered from k on -/
def marked : Nat → Int → List E
  | 0, _ => []
  | n + 1, k => ⟨k, k + 1⟩ :: marked n (k + 2)
theorem marked_length (n : Nat) (k : Int) : (marked n k).length = n := by
  induction n generalizing k with
  | zero => rfl
  | succ n ih => simp [marked, ih]
theorem marked_snoc (n : Nat) (k : Int) : marked (n + 1) k = marked n k ++ [⟨k + 2 * n, k + 2 * n + 1⟩] := by
  induction n generalizing k with
  | zero => simp [marked]
  | succ n ih =>
    rw [marked, ih, marked, List.cons_append]
    have e : k + 2 + 2 * (n : Int) = k + 2 * ((n : Int) + 1) := by omega
    rw [Int.natCast_succ, e]
theorem marked_get (n : Nat) (k : Int) (i : Nat) (h : i < (marked n k).length) : (marked n k)[i] = ⟨k + 2 * i, k + 2 * i + 1⟩ := by
  induction n generalizing k i with
  | zero => simp [marked] at h
  | succ n ih =>
    cases i with
    | zero => simp [marked]
    | succ i =>
      simp only [marked, List.getElem_cons_succ]
      rw [ih]
      have e : k + 2 + 2 * (i : Int) = k + 2 * ((i + 1 : Nat) : Int) := by omega
      rw [e]
theorem markExtS_l0 (a : List E) (k0 : Int) (hk0 : 0 ≤ k0) (hk1 : k0 ≤ 4611686018427387904) (hl : a.length ≤ 1152921504606846976) (d : Nat) : ∀ (k i : Nat), i + d = a.length → d < k →
    laws_markExtS.l0 k (marked i k0 ++ a.drop i) (k0 + 2 * i) i = some (k0 + 2 * a.length, marked a.length k0) := by
  induction d with
  | zero =>
    intro k i hi hk
    obtain ⟨k, rfl⟩ : ∃ m, k = m + 1 := ⟨k - 1, by omega⟩
    have : i = a.length := by omega
    subst this
    simp only [laws_markExtS.l0]
    rw [if_neg (by rw [List.length_append, marked_length, List.length_drop]; omega)]; simp
  | succ d ih =>
    intro k i hi hk
    obtain ⟨k, rfl⟩ : ∃ m, k = m + 1 := ⟨k - 1, by omega⟩
    have hlt : i < a.length := by omega
    simp only [laws_markExtS.l0]
    rw [if_pos (by rw [List.length_append, marked_length, List.length_drop]; omega), if_pos (by omega)]
    simp only [Option.bind_some, Int.toNat_natCast]
    rw [List.drop_eq_getElem_cons hlt]
    have hs := fun y => set_mid (marked i k0) (a.drop (i + 1)) a[i] y
    have hs2 := fun x y => set_mid (marked i k0) (a.drop (i + 1)) x y
    rw [marked_length] at hs hs2
    rw [hs, hs2]
    have hr : ∀ x : E, rd_T44 (marked i k0 ++ x :: a.drop (i + 1)) (i : Int) = x := by
      intro x
      rw [rdE, Int.toNat_natCast, List.getD_eq_getElem?_getD, List.getElem?_append_right (by rw [marked_length]; omega), marked_length, Nat.sub_self]; rfl
    rw [hr]
    rw [w64 (n := k0 + 2 * (i : Int) + 1) (by omega) (by omega), w64 (by omega) (by omega), w64 (by omega) (by omega), show (i : Int) + 1 = ((i + 1 : Nat) : Int) by omega]
    have := ih k (i + 1) (by omega) (by omega)
    rw [marked_snoc, List.append_assoc] at this
    rw [show k0 + 2 * (i : Int) + 1 + 1 = k0 + 2 * ((i + 1 : Nat) : Int) by omega]
    exact this
theorem markExtS_eq {a : List E} {k0 : Int} (hk0 : 0 ≤ k0) (hk1 : k0 ≤ 4611686018427387904) (hl : a.length ≤ 1152921504606846976) {k : Nat} (hk : a.length < k) :
    laws_markExtS.f k a k0 = some (k0 + 2 * a.length, marked a.length k0) := by
  have := markExtS_l0 a k0 hk0 hk1 hl a.length k 0 (by omega) hk
  unfold laws_markExtS.f
  simpa [marked] using this
theorem heldExtS_l0 (n : Nat) (k0 : Int) (hk0 : 0 ≤ k0) (hk1 : k0 ≤ 4611686018427387904) (hl : n ≤ 1152921504606846976) (d : Nat) : ∀ (k i : Nat), i + d = n → d < k →
    laws_heldExtS.l0 k (marked n k0) (k0 + 2 * i) i = some (k0 + 2 * n) := by
  induction d with
  | zero =>
    intro k i hi hk
    obtain ⟨k, rfl⟩ : ∃ m, k = m + 1 := ⟨k - 1, by omega⟩
    have : i = n := by omega
    subst this
    simp only [laws_heldExtS.l0]
    rw [if_neg (by rw [marked_length]; omega)]
  | succ d ih =>
    intro k i hi hk
    obtain ⟨k, rfl⟩ : ∃ m, k = m + 1 := ⟨k - 1, by omega⟩
    have hlt : i < (marked n k0).length := by rw [marked_length]; omega
    simp only [laws_heldExtS.l0]
    rw [if_pos (by rw [marked_length]; omega), if_pos (by omega), rdE_at hlt, marked_get, if_pos rfl, w64 (n := k0 + 2 * (i : Int) + 1) (by omega) (by omega), if_pos rfl,
      w64 (by omega) (by omega), w64 (by omega) (by omega), show (i : Int) + 1 = ((i + 1 : Nat) : Int) by omega, show k0 + 2 * (i : Int) + 1 + 1 = k0 + 2 * ((i + 1 : Nat) : Int) by omega]
    exact ih k (i + 1) (by omega) (by omega)
theorem heldExtS_eq {n : Nat} {k0 : Int} (hk0 : 0 ≤ k0) (hk1 : k0 ≤ 4611686018427387904) (hl : n ≤ 1152921504606846976) {k : Nat} (hk : n < k) :
    laws_heldExtS.f k (marked n k0) k0 = some (k0 + 2 * n) := by
  have := heldExtS_l0 n k0 hk0 hk1 hl n k 0 (by omega) hk
  unfold laws_heldExtS.f
  simpa using this

/-! powers of two -/
def pow2B (n most : Int) : Bool := decide (n ≤ most) && (n == 1 || n == 2 || n == 4 || n == 8 || n == 16 || n == 32 || n == 64 || n == 128 || n == 256 || n == 512)
theorem and_small : ∀ n : Fin 513, 0 < n.val → ((Go.bits .and .i64 (n.val : Int) ((n.val : Int) - 1)) == 0) = pow2B n.val 512 := by decide +kernel
theorem impl_isPower_eq {n most : Int} (hm : most ≤ 512) : impl_isPower.f n most = some (pow2B n most) := by
  unfold impl_isPower.f
  rw [impl_in_eq]
  simp only [Option.bind_some]
  by_cases h : 1 ≤ n ∧ n ≤ most
  · rw [decide_eq_true h, if_pos rfl, w64 (by omega) (by omega)]
    have := and_small ⟨n.toNat, by omega⟩ (by show 0 < n.toNat; omega)
    simp only [Int.toNat_of_nonneg (show 0 ≤ n by omega)] at this
    rw [this]
    unfold pow2B
    rw [decide_eq_true h.2, decide_eq_true (show n ≤ 512 by omega)]
  · rw [decide_eq_false h, if_neg (by decide)]
    congr 1
    symm
    unfold pow2B
    by_cases h2 : n ≤ most
    · have : n < 1 := by omega
      have e : ∀ m : Int, 1 ≤ m → (n == m) = false := fun m hm => beq_eq_false_iff_ne.2 (by omega)
      simp [e]
    · rw [decide_eq_false h2]; rfl
def pw (n most : Int) : Nat → Int → Bool
  | 0, _ => false
  | r + 1, x => (decide (x ≤ most) && (n == x)) || (decide (x ≤ most) && pw n most r (x * 2))
theorem l04Power_l0 (n most : Int) (hm : most ≤ 512) (r : Nat) : ∀ (k : Nat) (x : Int), 0 < x → most < x * 2 ^ r → r < k → spec_l04Power.l0 k n most x = some (pw n most r x) := by
  induction r with
  | zero =>
    intro k x hx h hk
    obtain ⟨k, rfl⟩ : ∃ m, k = m + 1 := ⟨k - 1, by omega⟩
    simp only [spec_l04Power.l0]; rw [if_neg (by simp at h; omega)]; rfl
  | succ r ih =>
    intro k x hx h hk
    obtain ⟨k, rfl⟩ : ∃ m, k = m + 1 := ⟨k - 1, by omega⟩
    simp only [spec_l04Power.l0, pw]
    by_cases h1 : x ≤ most
    · rw [if_pos h1, decide_eq_true h1]
      by_cases h2 : n = x
      · rw [if_pos h2, beq_iff_eq.2 h2]; rfl
      · rw [if_neg h2, beq_eq_false_iff_ne.2 h2, w64 (by omega) (by omega), ih k (x * 2) (by omega) (by rw [Int.pow_succ] at h; rw [Int.mul_assoc, Int.mul_comm 2]; exact h) (by omega)]; simp
    · rw [if_neg h1, decide_eq_false h1]; rfl
theorem pw_eq {n most : Int} (hm : most ≤ 512) : pw n most 10 1 = pow2B n most := by
  rw [Bool.eq_iff_iff]
  simp only [pw, pow2B, Bool.or_eq_true, Bool.and_eq_true, decide_eq_true_eq, beq_iff_eq]
  simp
  omega
theorem spec_l04Power_eq {n most : Int} (hm : most ≤ 512) {k : Nat} (hk : 10 < k) : spec_l04Power.f k n most = some (pow2B n most) := by
  unfold spec_l04Power.f
  rw [l04Power_l0 n most hm 10 k 1 (by omega) (by omega) hk, pw_eq hm]
theorem spec_l06Table_eq {n : Int} {k : Nat} (hk : 10 < k) : spec_l06Table.f k n = some (pow2B n 64) := by
  unfold spec_l06Table.f; rw [spec_l04Power_eq (by omega) hk]; rfl
end Go.Proofs.Ytcfdefkpheeibaa.PT
end
section
/- Steps that several laws share: same answers compared, lists turned in place. -/
namespace Go.Proofs.Ytcfdefkpheeibaa.PT
open Go.RowKit Go.Proofs.YtcfdefkpheeibaaW.PrintWords Go.Proofs.YtcfdefkpheeibaaW.PrintLast Go.Proofs.YtcfdefkpheeibaaW.PrintMore
set_option linter.unusedVariables false
set_option linter.unusedSimpArgs false
/-- A step with its answer known, as a rewriting (no unfolding in the kernel). -/
theorem bS {α β : Type} (a : α) (f : α → Option β) : (some a).bind f = f a := Eq.trans (Eq.refl _) (Option.bind_some a f)
theorem okL_rd {l : List E} (h : okL l) {i : Int} (hi : 0 ≤ i) (hl : i < l.length) : okE (rd_T44 l i) := okL_get h i.toNat (by omega)
theorem okL_app {l m : List E} (h : okL l) (h2 : okL m) : okL (l ++ m) := by
  intro y hy
  rcases List.mem_append.mp hy with h1 | h1
  · exact h y h1
  · exact h2 y h1
theorem okL_one {x : E} (hx : okE x) : okL [x] := by intro y hy; rw [List.mem_singleton.mp hy]; exact hx
theorem okL_nil : okL [] := by intro y hy; cases hy
theorem pow2B_64 {n : Int} (h : pow2B n 64 = true) : n = 1 ∨ n = 2 ∨ n = 4 ∨ n = 8 ∨ n = 16 ∨ n = 32 ∨ n = 64 := by
  unfold pow2B at h
  simp only [Bool.and_eq_true, Bool.or_eq_true, decide_eq_true_eq, beq_iff_eq] at h
  omega
end Go.Proofs.Ytcfdefkpheeibaa.PT
end
section
/- The equality weight, at a point and as a table: both sides walk the same numbers. -/
namespace Go.Proofs.Ytcfdefkpheeibaa.PT
open Go.RowKit Go.Proofs.YtcfdefkpheeibaaW.PrintWords Go.Proofs.YtcfdefkpheeibaaW.PrintLast Go.Proofs.YtcfdefkpheeibaaW.PrintMore
set_option linter.unusedVariables false
set_option linter.unusedSimpArgs false
/-! the table -/
theorem etaE (x : E) : (⟨x.f0, x.f1⟩ : E) = x := rfl
end Go.Proofs.Ytcfdefkpheeibaa.PT
end
section
/- Tables turned in place, folded, and read at a point: both sides walk the same numbers. -/
namespace Go.Proofs.Ytcfdefkpheeibaa.PT
open Go.RowKit Go.Proofs.YtcfdefkpheeibaaW.PrintWords Go.Proofs.YtcfdefkpheeibaaW.PrintLast Go.Proofs.YtcfdefkpheeibaaW.PrintMore
set_option linter.unusedVariables false
set_option linter.unusedSimpArgs false
theorem spec_TableOK_eq {l : List E} (hl : l.length ≤ 1048576) {k : Nat} (hk : l.length + 20 < k) : spec_TableOK.f k l = some (pow2B l.length 64 && okLB l) := by
  unfold spec_TableOK.f
  by_cases h2 : (l.length : Int) > 4096
  · rw [if_pos h2]; congr 1; symm
    have : pow2B (l.length : Int) 64 = false := by unfold pow2B; rw [decide_eq_false (by omega)]; rfl
    rw [this]; rfl
  · rw [if_neg h2, spec_l06Table_eq (by omega), spec_l02List_eq (by omega) (by omega)]
    cases pow2B (l.length : Int) 64 <;> simp
theorem impl_TableOK_eq (l : List E) : impl_TableOK.f l = some (pow2B l.length 64 && okLB l) := by
  unfold impl_TableOK.f
  rw [impl_isPower_eq (by omega), impl_are_eq]
  cases pow2B (l.length : Int) 64 <;> simp
/-! a table turned in place -/
/-! a table folded -/
theorem between_eq {x y z : E} (hx : okE x) (hy : okE y) (hz : okE z) : impl_between.f x.f0 x.f1 y.f0 y.f1 z.f0 z.f1 = some ((eadd x (emul z (esub y x))).f0, (eadd x (emul z (esub y x))).f1) := by
  unfold impl_between.f
  rw [impl_minus_eq hy hx]
  simp only [bS]
  rw [impl_times_eq hz (ok_sub _ _)]
  simp only [bS]
  rw [impl_plus_eq hx (ok_mul _ _)]
  rfl
theorem fold_l0 (x0 : List E) (h0 : okL x0) (hn : x0.length ≤ 4096) (z : E) (hz : okE z) (d : Nat) : ∀ (i : Nat) (a : List E), i + 2 * d = x0.length → a.length ≤ i → okL a →
    ∃ q, (okL q ∧ q.length = a.length + d) ∧ ∀ k, d < k → spec_l06Fold.l0 k x0 a i z.f0 z.f1 = some q ∧ impl_foldTable.l0 k x0 a i z.f0 z.f1 = some q := by
  induction d with
  | zero =>
    intro i a hi ha hoa
    refine ⟨a, ⟨hoa, rfl⟩, fun k hk => ?_⟩
    obtain ⟨k, rfl⟩ : ∃ m, k = m + 1 := ⟨k - 1, by omega⟩
    simp only [spec_l06Fold.l0, impl_foldTable.l0]
    rw [if_neg (by omega), if_neg (by omega)]; exact ⟨rfl, rfl⟩
  | succ d ih =>
    intro i a hi ha hoa
    have w1 : wrap64 ((i : Int) + 1) = (i : Int) + 1 := w64 (by omega) (by omega)
    have w2 : wrap64 ((i : Int) + 2) = ((i + 2 : Nat) : Int) := by rw [w64 (by omega) (by omega)]; omega
    have h1 : okE (rd_T44 x0 i) := okL_rd h0 (by omega) (by omega)
    have h2 : okE (rd_T44 x0 ((i : Int) + 1)) := okL_rd h0 (by omega) (by omega)
    obtain ⟨q, hq, h⟩ := ih (i + 2) (a ++ [eadd (rd_T44 x0 i) (emul z (esub (rd_T44 x0 ((i : Int) + 1)) (rd_T44 x0 i)))]) (by omega) (by simp; omega) (okL_app hoa (okL_one (ok_add _ _)))
    refine ⟨q, ⟨hq.1, by rw [hq.2]; simp; omega⟩, fun k hk => ?_⟩
    obtain ⟨k, rfl⟩ : ∃ m, k = m + 1 := ⟨k - 1, by omega⟩
    simp only [spec_l06Fold.l0, impl_foldTable.l0]
    rw [w1, w2, if_pos (by omega), if_pos (by omega), if_pos (by omega), if_pos (by omega), if_pos (by omega), if_pos (by omega), if_pos (by omega), if_pos (by omega)]
    rw [spec_l02Sub_eq h2 h1, between_eq h1 h2 hz]
    simp only [bS]
    rw [spec_l02Mul_eq hz (ok_sub _ _), if_pos (by omega)]
    simp only [bS]
    rw [spec_l02Add_eq h1 (ok_mul _ _)]
    simp only [bS]
    rw [if_pos (by omega)]
    exact h k (by omega)
theorem fold_same {x0 : List E} (h0 : okL x0) {d : Nat} (hd : 2 * d = x0.length) (hn : x0.length ≤ 4096) {z : E} (hz : okE z) :
    ∃ q, (okL q ∧ q.length = d) ∧ ∀ k, d < k → spec_l06Fold.f k x0 z.f0 z.f1 = some q ∧ impl_foldTable.f k x0 z.f0 z.f1 = some q := by
  unfold spec_l06Fold.f impl_foldTable.f
  obtain ⟨q, hq, h⟩ := fold_l0 x0 h0 hn z hz d 0 [] (by omega) (by simp) okL_nil
  exact ⟨q, ⟨hq.1, by rw [hq.2]; simp⟩, h⟩
/-! a table at a point -/
end Go.Proofs.Ytcfdefkpheeibaa.PT
end
section
/- Powers, inverses and the line: what the printed functions of chapter 2 come to. -/
namespace Go.Proofs.Ytcfdefkpheeibaa.PT
open Go.RowKit Go.Proofs.YtcfdefkpheeibaaW.PrintWords Go.Proofs.YtcfdefkpheeibaaW.PrintLast Go.Proofs.YtcfdefkpheeibaaW.PrintMore
set_option linter.unusedVariables false
set_option linter.unusedSimpArgs false
end Go.Proofs.Ytcfdefkpheeibaa.PT
end
section
/- Tables of tables: the laws' helpers over them, and the sum over all points. -/
namespace Go.Proofs.Ytcfdefkpheeibaa.PT
open Go.RowKit Go.Proofs.YtcfdefkpheeibaaW.PrintWords Go.Proofs.YtcfdefkpheeibaaW.PrintLast Go.Proofs.YtcfdefkpheeibaaW.PrintMore
set_option linter.unusedVariables false
set_option linter.unusedSimpArgs false
theorem rdLL_at {L : List (List LE)} {i : Nat} (h : i < L.length) : rd_L2 L (i : Int) = L[i] := by
  show L.getD (i : Int).toNat [] = L[i]
  rw [Int.toNat_natCast, getD_at h]
theorem rdEE_at {L : List (List E)} {i : Nat} (h : i < L.length) : rd_L4 L (i : Int) = L[i] := by
  show L.getD (i : Int).toNat [] = L[i]
  rw [Int.toNat_natCast, getD_at h]
theorem szSS_l0 (L : List (List LE)) (hg : ∀ x ∈ L, x.length ≤ 9223372036854775807) (hL : L.length ≤ 1048576) (d : Nat) : ∀ (k i : Nat) (a : Int), i + d = L.length → d < k → 0 ≤ a → a ≤ 1048576 →
    ∃ r, laws_szExtSS.l0 k L a i = some r ∧ (r < 0 ∨ ∀ x ∈ L.drop i, (x.length : Int) ≤ 1048576) := by
  induction d with
  | zero =>
    intro k i a hi hk h0 h1
    obtain ⟨k, rfl⟩ : ∃ m, k = m + 1 := ⟨k - 1, by omega⟩
    simp only [laws_szExtSS.l0]
    rw [if_neg (by omega)]
    exact ⟨_, rfl, Or.inr (by rw [List.drop_eq_nil_of_le (by omega)]; intro x hx; cases hx)⟩
  | succ d ih =>
    intro k i a hi hk h0 h1
    obtain ⟨k, rfl⟩ : ∃ m, k = m + 1 := ⟨k - 1, by omega⟩
    have hlt : i < L.length := by omega
    simp only [laws_szExtSS.l0]
    rw [if_pos (show (i : Int) < (L.length : Int) by omega), if_pos (show 0 ≤ (i : Int) by omega), rdLL_at hlt]
    by_cases h : a < ((L[i]).length : Int)
    · rw [szExtS_big h0 h1 (hg _ (List.getElem_mem hlt)) h]
      simp only [bS]
      exact ⟨_, if_pos (by omega), Or.inl (by omega)⟩
    · rw [szExtS_fit h1 (by omega)]
      simp only [bS]
      rw [if_neg (by omega), w64 (by omega) (by omega), show (i : Int) + 1 = ((i + 1 : Nat) : Int) by omega]
      obtain ⟨r, e, hr⟩ := ih k (i + 1) (a - (L[i]).length) (by omega) (by omega) (by omega) (by omega)
      refine ⟨r, e, ?_⟩
      rcases hr with hr | hr
      · exact Or.inl hr
      · refine Or.inr fun x hx => ?_
        rw [List.drop_eq_getElem_cons hlt] at hx
        rcases List.mem_cons.mp hx with rfl | hx
        · omega
        · exact hr x hx
theorem szSS_eq {L : List (List LE)} (hg : ∀ x ∈ L, x.length ≤ 9223372036854775807) (hg2 : L.length ≤ 9223372036854775807) :
    ∃ r, (∀ k, min L.length 1048576 < k → laws_szExtSS.f k L 1048576 = some r) ∧ (r < 0 ∨ (L.length ≤ 1048576 ∧ ∀ x ∈ L, x.length ≤ 1048576)) := by
  by_cases h : L.length ≤ 1048576
  · obtain ⟨r0, e0, hr0⟩ := szSS_l0 L hg h L.length (L.length + 1) 0 (1048576 - L.length) (by omega) (by omega) (by omega) (by omega)
    have mono : ∀ (d k i : Nat) (a : Int), i + d = L.length → d < k → 0 ≤ a → a ≤ 1048576 → laws_szExtSS.l0 k L a i = laws_szExtSS.l0 (d + 1) L a i := by
      intro d
      induction d with
      | zero =>
        intro k i a hi hk _ _
        obtain ⟨k, rfl⟩ : ∃ m, k = m + 1 := ⟨k - 1, by omega⟩
        simp only [laws_szExtSS.l0]
        rw [if_neg (by omega), if_neg (by omega)]
      | succ d ih =>
        intro k i a hi hk h0 h1
        obtain ⟨k, rfl⟩ : ∃ m, k = m + 1 := ⟨k - 1, by omega⟩
        have hlt : i < L.length := by omega
        rw [laws_szExtSS.l0, laws_szExtSS.l0, if_pos (show (i : Int) < (L.length : Int) by omega), if_pos (show 0 ≤ (i : Int) by omega), rdLL_at hlt,
          if_pos (show (i : Int) < (L.length : Int) by omega), if_pos (show 0 ≤ (i : Int) by omega)]
        by_cases h : a < ((L[i]).length : Int)
        · rw [szExtS_big h0 h1 (hg _ (List.getElem_mem hlt)) h]
          simp only [bS]
          rw [if_pos (by omega), if_pos (by omega)]
        · rw [szExtS_fit h1 (by omega)]
          simp only [bS]
          rw [if_neg (by omega), if_neg (by omega), w64 (n := (i : Int) + 1) (by omega) (by omega), show (i : Int) + 1 = ((i + 1 : Nat) : Int) by omega]
          exact ih k (i + 1) _ (by omega) (by omega) (by omega) (by omega)
    refine ⟨r0, fun k hk => ?_, ?_⟩
    · unfold laws_szExtSS.f
      rw [w64 (by omega) (by omega), if_neg (by omega)]
      have := mono L.length k 0 (1048576 - L.length) (by omega) (by omega) (by omega) (by omega)
      rw [Int.natCast_zero] at this e0
      rw [this]; exact e0
    · rcases hr0 with h1 | h1
      · exact Or.inl h1
      · exact Or.inr ⟨h, fun x hx => by have := h1 x (by rw [List.drop_zero]; exact hx); omega⟩
  · refine ⟨-1, fun k hk => ?_, Or.inl (by omega)⟩
    unfold laws_szExtSS.f
    rw [w64 (by omega) (by omega), if_pos (by omega)]
def convLL (L : List (List LE)) : List (List E) := L.map convL
theorem convLL_length (L : List (List LE)) : (convLL L).length = L.length := by simp [convLL]
theorem convLL_get (L : List (List LE)) (i : Nat) (h : i < (convLL L).length) : (convLL L)[i] = convL (L[i]'(by rw [convLL_length] at h; exact h)) := by simp [convLL]
theorem toSS_l0 (L : List (List LE)) (hL : L.length ≤ 1048576) (hx : ∀ x ∈ L, x.length ≤ 1048576) (d : Nat) : ∀ (k i : Nat), i + d = L.length → d + 1048576 < k →
    laws_toExtSS.l0 k L ((convLL L).take i ++ List.replicate d []) i = some (convLL L) := by
  induction d with
  | zero =>
    intro k i hi hk
    obtain ⟨k, rfl⟩ : ∃ m, k = m + 1 := ⟨k - 1, by omega⟩
    simp only [laws_toExtSS.l0]
    rw [if_neg (by omega), List.take_of_length_le (by rw [convLL_length]; omega)]; simp
  | succ d ih =>
    intro k i hi hk
    obtain ⟨k, rfl⟩ : ∃ m, k = m + 1 := ⟨k - 1, by omega⟩
    have hlt : i < L.length := by omega
    have hlt2 : i < (convLL L).length := by rw [convLL_length]; exact hlt
    have hxi := hx _ (List.getElem_mem hlt)
    have hlen : ((convLL L).take i).length = i := by rw [List.length_take]; omega
    simp only [laws_toExtSS.l0]
    rw [if_pos (show (i : Int) < (L.length : Int) by omega), if_pos (show 0 ≤ (i : Int) by omega), rdLL_at hlt, toExtS_eq hxi (by omega)]
    simp only [bS]
    rw [if_pos (by rw [List.length_append, hlen, List.length_replicate]; omega), Int.toNat_natCast, List.replicate_succ]
    have hs := set_mid ((convLL L).take i) (List.replicate d []) [] (convL L[i])
    rw [hlen] at hs
    rw [hs, w64 (by omega) (by omega), show (i : Int) + 1 = ((i + 1 : Nat) : Int) by omega]
    have := ih k (i + 1) (by omega) (by omega)
    rw [List.take_succ_eq_append_getElem hlt2, convLL_get, List.append_assoc] at this
    exact this
theorem toSS_eq {L : List (List LE)} (hL : L.length ≤ 1048576) (hx : ∀ x ∈ L, x.length ≤ 1048576) {k : Nat} (hk : 3000000 < k) : laws_toExtSS.f k L = some (convLL L) := by
  unfold laws_toExtSS.f
  rw [if_pos (by omega), if_pos (by omega)]
  have := toSS_l0 L hL hx L.length k 0 (by omega) (by omega)
  rw [List.take_zero, List.nil_append, Int.natCast_zero] at this
  rw [Int.toNat_natCast]
  exact this
theorem eqSS_l0 (L : List (List E)) (hL : L.length ≤ 1048576) (hx : ∀ x ∈ L, x.length ≤ 1048576) (d : Nat) : ∀ (k i : Nat), i + d = L.length → d + 1048576 < k → laws_eqExtSS.l0 k L L i = some true := by
  induction d with
  | zero =>
    intro k i hi hk
    obtain ⟨k, rfl⟩ : ∃ m, k = m + 1 := ⟨k - 1, by omega⟩
    simp only [laws_eqExtSS.l0]
    rw [if_neg (by omega)]
  | succ d ih =>
    intro k i hi hk
    obtain ⟨k, rfl⟩ : ∃ m, k = m + 1 := ⟨k - 1, by omega⟩
    have hlt : i < L.length := by omega
    have hxi := hx _ (List.getElem_mem hlt)
    simp only [laws_eqExtSS.l0]
    rw [if_pos (show (i : Int) < (L.length : Int) by omega), if_pos (show 0 ≤ (i : Int) by omega), if_pos (show (i : Int) < (L.length : Int) by omega), rdEE_at hlt, eqExtS_refl (by omega) (by omega)]
    simp only [bS, if_true]
    rw [w64 (by omega) (by omega), show (i : Int) + 1 = ((i + 1 : Nat) : Int) by omega]
    exact ih k (i + 1) (by omega) (by omega)
theorem eqSS_refl {L : List (List E)} (hL : L.length ≤ 1048576) (hx : ∀ x ∈ L, x.length ≤ 1048576) {k : Nat} (hk : 3000000 < k) : laws_eqExtSS.f k L L = some true := by
  unfold laws_eqExtSS.f
  rw [if_pos rfl]
  exact eqSS_l0 L hL hx L.length k 0 (by omega) (by omega)
theorem convLL_short {L : List (List LE)} (hx : ∀ x ∈ L, x.length ≤ 1048576) : ∀ x ∈ convLL L, x.length ≤ 1048576 := by
  intro x h
  obtain ⟨y, hy, rfl⟩ := List.mem_map.mp h
  rw [convL_length]; exact hx y hy
/-! the code of tables -/
def okT (x : List E) : Bool := pow2B x.length 64 && okLB x
def askC (n0 : Nat) : List (List E) → Int
  | [] => 0
  | x :: xs => if okT x = true then (if x.length = n0 then askC n0 xs else 8) else 1
theorem ask_l0 (L : List (List E)) (hL : L.length ≤ 4096) (hL0 : 0 < L.length) (hx : ∀ x ∈ L, x.length ≤ 1048576) (d : Nat) : ∀ (k i : Nat), i + d = L.length → d + 1048600 < k →
    spec_l08Ask.l0 k L i = some (askC (L[0]).length (L.drop i)) ∧ impl_tablesCode.l0 k L L (L.length : Int) i = some (askC (L[0]).length (L.drop i)) := by
  induction d with
  | zero =>
    intro k i hi hk
    obtain ⟨k, rfl⟩ : ∃ m, k = m + 1 := ⟨k - 1, by omega⟩
    simp only [spec_l08Ask.l0, impl_tablesCode.l0]
    rw [if_neg (by omega), if_neg (by omega), List.drop_eq_nil_of_le (by omega)]
    exact ⟨rfl, rfl⟩
  | succ d ih =>
    intro k i hi hk
    obtain ⟨k, rfl⟩ : ∃ m, k = m + 1 := ⟨k - 1, by omega⟩
    have hlt : i < L.length := by omega
    have hxi := hx _ (List.getElem_mem hlt)
    have h0 : rd_L4 L 0 = L[0] := rdEE_at hL0
    simp only [spec_l08Ask.l0, impl_tablesCode.l0]
    rw [if_pos (show (i : Int) < (L.length : Int) by omega), if_pos (show 0 ≤ (i : Int) by omega), rdEE_at hlt, h0, spec_TableOK_eq hxi (by omega),
      if_pos (show (i : Int) < (L.length : Int) by omega), if_pos (show 0 ≤ (i : Int) by omega), if_pos (show (i : Int) < (L.length : Int) by omega), impl_TableOK_eq, List.drop_eq_getElem_cons hlt]
    simp only [bS, askC]
    by_cases h1 : okT L[i] = true
    · have h1' : (pow2B ((L[i]).length : Int) 64 && okLB L[i]) = true := h1
      rw [if_pos h1', if_pos h1', if_pos h1, if_pos (show 0 < (L.length : Int) by omega), if_pos (show 0 < (L.length : Int) by omega)]
      by_cases h2 : (L[i]).length = (L[0]).length
      · have hc : ((L[i]).length : Int) = ((L[0]).length : Int) := by omega
        rw [if_pos hc, if_pos h2, if_pos hc, w64 (by omega) (by omega), show (i : Int) + 1 = ((i + 1 : Nat) : Int) by omega]
        exact ih k (i + 1) (by omega) (by omega)
      · have hc : ¬ ((L[i]).length : Int) = ((L[0]).length : Int) := by omega
        rw [if_neg hc, if_neg h2, if_neg hc]; exact ⟨rfl, rfl⟩
    · have h1' : ¬ (pow2B ((L[i]).length : Int) 64 && okLB L[i]) = true := h1
      rw [if_neg h1', if_neg h1', if_neg h1]; exact ⟨rfl, rfl⟩
theorem askC_zero {n0 : Nat} : ∀ {L : List (List E)}, askC n0 L = 0 → ∀ x ∈ L, okT x = true ∧ x.length = n0
  | [], _ => by intro x hx; cases hx
  | y :: ys, h => by
    intro x hx
    unfold askC at h
    by_cases h1 : okT y = true
    · rw [if_pos h1] at h
      by_cases h2 : y.length = n0
      · rw [if_pos h2] at h
        rcases List.mem_cons.mp hx with rfl | hx
        · exact ⟨h1, h2⟩
        · exact askC_zero h x hx
      · rw [if_neg h2] at h; omega
    · rw [if_neg h1] at h; omega
theorem ask_same (a : Int) {L : List (List E)} (hx : ∀ x ∈ L, x.length ≤ 1048576) (hL : L.length ≤ 1048576) :
    ∃ c, (∀ k, 3000000 < k → spec_l08Ask.f k a L = some c ∧ impl_tablesCode.f k a L = some c) ∧ (4096 < L.length → c = 2) ∧
      (c = 0 → (a = 1 ∨ a = 2) ∧ (L.length : Int) = 2 * a ∧ ∃ n0, ∀ x ∈ L, okT x = true ∧ x.length = n0) := by
  by_cases h : (L.length : Int) > 4096
  · refine ⟨2, fun k hk => ?_, fun _ => rfl, fun h => by omega⟩
    unfold spec_l08Ask.f impl_tablesCode.f
    rw [if_pos h, if_pos h]; exact ⟨rfl, rfl⟩
  · by_cases h1 : a = 1 ∨ a = 2
    · have e1 : (if a = 1 then some true else some (a == 2)) = some true := by rcases h1 with rfl | rfl <;> rfl
      have e2 : decide (1 ≤ a ∧ a ≤ 2) = true := decide_eq_true (by omega)
      by_cases h2 : (L.length : Int) = 2 * a
      · refine ⟨askC (L[0]'(by omega)).length L, fun k hk => ?_, fun _ => by omega, fun h0 => ⟨h1, h2, _, askC_zero h0⟩⟩
        obtain ⟨k, rfl⟩ : ∃ m, k = m + 1 := ⟨k - 1, by omega⟩
        have q1 := (ask_l0 L (by omega) (by omega) hx L.length k 0 (by omega) (by omega)).1
        have q2 := (ask_l0 L (by omega) (by omega) hx L.length (k + 1) 0 (by omega) (by omega)).2
        unfold spec_l08Ask.f impl_tablesCode.f spec_l08Kind.f impl_degreeOf.f spec_l08Tables.f impl_tablesOf.f
        have e3 : ((L.length : Int) != 2 * a) = false := by rw [bne_eq_false_iff_eq]; exact h2
        rw [if_neg h, if_neg h, e1, impl_in_eq]
        simp only [bS, if_true]
        rw [e2]
        simp only [if_true, bS]
        rw [w64 (n := a + 1) (by omega) (by omega), w64 (n := 2 * a) (by omega) (by omega), if_neg (show ¬ a + 1 = 0 by omega), if_pos h2, e3]
        simp only [spec_l08Ask.j0, Bool.false_eq_true, if_false]
        rw [Int.natCast_zero, List.drop_zero] at q1 q2
        exact ⟨q1, q2⟩
      · refine ⟨4, fun k hk => ?_, fun _ => by omega, fun h => by omega⟩
        obtain ⟨k, rfl⟩ : ∃ m, k = m + 1 := ⟨k - 1, by omega⟩
        have e3 : ((L.length : Int) != 2 * a) = true := by rw [bne_iff_ne]; exact h2
        unfold spec_l08Ask.f impl_tablesCode.f spec_l08Kind.f impl_degreeOf.f spec_l08Tables.f impl_tablesOf.f
        rw [if_neg h, if_neg h, e1, impl_in_eq]
        simp only [bS, if_true]
        rw [e2]
        simp only [if_true, bS]
        rw [w64 (n := a + 1) (by omega) (by omega), w64 (n := 2 * a) (by omega) (by omega), if_neg (show ¬ a + 1 = 0 by omega), if_neg h2, e3]
        simp only [spec_l08Ask.j0, if_true]
        exact ⟨trivial, trivial⟩
    · refine ⟨4, fun k hk => ?_, fun _ => by omega, fun h => by omega⟩
      obtain ⟨k, rfl⟩ : ∃ m, k = m + 1 := ⟨k - 1, by omega⟩
      have e1 : (if a = 1 then some true else some (a == 2)) = some false := by
        rw [if_neg (by omega)]; congr 1; exact beq_eq_false_iff_ne.2 (by omega)
      have e2 : decide (1 ≤ a ∧ a ≤ 2) = false := decide_eq_false (by omega)
      unfold spec_l08Ask.f impl_tablesCode.f spec_l08Kind.f impl_degreeOf.f
      rw [if_neg h, if_neg h, e1, impl_in_eq]
      simp only [bS]
      rw [e2]
      simp only [Bool.false_eq_true, if_false, bS, spec_l08Ask.j0, if_true]
      exact ⟨trivial, trivial⟩
/-! the sum -/
theorem combine_eq {a : Int} {l : List E} (ha : a = 1 ∨ a = 2) (hl : okL l) (hn : (l.length : Int) = 2 * a) : ∃ r : E, okE r ∧ spec_l08Combine.f a l = some (r.f0, r.f1) ∧ impl_combine.f a l = some (r.f0, r.f1) := by
  unfold spec_l08Combine.f impl_combine.f
  rcases ha with rfl | rfl
  · rw [if_pos rfl, if_pos (by omega), if_pos (by omega), if_pos rfl, if_pos (by omega), if_pos (by omega)]
    rw [spec_l02Mul_eq (okL_rd hl (by omega) (by omega)) (okL_rd hl (by omega) (by omega)), impl_times_eq (okL_rd hl (by omega) (by omega)) (okL_rd hl (by omega) (by omega))]
    simp only [bS]
    exact ⟨_, ok_mul _ _, rfl, rfl⟩
  · rw [if_neg (by omega), if_pos (by omega), if_pos (by omega), if_pos (by omega), if_neg (by omega), if_pos (by omega), if_pos (by omega), if_pos (by omega)]
    rw [spec_l02Mul_eq (okL_rd hl (by omega) (by omega)) (okL_rd hl (by omega) (by omega)), impl_times_eq (okL_rd hl (by omega) (by omega)) (okL_rd hl (by omega) (by omega))]
    simp only [bS]
    rw [if_pos (by omega), if_pos (by omega)]
    rw [spec_l02Sub_eq (ok_mul _ _) (okL_rd hl (by omega) (by omega)), impl_minus_eq (ok_mul _ _) (okL_rd hl (by omega) (by omega))]
    simp only [bS]
    rw [spec_l02Mul_eq (okL_rd hl (by omega) (by omega)) (ok_sub _ _), impl_times_eq (okL_rd hl (by omega) (by omega)) (ok_sub _ _)]
    simp only [bS]
    exact ⟨_, ok_mul _ _, rfl, rfl⟩
def col (i : Nat) (x : List E) : E := x.getD i zE
theorem specAt_l0 (a : Int) (L : List (List E)) (hL : L.length ≤ 4) (n0 : Nat) (hx : ∀ x ∈ L, x.length = n0) (i : Nat) (hi : i < n0) (d : Nat) : ∀ (k j : Nat), j + d = L.length → d < k →
    spec_l08At.l0 k a L i ((L.take j).map (col i)) j = (spec_l08Combine.f a (L.map (col i))).bind fun bt => some (bt.1, bt.2) := by
  induction d with
  | zero =>
    intro k j hj hk
    obtain ⟨k, rfl⟩ : ∃ m, k = m + 1 := ⟨k - 1, by omega⟩
    simp only [spec_l08At.l0]
    rw [if_neg (by omega), List.take_of_length_le (by omega)]
  | succ d ih =>
    intro k j hj hk
    obtain ⟨k, rfl⟩ : ∃ m, k = m + 1 := ⟨k - 1, by omega⟩
    have hlt : j < L.length := by omega
    have hxj := hx _ (List.getElem_mem hlt)
    have e : rd_T44 L[j] (i : Int) = col i L[j] := by rw [rdE, Int.toNat_natCast]; rfl
    simp only [spec_l08At.l0]
    rw [if_pos (show (j : Int) < (L.length : Int) by omega), if_pos (show 0 ≤ (j : Int) by omega), if_pos (show 0 ≤ (i : Int) by omega), rdEE_at hlt, if_pos (show (i : Int) < ((L[j]).length : Int) by omega),
      if_pos (by simp; omega), etaE, e, w64 (by omega) (by omega), show (j : Int) + 1 = ((j + 1 : Nat) : Int) by omega]
    have := ih k (j + 1) (by omega) (by omega)
    rw [List.take_succ_eq_append_getElem hlt, List.map_append] at this
    exact this
theorem implSum_l1 (a : Int) (L : List (List E)) (hL : L.length ≤ 4) (n0 : Nat) (hx : ∀ x ∈ L, x.length = n0) (i : Nat) (hi : i < n0) (acc : E) (d : Nat) : ∀ (k j : Nat), j + d = L.length → d < k →
    impl_sumOf.l1 k a L i ((L.take j).map (col i)) (n0 : Int) i L (L.length : Int) j acc.f0 acc.f1 =
      (impl_combine.f a (L.map (col i))).bind fun bt112 => ((impl_Ext_plus.f acc.f0 acc.f1 bt112.1 bt112.2).bind fun bt114 => (impl_sumOf.l0 (k - d - 1) a L (n0 : Int) (wrap64 ((i : Int) + 1)) bt114.1 bt114.2)) := by
  induction d with
  | zero =>
    intro k j hj hk
    obtain ⟨k, rfl⟩ : ∃ m, k = m + 1 := ⟨k - 1, by omega⟩
    simp only [impl_sumOf.l1]
    rw [if_neg (by omega), List.take_of_length_le (by omega)]
    rfl
  | succ d ih =>
    intro k j hj hk
    obtain ⟨k, rfl⟩ : ∃ m, k = m + 1 := ⟨k - 1, by omega⟩
    have hlt : j < L.length := by omega
    have hxj := hx _ (List.getElem_mem hlt)
    have e : rd_T44 L[j] (i : Int) = col i L[j] := by rw [rdE, Int.toNat_natCast]; rfl
    have e2 : k + 1 - (d + 1) - 1 = k - d - 1 := by omega
    simp only [impl_sumOf.l1]
    rw [if_pos (show (j : Int) < (L.length : Int) by omega), if_pos (show 0 ≤ (j : Int) by omega), if_pos (show (j : Int) < (L.length : Int) by omega), if_pos (show 0 ≤ (i : Int) by omega), rdEE_at hlt, if_pos (show (i : Int) < ((L[j]).length : Int) by omega),
      if_pos (by simp; omega), etaE, e, w64 (n := (j : Int) + 1) (by omega) (by omega), show (j : Int) + 1 = ((j + 1 : Nat) : Int) by omega, e2]
    have := ih k (j + 1) (by omega) (by omega)
    rw [List.take_succ_eq_append_getElem hlt, List.map_append] at this
    exact this
theorem sum_l0 (a : Int) (ha : a = 1 ∨ a = 2) (L : List (List E)) (hL : (L.length : Int) = 2 * a) (n0 : Nat) (hx : ∀ x ∈ L, okL x ∧ x.length = n0) (hn : n0 ≤ 4096) (d : Nat) : ∀ (i : Nat) (acc : E), i + d = n0 → okE acc →
    ∃ q : E, okE q ∧ ∀ ks ki, d + 20 < ks → d * 10 + 20 < ki → spec_l08Sum.l0 ks a L i acc.f0 acc.f1 = some (q.f0, q.f1) ∧ impl_sumOf.l0 ki a L (n0 : Int) i acc.f0 acc.f1 = some (q.f0, q.f1) := by
  have hpos : 0 < L.length := by omega
  have h0 : rd_L4 L 0 = L[0]'hpos := rdEE_at hpos
  have h0n : (L[0]'hpos).length = n0 := (hx _ (List.getElem_mem _)).2
  induction d with
  | zero =>
    intro i acc hi hacc
    refine ⟨acc, hacc, fun ks ki hks hki => ?_⟩
    obtain ⟨ks, rfl⟩ : ∃ m, ks = m + 1 := ⟨ks - 1, by omega⟩
    obtain ⟨ki, rfl⟩ : ∃ m, ki = m + 1 := ⟨ki - 1, by omega⟩
    simp only [spec_l08Sum.l0, impl_sumOf.l0]
    rw [if_pos (show 0 < (L.length : Int) by omega), h0, h0n, if_neg (by omega), if_neg (by omega)]; exact ⟨rfl, rfl⟩
  | succ d ih =>
    intro i acc hi hacc
    have hcol : okL (L.map (col i)) := by
      intro y hy
      obtain ⟨x, hxm, rfl⟩ := List.mem_map.mp hy
      exact okL_get (hx x hxm).1 i (by rw [(hx x hxm).2]; omega)
    obtain ⟨r, hr, c1, c2⟩ := combine_eq ha hcol (by rw [List.length_map]; exact hL)
    obtain ⟨q, hq, h⟩ := ih (i + 1) (eadd acc r) (by omega) (ok_add _ _)
    refine ⟨q, hq, fun ks ki hks hki => ?_⟩
    obtain ⟨ks, rfl⟩ : ∃ m, ks = m + 1 := ⟨ks - 1, by omega⟩
    obtain ⟨ki, rfl⟩ : ∃ m, ki = m + 1 := ⟨ki - 1, by omega⟩
    have s1 := specAt_l0 a L (by omega) n0 (fun x hm => (hx x hm).2) i (by omega) L.length ks 0 (by omega) (by omega)
    have s2 := implSum_l1 a L (by omega) n0 (fun x hm => (hx x hm).2) i (by omega) acc L.length ki 0 (by omega) (by omega)
    rw [List.take_zero, List.map_nil, Int.natCast_zero] at s1 s2
    simp only [spec_l08Sum.l0, impl_sumOf.l0, spec_l08At.f]
    rw [if_pos (show 0 < (L.length : Int) by omega), h0, h0n, if_pos (by omega), if_pos (by omega), s1, s2, c1, c2]
    simp only [bS]
    rw [spec_l02Add_eq hacc hr, impl_plus_eq hacc hr]
    simp only [bS]
    rw [w64 (by omega) (by omega), show (i : Int) + 1 = ((i + 1 : Nat) : Int) by omega]
    exact h ks (ki - L.length - 1) (by omega) (by omega)
theorem sum_same {a : Int} (ha : a = 1 ∨ a = 2) {L : List (List E)} (hL : (L.length : Int) = 2 * a) {n0 : Nat} (hx : ∀ x ∈ L, okL x ∧ x.length = n0) (hn : n0 ≤ 4096) :
    ∃ q : E, okE q ∧ ∀ k, 100000 < k → spec_l08Sum.f k a L = some (q.f0, q.f1) ∧ impl_sumOf.f k a L = some (q.f0, q.f1) := by
  have hpos : 0 < L.length := by omega
  have h0 : rd_L4 L 0 = L[0]'hpos := rdEE_at hpos
  have h0n : (L[0]'hpos).length = n0 := (hx _ (List.getElem_mem _)).2
  obtain ⟨q, hq, h⟩ := sum_l0 a ha L hL n0 hx hn n0 0 zE (by omega) ok_zero
  refine ⟨q, hq, fun k hk => ?_⟩
  unfold spec_l08Sum.f impl_sumOf.f
  rw [if_pos (show 0 < (L.length : Int) by omega), h0, h0n]
  exact h k k (by omega) (by omega)
theorem okT_iff {x : List E} (h : okT x = true) : okL x ∧ x.length ≤ 64 := by
  unfold okT at h
  rw [Bool.and_eq_true] at h
  exact ⟨(okLB_iff x).1 h.2, by have := pow2B_64 h.1; omega⟩
end Go.Proofs.Ytcfdefkpheeibaa.PT
end
section
/- Tables bound at an element, and the sums of a round, alike on both sides. -/
namespace Go.Proofs.Ytcfdefkpheeibaa.PT
open Go.RowKit Go.Proofs.YtcfdefkpheeibaaW.PrintWords Go.Proofs.YtcfdefkpheeibaaW.PrintLast Go.Proofs.YtcfdefkpheeibaaW.PrintMore
set_option linter.unusedVariables false
set_option linter.unusedSimpArgs false
theorem bind_l0 (L : List (List E)) (hL : L.length ≤ 4096) {h : Nat} (hh : h ≤ 2048) (hx : ∀ x ∈ L, okL x ∧ x.length = 2 * h) {z : E} (hz : okE z) (d : Nat) : ∀ (i : Nat) (acc : List (List E)), i + d = L.length → acc.length = i → (∀ x ∈ acc, okL x ∧ x.length = h) →
    ∃ q : List (List E), (q.length = L.length ∧ ∀ x ∈ q, okL x ∧ x.length = h) ∧ ∀ k, d + 5000 < k → spec_l08Bind.l0 k L acc i z.f0 z.f1 = some q ∧ impl_bound.l0 k acc L (L.length : Int) i z.f0 z.f1 = some q := by
  induction d with
  | zero =>
    intro i acc hi ha hacc
    refine ⟨acc, ⟨by omega, hacc⟩, fun k hk => ?_⟩
    obtain ⟨k, rfl⟩ : ∃ m, k = m + 1 := ⟨k - 1, by omega⟩
    simp only [spec_l08Bind.l0, impl_bound.l0]
    rw [if_neg (by omega), if_neg (by omega)]; exact ⟨rfl, rfl⟩
  | succ d ih =>
    intro i acc hi ha hacc
    have hlt : i < L.length := by omega
    have hxi := hx _ (List.getElem_mem hlt)
    obtain ⟨q1, hq1, h1⟩ := fold_same hxi.1 (d := h) (by rw [hxi.2]) (by rw [hxi.2]; omega) hz
    obtain ⟨q, hq, h2⟩ := ih (i + 1) (acc ++ [q1]) (by omega) (by rw [List.length_append, ha]; rfl) (by
      intro x hm
      rcases List.mem_append.mp hm with hm | hm
      · exact hacc x hm
      · rw [List.mem_singleton.mp hm]; exact hq1)
    refine ⟨q, hq, fun k hk => ?_⟩
    obtain ⟨k, rfl⟩ : ∃ m, k = m + 1 := ⟨k - 1, by omega⟩
    obtain ⟨f1, f2⟩ := h1 k (by omega)
    obtain ⟨g1, g2⟩ := h2 k (by omega)
    simp only [spec_l08Bind.l0, impl_bound.l0]
    rw [if_pos (show (i : Int) < (L.length : Int) by omega), if_pos (show (i : Int) < (L.length : Int) by omega), if_pos (show 0 ≤ (i : Int) by omega), if_pos (show 0 ≤ (i : Int) by omega), if_pos (show (i : Int) < (L.length : Int) by omega), rdEE_at hlt, f1, f2]
    simp only [bS]
    rw [if_pos (show acc.length < 5864062014805 by omega), if_pos (show acc.length < 5864062014805 by omega), w64 (by omega) (by omega), show (i : Int) + 1 = ((i + 1 : Nat) : Int) by omega]
    exact ⟨g1, g2⟩
theorem bind_same {L : List (List E)} (hL : L.length ≤ 4096) {h : Nat} (hh : h ≤ 2048) (hx : ∀ x ∈ L, okL x ∧ x.length = 2 * h) {z : E} (hz : okE z) :
    ∃ q : List (List E), (q.length = L.length ∧ ∀ x ∈ q, okL x ∧ x.length = h) ∧ ∀ k, 10000 < k → spec_l08Bind.f k L z.f0 z.f1 = some q ∧ impl_bound.f k L z.f0 z.f1 = some q := by
  obtain ⟨q, hq, h1⟩ := bind_l0 L hL hh hx hz L.length 0 [] (by omega) rfl (by intro x hm; cases hm)
  refine ⟨q, hq, fun k hk => ?_⟩
  unfold spec_l08Bind.f impl_bound.f
  exact h1 k (by omega)
theorem round_l0 {a : Int} (ha : a = 1 ∨ a = 2) {L : List (List E)} (hL : (L.length : Int) = 2 * a) {h : Nat} (hh : h ≤ 2048) (hx : ∀ x ∈ L, okL x ∧ x.length = 2 * h) (d : Nat) : ∀ (i : Nat) (acc : List E), (i : Int) + d = a + 2 → acc.length = i →
    ∃ q : List E, q.length ≤ 4 ∧ ∀ k, d + 200000 < k → spec_l08Round.l0 k a L acc i = some q ∧ impl_roundOf.l0 k a L acc (a + 2) i = some q := by
  induction d with
  | zero =>
    intro i acc hi hacc
    refine ⟨acc, by omega, fun k hk => ?_⟩
    obtain ⟨k, rfl⟩ : ∃ m, k = m + 1 := ⟨k - 1, by omega⟩
    simp only [spec_l08Round.l0, impl_roundOf.l0, spec_l08Degree.f, bS]
    rw [w64 (n := a + 1) (by omega) (by omega), if_neg (by omega), if_neg (by omega)]; exact ⟨rfl, rfl⟩
  | succ d ih =>
    intro i acc hi hacc
    have hz : okE (⟨(i : Int), 0⟩ : E) := by refine ⟨?_, inF_0⟩; show inF (i : Int); unfold inF; omega
    obtain ⟨q1, hq1, h1⟩ := bind_same (L := L) (by omega) hh hx hz
    obtain ⟨s, hs, h2⟩ := sum_same ha (L := q1) (by rw [hq1.1]; exact hL) hq1.2 (by omega)
    obtain ⟨q, hq, h3⟩ := ih (i + 1) (acc ++ [s]) (by omega) (by rw [List.length_append, hacc]; rfl)
    refine ⟨q, hq, fun k hk => ?_⟩
    obtain ⟨k, rfl⟩ : ∃ m, k = m + 1 := ⟨k - 1, by omega⟩
    obtain ⟨f1, f2⟩ := h1 k (by omega)
    obtain ⟨g1, g2⟩ := h2 k (by omega)
    obtain ⟨e1, e2⟩ := h3 k (by omega)
    have f1' : spec_l08Bind.f k L (i : Int) 0 = some q1 := f1
    have f2' : impl_bound.f k L (i : Int) 0 = some q1 := f2
    simp only [spec_l08Round.l0, impl_roundOf.l0, spec_l08Degree.f, spec_l02Of.f, bS]
    rw [w64 (n := a + 1) (by omega) (by omega), if_pos (by omega), if_pos (by omega), f1', f2']
    simp only [bS]
    rw [g1, g2]
    simp only [bS]
    rw [if_pos (by omega), if_pos (by omega), etaE, w64 (by omega) (by omega), show (i : Int) + 1 = ((i + 1 : Nat) : Int) by omega]
    exact ⟨e1, e2⟩
theorem round_same {a : Int} (ha : a = 1 ∨ a = 2) {L : List (List E)} (hL : (L.length : Int) = 2 * a) {h : Nat} (hh : h ≤ 2048) (hx : ∀ x ∈ L, okL x ∧ x.length = 2 * h) :
    ∃ q : List E, q.length ≤ 4 ∧ ∀ k, 300000 < k → spec_l08Round.f k a L = some q ∧ impl_roundOf.f k a L = some q := by
  obtain ⟨q, hq, h1⟩ := round_l0 ha hL hh hx (a + 2).toNat 0 [] (by omega) rfl
  refine ⟨q, hq, fun k hk => ?_⟩
  unfold spec_l08Round.f impl_roundOf.f impl_degreeOf.f
  rw [impl_in_eq]
  simp only [bS]
  rw [decide_eq_true (show 1 ≤ a ∧ a ≤ 2 by omega), if_pos rfl]
  simp only [bS]
  rw [w64 (n := a + 1) (by omega) (by omega), w64 (n := a + 1 + 1) (by omega) (by omega), show a + 1 + 1 = a + 2 by omega]
  exact h1 k (by omega)
theorem roundOf_same (a : Int) (L : List (List E)) (hL : L.length ≤ 1048576) (hx : ∀ x ∈ L, x.length ≤ 1048576) : ∃ r : List E × Int, r.1.length ≤ 4096 ∧ ∀ k, 3000000 < k → spec_RoundOf.f k a L = some r ∧ impl_RoundOf.f k a L = some r := by
  obtain ⟨c, h1, h2, h3⟩ := ask_same a hx hL
  by_cases h0 : c = 0
  · obtain ⟨ha, hn, n0, hall⟩ := h3 h0
    have hpos : 0 < L.length := by omega
    have hrd : rd_L4 L 0 = L[0]'hpos := rdEE_at hpos
    have hl0 := (hall _ (List.getElem_mem hpos)).2
    by_cases h4 : n0 = 1
    · refine ⟨([], 8), by simp, fun k hk => ?_⟩
      obtain ⟨e1, e2⟩ := h1 k hk
      unfold spec_RoundOf.f impl_RoundOf.f
      rw [e1, e2]
      simp only [bS]
      rw [if_neg (show ¬ (L.length : Int) > 4096 by omega), if_pos h0, if_pos h0, if_pos (show 0 < (L.length : Int) by omega), if_pos (show 0 < (L.length : Int) by omega), if_pos (show ((rd_L4 L 0).length : Int) = 1 by rw [hrd]; omega), if_pos (show ((rd_L4 L 0).length : Int) = 1 by rw [hrd]; omega)]; exact ⟨rfl, rfl⟩
    · have hp : ∀ x ∈ L, okL x ∧ x.length = 2 * (n0 / 2) := fun x hm => by
        have ht := (hall x hm).1
        have hxl := (hall x hm).2
        have := okT_iff ht
        unfold okT at ht
        rw [Bool.and_eq_true] at ht
        have := pow2B_64 ht.1
        exact ⟨(okT_iff (hall x hm).1).1, by omega⟩
      have hn0 : n0 / 2 ≤ 2048 := by
        have := (okT_iff (hall _ (List.getElem_mem hpos)).1).2
        omega
      obtain ⟨q, hq, h5⟩ := round_same ha hn hn0 hp
      refine ⟨(q, 0), by show q.length ≤ 4096; omega, fun k hk => ?_⟩
      obtain ⟨e1, e2⟩ := h1 k hk
      obtain ⟨s1, s2⟩ := h5 k (by omega)
      unfold spec_RoundOf.f impl_RoundOf.f
      rw [e1, e2]
      simp only [bS]
      rw [if_neg (show ¬ (L.length : Int) > 4096 by omega), if_pos h0, if_pos h0, if_pos (show 0 < (L.length : Int) by omega), if_pos (show 0 < (L.length : Int) by omega), if_neg (show ¬ ((rd_L4 L 0).length : Int) = 1 by rw [hrd]; omega), if_neg (show ¬ ((rd_L4 L 0).length : Int) = 1 by rw [hrd]; omega), s1, s2]; exact ⟨rfl, rfl⟩
  · refine ⟨([], if (L.length : Int) > 4096 then 2 else c), by simp, fun k hk => ?_⟩
    obtain ⟨e1, e2⟩ := h1 k hk
    unfold spec_RoundOf.f impl_RoundOf.f
    rw [e1, e2]
    simp only [bS]
    rw [if_neg h0, if_neg h0]
    by_cases h4 : (L.length : Int) > 4096
    · rw [if_pos h4, if_pos h4, h2 (by omega)]; exact ⟨rfl, rfl⟩
    · rw [if_neg h4, if_neg h4]; exact ⟨rfl, rfl⟩
theorem markSS_go : ∀ (L : List (List E)), (∀ x ∈ L, x.length ≤ 1048576) → ∀ (a : Int), 0 ≤ a → a + 2097152 * L.length ≤ 4611686018427387904 → ∃ r, 0 ≤ r ∧ ∀ k, 1048576 < k → laws_markExtSS.go k L a = some r
  | [], _, a, h0, _ => ⟨a, h0, fun _ _ => rfl⟩
  | l :: ls, hx, a, h0, h1 => by
    have hl := hx l (List.mem_cons_self ..)
    have hlen : (l :: ls).length = ls.length + 1 := rfl
    rw [hlen] at h1
    obtain ⟨r, hr, h2⟩ := markSS_go ls (fun x hm => hx x (List.mem_cons_of_mem _ hm)) (a + 2 * l.length) (by omega) (by push_cast at h1; omega)
    refine ⟨r, hr, fun k hk => ?_⟩
    unfold laws_markExtSS.go
    rw [markExtS_eq h0 (by push_cast at h1; omega) (by omega) (by omega)]
    exact h2 k hk
theorem markSS_eq {L : List (List E)} (hL : L.length ≤ 1048576) (hx : ∀ x ∈ L, x.length ≤ 1048576) : ∃ r, 0 ≤ r ∧ ∀ k, 1048576 < k → laws_markExtSS.f k L 1 = some r :=
  markSS_go L hx 1 (by omega) (by omega)
end Go.Proofs.Ytcfdefkpheeibaa.PT
end
section
/- The sums of a round are alike on both sides, held apart and untouched. -/
namespace Go.Proofs.Ytcfdefkpheeibaa.fnExactRoundOf
open Go.Proofs.Ytcfdefkpheeibaa.PT Go.RowKit Go.Proofs.YtcfdefkpheeibaaO Go.Proofs.YtcfdefkpheeibaaW.PrintWords Go.Proofs.YtcfdefkpheeibaaW.PrintLast Go.Proofs.YtcfdefkpheeibaaW.PrintMore
set_option linter.unusedSimpArgs false
theorem pureFnExactRoundOf : Pure := by
  intro a x _ hx
  obtain ⟨r0, hr, hr2⟩ := szSS_eq (L := x) (fun y hy => (hx.2 y hy).1) hx.1
  refine ⟨4000000 + 1 + 1 + 1, ?_⟩
  generalize hK : 4000000 = K
  unfold laws_FnExactRoundOf.f
  rw [hr (K + 1 + 1 + 1) (by omega)]
  simp only [bS]
  by_cases h0 : r0 < 0
  · rw [if_pos h0]
  · obtain ⟨hL, hs⟩ : x.length ≤ 1048576 ∧ ∀ y ∈ x, y.length ≤ 1048576 := by
      rcases hr2 with h | h
      · exact absurd h h0
      · exact h
    have hL2 : (convLL x).length ≤ 1048576 := by rw [convLL_length]; exact hL
    obtain ⟨r, hrl, hsame⟩ := roundOf_same a (convLL x) hL2 (convLL_short hs)
    obtain ⟨s1, s2⟩ := hsame (K + 1 + 1 + 1) (by omega)
    obtain ⟨_, s4⟩ := hsame (K + 1) (by omega)
    obtain ⟨m, hm0, hm⟩ := markSS_eq hL2 (convLL_short hs)
    rw [if_neg h0, toSS_eq hL hs (k := K + 1 + 1 + 1) (by omega)]
    simp only [bS]
    rw [s1]
    simp only [bS]
    rw [s2]
    simp only [bS]
    rw [eqExtS_refl (k := K + 1 + 1 + 1) (by omega) (by omega)]
    simp only [bS, if_true, bne_self_eq_false, laws_FnExactRoundOf.j0, Bool.false_eq_true, if_false]
    rw [toSS_eq hL hs (k := K + 1 + 1) (by omega)]
    simp only [bS]
    rw [eqSS_refl hL2 (convLL_short hs) (k := K + 1 + 1) (by omega)]
    simp only [bS, if_true]
    rw [hm (K + 1 + 1) (by omega)]
    simp only [bS]
    rw [if_neg (by omega), eqExtS_refl (k := K + 1 + 1) (by omega) (by omega)]
    simp only [bS, if_true, bne_self_eq_false, laws_FnExactRoundOf.j1, Bool.false_eq_true, if_false]
    rw [markExtS_eq (k := K + 1) (by omega) (by omega) (by omega) (by omega)]
    simp only [bS]
    rw [heldExtS_eq (k := K + 1) (by omega) (by omega) (by omega) (by omega)]
    simp only [bS]
    rw [if_neg (by omega), if_true, toSS_eq hL hs (k := K + 1) (by omega)]
    simp only [bS]
    rw [s4]
    simp only [bS]
    rw [eqExtS_refl (k := K + 1) (by omega) (by omega)]
    simp only [bS, if_true, bne_self_eq_false, laws_FnExactRoundOf.j2, Bool.false_eq_true, if_false]
    rw [heldExtS_eq (k := K) (by omega) (by omega) (by omega) (by omega)]
    simp only [bS]
    rw [if_neg (by omega), if_true]
end Go.Proofs.Ytcfdefkpheeibaa.fnExactRoundOf
end
