/- Part 3 of the proof of FnExactOpeningOK: what functions compute, shown step by step, and what that says (the claim's last text states the law). -/
import Derived.Test.YtcfdefkpheeibaaProg
import Derived.Test.YtcfdefkpheeibaaWMore
import Derived.Test.YtcfdefkpheeibaaWWords
import Derived.Test.YtcfdefkpheeibaaWLast
import Derived.Test.YtcfdefkpheeibaaWTab
import Derived.Test.YtcfdefkpheeibaaWQPut
import Derived.Test.YtcfdefkpheeibaaWApart
import Derived.Test.YtcfdefkpheeibaaWArr
import Derived.Test.YtcfdefkpheeibaaWZeros
import Derived.Test.YtcfdefkpheeibaaWFoot
import Derived.Test.YtcfdefkpheeibaaWKept
import Derived.Test.YtcfdefkpheeibaaWShare
import Derived.Test.YtcfdefkpheeibaaWN
import Derived.Test.YtcfdefkpheeibaaWRepsOne
import Derived.Test.YtcfdefkpheeibaaWGuard
import Derived.Test.YtcfdefkpheeibaaWNEv
import Derived.Test.YtcfdefkpheeibaaRows
import Derived.JoinedOf
import Derived.WalkKit
import Derived.ProofKit
import Derived.Below
import Derived.Deep.Draws
import Derived.Deep.AppendLies
import Derived.Maps.AppendAt
import Derived.OwnWalk
import Derived.Laws.BytesArg
import Derived.Laws.MakeOwn
import Derived.Laws.OwnMore
import Derived.Deep.OwnRows
import Derived.Tactics
import Derived.Lib.ConvBytes
import Derived.Laws.Slices
import Derived.KernelRfl
import Derived.RowKit3
import Derived.Deep.LoopGhost
import Derived.Deep.QuietTactic
import Derived.BigQuiet
import Derived.WideLaws
import Derived.Deep.DeepCutAuto
import Derived.Deep.CutBlock
import Derived.Deep.RegionHeld3
import Derived.Laws.Rows
import Derived.Lib.AppendStr
import Derived.ArgAppend
import Derived.Laws.IdiomCopy
import Derived.OrdersHeld
import Derived.Laws.BitsLemmas
import Derived.RowKit
import Derived.OpenShut
import Derived.ShutString
import Derived.ChangeOld
import Derived.SizedLaws
import Derived.Deep.Slices
import Derived.ChangeArms
import Derived.Test.YtcfdefkpheeibaaZFnExactOpeningOK2
section
namespace Go.Proofs.Ytcfdefkpheeibaa.PT
open Go.RowKit Go.Proofs.YtcfdefkpheeibaaW.PrintWords Go.Proofs.YtcfdefkpheeibaaW.PrintLast Go.Proofs.YtcfdefkpheeibaaW.PrintMore
attribute [local go_sem] max2_int min2_int max_two min_two max_three min_three max_four min_four   -- for this text's walks alone
set_option linter.unusedVariables false
set_option linter.unusedSimpArgs false

/-! ### impl_OpeningOK: function 18 -/
set_option maxHeartbeats 8000000 in
set_option maxRecDepth 100000 in
theorem impl_are_Query.clo0 (k : Nat) (gv gt : Nat) (a1 a20 a21 a22 : Int) (A0 : Option Addr) (c0 : Nat) (A1 : Option Addr) (c1 : Nat) (x : S67) (r : Bool) (w : World) (hv : w.heap[gv]? = some (.cells #[.int .i64 a1] 3 (0, 0))) (ht : w.heap[gt]? = some (.cells #[.int .i64 a20, .int .i64 a21, .int .i64 a22] 49 (0, 0))) (hr0 : Kd.C k44 w A0 x.f0.length x.f0) (hc0 : x.f0.length ≤ c0) (hr1 : Kd.C (Kd.slice 9 Kd.string) w A1 x.f1.length x.f1) (hc1 : x.f1.length ≤ c1) (h : impl_isQuery.f k x.f0 x.f1 a1 a20 a21 a22 = some r) :
  Calls Try.prog 43 #[.agg #[.slice A0 x.f0.length c0, .slice A1 x.f1.length c1], .pointer (some ⟨gv, 0, none⟩), .pointer (some ⟨gt, 0, none⟩)] w fun e w' => e = .returned (.bool r) ∧ Below w.heap.size w w' := by
 have hu67 := Try.underlying67
 have hu49 := Try.underlying49
 have HR0 := am_ hr0
 have HC0 := am_ hc0
 have HR1 := am_ hr1
 have HC1 := am_ hc1
 have HV := am_ hv
 have HT := am_ ht
 have HA := am_ h
 clear hr0 hc0 hr1 hc1 hv ht h
 have HB := am_ (Below.refl w.heap.size w)
 go_enter Try.func43, Try.ntmps43
 go_wp2_with (first | ((with_reducible refine gate_dst (N := 3) rfl ?_); refine box_event ?hg (N := 3) ?hd (cs := #[.slice A0 x.f0.length c0, .slice A1 x.f1.length c1]) (t := 67) ?hr ?_; (case hd => rfl); (case hg => rfl); (case hr => first | (go_simp; done) | (go_simp; rfl)); intro gb1 hg w1 hbox hb; have BK1 := am_ hbox; have HVn := am_ (blk_below (g := gv) (o := .cells #[.int .i64 a1] 3 (0, 0)) (by (with_reducible repeat (first | refine blk_drewN ?_ _ | refine blk_drew ?_ | refine blk_alloc ?_ _)); exact HV.out) hb); have HTn := am_ (blk_below (g := gt) (o := .cells #[.int .i64 a20, .int .i64 a21, .int .i64 a22] 49 (0, 0)) (by (with_reducible repeat (first | refine blk_drewN ?_ _ | refine blk_drew ?_ | refine blk_alloc ?_ _)); exact HT.out) hb); have hzgv_0 : w1.cell? ⟨gv, 0, none⟩ = some (.int .i64 a1) := (blk_cell HVn.out 0).trans rfl; have hfgv_0 := blk_frozen HVn.out 0; have hzgt_0 : w1.cell? ⟨gt, 0, none⟩ = some (.int .i64 a20) := (blk_cell HTn.out 0).trans rfl; have hfgt_0 := blk_frozen HTn.out 0; have hzgt_1 : w1.cell? ⟨gt, 1, none⟩ = some (.int .i64 a21) := (blk_cell HTn.out 1).trans rfl; have hfgt_1 := blk_frozen HTn.out 1; have hzgt_2 : w1.cell? ⟨gt, 2, none⟩ = some (.int .i64 a22) := (blk_cell HTn.out 2).trans rfl; have hfgt_2 := blk_frozen HTn.out 2; have hzgb1_0 : w1.cell? ⟨gb1, 0, none⟩ = some (.slice A0 x.f0.length c0) := (blk_cell BK1.out 0).trans rfl; have hfgb1_0 := blk_frozen BK1.out 0; have hzgb1_1 : w1.cell? ⟨gb1, 1, none⟩ = some (.slice A1 x.f1.length c1) := (blk_cell BK1.out 1).trans rfl; have hfgb1_1 := blk_frozen BK1.out 1; have n0_ := am_ (below_step qz4_ hb); clear HB; have HB := n0_; clear n0_; clear hb; clear hbox hg) | (go_at_call 44; (refine (impl_isQuery.calls k A0 c0 x.f0 A1 c1 x.f1 a1 a20 a21 a22 r _ qz20_ HC0.out (by repeat (first | exact (Kd.C_below HR1.out HB.out) | (with_reducible refine Kd.C_alloc ?_ _) | (with_reducible refine Kd.C_drewN ?_ _) | (with_reducible refine Kd.C_drew ?_))) HC1.out HA.out).mono ?_); rintro e w' ⟨rfl, hb⟩; have n0_ := am_ (below_step qz4_ hb); clear HB; have HB := n0_; clear n0_; clear hb))
 go_ret
 exact ⟨(by first | rfl | simp), qz4_⟩

set_option maxHeartbeats 8000000 in
set_option maxRecDepth 100000 in
theorem impl_are_Query.clo (k : Nat) (gv gt : Nat) (a1 a20 a21 a22 : Int) (g : Nat) (A0 : Option Addr) (c0 : Nat) (A1 : Option Addr) (c1 : Nat) (x : S67) (r : Bool) (w : World) (hv : w.heap[gv]? = some (.cells #[.int .i64 a1] 3 (0, 0))) (ht : w.heap[gt]? = some (.cells #[.int .i64 a20, .int .i64 a21, .int .i64 a22] 49 (0, 0))) (hg : w.heap[g]? = some (.cells #[(.func (.func 43) #[] #[.pointer (some ⟨gv, 0, none⟩), .pointer (some ⟨gt, 0, none⟩)])] 76 (0, 0))) (hr0 : Kd.C k44 w A0 x.f0.length x.f0) (hc0 : x.f0.length ≤ c0) (hr1 : Kd.C (Kd.slice 9 Kd.string) w A1 x.f1.length x.f1) (hc1 : x.f1.length ≤ c1) (h : impl_isQuery.f k x.f0 x.f1 a1 a20 a21 a22 = some r) :
  Calls Try.prog 69 #[.agg #[.slice A0 x.f0.length c0, .slice A1 x.f1.length c1], .pointer (some ⟨g, 0, none⟩)] w fun e w' => e = .returned (.bool (!r)) ∧ Below w.heap.size w w' := by
 have hu67 := Try.underlying67
 have HR0 := am_ hr0
 have HC0 := am_ hc0
 have HR1 := am_ hr1
 have HC1 := am_ hc1
 have HV := am_ hv
 have HT := am_ ht
 have HG := am_ hg
 have HA := am_ h
 clear hr0 hc0 hr1 hc1 hv ht hg h
 have HB := am_ (Below.refl w.heap.size w)
 go_enter Try.func69, Try.ntmps69
 go_wp2_with (first | ((with_reducible refine gate_dst (N := 2) rfl ?_); refine box_event ?hg (N := 2) ?hd (cs := #[.slice A0 x.f0.length c0, .slice A1 x.f1.length c1]) (t := 67) ?hr ?_; (case hd => rfl); (case hg => rfl); (case hr => first | (go_simp; done) | (go_simp; rfl)); intro gb1 hg w1 hbox hb; have BK1 := am_ hbox; have HGn := am_ (blk_below (g := g) (o := .cells #[(.func (.func 43) #[] #[.pointer (some ⟨gv, 0, none⟩), .pointer (some ⟨gt, 0, none⟩)])] 76 (0, 0)) (by (with_reducible repeat (first | refine blk_drewN ?_ _ | refine blk_drew ?_ | refine blk_alloc ?_ _)); exact HG.out) hb); have hzg_0 : w1.cell? ⟨g, 0, none⟩ = some ((.func (.func 43) #[] #[.pointer (some ⟨gv, 0, none⟩), .pointer (some ⟨gt, 0, none⟩)])) := (blk_cell HGn.out 0).trans rfl; have hfg_0 := blk_frozen HGn.out 0; have hzgb1_0 : w1.cell? ⟨gb1, 0, none⟩ = some (.slice A0 x.f0.length c0) := (blk_cell BK1.out 0).trans rfl; have hfgb1_0 := blk_frozen BK1.out 0; have hzgb1_1 : w1.cell? ⟨gb1, 1, none⟩ = some (.slice A1 x.f1.length c1) := (blk_cell BK1.out 1).trans rfl; have hfgb1_1 := blk_frozen BK1.out 1; have n0_ := am_ (below_step qz4_ hb); clear HB; have HB := n0_; clear n0_; clear hb; clear hbox hg) | (go_at_call 43; (refine (impl_are_Query.clo0 k gv gt a1 a20 a21 a22 A0 c0 A1 c1 x r _ (by (with_reducible repeat (first | refine blk_drewN ?_ _ | refine blk_drew ?_ | refine blk_alloc ?_ _)); exact (blk_below (g := gv) (o := .cells #[.int .i64 a1] 3 (0, 0)) HV.out HB.out)) (by (with_reducible repeat (first | refine blk_drewN ?_ _ | refine blk_drew ?_ | refine blk_alloc ?_ _)); exact (blk_below (g := gt) (o := .cells #[.int .i64 a20, .int .i64 a21, .int .i64 a22] 49 (0, 0)) HT.out HB.out)) qz20_ HC0.out (by repeat (first | exact (Kd.C_below HR1.out HB.out) | (with_reducible refine Kd.C_alloc ?_ _) | (with_reducible refine Kd.C_drewN ?_ _) | (with_reducible refine Kd.C_drew ?_))) HC1.out HA.out).mono ?_); rintro e w' ⟨rfl, hb⟩; have n0_ := am_ (below_step qz4_ hb); clear HB; have HB := n0_; clear n0_; clear hb))
 go_ret
 exact ⟨(by first | rfl | simp), qz4_⟩

def impl_are_Query.f (k : Nat) (a1 a20 a21 a22 : Int) : List S67 → Option Bool
 | [] => some true
 | x :: xs => (impl_isQuery.f k x.f0 x.f1 a1 a20 a21 a22).bind fun t => if t = true then impl_are_Query.f k a1 a20 a21 a22 xs else some false
theorem impl_are_Query.mono : ∀ (a1 a20 a21 a22 : Int) (l : List S67) (k : Nat), LeO (impl_are_Query.f k a1 a20 a21 a22 l) (impl_are_Query.f (k + 1) a1 a20 a21 a22 l)
 | _, _, _, _, [], _ => LeO.refl _
 | a1, a20, a21, a22, x :: xs, k => by
  unfold impl_are_Query.f
  exact LeO.bind (impl_isQuery.mono _ _ _ _ _ _ _) (fun t => LeO.ite (impl_are_Query.mono a1 a20 a21 a22 xs k) (LeO.refl _))

set_option maxHeartbeats 8000000 in
set_option maxRecDepth 100000 in
theorem impl_are_Query.idx (k : Nat) (gv gt : Nat) (a1 a20 a21 a22 : Int) (A0 : Option Addr) (c0 : Nat) (l0 : List S67) (g : Nat) (r : Bool) (w : World) (hr0 : Kd.C k67 w A0 l0.length l0) (hc0 : l0.length ≤ c0) (hm : l0.length ≤ 9223372036854775807) (hv : w.heap[gv]? = some (.cells #[.int .i64 a1] 3 (0, 0))) (ht : w.heap[gt]? = some (.cells #[.int .i64 a20, .int .i64 a21, .int .i64 a22] 49 (0, 0))) (hg : w.heap[g]? = some (.cells #[(.func (.func 43) #[] #[.pointer (some ⟨gv, 0, none⟩), .pointer (some ⟨gt, 0, none⟩)])] 76 (0, 0))) (h : impl_are_Query.f k a1 a20 a21 a22 l0 = some r) :
  Calls Try.prog 85 #[.slice A0 l0.length c0, .func (.func 69) #[] #[.pointer (some ⟨g, 0, none⟩)]] w fun e w' => ∃ j : Int, e = .returned (.int .i64 j) ∧ (decide (0 ≤ j) = !r) ∧ Below w.heap.size w w' := by
 have hu67 := Try.underlying67
 have HR0 := am_ hr0
 have HC0 := am_ hc0
 have HV := am_ hv
 have HT := am_ ht
 have HG := am_ hg
 have H0 := am_ (show impl_are_Query.f k a1 a20 a21 a22 (l0.drop 0) = some r from h)
 clear hr0 hc0 hv ht hg h
 have HB := am_ (Below.refl w.heap.size w)
 go_enter Try.func85, Try.ntmps85
 go_wp2
 go_loopg [8] l0.length (fun kq v8 w' => ∃ j : Nat, j + kq = l0.length ∧ v8 = .int .i64 j ∧ Aside0 (impl_are_Query.f k a1 a20 a21 a22 (l0.drop j) = some r) ∧ Aside0 (Below w.heap.size w w'))
 case atStart => exact ⟨0, by omega, by first | rfl | simp, H0, ⟨qz4_⟩⟩
 case round =>
  clear H0
  obtain ⟨j, hj, rfl, H0, HB⟩ := hrel
  cases gk with
  | zero =>
   have hge : decide ((j : Int) < (l0.length : Int)) = false := decide_eq_false (by omega)
   have hge2 : decide (j < l0.length) = false := decide_eq_false (by omega)
   have hr := H0.out
   rw [List.drop_eq_nil_of_le (by omega)] at hr
   obtain rfl : true = r := Option.some.inj hr
   clear hr H0
   go_wp2
   go_ret
   exact ⟨-1, rfl, rfl, qz4_⟩
  | succ k1 =>
   have hlt : decide ((j : Int) < (l0.length : Int)) = true := decide_eq_true (by omega)
   have hlt2 : decide (j < l0.length) = true := decide_eq_true (by omega)
   have p_ : 0 ≤ (j : Int) := by omega
   have q_ : (j : Int) < (l0.length : Int) := by omega
   obtain ⟨ad, Ai, ci, Aj, cj, e_, hx0, hx1, hl0, hi0, hl1, hi1⟩ := at_T67 HR0.out j p_ q_
   cases e_
   replace hx0 := (HB.out.cell (World.block_lt_of_cell? w _ hx0)).trans hx0
   replace hx1 := (HB.out.cell (World.block_lt_of_cell? w _ hx1)).trans hx1
   simp only [Int.toNat_natCast] at hx0 hx1
   have HI0 := am_ (Kd.C_below hi0 HB.out)
   have HI1 := am_ (Kd.C_below hi1 HB.out)
   have HGw := am_ (blk_below (g := g) (o := .cells #[(.func (.func 43) #[] #[.pointer (some ⟨gv, 0, none⟩), .pointer (some ⟨gt, 0, none⟩)])] 76 (0, 0)) HG.out HB.out)
   have HVw := am_ (blk_below (g := gv) (o := .cells #[.int .i64 a1] 3 (0, 0)) HV.out HB.out)
   have HTw := am_ (blk_below (g := gt) (o := .cells #[.int .i64 a20, .int .i64 a21, .int .i64 a22] 49 (0, 0)) HT.out HB.out)
   have hjl : j < l0.length := by omega
   have hrd : rd_T67 l0 (j : Int) = l0[j] := by show l0.getD (j : Int).toNat _ = _; rw [Int.toNat_natCast, List.getD_eq_getElem?_getD, List.getElem?_eq_getElem hjl]; rfl
   have h1 := H0.out
   rw [List.drop_eq_getElem_cons hjl, ← hrd] at h1
   obtain ⟨t, ha, h2⟩ := Option.bind_eq_some_iff.mp h1
   have HA := am_ ha
   clear hi0 hi1 ha h1 H0 hrd
   cases t with
   | true =>
    rw [if_pos rfl] at h2
    have H0 := am_ h2
    clear h2
    go_wp2_with (go_at_call 69; (refine (impl_are_Query.clo k gv gt a1 a20 a21 a22 g _ _ _ _ (rd_T67 l0 (j : Int)) true _ (by (with_reducible repeat (first | refine blk_drewN ?_ _ | refine blk_drew ?_ | refine blk_alloc ?_ _)); exact HVw.out) (by (with_reducible repeat (first | refine blk_drewN ?_ _ | refine blk_drew ?_ | refine blk_alloc ?_ _)); exact HTw.out) (by (with_reducible repeat (first | refine blk_drewN ?_ _ | refine blk_drew ?_ | refine blk_alloc ?_ _)); exact HGw.out) (by repeat (first | exact HI0.out | (with_reducible refine Kd.C_alloc ?_ _) | (with_reducible refine Kd.C_drewN ?_ _) | (with_reducible refine Kd.C_drew ?_))) hl0 (by repeat (first | exact HI1.out | (with_reducible refine Kd.C_alloc ?_ _) | (with_reducible refine Kd.C_drewN ?_ _) | (with_reducible refine Kd.C_drew ?_))) hl1 HA.out).mono ?_); rintro e w' ⟨rfl, hb⟩; have n0_ := am_ (below_step qz4_ hb); clear HB; have HB := n0_; clear n0_; clear hb)
    go_roundg k1
    case measure => omega
    case rel => exact ⟨j + 1, by omega, by first | rfl | go_num, H0, ⟨qz4_⟩⟩
   | false =>
    rw [if_neg (by decide)] at h2
    obtain rfl : false = r := Option.some.inj h2
    clear h2
    go_wp2_with (go_at_call 69; (refine (impl_are_Query.clo k gv gt a1 a20 a21 a22 g _ _ _ _ (rd_T67 l0 (j : Int)) false _ (by (with_reducible repeat (first | refine blk_drewN ?_ _ | refine blk_drew ?_ | refine blk_alloc ?_ _)); exact HVw.out) (by (with_reducible repeat (first | refine blk_drewN ?_ _ | refine blk_drew ?_ | refine blk_alloc ?_ _)); exact HTw.out) (by (with_reducible repeat (first | refine blk_drewN ?_ _ | refine blk_drew ?_ | refine blk_alloc ?_ _)); exact HGw.out) (by repeat (first | exact HI0.out | (with_reducible refine Kd.C_alloc ?_ _) | (with_reducible refine Kd.C_drewN ?_ _) | (with_reducible refine Kd.C_drew ?_))) hl0 (by repeat (first | exact HI1.out | (with_reducible refine Kd.C_alloc ?_ _) | (with_reducible refine Kd.C_drewN ?_ _) | (with_reducible refine Kd.C_drew ?_))) hl1 HA.out).mono ?_); rintro e w' ⟨rfl, hb⟩; have n0_ := am_ (below_step qz4_ hb); clear HB; have HB := n0_; clear n0_; clear hb)
    go_ret
    exact ⟨(j : Int), rfl, (by simp), qz4_⟩
set_option maxHeartbeats 8000000 in
set_option maxRecDepth 100000 in
theorem impl_are_Query.con (k : Nat) (gv gt : Nat) (a1 a20 a21 a22 : Int) (A0 : Option Addr) (c0 : Nat) (l0 : List S67) (g : Nat) (r : Bool) (w : World) (hr0 : Kd.C k67 w A0 l0.length l0) (hc0 : l0.length ≤ c0) (hm : l0.length ≤ 9223372036854775807) (hv : w.heap[gv]? = some (.cells #[.int .i64 a1] 3 (0, 0))) (ht : w.heap[gt]? = some (.cells #[.int .i64 a20, .int .i64 a21, .int .i64 a22] 49 (0, 0))) (hg : w.heap[g]? = some (.cells #[(.func (.func 43) #[] #[.pointer (some ⟨gv, 0, none⟩), .pointer (some ⟨gt, 0, none⟩)])] 76 (0, 0))) (h : impl_are_Query.f k a1 a20 a21 a22 l0 = some r) :
  Calls Try.prog 68 #[.slice A0 l0.length c0, .func (.func 69) #[] #[.pointer (some ⟨g, 0, none⟩)]] w fun e w' => e = .returned (.bool (!r)) ∧ Below w.heap.size w w' := by
 have HR0 := am_ hr0
 have HC0 := am_ hc0
 have HV := am_ hv
 have HT := am_ ht
 have HG := am_ hg
 clear hr0 hc0 hg hv ht
 go_enter Try.func68, Try.ntmps68
 go_wp2_with (go_at_call 85; (refine (impl_are_Query.idx k gv gt a1 a20 a21 a22 A0 c0 l0 g r _ (by repeat (first | exact HR0.out | (with_reducible refine Kd.C_alloc ?_ _) | (with_reducible refine Kd.C_drewN ?_ _) | (with_reducible refine Kd.C_drew ?_))) HC0.out hm (by (with_reducible repeat (first | refine blk_drewN ?_ _ | refine blk_drew ?_ | refine blk_alloc ?_ _)); exact HV.out) (by (with_reducible repeat (first | refine blk_drewN ?_ _ | refine blk_drew ?_ | refine blk_alloc ?_ _)); exact HT.out) (by (with_reducible repeat (first | refine blk_drewN ?_ _ | refine blk_drew ?_ | refine blk_alloc ?_ _)); exact HG.out) h).mono ?_); rintro e w' ⟨j, rfl, hj, hb⟩; have HJ := am_ hj; clear hj)
 go_ret
 exact ⟨(by rw [← HJ.out]; rfl), (by repeat (first | exact hb | exact Below.refl _ _ | apply below_alloc | apply pw_below_drewN | apply below_drew1))⟩
set_option maxHeartbeats 8000000 in
set_option maxRecDepth 100000 in
theorem impl_are_Query.calls (k : Nat) (gv gt : Nat) (a1 a20 a21 a22 : Int) (A0 : Option Addr) (c0 : Nat) (l0 : List S67) (r : Bool) (w : World) (hv : w.heap[gv]? = some (.cells #[.int .i64 a1] 3 (0, 0))) (ht : w.heap[gt]? = some (.cells #[.int .i64 a20, .int .i64 a21, .int .i64 a22] 49 (0, 0))) (hr0 : Kd.C k67 w A0 l0.length l0) (hc0 : l0.length ≤ c0) (h : impl_are_Query.f k a1 a20 a21 a22 l0 = some r) :
  Calls Try.prog 42 #[(.func (.func 43) #[] #[.pointer (some ⟨gv, 0, none⟩), .pointer (some ⟨gt, 0, none⟩)]), .slice A0 l0.length c0] w fun e w' => e = .returned (.bool r) ∧ Below w.heap.size w w' := by
 have hm : l0.length ≤ 9223372036854775807 := hr0.2.1
 have HR0 := am_ hr0
 have HC0 := am_ hc0
 have HV := am_ hv
 have HT := am_ ht
 have HA := am_ h
 clear hr0 hc0 hv ht h
 have HB := am_ (Below.refl w.heap.size w)
 go_enter Try.func42, Try.ntmps42
 go_wp2_with (first | ((with_reducible refine gate_dst (N := 2) rfl ?_); refine box_event ?hg (N := 2) ?hd (cs := #[(.func (.func 43) #[] #[.pointer (some ⟨gv, 0, none⟩), .pointer (some ⟨gt, 0, none⟩)])]) (t := 76) ?hr ?_; (case hd => rfl); (case hg => rfl); (case hr => first | (go_simp; done) | (go_simp; rfl)); intro gb1 hg w1 hbox hb; have BK1 := am_ hbox; have n0_ := am_ (below_step qz4_ hb); clear HB; have HB := n0_; clear n0_; clear hb; clear hbox hg) | (go_at_call 68; (refine (impl_are_Query.con k gv gt a1 a20 a21 a22 A0 c0 l0 gb1 r _ qz20_ HC0.out hm (by (with_reducible repeat (first | refine blk_drewN ?_ _ | refine blk_drew ?_ | refine blk_alloc ?_ _)); exact (blk_below (g := gv) (o := .cells #[.int .i64 a1] 3 (0, 0)) HV.out HB.out)) (by (with_reducible repeat (first | refine blk_drewN ?_ _ | refine blk_drew ?_ | refine blk_alloc ?_ _)); exact (blk_below (g := gt) (o := .cells #[.int .i64 a20, .int .i64 a21, .int .i64 a22] 49 (0, 0)) HT.out HB.out)) qz21_ HA.out).mono ?_); rintro e w' ⟨rfl, hb⟩; have n0_ := am_ (below_step qz4_ hb); clear HB; have HB := n0_; clear n0_; clear hb))
 go_ret
 exact ⟨(by first | rfl | simp), qz4_⟩
def impl_OpeningOK.f (k : Nat) (l0_0 : List (List (S44))) (l0_1 : List ByteArray) (a0_2 : Int) (a0_3 : Int) (a0_4 : Int) (l0_5 : List (S67)) (a1 : Int) (a2_0 : Int) (a2_1 : Int) (a2_2 : Int) : Option (Bool) := (impl_in.f a1 1 6).bind fun t1 => if t1 = true then ((impl_SettingOK.f a2_0 a2_1 a2_2).bind fun t2 => if t2 = true then ((impl_areRounds.f l0_0 a1 3).bind fun t3 => if t3 = true then (if (l0_1.length : Int) = wrap64 (a1 - 1) then ((impl_are_string_isHash.f l0_1).bind fun t5 => if t5 = true then ((impl_ExtOK.f a0_2 a0_3).bind fun t6 => if t6 = true then ((impl_in.f a0_4 0 65535).bind fun t7 => if t7 = true then (if (l0_5.length : Int) = a2_1 then (impl_are_Query.f k a1 a2_0 a2_1 a2_2 l0_5) else some false) else some false) else some false) else some false) else some false) else some false) else some false) else some false
theorem impl_OpeningOK.mono : ∀ a0 a1 a2 a3 a4 a5 a6 a7 a8 a9 k, LeO (impl_OpeningOK.f k a0 a1 a2 a3 a4 a5 a6 a7 a8 a9) (impl_OpeningOK.f (k + 1) a0 a1 a2 a3 a4 a5 a6 a7 a8 a9) := by
 intro a0 a1 a2 a3 a4 a5 a6 a7 a8 a9 k
 unfold impl_OpeningOK.f
 exact LeO.bind (LeO.refl _) (fun t1 => LeO.ite (LeO.bind (LeO.refl _) (fun t2 => LeO.ite (LeO.bind (LeO.refl _) (fun t3 => LeO.ite (LeO.ite (LeO.bind (LeO.refl _) (fun t5 => LeO.ite (LeO.bind (LeO.refl _) (fun t6 => LeO.ite (LeO.bind (LeO.refl _) (fun t7 => LeO.ite (LeO.ite (impl_are_Query.mono _ _ _ _ _ _) (LeO.refl _)) (LeO.refl _))) (LeO.refl _))) (LeO.refl _))) (LeO.refl _)) (LeO.refl _))) (LeO.refl _))) (LeO.refl _))
set_option maxHeartbeats 8000000 in
set_option maxRecDepth 100000 in
theorem impl_OpeningOK.calls (k : Nat) (A0_0 : Option Addr) (c0_0 : Nat) (l0_0 : List (List (S44))) (A0_1 : Option Addr) (c0_1 : Nat) (l0_1 : List ByteArray) (a0_2 : Int) (a0_3 : Int) (a0_4 : Int) (A0_5 : Option Addr) (c0_5 : Nat) (l0_5 : List (S67)) (a1 : Int) (a2_0 : Int) (a2_1 : Int) (a2_2 : Int) (r : Bool) (w : World) (hr0_0 : Kd.C (Kd.slice 44 k44) w A0_0 l0_0.length l0_0) (hc0_0 : l0_0.length ≤ c0_0) (hr0_1 : Kd.C Kd.string w A0_1 l0_1.length l0_1) (hc0_1 : l0_1.length ≤ c0_1) (hr0_5 : Kd.C k67 w A0_5 l0_5.length l0_5) (hc0_5 : l0_5.length ≤ c0_5) (h : impl_OpeningOK.f k l0_0 l0_1 a0_2 a0_3 a0_4 l0_5 a1 a2_0 a2_1 a2_2 = some r) :
  Calls Try.prog 18 #[.agg #[.slice A0_0 l0_0.length c0_0, .slice A0_1 l0_1.length c0_1, .int .i64 a0_2, .int .i64 a0_3, .int .i64 a0_4, .slice A0_5 l0_5.length c0_5], .int .i64 a1, .agg #[.int .i64 a2_0, .int .i64 a2_1, .int .i64 a2_2]] w fun e w' => e = .returned (.bool r) ∧ Below w.heap.size w w' := by
 have hu47 := Try.underlying47
 have hu49 := Try.underlying49
 have hu44 := Try.underlying44
 have HR0_0 := am_ hr0_0
 have HR0_1 := am_ hr0_1
 have HR0_5 := am_ hr0_5
 have HC0_0 := am_ hc0_0
 have HC0_1 := am_ hc0_1
 have HC0_5 := am_ hc0_5
 clear hr0_0 hc0_0 hr0_1 hc0_1 hr0_5 hc0_5
 have HB := am_ (Below.refl w.heap.size w)
 unfold impl_OpeningOK.f at h
 obtain ⟨t1, a_, h⟩ := Option.bind_eq_some_iff.mp h
 have A1 := am_ a_
 clear a_
 cases t1 with
 | false =>
  rw [if_neg (by decide)] at h
  obtain rfl := Option.some.inj h
  clear h
  go_enter Try.func18, Try.ntmps18
  go_wp2_with (first | ((with_reducible refine gate_dst (N := 3) rfl ?_); refine box_event ?hg (N := 3) ?hd (cs := #[.slice A0_0 l0_0.length c0_0, .slice A0_1 l0_1.length c0_1, .int .i64 a0_2, .int .i64 a0_3, .int .i64 a0_4, .slice A0_5 l0_5.length c0_5]) (t := 47) ?hr ?_; (case hd => rfl); (case hg => rfl); (case hr => first | (go_simp; done) | (go_simp; rfl)); intro gb1 hg w1 hbox hb; have BK1 := am_ hbox; have n0_ := am_ (below_step qz4_ hb); clear HB; have HB := n0_; clear n0_; clear hb; clear hbox hg) | ((with_reducible refine gate_dst (N := 4) rfl ?_); refine box_event ?hg (N := 4) ?hd (cs := #[.int .i64 a1]) (t := 3) ?hr ?_; (case hd => rfl); (case hg => rfl); (case hr => first | (go_simp; done) | (go_simp; rfl)); intro gb2 hg w2 hbox hb; have m1_ := am_ (blk_below (g := gb1) (o := .cells #[.slice A0_0 l0_0.length c0_0, .slice A0_1 l0_1.length c0_1, .int .i64 a0_2, .int .i64 a0_3, .int .i64 a0_4, .slice A0_5 l0_5.length c0_5] 47 (0, 0)) qz21_ hb); clear BK1; have BK1 := m1_; clear m1_; have BK2 := am_ hbox; have n0_ := am_ (below_step qz4_ hb); clear HB; have HB := n0_; clear n0_; clear hb; clear hbox hg) | ((with_reducible refine gate_dst (N := 5) rfl ?_); refine box_event ?hg (N := 5) ?hd (cs := #[.int .i64 a2_0, .int .i64 a2_1, .int .i64 a2_2]) (t := 49) ?hr ?_; (case hd => rfl); (case hg => rfl); (case hr => first | (go_simp; done) | (go_simp; rfl)); intro gb3 hg w3 hbox hb; have m1_ := am_ (blk_below (g := gb1) (o := .cells #[.slice A0_0 l0_0.length c0_0, .slice A0_1 l0_1.length c0_1, .int .i64 a0_2, .int .i64 a0_3, .int .i64 a0_4, .slice A0_5 l0_5.length c0_5] 47 (0, 0)) qz21_ hb); have m2_ := am_ (blk_below (g := gb2) (o := .cells #[.int .i64 a1] 3 (0, 0)) qz22_ hb); clear BK1; have BK1 := m1_; clear m1_; clear BK2; have BK2 := m2_; clear m2_; have BK3 := am_ hbox; have n0_ := am_ (below_step qz4_ hb); clear HB; have HB := n0_; clear n0_; clear hb; clear hbox hg; have hz1_0 : w3.cell? ⟨gb1, 0, none⟩ = some (.slice A0_0 l0_0.length c0_0) := (blk_cell BK1.out 0).trans rfl; have hf1_0 := blk_frozen BK1.out 0; have hz1_1 : w3.cell? ⟨gb1, 1, none⟩ = some (.slice A0_1 l0_1.length c0_1) := (blk_cell BK1.out 1).trans rfl; have hf1_1 := blk_frozen BK1.out 1; have hz1_2 : w3.cell? ⟨gb1, 2, none⟩ = some (.int .i64 a0_2) := (blk_cell BK1.out 2).trans rfl; have hf1_2 := blk_frozen BK1.out 2; have hz1_3 : w3.cell? ⟨gb1, 3, none⟩ = some (.int .i64 a0_3) := (blk_cell BK1.out 3).trans rfl; have hf1_3 := blk_frozen BK1.out 3; have hz1_4 : w3.cell? ⟨gb1, 4, none⟩ = some (.int .i64 a0_4) := (blk_cell BK1.out 4).trans rfl; have hf1_4 := blk_frozen BK1.out 4; have hz1_5 : w3.cell? ⟨gb1, 5, none⟩ = some (.slice A0_5 l0_5.length c0_5) := (blk_cell BK1.out 5).trans rfl; have hf1_5 := blk_frozen BK1.out 5; have hz2_0 : w3.cell? ⟨gb2, 0, none⟩ = some (.int .i64 a1) := (blk_cell BK2.out 0).trans rfl; have hf2_0 := blk_frozen BK2.out 0; have hz3_0 : w3.cell? ⟨gb3, 0, none⟩ = some (.int .i64 a2_0) := (blk_cell BK3.out 0).trans rfl; have hf3_0 := blk_frozen BK3.out 0; have hz3_1 : w3.cell? ⟨gb3, 1, none⟩ = some (.int .i64 a2_1) := (blk_cell BK3.out 1).trans rfl; have hf3_1 := blk_frozen BK3.out 1; have hz3_2 : w3.cell? ⟨gb3, 2, none⟩ = some (.int .i64 a2_2) := (blk_cell BK3.out 2).trans rfl; have hf3_2 := blk_frozen BK3.out 2) | (go_at_call 36; (with_reducible refine (impl_in.calls a1 1 6 _ _ A1.out).mono ?_); rintro e w' ⟨rfl, ⟨nd, rfl⟩⟩) | (go_at_call 37; (refine (impl_SettingOK.calls a2_0 a2_1 a2_2 _ _ A2.out).mono ?_); rintro e w11 ⟨rfl, hb⟩; have m1_ := am_ (blk_below (g := gb1) (o := .cells #[.slice A0_0 l0_0.length c0_0, .slice A0_1 l0_1.length c0_1, .int .i64 a0_2, .int .i64 a0_3, .int .i64 a0_4, .slice A0_5 l0_5.length c0_5] 47 (0, 0)) qz21_ hb); have m2_ := am_ (blk_below (g := gb2) (o := .cells #[.int .i64 a1] 3 (0, 0)) qz22_ hb); have m3_ := am_ (blk_below (g := gb3) (o := .cells #[.int .i64 a2_0, .int .i64 a2_1, .int .i64 a2_2] 49 (0, 0)) qz23_ hb); clear BK1; have BK1 := m1_; clear m1_; clear BK2; have BK2 := m2_; clear m2_; clear BK3; have BK3 := m3_; clear m3_; have n0_ := am_ (below_step qz4_ hb); clear HB; have HB := n0_; clear n0_; clear hb; have hz1_0 : w11.cell? ⟨gb1, 0, none⟩ = some (.slice A0_0 l0_0.length c0_0) := (blk_cell BK1.out 0).trans rfl; have hf1_0 := blk_frozen BK1.out 0; have hz1_1 : w11.cell? ⟨gb1, 1, none⟩ = some (.slice A0_1 l0_1.length c0_1) := (blk_cell BK1.out 1).trans rfl; have hf1_1 := blk_frozen BK1.out 1; have hz1_2 : w11.cell? ⟨gb1, 2, none⟩ = some (.int .i64 a0_2) := (blk_cell BK1.out 2).trans rfl; have hf1_2 := blk_frozen BK1.out 2; have hz1_3 : w11.cell? ⟨gb1, 3, none⟩ = some (.int .i64 a0_3) := (blk_cell BK1.out 3).trans rfl; have hf1_3 := blk_frozen BK1.out 3; have hz1_4 : w11.cell? ⟨gb1, 4, none⟩ = some (.int .i64 a0_4) := (blk_cell BK1.out 4).trans rfl; have hf1_4 := blk_frozen BK1.out 4; have hz1_5 : w11.cell? ⟨gb1, 5, none⟩ = some (.slice A0_5 l0_5.length c0_5) := (blk_cell BK1.out 5).trans rfl; have hf1_5 := blk_frozen BK1.out 5; have hz2_0 : w11.cell? ⟨gb2, 0, none⟩ = some (.int .i64 a1) := (blk_cell BK2.out 0).trans rfl; have hf2_0 := blk_frozen BK2.out 0; have hz3_0 : w11.cell? ⟨gb3, 0, none⟩ = some (.int .i64 a2_0) := (blk_cell BK3.out 0).trans rfl; have hf3_0 := blk_frozen BK3.out 0; have hz3_1 : w11.cell? ⟨gb3, 1, none⟩ = some (.int .i64 a2_1) := (blk_cell BK3.out 1).trans rfl; have hf3_1 := blk_frozen BK3.out 1; have hz3_2 : w11.cell? ⟨gb3, 2, none⟩ = some (.int .i64 a2_2) := (blk_cell BK3.out 2).trans rfl; have hf3_2 := blk_frozen BK3.out 2) | (go_at_call 38; (refine (impl_areRounds.calls A0_0 c0_0 l0_0 a1 3 _ _ qz24_ HC0_0.out A3.out).mono ?_); rintro e w12 ⟨rfl, hb⟩; have m1_ := am_ (blk_below (g := gb1) (o := .cells #[.slice A0_0 l0_0.length c0_0, .slice A0_1 l0_1.length c0_1, .int .i64 a0_2, .int .i64 a0_3, .int .i64 a0_4, .slice A0_5 l0_5.length c0_5] 47 (0, 0)) qz21_ hb); have m2_ := am_ (blk_below (g := gb2) (o := .cells #[.int .i64 a1] 3 (0, 0)) qz22_ hb); have m3_ := am_ (blk_below (g := gb3) (o := .cells #[.int .i64 a2_0, .int .i64 a2_1, .int .i64 a2_2] 49 (0, 0)) qz23_ hb); clear BK1; have BK1 := m1_; clear m1_; clear BK2; have BK2 := m2_; clear m2_; clear BK3; have BK3 := m3_; clear m3_; have n0_ := am_ (below_step qz4_ hb); clear HB; have HB := n0_; clear n0_; clear hb; have hz1_0 : w12.cell? ⟨gb1, 0, none⟩ = some (.slice A0_0 l0_0.length c0_0) := (blk_cell BK1.out 0).trans rfl; have hf1_0 := blk_frozen BK1.out 0; have hz1_1 : w12.cell? ⟨gb1, 1, none⟩ = some (.slice A0_1 l0_1.length c0_1) := (blk_cell BK1.out 1).trans rfl; have hf1_1 := blk_frozen BK1.out 1; have hz1_2 : w12.cell? ⟨gb1, 2, none⟩ = some (.int .i64 a0_2) := (blk_cell BK1.out 2).trans rfl; have hf1_2 := blk_frozen BK1.out 2; have hz1_3 : w12.cell? ⟨gb1, 3, none⟩ = some (.int .i64 a0_3) := (blk_cell BK1.out 3).trans rfl; have hf1_3 := blk_frozen BK1.out 3; have hz1_4 : w12.cell? ⟨gb1, 4, none⟩ = some (.int .i64 a0_4) := (blk_cell BK1.out 4).trans rfl; have hf1_4 := blk_frozen BK1.out 4; have hz1_5 : w12.cell? ⟨gb1, 5, none⟩ = some (.slice A0_5 l0_5.length c0_5) := (blk_cell BK1.out 5).trans rfl; have hf1_5 := blk_frozen BK1.out 5; have hz2_0 : w12.cell? ⟨gb2, 0, none⟩ = some (.int .i64 a1) := (blk_cell BK2.out 0).trans rfl; have hf2_0 := blk_frozen BK2.out 0; have hz3_0 : w12.cell? ⟨gb3, 0, none⟩ = some (.int .i64 a2_0) := (blk_cell BK3.out 0).trans rfl; have hf3_0 := blk_frozen BK3.out 0; have hz3_1 : w12.cell? ⟨gb3, 1, none⟩ = some (.int .i64 a2_1) := (blk_cell BK3.out 1).trans rfl; have hf3_1 := blk_frozen BK3.out 1; have hz3_2 : w12.cell? ⟨gb3, 2, none⟩ = some (.int .i64 a2_2) := (blk_cell BK3.out 2).trans rfl; have hf3_2 := blk_frozen BK3.out 2) | (go_at_call 39; (refine (impl_are_string_isHash.calls A0_1 c0_1 l0_1 _ _ qz25_ HC0_1.out A5.out).mono ?_); rintro e w13 ⟨rfl, hb⟩; have m1_ := am_ (blk_below (g := gb1) (o := .cells #[.slice A0_0 l0_0.length c0_0, .slice A0_1 l0_1.length c0_1, .int .i64 a0_2, .int .i64 a0_3, .int .i64 a0_4, .slice A0_5 l0_5.length c0_5] 47 (0, 0)) qz21_ hb); have m2_ := am_ (blk_below (g := gb2) (o := .cells #[.int .i64 a1] 3 (0, 0)) qz22_ hb); have m3_ := am_ (blk_below (g := gb3) (o := .cells #[.int .i64 a2_0, .int .i64 a2_1, .int .i64 a2_2] 49 (0, 0)) qz23_ hb); clear BK1; have BK1 := m1_; clear m1_; clear BK2; have BK2 := m2_; clear m2_; clear BK3; have BK3 := m3_; clear m3_; have n0_ := am_ (below_step qz4_ hb); clear HB; have HB := n0_; clear n0_; clear hb; have hz1_0 : w13.cell? ⟨gb1, 0, none⟩ = some (.slice A0_0 l0_0.length c0_0) := (blk_cell BK1.out 0).trans rfl; have hf1_0 := blk_frozen BK1.out 0; have hz1_1 : w13.cell? ⟨gb1, 1, none⟩ = some (.slice A0_1 l0_1.length c0_1) := (blk_cell BK1.out 1).trans rfl; have hf1_1 := blk_frozen BK1.out 1; have hz1_2 : w13.cell? ⟨gb1, 2, none⟩ = some (.int .i64 a0_2) := (blk_cell BK1.out 2).trans rfl; have hf1_2 := blk_frozen BK1.out 2; have hz1_3 : w13.cell? ⟨gb1, 3, none⟩ = some (.int .i64 a0_3) := (blk_cell BK1.out 3).trans rfl; have hf1_3 := blk_frozen BK1.out 3; have hz1_4 : w13.cell? ⟨gb1, 4, none⟩ = some (.int .i64 a0_4) := (blk_cell BK1.out 4).trans rfl; have hf1_4 := blk_frozen BK1.out 4; have hz1_5 : w13.cell? ⟨gb1, 5, none⟩ = some (.slice A0_5 l0_5.length c0_5) := (blk_cell BK1.out 5).trans rfl; have hf1_5 := blk_frozen BK1.out 5; have hz2_0 : w13.cell? ⟨gb2, 0, none⟩ = some (.int .i64 a1) := (blk_cell BK2.out 0).trans rfl; have hf2_0 := blk_frozen BK2.out 0; have hz3_0 : w13.cell? ⟨gb3, 0, none⟩ = some (.int .i64 a2_0) := (blk_cell BK3.out 0).trans rfl; have hf3_0 := blk_frozen BK3.out 0; have hz3_1 : w13.cell? ⟨gb3, 1, none⟩ = some (.int .i64 a2_1) := (blk_cell BK3.out 1).trans rfl; have hf3_1 := blk_frozen BK3.out 1; have hz3_2 : w13.cell? ⟨gb3, 2, none⟩ = some (.int .i64 a2_2) := (blk_cell BK3.out 2).trans rfl; have hf3_2 := blk_frozen BK3.out 2) | (go_at_call 41; (refine (impl_ExtOK.calls a0_2 a0_3 _ _ A6.out).mono ?_); rintro e w14 ⟨rfl, hb⟩; have m1_ := am_ (blk_below (g := gb1) (o := .cells #[.slice A0_0 l0_0.length c0_0, .slice A0_1 l0_1.length c0_1, .int .i64 a0_2, .int .i64 a0_3, .int .i64 a0_4, .slice A0_5 l0_5.length c0_5] 47 (0, 0)) qz21_ hb); have m2_ := am_ (blk_below (g := gb2) (o := .cells #[.int .i64 a1] 3 (0, 0)) qz22_ hb); have m3_ := am_ (blk_below (g := gb3) (o := .cells #[.int .i64 a2_0, .int .i64 a2_1, .int .i64 a2_2] 49 (0, 0)) qz23_ hb); clear BK1; have BK1 := m1_; clear m1_; clear BK2; have BK2 := m2_; clear m2_; clear BK3; have BK3 := m3_; clear m3_; have n0_ := am_ (below_step qz4_ hb); clear HB; have HB := n0_; clear n0_; clear hb; have hz1_0 : w14.cell? ⟨gb1, 0, none⟩ = some (.slice A0_0 l0_0.length c0_0) := (blk_cell BK1.out 0).trans rfl; have hf1_0 := blk_frozen BK1.out 0; have hz1_1 : w14.cell? ⟨gb1, 1, none⟩ = some (.slice A0_1 l0_1.length c0_1) := (blk_cell BK1.out 1).trans rfl; have hf1_1 := blk_frozen BK1.out 1; have hz1_2 : w14.cell? ⟨gb1, 2, none⟩ = some (.int .i64 a0_2) := (blk_cell BK1.out 2).trans rfl; have hf1_2 := blk_frozen BK1.out 2; have hz1_3 : w14.cell? ⟨gb1, 3, none⟩ = some (.int .i64 a0_3) := (blk_cell BK1.out 3).trans rfl; have hf1_3 := blk_frozen BK1.out 3; have hz1_4 : w14.cell? ⟨gb1, 4, none⟩ = some (.int .i64 a0_4) := (blk_cell BK1.out 4).trans rfl; have hf1_4 := blk_frozen BK1.out 4; have hz1_5 : w14.cell? ⟨gb1, 5, none⟩ = some (.slice A0_5 l0_5.length c0_5) := (blk_cell BK1.out 5).trans rfl; have hf1_5 := blk_frozen BK1.out 5; have hz2_0 : w14.cell? ⟨gb2, 0, none⟩ = some (.int .i64 a1) := (blk_cell BK2.out 0).trans rfl; have hf2_0 := blk_frozen BK2.out 0; have hz3_0 : w14.cell? ⟨gb3, 0, none⟩ = some (.int .i64 a2_0) := (blk_cell BK3.out 0).trans rfl; have hf3_0 := blk_frozen BK3.out 0; have hz3_1 : w14.cell? ⟨gb3, 1, none⟩ = some (.int .i64 a2_1) := (blk_cell BK3.out 1).trans rfl; have hf3_1 := blk_frozen BK3.out 1; have hz3_2 : w14.cell? ⟨gb3, 2, none⟩ = some (.int .i64 a2_2) := (blk_cell BK3.out 2).trans rfl; have hf3_2 := blk_frozen BK3.out 2) | (go_at_call 36; (with_reducible refine (impl_in.calls a0_4 0 65535 _ _ A7.out).mono ?_); rintro e w' ⟨rfl, ⟨nd, rfl⟩⟩) | (go_at_call 42; (refine (impl_are_Query.calls k gb2 gb3 a1 a2_0 a2_1 a2_2 A0_5 c0_5 l0_5 _ _ qz22_ qz23_ qz26_ HC0_5.out A9.out).mono ?_); rintro e w15 ⟨rfl, hb⟩; have n0_ := am_ (below_step qz4_ hb); clear HB; have HB := n0_; clear n0_; clear hb))
  go_ret
  exact ⟨(by first | rfl | simp), qz4_⟩
 | true =>
  rw [if_pos rfl] at h
  obtain ⟨t2, a_, h⟩ := Option.bind_eq_some_iff.mp h
  have A2 := am_ a_
  clear a_
  cases t2 with
  | false =>
   rw [if_neg (by decide)] at h
   obtain rfl := Option.some.inj h
   clear h
   go_enter Try.func18, Try.ntmps18
   go_wp2_with (first | ((with_reducible refine gate_dst (N := 3) rfl ?_); refine box_event ?hg (N := 3) ?hd (cs := #[.slice A0_0 l0_0.length c0_0, .slice A0_1 l0_1.length c0_1, .int .i64 a0_2, .int .i64 a0_3, .int .i64 a0_4, .slice A0_5 l0_5.length c0_5]) (t := 47) ?hr ?_; (case hd => rfl); (case hg => rfl); (case hr => first | (go_simp; done) | (go_simp; rfl)); intro gb1 hg w1 hbox hb; have BK1 := am_ hbox; have n0_ := am_ (below_step qz4_ hb); clear HB; have HB := n0_; clear n0_; clear hb; clear hbox hg) | ((with_reducible refine gate_dst (N := 4) rfl ?_); refine box_event ?hg (N := 4) ?hd (cs := #[.int .i64 a1]) (t := 3) ?hr ?_; (case hd => rfl); (case hg => rfl); (case hr => first | (go_simp; done) | (go_simp; rfl)); intro gb2 hg w2 hbox hb; have m1_ := am_ (blk_below (g := gb1) (o := .cells #[.slice A0_0 l0_0.length c0_0, .slice A0_1 l0_1.length c0_1, .int .i64 a0_2, .int .i64 a0_3, .int .i64 a0_4, .slice A0_5 l0_5.length c0_5] 47 (0, 0)) qz21_ hb); clear BK1; have BK1 := m1_; clear m1_; have BK2 := am_ hbox; have n0_ := am_ (below_step qz4_ hb); clear HB; have HB := n0_; clear n0_; clear hb; clear hbox hg) | ((with_reducible refine gate_dst (N := 5) rfl ?_); refine box_event ?hg (N := 5) ?hd (cs := #[.int .i64 a2_0, .int .i64 a2_1, .int .i64 a2_2]) (t := 49) ?hr ?_; (case hd => rfl); (case hg => rfl); (case hr => first | (go_simp; done) | (go_simp; rfl)); intro gb3 hg w3 hbox hb; have m1_ := am_ (blk_below (g := gb1) (o := .cells #[.slice A0_0 l0_0.length c0_0, .slice A0_1 l0_1.length c0_1, .int .i64 a0_2, .int .i64 a0_3, .int .i64 a0_4, .slice A0_5 l0_5.length c0_5] 47 (0, 0)) qz21_ hb); have m2_ := am_ (blk_below (g := gb2) (o := .cells #[.int .i64 a1] 3 (0, 0)) qz22_ hb); clear BK1; have BK1 := m1_; clear m1_; clear BK2; have BK2 := m2_; clear m2_; have BK3 := am_ hbox; have n0_ := am_ (below_step qz4_ hb); clear HB; have HB := n0_; clear n0_; clear hb; clear hbox hg; have hz1_0 : w3.cell? ⟨gb1, 0, none⟩ = some (.slice A0_0 l0_0.length c0_0) := (blk_cell BK1.out 0).trans rfl; have hf1_0 := blk_frozen BK1.out 0; have hz1_1 : w3.cell? ⟨gb1, 1, none⟩ = some (.slice A0_1 l0_1.length c0_1) := (blk_cell BK1.out 1).trans rfl; have hf1_1 := blk_frozen BK1.out 1; have hz1_2 : w3.cell? ⟨gb1, 2, none⟩ = some (.int .i64 a0_2) := (blk_cell BK1.out 2).trans rfl; have hf1_2 := blk_frozen BK1.out 2; have hz1_3 : w3.cell? ⟨gb1, 3, none⟩ = some (.int .i64 a0_3) := (blk_cell BK1.out 3).trans rfl; have hf1_3 := blk_frozen BK1.out 3; have hz1_4 : w3.cell? ⟨gb1, 4, none⟩ = some (.int .i64 a0_4) := (blk_cell BK1.out 4).trans rfl; have hf1_4 := blk_frozen BK1.out 4; have hz1_5 : w3.cell? ⟨gb1, 5, none⟩ = some (.slice A0_5 l0_5.length c0_5) := (blk_cell BK1.out 5).trans rfl; have hf1_5 := blk_frozen BK1.out 5; have hz2_0 : w3.cell? ⟨gb2, 0, none⟩ = some (.int .i64 a1) := (blk_cell BK2.out 0).trans rfl; have hf2_0 := blk_frozen BK2.out 0; have hz3_0 : w3.cell? ⟨gb3, 0, none⟩ = some (.int .i64 a2_0) := (blk_cell BK3.out 0).trans rfl; have hf3_0 := blk_frozen BK3.out 0; have hz3_1 : w3.cell? ⟨gb3, 1, none⟩ = some (.int .i64 a2_1) := (blk_cell BK3.out 1).trans rfl; have hf3_1 := blk_frozen BK3.out 1; have hz3_2 : w3.cell? ⟨gb3, 2, none⟩ = some (.int .i64 a2_2) := (blk_cell BK3.out 2).trans rfl; have hf3_2 := blk_frozen BK3.out 2) | (go_at_call 36; (with_reducible refine (impl_in.calls a1 1 6 _ _ A1.out).mono ?_); rintro e w' ⟨rfl, ⟨nd, rfl⟩⟩) | (go_at_call 37; (refine (impl_SettingOK.calls a2_0 a2_1 a2_2 _ _ A2.out).mono ?_); rintro e w11 ⟨rfl, hb⟩; have m1_ := am_ (blk_below (g := gb1) (o := .cells #[.slice A0_0 l0_0.length c0_0, .slice A0_1 l0_1.length c0_1, .int .i64 a0_2, .int .i64 a0_3, .int .i64 a0_4, .slice A0_5 l0_5.length c0_5] 47 (0, 0)) qz21_ hb); have m2_ := am_ (blk_below (g := gb2) (o := .cells #[.int .i64 a1] 3 (0, 0)) qz22_ hb); have m3_ := am_ (blk_below (g := gb3) (o := .cells #[.int .i64 a2_0, .int .i64 a2_1, .int .i64 a2_2] 49 (0, 0)) qz23_ hb); clear BK1; have BK1 := m1_; clear m1_; clear BK2; have BK2 := m2_; clear m2_; clear BK3; have BK3 := m3_; clear m3_; have n0_ := am_ (below_step qz4_ hb); clear HB; have HB := n0_; clear n0_; clear hb; have hz1_0 : w11.cell? ⟨gb1, 0, none⟩ = some (.slice A0_0 l0_0.length c0_0) := (blk_cell BK1.out 0).trans rfl; have hf1_0 := blk_frozen BK1.out 0; have hz1_1 : w11.cell? ⟨gb1, 1, none⟩ = some (.slice A0_1 l0_1.length c0_1) := (blk_cell BK1.out 1).trans rfl; have hf1_1 := blk_frozen BK1.out 1; have hz1_2 : w11.cell? ⟨gb1, 2, none⟩ = some (.int .i64 a0_2) := (blk_cell BK1.out 2).trans rfl; have hf1_2 := blk_frozen BK1.out 2; have hz1_3 : w11.cell? ⟨gb1, 3, none⟩ = some (.int .i64 a0_3) := (blk_cell BK1.out 3).trans rfl; have hf1_3 := blk_frozen BK1.out 3; have hz1_4 : w11.cell? ⟨gb1, 4, none⟩ = some (.int .i64 a0_4) := (blk_cell BK1.out 4).trans rfl; have hf1_4 := blk_frozen BK1.out 4; have hz1_5 : w11.cell? ⟨gb1, 5, none⟩ = some (.slice A0_5 l0_5.length c0_5) := (blk_cell BK1.out 5).trans rfl; have hf1_5 := blk_frozen BK1.out 5; have hz2_0 : w11.cell? ⟨gb2, 0, none⟩ = some (.int .i64 a1) := (blk_cell BK2.out 0).trans rfl; have hf2_0 := blk_frozen BK2.out 0; have hz3_0 : w11.cell? ⟨gb3, 0, none⟩ = some (.int .i64 a2_0) := (blk_cell BK3.out 0).trans rfl; have hf3_0 := blk_frozen BK3.out 0; have hz3_1 : w11.cell? ⟨gb3, 1, none⟩ = some (.int .i64 a2_1) := (blk_cell BK3.out 1).trans rfl; have hf3_1 := blk_frozen BK3.out 1; have hz3_2 : w11.cell? ⟨gb3, 2, none⟩ = some (.int .i64 a2_2) := (blk_cell BK3.out 2).trans rfl; have hf3_2 := blk_frozen BK3.out 2) | (go_at_call 38; (refine (impl_areRounds.calls A0_0 c0_0 l0_0 a1 3 _ _ qz24_ HC0_0.out A3.out).mono ?_); rintro e w12 ⟨rfl, hb⟩; have m1_ := am_ (blk_below (g := gb1) (o := .cells #[.slice A0_0 l0_0.length c0_0, .slice A0_1 l0_1.length c0_1, .int .i64 a0_2, .int .i64 a0_3, .int .i64 a0_4, .slice A0_5 l0_5.length c0_5] 47 (0, 0)) qz21_ hb); have m2_ := am_ (blk_below (g := gb2) (o := .cells #[.int .i64 a1] 3 (0, 0)) qz22_ hb); have m3_ := am_ (blk_below (g := gb3) (o := .cells #[.int .i64 a2_0, .int .i64 a2_1, .int .i64 a2_2] 49 (0, 0)) qz23_ hb); clear BK1; have BK1 := m1_; clear m1_; clear BK2; have BK2 := m2_; clear m2_; clear BK3; have BK3 := m3_; clear m3_; have n0_ := am_ (below_step qz4_ hb); clear HB; have HB := n0_; clear n0_; clear hb; have hz1_0 : w12.cell? ⟨gb1, 0, none⟩ = some (.slice A0_0 l0_0.length c0_0) := (blk_cell BK1.out 0).trans rfl; have hf1_0 := blk_frozen BK1.out 0; have hz1_1 : w12.cell? ⟨gb1, 1, none⟩ = some (.slice A0_1 l0_1.length c0_1) := (blk_cell BK1.out 1).trans rfl; have hf1_1 := blk_frozen BK1.out 1; have hz1_2 : w12.cell? ⟨gb1, 2, none⟩ = some (.int .i64 a0_2) := (blk_cell BK1.out 2).trans rfl; have hf1_2 := blk_frozen BK1.out 2; have hz1_3 : w12.cell? ⟨gb1, 3, none⟩ = some (.int .i64 a0_3) := (blk_cell BK1.out 3).trans rfl; have hf1_3 := blk_frozen BK1.out 3; have hz1_4 : w12.cell? ⟨gb1, 4, none⟩ = some (.int .i64 a0_4) := (blk_cell BK1.out 4).trans rfl; have hf1_4 := blk_frozen BK1.out 4; have hz1_5 : w12.cell? ⟨gb1, 5, none⟩ = some (.slice A0_5 l0_5.length c0_5) := (blk_cell BK1.out 5).trans rfl; have hf1_5 := blk_frozen BK1.out 5; have hz2_0 : w12.cell? ⟨gb2, 0, none⟩ = some (.int .i64 a1) := (blk_cell BK2.out 0).trans rfl; have hf2_0 := blk_frozen BK2.out 0; have hz3_0 : w12.cell? ⟨gb3, 0, none⟩ = some (.int .i64 a2_0) := (blk_cell BK3.out 0).trans rfl; have hf3_0 := blk_frozen BK3.out 0; have hz3_1 : w12.cell? ⟨gb3, 1, none⟩ = some (.int .i64 a2_1) := (blk_cell BK3.out 1).trans rfl; have hf3_1 := blk_frozen BK3.out 1; have hz3_2 : w12.cell? ⟨gb3, 2, none⟩ = some (.int .i64 a2_2) := (blk_cell BK3.out 2).trans rfl; have hf3_2 := blk_frozen BK3.out 2) | (go_at_call 39; (refine (impl_are_string_isHash.calls A0_1 c0_1 l0_1 _ _ qz25_ HC0_1.out A5.out).mono ?_); rintro e w13 ⟨rfl, hb⟩; have m1_ := am_ (blk_below (g := gb1) (o := .cells #[.slice A0_0 l0_0.length c0_0, .slice A0_1 l0_1.length c0_1, .int .i64 a0_2, .int .i64 a0_3, .int .i64 a0_4, .slice A0_5 l0_5.length c0_5] 47 (0, 0)) qz21_ hb); have m2_ := am_ (blk_below (g := gb2) (o := .cells #[.int .i64 a1] 3 (0, 0)) qz22_ hb); have m3_ := am_ (blk_below (g := gb3) (o := .cells #[.int .i64 a2_0, .int .i64 a2_1, .int .i64 a2_2] 49 (0, 0)) qz23_ hb); clear BK1; have BK1 := m1_; clear m1_; clear BK2; have BK2 := m2_; clear m2_; clear BK3; have BK3 := m3_; clear m3_; have n0_ := am_ (below_step qz4_ hb); clear HB; have HB := n0_; clear n0_; clear hb; have hz1_0 : w13.cell? ⟨gb1, 0, none⟩ = some (.slice A0_0 l0_0.length c0_0) := (blk_cell BK1.out 0).trans rfl; have hf1_0 := blk_frozen BK1.out 0; have hz1_1 : w13.cell? ⟨gb1, 1, none⟩ = some (.slice A0_1 l0_1.length c0_1) := (blk_cell BK1.out 1).trans rfl; have hf1_1 := blk_frozen BK1.out 1; have hz1_2 : w13.cell? ⟨gb1, 2, none⟩ = some (.int .i64 a0_2) := (blk_cell BK1.out 2).trans rfl; have hf1_2 := blk_frozen BK1.out 2; have hz1_3 : w13.cell? ⟨gb1, 3, none⟩ = some (.int .i64 a0_3) := (blk_cell BK1.out 3).trans rfl; have hf1_3 := blk_frozen BK1.out 3; have hz1_4 : w13.cell? ⟨gb1, 4, none⟩ = some (.int .i64 a0_4) := (blk_cell BK1.out 4).trans rfl; have hf1_4 := blk_frozen BK1.out 4; have hz1_5 : w13.cell? ⟨gb1, 5, none⟩ = some (.slice A0_5 l0_5.length c0_5) := (blk_cell BK1.out 5).trans rfl; have hf1_5 := blk_frozen BK1.out 5; have hz2_0 : w13.cell? ⟨gb2, 0, none⟩ = some (.int .i64 a1) := (blk_cell BK2.out 0).trans rfl; have hf2_0 := blk_frozen BK2.out 0; have hz3_0 : w13.cell? ⟨gb3, 0, none⟩ = some (.int .i64 a2_0) := (blk_cell BK3.out 0).trans rfl; have hf3_0 := blk_frozen BK3.out 0; have hz3_1 : w13.cell? ⟨gb3, 1, none⟩ = some (.int .i64 a2_1) := (blk_cell BK3.out 1).trans rfl; have hf3_1 := blk_frozen BK3.out 1; have hz3_2 : w13.cell? ⟨gb3, 2, none⟩ = some (.int .i64 a2_2) := (blk_cell BK3.out 2).trans rfl; have hf3_2 := blk_frozen BK3.out 2) | (go_at_call 41; (refine (impl_ExtOK.calls a0_2 a0_3 _ _ A6.out).mono ?_); rintro e w14 ⟨rfl, hb⟩; have m1_ := am_ (blk_below (g := gb1) (o := .cells #[.slice A0_0 l0_0.length c0_0, .slice A0_1 l0_1.length c0_1, .int .i64 a0_2, .int .i64 a0_3, .int .i64 a0_4, .slice A0_5 l0_5.length c0_5] 47 (0, 0)) qz21_ hb); have m2_ := am_ (blk_below (g := gb2) (o := .cells #[.int .i64 a1] 3 (0, 0)) qz22_ hb); have m3_ := am_ (blk_below (g := gb3) (o := .cells #[.int .i64 a2_0, .int .i64 a2_1, .int .i64 a2_2] 49 (0, 0)) qz23_ hb); clear BK1; have BK1 := m1_; clear m1_; clear BK2; have BK2 := m2_; clear m2_; clear BK3; have BK3 := m3_; clear m3_; have n0_ := am_ (below_step qz4_ hb); clear HB; have HB := n0_; clear n0_; clear hb; have hz1_0 : w14.cell? ⟨gb1, 0, none⟩ = some (.slice A0_0 l0_0.length c0_0) := (blk_cell BK1.out 0).trans rfl; have hf1_0 := blk_frozen BK1.out 0; have hz1_1 : w14.cell? ⟨gb1, 1, none⟩ = some (.slice A0_1 l0_1.length c0_1) := (blk_cell BK1.out 1).trans rfl; have hf1_1 := blk_frozen BK1.out 1; have hz1_2 : w14.cell? ⟨gb1, 2, none⟩ = some (.int .i64 a0_2) := (blk_cell BK1.out 2).trans rfl; have hf1_2 := blk_frozen BK1.out 2; have hz1_3 : w14.cell? ⟨gb1, 3, none⟩ = some (.int .i64 a0_3) := (blk_cell BK1.out 3).trans rfl; have hf1_3 := blk_frozen BK1.out 3; have hz1_4 : w14.cell? ⟨gb1, 4, none⟩ = some (.int .i64 a0_4) := (blk_cell BK1.out 4).trans rfl; have hf1_4 := blk_frozen BK1.out 4; have hz1_5 : w14.cell? ⟨gb1, 5, none⟩ = some (.slice A0_5 l0_5.length c0_5) := (blk_cell BK1.out 5).trans rfl; have hf1_5 := blk_frozen BK1.out 5; have hz2_0 : w14.cell? ⟨gb2, 0, none⟩ = some (.int .i64 a1) := (blk_cell BK2.out 0).trans rfl; have hf2_0 := blk_frozen BK2.out 0; have hz3_0 : w14.cell? ⟨gb3, 0, none⟩ = some (.int .i64 a2_0) := (blk_cell BK3.out 0).trans rfl; have hf3_0 := blk_frozen BK3.out 0; have hz3_1 : w14.cell? ⟨gb3, 1, none⟩ = some (.int .i64 a2_1) := (blk_cell BK3.out 1).trans rfl; have hf3_1 := blk_frozen BK3.out 1; have hz3_2 : w14.cell? ⟨gb3, 2, none⟩ = some (.int .i64 a2_2) := (blk_cell BK3.out 2).trans rfl; have hf3_2 := blk_frozen BK3.out 2) | (go_at_call 36; (with_reducible refine (impl_in.calls a0_4 0 65535 _ _ A7.out).mono ?_); rintro e w' ⟨rfl, ⟨nd, rfl⟩⟩) | (go_at_call 42; (refine (impl_are_Query.calls k gb2 gb3 a1 a2_0 a2_1 a2_2 A0_5 c0_5 l0_5 _ _ qz22_ qz23_ qz26_ HC0_5.out A9.out).mono ?_); rintro e w15 ⟨rfl, hb⟩; have n0_ := am_ (below_step qz4_ hb); clear HB; have HB := n0_; clear n0_; clear hb))
   go_ret
   exact ⟨(by first | rfl | simp), qz4_⟩
  | true =>
   rw [if_pos rfl] at h
   obtain ⟨t3, a_, h⟩ := Option.bind_eq_some_iff.mp h
   have A3 := am_ a_
   clear a_
   cases t3 with
   | false =>
    rw [if_neg (by decide)] at h
    obtain rfl := Option.some.inj h
    clear h
    go_enter Try.func18, Try.ntmps18
    go_wp2_with (first | ((with_reducible refine gate_dst (N := 3) rfl ?_); refine box_event ?hg (N := 3) ?hd (cs := #[.slice A0_0 l0_0.length c0_0, .slice A0_1 l0_1.length c0_1, .int .i64 a0_2, .int .i64 a0_3, .int .i64 a0_4, .slice A0_5 l0_5.length c0_5]) (t := 47) ?hr ?_; (case hd => rfl); (case hg => rfl); (case hr => first | (go_simp; done) | (go_simp; rfl)); intro gb1 hg w1 hbox hb; have BK1 := am_ hbox; have n0_ := am_ (below_step qz4_ hb); clear HB; have HB := n0_; clear n0_; clear hb; clear hbox hg) | ((with_reducible refine gate_dst (N := 4) rfl ?_); refine box_event ?hg (N := 4) ?hd (cs := #[.int .i64 a1]) (t := 3) ?hr ?_; (case hd => rfl); (case hg => rfl); (case hr => first | (go_simp; done) | (go_simp; rfl)); intro gb2 hg w2 hbox hb; have m1_ := am_ (blk_below (g := gb1) (o := .cells #[.slice A0_0 l0_0.length c0_0, .slice A0_1 l0_1.length c0_1, .int .i64 a0_2, .int .i64 a0_3, .int .i64 a0_4, .slice A0_5 l0_5.length c0_5] 47 (0, 0)) qz21_ hb); clear BK1; have BK1 := m1_; clear m1_; have BK2 := am_ hbox; have n0_ := am_ (below_step qz4_ hb); clear HB; have HB := n0_; clear n0_; clear hb; clear hbox hg) | ((with_reducible refine gate_dst (N := 5) rfl ?_); refine box_event ?hg (N := 5) ?hd (cs := #[.int .i64 a2_0, .int .i64 a2_1, .int .i64 a2_2]) (t := 49) ?hr ?_; (case hd => rfl); (case hg => rfl); (case hr => first | (go_simp; done) | (go_simp; rfl)); intro gb3 hg w3 hbox hb; have m1_ := am_ (blk_below (g := gb1) (o := .cells #[.slice A0_0 l0_0.length c0_0, .slice A0_1 l0_1.length c0_1, .int .i64 a0_2, .int .i64 a0_3, .int .i64 a0_4, .slice A0_5 l0_5.length c0_5] 47 (0, 0)) qz21_ hb); have m2_ := am_ (blk_below (g := gb2) (o := .cells #[.int .i64 a1] 3 (0, 0)) qz22_ hb); clear BK1; have BK1 := m1_; clear m1_; clear BK2; have BK2 := m2_; clear m2_; have BK3 := am_ hbox; have n0_ := am_ (below_step qz4_ hb); clear HB; have HB := n0_; clear n0_; clear hb; clear hbox hg; have hz1_0 : w3.cell? ⟨gb1, 0, none⟩ = some (.slice A0_0 l0_0.length c0_0) := (blk_cell BK1.out 0).trans rfl; have hf1_0 := blk_frozen BK1.out 0; have hz1_1 : w3.cell? ⟨gb1, 1, none⟩ = some (.slice A0_1 l0_1.length c0_1) := (blk_cell BK1.out 1).trans rfl; have hf1_1 := blk_frozen BK1.out 1; have hz1_2 : w3.cell? ⟨gb1, 2, none⟩ = some (.int .i64 a0_2) := (blk_cell BK1.out 2).trans rfl; have hf1_2 := blk_frozen BK1.out 2; have hz1_3 : w3.cell? ⟨gb1, 3, none⟩ = some (.int .i64 a0_3) := (blk_cell BK1.out 3).trans rfl; have hf1_3 := blk_frozen BK1.out 3; have hz1_4 : w3.cell? ⟨gb1, 4, none⟩ = some (.int .i64 a0_4) := (blk_cell BK1.out 4).trans rfl; have hf1_4 := blk_frozen BK1.out 4; have hz1_5 : w3.cell? ⟨gb1, 5, none⟩ = some (.slice A0_5 l0_5.length c0_5) := (blk_cell BK1.out 5).trans rfl; have hf1_5 := blk_frozen BK1.out 5; have hz2_0 : w3.cell? ⟨gb2, 0, none⟩ = some (.int .i64 a1) := (blk_cell BK2.out 0).trans rfl; have hf2_0 := blk_frozen BK2.out 0; have hz3_0 : w3.cell? ⟨gb3, 0, none⟩ = some (.int .i64 a2_0) := (blk_cell BK3.out 0).trans rfl; have hf3_0 := blk_frozen BK3.out 0; have hz3_1 : w3.cell? ⟨gb3, 1, none⟩ = some (.int .i64 a2_1) := (blk_cell BK3.out 1).trans rfl; have hf3_1 := blk_frozen BK3.out 1; have hz3_2 : w3.cell? ⟨gb3, 2, none⟩ = some (.int .i64 a2_2) := (blk_cell BK3.out 2).trans rfl; have hf3_2 := blk_frozen BK3.out 2) | (go_at_call 36; (with_reducible refine (impl_in.calls a1 1 6 _ _ A1.out).mono ?_); rintro e w' ⟨rfl, ⟨nd, rfl⟩⟩) | (go_at_call 37; (refine (impl_SettingOK.calls a2_0 a2_1 a2_2 _ _ A2.out).mono ?_); rintro e w11 ⟨rfl, hb⟩; have m1_ := am_ (blk_below (g := gb1) (o := .cells #[.slice A0_0 l0_0.length c0_0, .slice A0_1 l0_1.length c0_1, .int .i64 a0_2, .int .i64 a0_3, .int .i64 a0_4, .slice A0_5 l0_5.length c0_5] 47 (0, 0)) qz21_ hb); have m2_ := am_ (blk_below (g := gb2) (o := .cells #[.int .i64 a1] 3 (0, 0)) qz22_ hb); have m3_ := am_ (blk_below (g := gb3) (o := .cells #[.int .i64 a2_0, .int .i64 a2_1, .int .i64 a2_2] 49 (0, 0)) qz23_ hb); clear BK1; have BK1 := m1_; clear m1_; clear BK2; have BK2 := m2_; clear m2_; clear BK3; have BK3 := m3_; clear m3_; have n0_ := am_ (below_step qz4_ hb); clear HB; have HB := n0_; clear n0_; clear hb; have hz1_0 : w11.cell? ⟨gb1, 0, none⟩ = some (.slice A0_0 l0_0.length c0_0) := (blk_cell BK1.out 0).trans rfl; have hf1_0 := blk_frozen BK1.out 0; have hz1_1 : w11.cell? ⟨gb1, 1, none⟩ = some (.slice A0_1 l0_1.length c0_1) := (blk_cell BK1.out 1).trans rfl; have hf1_1 := blk_frozen BK1.out 1; have hz1_2 : w11.cell? ⟨gb1, 2, none⟩ = some (.int .i64 a0_2) := (blk_cell BK1.out 2).trans rfl; have hf1_2 := blk_frozen BK1.out 2; have hz1_3 : w11.cell? ⟨gb1, 3, none⟩ = some (.int .i64 a0_3) := (blk_cell BK1.out 3).trans rfl; have hf1_3 := blk_frozen BK1.out 3; have hz1_4 : w11.cell? ⟨gb1, 4, none⟩ = some (.int .i64 a0_4) := (blk_cell BK1.out 4).trans rfl; have hf1_4 := blk_frozen BK1.out 4; have hz1_5 : w11.cell? ⟨gb1, 5, none⟩ = some (.slice A0_5 l0_5.length c0_5) := (blk_cell BK1.out 5).trans rfl; have hf1_5 := blk_frozen BK1.out 5; have hz2_0 : w11.cell? ⟨gb2, 0, none⟩ = some (.int .i64 a1) := (blk_cell BK2.out 0).trans rfl; have hf2_0 := blk_frozen BK2.out 0; have hz3_0 : w11.cell? ⟨gb3, 0, none⟩ = some (.int .i64 a2_0) := (blk_cell BK3.out 0).trans rfl; have hf3_0 := blk_frozen BK3.out 0; have hz3_1 : w11.cell? ⟨gb3, 1, none⟩ = some (.int .i64 a2_1) := (blk_cell BK3.out 1).trans rfl; have hf3_1 := blk_frozen BK3.out 1; have hz3_2 : w11.cell? ⟨gb3, 2, none⟩ = some (.int .i64 a2_2) := (blk_cell BK3.out 2).trans rfl; have hf3_2 := blk_frozen BK3.out 2) | (go_at_call 38; (refine (impl_areRounds.calls A0_0 c0_0 l0_0 a1 3 _ _ qz24_ HC0_0.out A3.out).mono ?_); rintro e w12 ⟨rfl, hb⟩; have m1_ := am_ (blk_below (g := gb1) (o := .cells #[.slice A0_0 l0_0.length c0_0, .slice A0_1 l0_1.length c0_1, .int .i64 a0_2, .int .i64 a0_3, .int .i64 a0_4, .slice A0_5 l0_5.length c0_5] 47 (0, 0)) qz21_ hb); have m2_ := am_ (blk_below (g := gb2) (o := .cells #[.int .i64 a1] 3 (0, 0)) qz22_ hb); have m3_ := am_ (blk_below (g := gb3) (o := .cells #[.int .i64 a2_0, .int .i64 a2_1, .int .i64 a2_2] 49 (0, 0)) qz23_ hb); clear BK1; have BK1 := m1_; clear m1_; clear BK2; have BK2 := m2_; clear m2_; clear BK3; have BK3 := m3_; clear m3_; have n0_ := am_ (below_step qz4_ hb); clear HB; have HB := n0_; clear n0_; clear hb; have hz1_0 : w12.cell? ⟨gb1, 0, none⟩ = some (.slice A0_0 l0_0.length c0_0) := (blk_cell BK1.out 0).trans rfl; have hf1_0 := blk_frozen BK1.out 0; have hz1_1 : w12.cell? ⟨gb1, 1, none⟩ = some (.slice A0_1 l0_1.length c0_1) := (blk_cell BK1.out 1).trans rfl; have hf1_1 := blk_frozen BK1.out 1; have hz1_2 : w12.cell? ⟨gb1, 2, none⟩ = some (.int .i64 a0_2) := (blk_cell BK1.out 2).trans rfl; have hf1_2 := blk_frozen BK1.out 2; have hz1_3 : w12.cell? ⟨gb1, 3, none⟩ = some (.int .i64 a0_3) := (blk_cell BK1.out 3).trans rfl; have hf1_3 := blk_frozen BK1.out 3; have hz1_4 : w12.cell? ⟨gb1, 4, none⟩ = some (.int .i64 a0_4) := (blk_cell BK1.out 4).trans rfl; have hf1_4 := blk_frozen BK1.out 4; have hz1_5 : w12.cell? ⟨gb1, 5, none⟩ = some (.slice A0_5 l0_5.length c0_5) := (blk_cell BK1.out 5).trans rfl; have hf1_5 := blk_frozen BK1.out 5; have hz2_0 : w12.cell? ⟨gb2, 0, none⟩ = some (.int .i64 a1) := (blk_cell BK2.out 0).trans rfl; have hf2_0 := blk_frozen BK2.out 0; have hz3_0 : w12.cell? ⟨gb3, 0, none⟩ = some (.int .i64 a2_0) := (blk_cell BK3.out 0).trans rfl; have hf3_0 := blk_frozen BK3.out 0; have hz3_1 : w12.cell? ⟨gb3, 1, none⟩ = some (.int .i64 a2_1) := (blk_cell BK3.out 1).trans rfl; have hf3_1 := blk_frozen BK3.out 1; have hz3_2 : w12.cell? ⟨gb3, 2, none⟩ = some (.int .i64 a2_2) := (blk_cell BK3.out 2).trans rfl; have hf3_2 := blk_frozen BK3.out 2) | (go_at_call 39; (refine (impl_are_string_isHash.calls A0_1 c0_1 l0_1 _ _ qz25_ HC0_1.out A5.out).mono ?_); rintro e w13 ⟨rfl, hb⟩; have m1_ := am_ (blk_below (g := gb1) (o := .cells #[.slice A0_0 l0_0.length c0_0, .slice A0_1 l0_1.length c0_1, .int .i64 a0_2, .int .i64 a0_3, .int .i64 a0_4, .slice A0_5 l0_5.length c0_5] 47 (0, 0)) qz21_ hb); have m2_ := am_ (blk_below (g := gb2) (o := .cells #[.int .i64 a1] 3 (0, 0)) qz22_ hb); have m3_ := am_ (blk_below (g := gb3) (o := .cells #[.int .i64 a2_0, .int .i64 a2_1, .int .i64 a2_2] 49 (0, 0)) qz23_ hb); clear BK1; have BK1 := m1_; clear m1_; clear BK2; have BK2 := m2_; clear m2_; clear BK3; have BK3 := m3_; clear m3_; have n0_ := am_ (below_step qz4_ hb); clear HB; have HB := n0_; clear n0_; clear hb; have hz1_0 : w13.cell? ⟨gb1, 0, none⟩ = some (.slice A0_0 l0_0.length c0_0) := (blk_cell BK1.out 0).trans rfl; have hf1_0 := blk_frozen BK1.out 0; have hz1_1 : w13.cell? ⟨gb1, 1, none⟩ = some (.slice A0_1 l0_1.length c0_1) := (blk_cell BK1.out 1).trans rfl; have hf1_1 := blk_frozen BK1.out 1; have hz1_2 : w13.cell? ⟨gb1, 2, none⟩ = some (.int .i64 a0_2) := (blk_cell BK1.out 2).trans rfl; have hf1_2 := blk_frozen BK1.out 2; have hz1_3 : w13.cell? ⟨gb1, 3, none⟩ = some (.int .i64 a0_3) := (blk_cell BK1.out 3).trans rfl; have hf1_3 := blk_frozen BK1.out 3; have hz1_4 : w13.cell? ⟨gb1, 4, none⟩ = some (.int .i64 a0_4) := (blk_cell BK1.out 4).trans rfl; have hf1_4 := blk_frozen BK1.out 4; have hz1_5 : w13.cell? ⟨gb1, 5, none⟩ = some (.slice A0_5 l0_5.length c0_5) := (blk_cell BK1.out 5).trans rfl; have hf1_5 := blk_frozen BK1.out 5; have hz2_0 : w13.cell? ⟨gb2, 0, none⟩ = some (.int .i64 a1) := (blk_cell BK2.out 0).trans rfl; have hf2_0 := blk_frozen BK2.out 0; have hz3_0 : w13.cell? ⟨gb3, 0, none⟩ = some (.int .i64 a2_0) := (blk_cell BK3.out 0).trans rfl; have hf3_0 := blk_frozen BK3.out 0; have hz3_1 : w13.cell? ⟨gb3, 1, none⟩ = some (.int .i64 a2_1) := (blk_cell BK3.out 1).trans rfl; have hf3_1 := blk_frozen BK3.out 1; have hz3_2 : w13.cell? ⟨gb3, 2, none⟩ = some (.int .i64 a2_2) := (blk_cell BK3.out 2).trans rfl; have hf3_2 := blk_frozen BK3.out 2) | (go_at_call 41; (refine (impl_ExtOK.calls a0_2 a0_3 _ _ A6.out).mono ?_); rintro e w14 ⟨rfl, hb⟩; have m1_ := am_ (blk_below (g := gb1) (o := .cells #[.slice A0_0 l0_0.length c0_0, .slice A0_1 l0_1.length c0_1, .int .i64 a0_2, .int .i64 a0_3, .int .i64 a0_4, .slice A0_5 l0_5.length c0_5] 47 (0, 0)) qz21_ hb); have m2_ := am_ (blk_below (g := gb2) (o := .cells #[.int .i64 a1] 3 (0, 0)) qz22_ hb); have m3_ := am_ (blk_below (g := gb3) (o := .cells #[.int .i64 a2_0, .int .i64 a2_1, .int .i64 a2_2] 49 (0, 0)) qz23_ hb); clear BK1; have BK1 := m1_; clear m1_; clear BK2; have BK2 := m2_; clear m2_; clear BK3; have BK3 := m3_; clear m3_; have n0_ := am_ (below_step qz4_ hb); clear HB; have HB := n0_; clear n0_; clear hb; have hz1_0 : w14.cell? ⟨gb1, 0, none⟩ = some (.slice A0_0 l0_0.length c0_0) := (blk_cell BK1.out 0).trans rfl; have hf1_0 := blk_frozen BK1.out 0; have hz1_1 : w14.cell? ⟨gb1, 1, none⟩ = some (.slice A0_1 l0_1.length c0_1) := (blk_cell BK1.out 1).trans rfl; have hf1_1 := blk_frozen BK1.out 1; have hz1_2 : w14.cell? ⟨gb1, 2, none⟩ = some (.int .i64 a0_2) := (blk_cell BK1.out 2).trans rfl; have hf1_2 := blk_frozen BK1.out 2; have hz1_3 : w14.cell? ⟨gb1, 3, none⟩ = some (.int .i64 a0_3) := (blk_cell BK1.out 3).trans rfl; have hf1_3 := blk_frozen BK1.out 3; have hz1_4 : w14.cell? ⟨gb1, 4, none⟩ = some (.int .i64 a0_4) := (blk_cell BK1.out 4).trans rfl; have hf1_4 := blk_frozen BK1.out 4; have hz1_5 : w14.cell? ⟨gb1, 5, none⟩ = some (.slice A0_5 l0_5.length c0_5) := (blk_cell BK1.out 5).trans rfl; have hf1_5 := blk_frozen BK1.out 5; have hz2_0 : w14.cell? ⟨gb2, 0, none⟩ = some (.int .i64 a1) := (blk_cell BK2.out 0).trans rfl; have hf2_0 := blk_frozen BK2.out 0; have hz3_0 : w14.cell? ⟨gb3, 0, none⟩ = some (.int .i64 a2_0) := (blk_cell BK3.out 0).trans rfl; have hf3_0 := blk_frozen BK3.out 0; have hz3_1 : w14.cell? ⟨gb3, 1, none⟩ = some (.int .i64 a2_1) := (blk_cell BK3.out 1).trans rfl; have hf3_1 := blk_frozen BK3.out 1; have hz3_2 : w14.cell? ⟨gb3, 2, none⟩ = some (.int .i64 a2_2) := (blk_cell BK3.out 2).trans rfl; have hf3_2 := blk_frozen BK3.out 2) | (go_at_call 36; (with_reducible refine (impl_in.calls a0_4 0 65535 _ _ A7.out).mono ?_); rintro e w' ⟨rfl, ⟨nd, rfl⟩⟩) | (go_at_call 42; (refine (impl_are_Query.calls k gb2 gb3 a1 a2_0 a2_1 a2_2 A0_5 c0_5 l0_5 _ _ qz22_ qz23_ qz26_ HC0_5.out A9.out).mono ?_); rintro e w15 ⟨rfl, hb⟩; have n0_ := am_ (below_step qz4_ hb); clear HB; have HB := n0_; clear n0_; clear hb))
    go_ret
    exact ⟨(by first | rfl | simp), qz4_⟩
   | true =>
    rw [if_pos rfl] at h
    by_cases c4 : (l0_1.length : Int) = wrap64 (a1 - 1)
    ·
     rw [if_pos c4] at h
     have c4b0 : ((l0_1.length : Int) == wrap64 (a1 - 1)) = true := beq_iff_eq.mpr c4
     clear c4
     obtain ⟨t5, a_, h⟩ := Option.bind_eq_some_iff.mp h
     have A5 := am_ a_
     clear a_
     cases t5 with
     | false =>
      rw [if_neg (by decide)] at h
      obtain rfl := Option.some.inj h
      clear h
      go_enter Try.func18, Try.ntmps18
      go_wp2_with (first | ((with_reducible refine gate_dst (N := 3) rfl ?_); refine box_event ?hg (N := 3) ?hd (cs := #[.slice A0_0 l0_0.length c0_0, .slice A0_1 l0_1.length c0_1, .int .i64 a0_2, .int .i64 a0_3, .int .i64 a0_4, .slice A0_5 l0_5.length c0_5]) (t := 47) ?hr ?_; (case hd => rfl); (case hg => rfl); (case hr => first | (go_simp; done) | (go_simp; rfl)); intro gb1 hg w1 hbox hb; have BK1 := am_ hbox; have n0_ := am_ (below_step qz4_ hb); clear HB; have HB := n0_; clear n0_; clear hb; clear hbox hg) | ((with_reducible refine gate_dst (N := 4) rfl ?_); refine box_event ?hg (N := 4) ?hd (cs := #[.int .i64 a1]) (t := 3) ?hr ?_; (case hd => rfl); (case hg => rfl); (case hr => first | (go_simp; done) | (go_simp; rfl)); intro gb2 hg w2 hbox hb; have m1_ := am_ (blk_below (g := gb1) (o := .cells #[.slice A0_0 l0_0.length c0_0, .slice A0_1 l0_1.length c0_1, .int .i64 a0_2, .int .i64 a0_3, .int .i64 a0_4, .slice A0_5 l0_5.length c0_5] 47 (0, 0)) qz21_ hb); clear BK1; have BK1 := m1_; clear m1_; have BK2 := am_ hbox; have n0_ := am_ (below_step qz4_ hb); clear HB; have HB := n0_; clear n0_; clear hb; clear hbox hg) | ((with_reducible refine gate_dst (N := 5) rfl ?_); refine box_event ?hg (N := 5) ?hd (cs := #[.int .i64 a2_0, .int .i64 a2_1, .int .i64 a2_2]) (t := 49) ?hr ?_; (case hd => rfl); (case hg => rfl); (case hr => first | (go_simp; done) | (go_simp; rfl)); intro gb3 hg w3 hbox hb; have m1_ := am_ (blk_below (g := gb1) (o := .cells #[.slice A0_0 l0_0.length c0_0, .slice A0_1 l0_1.length c0_1, .int .i64 a0_2, .int .i64 a0_3, .int .i64 a0_4, .slice A0_5 l0_5.length c0_5] 47 (0, 0)) qz21_ hb); have m2_ := am_ (blk_below (g := gb2) (o := .cells #[.int .i64 a1] 3 (0, 0)) qz22_ hb); clear BK1; have BK1 := m1_; clear m1_; clear BK2; have BK2 := m2_; clear m2_; have BK3 := am_ hbox; have n0_ := am_ (below_step qz4_ hb); clear HB; have HB := n0_; clear n0_; clear hb; clear hbox hg; have hz1_0 : w3.cell? ⟨gb1, 0, none⟩ = some (.slice A0_0 l0_0.length c0_0) := (blk_cell BK1.out 0).trans rfl; have hf1_0 := blk_frozen BK1.out 0; have hz1_1 : w3.cell? ⟨gb1, 1, none⟩ = some (.slice A0_1 l0_1.length c0_1) := (blk_cell BK1.out 1).trans rfl; have hf1_1 := blk_frozen BK1.out 1; have hz1_2 : w3.cell? ⟨gb1, 2, none⟩ = some (.int .i64 a0_2) := (blk_cell BK1.out 2).trans rfl; have hf1_2 := blk_frozen BK1.out 2; have hz1_3 : w3.cell? ⟨gb1, 3, none⟩ = some (.int .i64 a0_3) := (blk_cell BK1.out 3).trans rfl; have hf1_3 := blk_frozen BK1.out 3; have hz1_4 : w3.cell? ⟨gb1, 4, none⟩ = some (.int .i64 a0_4) := (blk_cell BK1.out 4).trans rfl; have hf1_4 := blk_frozen BK1.out 4; have hz1_5 : w3.cell? ⟨gb1, 5, none⟩ = some (.slice A0_5 l0_5.length c0_5) := (blk_cell BK1.out 5).trans rfl; have hf1_5 := blk_frozen BK1.out 5; have hz2_0 : w3.cell? ⟨gb2, 0, none⟩ = some (.int .i64 a1) := (blk_cell BK2.out 0).trans rfl; have hf2_0 := blk_frozen BK2.out 0; have hz3_0 : w3.cell? ⟨gb3, 0, none⟩ = some (.int .i64 a2_0) := (blk_cell BK3.out 0).trans rfl; have hf3_0 := blk_frozen BK3.out 0; have hz3_1 : w3.cell? ⟨gb3, 1, none⟩ = some (.int .i64 a2_1) := (blk_cell BK3.out 1).trans rfl; have hf3_1 := blk_frozen BK3.out 1; have hz3_2 : w3.cell? ⟨gb3, 2, none⟩ = some (.int .i64 a2_2) := (blk_cell BK3.out 2).trans rfl; have hf3_2 := blk_frozen BK3.out 2) | (go_at_call 36; (with_reducible refine (impl_in.calls a1 1 6 _ _ A1.out).mono ?_); rintro e w' ⟨rfl, ⟨nd, rfl⟩⟩) | (go_at_call 37; (refine (impl_SettingOK.calls a2_0 a2_1 a2_2 _ _ A2.out).mono ?_); rintro e w11 ⟨rfl, hb⟩; have m1_ := am_ (blk_below (g := gb1) (o := .cells #[.slice A0_0 l0_0.length c0_0, .slice A0_1 l0_1.length c0_1, .int .i64 a0_2, .int .i64 a0_3, .int .i64 a0_4, .slice A0_5 l0_5.length c0_5] 47 (0, 0)) qz21_ hb); have m2_ := am_ (blk_below (g := gb2) (o := .cells #[.int .i64 a1] 3 (0, 0)) qz22_ hb); have m3_ := am_ (blk_below (g := gb3) (o := .cells #[.int .i64 a2_0, .int .i64 a2_1, .int .i64 a2_2] 49 (0, 0)) qz23_ hb); clear BK1; have BK1 := m1_; clear m1_; clear BK2; have BK2 := m2_; clear m2_; clear BK3; have BK3 := m3_; clear m3_; have n0_ := am_ (below_step qz4_ hb); clear HB; have HB := n0_; clear n0_; clear hb; have hz1_0 : w11.cell? ⟨gb1, 0, none⟩ = some (.slice A0_0 l0_0.length c0_0) := (blk_cell BK1.out 0).trans rfl; have hf1_0 := blk_frozen BK1.out 0; have hz1_1 : w11.cell? ⟨gb1, 1, none⟩ = some (.slice A0_1 l0_1.length c0_1) := (blk_cell BK1.out 1).trans rfl; have hf1_1 := blk_frozen BK1.out 1; have hz1_2 : w11.cell? ⟨gb1, 2, none⟩ = some (.int .i64 a0_2) := (blk_cell BK1.out 2).trans rfl; have hf1_2 := blk_frozen BK1.out 2; have hz1_3 : w11.cell? ⟨gb1, 3, none⟩ = some (.int .i64 a0_3) := (blk_cell BK1.out 3).trans rfl; have hf1_3 := blk_frozen BK1.out 3; have hz1_4 : w11.cell? ⟨gb1, 4, none⟩ = some (.int .i64 a0_4) := (blk_cell BK1.out 4).trans rfl; have hf1_4 := blk_frozen BK1.out 4; have hz1_5 : w11.cell? ⟨gb1, 5, none⟩ = some (.slice A0_5 l0_5.length c0_5) := (blk_cell BK1.out 5).trans rfl; have hf1_5 := blk_frozen BK1.out 5; have hz2_0 : w11.cell? ⟨gb2, 0, none⟩ = some (.int .i64 a1) := (blk_cell BK2.out 0).trans rfl; have hf2_0 := blk_frozen BK2.out 0; have hz3_0 : w11.cell? ⟨gb3, 0, none⟩ = some (.int .i64 a2_0) := (blk_cell BK3.out 0).trans rfl; have hf3_0 := blk_frozen BK3.out 0; have hz3_1 : w11.cell? ⟨gb3, 1, none⟩ = some (.int .i64 a2_1) := (blk_cell BK3.out 1).trans rfl; have hf3_1 := blk_frozen BK3.out 1; have hz3_2 : w11.cell? ⟨gb3, 2, none⟩ = some (.int .i64 a2_2) := (blk_cell BK3.out 2).trans rfl; have hf3_2 := blk_frozen BK3.out 2) | (go_at_call 38; (refine (impl_areRounds.calls A0_0 c0_0 l0_0 a1 3 _ _ qz24_ HC0_0.out A3.out).mono ?_); rintro e w12 ⟨rfl, hb⟩; have m1_ := am_ (blk_below (g := gb1) (o := .cells #[.slice A0_0 l0_0.length c0_0, .slice A0_1 l0_1.length c0_1, .int .i64 a0_2, .int .i64 a0_3, .int .i64 a0_4, .slice A0_5 l0_5.length c0_5] 47 (0, 0)) qz21_ hb); have m2_ := am_ (blk_below (g := gb2) (o := .cells #[.int .i64 a1] 3 (0, 0)) qz22_ hb); have m3_ := am_ (blk_below (g := gb3) (o := .cells #[.int .i64 a2_0, .int .i64 a2_1, .int .i64 a2_2] 49 (0, 0)) qz23_ hb); clear BK1; have BK1 := m1_; clear m1_; clear BK2; have BK2 := m2_; clear m2_; clear BK3; have BK3 := m3_; clear m3_; have n0_ := am_ (below_step qz4_ hb); clear HB; have HB := n0_; clear n0_; clear hb; have hz1_0 : w12.cell? ⟨gb1, 0, none⟩ = some (.slice A0_0 l0_0.length c0_0) := (blk_cell BK1.out 0).trans rfl; have hf1_0 := blk_frozen BK1.out 0; have hz1_1 : w12.cell? ⟨gb1, 1, none⟩ = some (.slice A0_1 l0_1.length c0_1) := (blk_cell BK1.out 1).trans rfl; have hf1_1 := blk_frozen BK1.out 1; have hz1_2 : w12.cell? ⟨gb1, 2, none⟩ = some (.int .i64 a0_2) := (blk_cell BK1.out 2).trans rfl; have hf1_2 := blk_frozen BK1.out 2; have hz1_3 : w12.cell? ⟨gb1, 3, none⟩ = some (.int .i64 a0_3) := (blk_cell BK1.out 3).trans rfl; have hf1_3 := blk_frozen BK1.out 3; have hz1_4 : w12.cell? ⟨gb1, 4, none⟩ = some (.int .i64 a0_4) := (blk_cell BK1.out 4).trans rfl; have hf1_4 := blk_frozen BK1.out 4; have hz1_5 : w12.cell? ⟨gb1, 5, none⟩ = some (.slice A0_5 l0_5.length c0_5) := (blk_cell BK1.out 5).trans rfl; have hf1_5 := blk_frozen BK1.out 5; have hz2_0 : w12.cell? ⟨gb2, 0, none⟩ = some (.int .i64 a1) := (blk_cell BK2.out 0).trans rfl; have hf2_0 := blk_frozen BK2.out 0; have hz3_0 : w12.cell? ⟨gb3, 0, none⟩ = some (.int .i64 a2_0) := (blk_cell BK3.out 0).trans rfl; have hf3_0 := blk_frozen BK3.out 0; have hz3_1 : w12.cell? ⟨gb3, 1, none⟩ = some (.int .i64 a2_1) := (blk_cell BK3.out 1).trans rfl; have hf3_1 := blk_frozen BK3.out 1; have hz3_2 : w12.cell? ⟨gb3, 2, none⟩ = some (.int .i64 a2_2) := (blk_cell BK3.out 2).trans rfl; have hf3_2 := blk_frozen BK3.out 2) | (go_at_call 39; (refine (impl_are_string_isHash.calls A0_1 c0_1 l0_1 _ _ qz25_ HC0_1.out A5.out).mono ?_); rintro e w13 ⟨rfl, hb⟩; have m1_ := am_ (blk_below (g := gb1) (o := .cells #[.slice A0_0 l0_0.length c0_0, .slice A0_1 l0_1.length c0_1, .int .i64 a0_2, .int .i64 a0_3, .int .i64 a0_4, .slice A0_5 l0_5.length c0_5] 47 (0, 0)) qz21_ hb); have m2_ := am_ (blk_below (g := gb2) (o := .cells #[.int .i64 a1] 3 (0, 0)) qz22_ hb); have m3_ := am_ (blk_below (g := gb3) (o := .cells #[.int .i64 a2_0, .int .i64 a2_1, .int .i64 a2_2] 49 (0, 0)) qz23_ hb); clear BK1; have BK1 := m1_; clear m1_; clear BK2; have BK2 := m2_; clear m2_; clear BK3; have BK3 := m3_; clear m3_; have n0_ := am_ (below_step qz4_ hb); clear HB; have HB := n0_; clear n0_; clear hb; have hz1_0 : w13.cell? ⟨gb1, 0, none⟩ = some (.slice A0_0 l0_0.length c0_0) := (blk_cell BK1.out 0).trans rfl; have hf1_0 := blk_frozen BK1.out 0; have hz1_1 : w13.cell? ⟨gb1, 1, none⟩ = some (.slice A0_1 l0_1.length c0_1) := (blk_cell BK1.out 1).trans rfl; have hf1_1 := blk_frozen BK1.out 1; have hz1_2 : w13.cell? ⟨gb1, 2, none⟩ = some (.int .i64 a0_2) := (blk_cell BK1.out 2).trans rfl; have hf1_2 := blk_frozen BK1.out 2; have hz1_3 : w13.cell? ⟨gb1, 3, none⟩ = some (.int .i64 a0_3) := (blk_cell BK1.out 3).trans rfl; have hf1_3 := blk_frozen BK1.out 3; have hz1_4 : w13.cell? ⟨gb1, 4, none⟩ = some (.int .i64 a0_4) := (blk_cell BK1.out 4).trans rfl; have hf1_4 := blk_frozen BK1.out 4; have hz1_5 : w13.cell? ⟨gb1, 5, none⟩ = some (.slice A0_5 l0_5.length c0_5) := (blk_cell BK1.out 5).trans rfl; have hf1_5 := blk_frozen BK1.out 5; have hz2_0 : w13.cell? ⟨gb2, 0, none⟩ = some (.int .i64 a1) := (blk_cell BK2.out 0).trans rfl; have hf2_0 := blk_frozen BK2.out 0; have hz3_0 : w13.cell? ⟨gb3, 0, none⟩ = some (.int .i64 a2_0) := (blk_cell BK3.out 0).trans rfl; have hf3_0 := blk_frozen BK3.out 0; have hz3_1 : w13.cell? ⟨gb3, 1, none⟩ = some (.int .i64 a2_1) := (blk_cell BK3.out 1).trans rfl; have hf3_1 := blk_frozen BK3.out 1; have hz3_2 : w13.cell? ⟨gb3, 2, none⟩ = some (.int .i64 a2_2) := (blk_cell BK3.out 2).trans rfl; have hf3_2 := blk_frozen BK3.out 2) | (go_at_call 41; (refine (impl_ExtOK.calls a0_2 a0_3 _ _ A6.out).mono ?_); rintro e w14 ⟨rfl, hb⟩; have m1_ := am_ (blk_below (g := gb1) (o := .cells #[.slice A0_0 l0_0.length c0_0, .slice A0_1 l0_1.length c0_1, .int .i64 a0_2, .int .i64 a0_3, .int .i64 a0_4, .slice A0_5 l0_5.length c0_5] 47 (0, 0)) qz21_ hb); have m2_ := am_ (blk_below (g := gb2) (o := .cells #[.int .i64 a1] 3 (0, 0)) qz22_ hb); have m3_ := am_ (blk_below (g := gb3) (o := .cells #[.int .i64 a2_0, .int .i64 a2_1, .int .i64 a2_2] 49 (0, 0)) qz23_ hb); clear BK1; have BK1 := m1_; clear m1_; clear BK2; have BK2 := m2_; clear m2_; clear BK3; have BK3 := m3_; clear m3_; have n0_ := am_ (below_step qz4_ hb); clear HB; have HB := n0_; clear n0_; clear hb; have hz1_0 : w14.cell? ⟨gb1, 0, none⟩ = some (.slice A0_0 l0_0.length c0_0) := (blk_cell BK1.out 0).trans rfl; have hf1_0 := blk_frozen BK1.out 0; have hz1_1 : w14.cell? ⟨gb1, 1, none⟩ = some (.slice A0_1 l0_1.length c0_1) := (blk_cell BK1.out 1).trans rfl; have hf1_1 := blk_frozen BK1.out 1; have hz1_2 : w14.cell? ⟨gb1, 2, none⟩ = some (.int .i64 a0_2) := (blk_cell BK1.out 2).trans rfl; have hf1_2 := blk_frozen BK1.out 2; have hz1_3 : w14.cell? ⟨gb1, 3, none⟩ = some (.int .i64 a0_3) := (blk_cell BK1.out 3).trans rfl; have hf1_3 := blk_frozen BK1.out 3; have hz1_4 : w14.cell? ⟨gb1, 4, none⟩ = some (.int .i64 a0_4) := (blk_cell BK1.out 4).trans rfl; have hf1_4 := blk_frozen BK1.out 4; have hz1_5 : w14.cell? ⟨gb1, 5, none⟩ = some (.slice A0_5 l0_5.length c0_5) := (blk_cell BK1.out 5).trans rfl; have hf1_5 := blk_frozen BK1.out 5; have hz2_0 : w14.cell? ⟨gb2, 0, none⟩ = some (.int .i64 a1) := (blk_cell BK2.out 0).trans rfl; have hf2_0 := blk_frozen BK2.out 0; have hz3_0 : w14.cell? ⟨gb3, 0, none⟩ = some (.int .i64 a2_0) := (blk_cell BK3.out 0).trans rfl; have hf3_0 := blk_frozen BK3.out 0; have hz3_1 : w14.cell? ⟨gb3, 1, none⟩ = some (.int .i64 a2_1) := (blk_cell BK3.out 1).trans rfl; have hf3_1 := blk_frozen BK3.out 1; have hz3_2 : w14.cell? ⟨gb3, 2, none⟩ = some (.int .i64 a2_2) := (blk_cell BK3.out 2).trans rfl; have hf3_2 := blk_frozen BK3.out 2) | (go_at_call 36; (with_reducible refine (impl_in.calls a0_4 0 65535 _ _ A7.out).mono ?_); rintro e w' ⟨rfl, ⟨nd, rfl⟩⟩) | (go_at_call 42; (refine (impl_are_Query.calls k gb2 gb3 a1 a2_0 a2_1 a2_2 A0_5 c0_5 l0_5 _ _ qz22_ qz23_ qz26_ HC0_5.out A9.out).mono ?_); rintro e w15 ⟨rfl, hb⟩; have n0_ := am_ (below_step qz4_ hb); clear HB; have HB := n0_; clear n0_; clear hb))
      go_ret
      exact ⟨(by first | rfl | simp), qz4_⟩
     | true =>
      rw [if_pos rfl] at h
      obtain ⟨t6, a_, h⟩ := Option.bind_eq_some_iff.mp h
      have A6 := am_ a_
      clear a_
      cases t6 with
      | false =>
       rw [if_neg (by decide)] at h
       obtain rfl := Option.some.inj h
       clear h
       go_enter Try.func18, Try.ntmps18
       go_wp2_with (first | ((with_reducible refine gate_dst (N := 3) rfl ?_); refine box_event ?hg (N := 3) ?hd (cs := #[.slice A0_0 l0_0.length c0_0, .slice A0_1 l0_1.length c0_1, .int .i64 a0_2, .int .i64 a0_3, .int .i64 a0_4, .slice A0_5 l0_5.length c0_5]) (t := 47) ?hr ?_; (case hd => rfl); (case hg => rfl); (case hr => first | (go_simp; done) | (go_simp; rfl)); intro gb1 hg w1 hbox hb; have BK1 := am_ hbox; have n0_ := am_ (below_step qz4_ hb); clear HB; have HB := n0_; clear n0_; clear hb; clear hbox hg) | ((with_reducible refine gate_dst (N := 4) rfl ?_); refine box_event ?hg (N := 4) ?hd (cs := #[.int .i64 a1]) (t := 3) ?hr ?_; (case hd => rfl); (case hg => rfl); (case hr => first | (go_simp; done) | (go_simp; rfl)); intro gb2 hg w2 hbox hb; have m1_ := am_ (blk_below (g := gb1) (o := .cells #[.slice A0_0 l0_0.length c0_0, .slice A0_1 l0_1.length c0_1, .int .i64 a0_2, .int .i64 a0_3, .int .i64 a0_4, .slice A0_5 l0_5.length c0_5] 47 (0, 0)) qz21_ hb); clear BK1; have BK1 := m1_; clear m1_; have BK2 := am_ hbox; have n0_ := am_ (below_step qz4_ hb); clear HB; have HB := n0_; clear n0_; clear hb; clear hbox hg) | ((with_reducible refine gate_dst (N := 5) rfl ?_); refine box_event ?hg (N := 5) ?hd (cs := #[.int .i64 a2_0, .int .i64 a2_1, .int .i64 a2_2]) (t := 49) ?hr ?_; (case hd => rfl); (case hg => rfl); (case hr => first | (go_simp; done) | (go_simp; rfl)); intro gb3 hg w3 hbox hb; have m1_ := am_ (blk_below (g := gb1) (o := .cells #[.slice A0_0 l0_0.length c0_0, .slice A0_1 l0_1.length c0_1, .int .i64 a0_2, .int .i64 a0_3, .int .i64 a0_4, .slice A0_5 l0_5.length c0_5] 47 (0, 0)) qz21_ hb); have m2_ := am_ (blk_below (g := gb2) (o := .cells #[.int .i64 a1] 3 (0, 0)) qz22_ hb); clear BK1; have BK1 := m1_; clear m1_; clear BK2; have BK2 := m2_; clear m2_; have BK3 := am_ hbox; have n0_ := am_ (below_step qz4_ hb); clear HB; have HB := n0_; clear n0_; clear hb; clear hbox hg; have hz1_0 : w3.cell? ⟨gb1, 0, none⟩ = some (.slice A0_0 l0_0.length c0_0) := (blk_cell BK1.out 0).trans rfl; have hf1_0 := blk_frozen BK1.out 0; have hz1_1 : w3.cell? ⟨gb1, 1, none⟩ = some (.slice A0_1 l0_1.length c0_1) := (blk_cell BK1.out 1).trans rfl; have hf1_1 := blk_frozen BK1.out 1; have hz1_2 : w3.cell? ⟨gb1, 2, none⟩ = some (.int .i64 a0_2) := (blk_cell BK1.out 2).trans rfl; have hf1_2 := blk_frozen BK1.out 2; have hz1_3 : w3.cell? ⟨gb1, 3, none⟩ = some (.int .i64 a0_3) := (blk_cell BK1.out 3).trans rfl; have hf1_3 := blk_frozen BK1.out 3; have hz1_4 : w3.cell? ⟨gb1, 4, none⟩ = some (.int .i64 a0_4) := (blk_cell BK1.out 4).trans rfl; have hf1_4 := blk_frozen BK1.out 4; have hz1_5 : w3.cell? ⟨gb1, 5, none⟩ = some (.slice A0_5 l0_5.length c0_5) := (blk_cell BK1.out 5).trans rfl; have hf1_5 := blk_frozen BK1.out 5; have hz2_0 : w3.cell? ⟨gb2, 0, none⟩ = some (.int .i64 a1) := (blk_cell BK2.out 0).trans rfl; have hf2_0 := blk_frozen BK2.out 0; have hz3_0 : w3.cell? ⟨gb3, 0, none⟩ = some (.int .i64 a2_0) := (blk_cell BK3.out 0).trans rfl; have hf3_0 := blk_frozen BK3.out 0; have hz3_1 : w3.cell? ⟨gb3, 1, none⟩ = some (.int .i64 a2_1) := (blk_cell BK3.out 1).trans rfl; have hf3_1 := blk_frozen BK3.out 1; have hz3_2 : w3.cell? ⟨gb3, 2, none⟩ = some (.int .i64 a2_2) := (blk_cell BK3.out 2).trans rfl; have hf3_2 := blk_frozen BK3.out 2) | (go_at_call 36; (with_reducible refine (impl_in.calls a1 1 6 _ _ A1.out).mono ?_); rintro e w' ⟨rfl, ⟨nd, rfl⟩⟩) | (go_at_call 37; (refine (impl_SettingOK.calls a2_0 a2_1 a2_2 _ _ A2.out).mono ?_); rintro e w11 ⟨rfl, hb⟩; have m1_ := am_ (blk_below (g := gb1) (o := .cells #[.slice A0_0 l0_0.length c0_0, .slice A0_1 l0_1.length c0_1, .int .i64 a0_2, .int .i64 a0_3, .int .i64 a0_4, .slice A0_5 l0_5.length c0_5] 47 (0, 0)) qz21_ hb); have m2_ := am_ (blk_below (g := gb2) (o := .cells #[.int .i64 a1] 3 (0, 0)) qz22_ hb); have m3_ := am_ (blk_below (g := gb3) (o := .cells #[.int .i64 a2_0, .int .i64 a2_1, .int .i64 a2_2] 49 (0, 0)) qz23_ hb); clear BK1; have BK1 := m1_; clear m1_; clear BK2; have BK2 := m2_; clear m2_; clear BK3; have BK3 := m3_; clear m3_; have n0_ := am_ (below_step qz4_ hb); clear HB; have HB := n0_; clear n0_; clear hb; have hz1_0 : w11.cell? ⟨gb1, 0, none⟩ = some (.slice A0_0 l0_0.length c0_0) := (blk_cell BK1.out 0).trans rfl; have hf1_0 := blk_frozen BK1.out 0; have hz1_1 : w11.cell? ⟨gb1, 1, none⟩ = some (.slice A0_1 l0_1.length c0_1) := (blk_cell BK1.out 1).trans rfl; have hf1_1 := blk_frozen BK1.out 1; have hz1_2 : w11.cell? ⟨gb1, 2, none⟩ = some (.int .i64 a0_2) := (blk_cell BK1.out 2).trans rfl; have hf1_2 := blk_frozen BK1.out 2; have hz1_3 : w11.cell? ⟨gb1, 3, none⟩ = some (.int .i64 a0_3) := (blk_cell BK1.out 3).trans rfl; have hf1_3 := blk_frozen BK1.out 3; have hz1_4 : w11.cell? ⟨gb1, 4, none⟩ = some (.int .i64 a0_4) := (blk_cell BK1.out 4).trans rfl; have hf1_4 := blk_frozen BK1.out 4; have hz1_5 : w11.cell? ⟨gb1, 5, none⟩ = some (.slice A0_5 l0_5.length c0_5) := (blk_cell BK1.out 5).trans rfl; have hf1_5 := blk_frozen BK1.out 5; have hz2_0 : w11.cell? ⟨gb2, 0, none⟩ = some (.int .i64 a1) := (blk_cell BK2.out 0).trans rfl; have hf2_0 := blk_frozen BK2.out 0; have hz3_0 : w11.cell? ⟨gb3, 0, none⟩ = some (.int .i64 a2_0) := (blk_cell BK3.out 0).trans rfl; have hf3_0 := blk_frozen BK3.out 0; have hz3_1 : w11.cell? ⟨gb3, 1, none⟩ = some (.int .i64 a2_1) := (blk_cell BK3.out 1).trans rfl; have hf3_1 := blk_frozen BK3.out 1; have hz3_2 : w11.cell? ⟨gb3, 2, none⟩ = some (.int .i64 a2_2) := (blk_cell BK3.out 2).trans rfl; have hf3_2 := blk_frozen BK3.out 2) | (go_at_call 38; (refine (impl_areRounds.calls A0_0 c0_0 l0_0 a1 3 _ _ qz24_ HC0_0.out A3.out).mono ?_); rintro e w12 ⟨rfl, hb⟩; have m1_ := am_ (blk_below (g := gb1) (o := .cells #[.slice A0_0 l0_0.length c0_0, .slice A0_1 l0_1.length c0_1, .int .i64 a0_2, .int .i64 a0_3, .int .i64 a0_4, .slice A0_5 l0_5.length c0_5] 47 (0, 0)) qz21_ hb); have m2_ := am_ (blk_below (g := gb2) (o := .cells #[.int .i64 a1] 3 (0, 0)) qz22_ hb); have m3_ := am_ (blk_below (g := gb3) (o := .cells #[.int .i64 a2_0, .int .i64 a2_1, .int .i64 a2_2] 49 (0, 0)) qz23_ hb); clear BK1; have BK1 := m1_; clear m1_; clear BK2; have BK2 := m2_; clear m2_; clear BK3; have BK3 := m3_; clear m3_; have n0_ := am_ (below_step qz4_ hb); clear HB; have HB := n0_; clear n0_; clear hb; have hz1_0 : w12.cell? ⟨gb1, 0, none⟩ = some (.slice A0_0 l0_0.length c0_0) := (blk_cell BK1.out 0).trans rfl; have hf1_0 := blk_frozen BK1.out 0; have hz1_1 : w12.cell? ⟨gb1, 1, none⟩ = some (.slice A0_1 l0_1.length c0_1) := (blk_cell BK1.out 1).trans rfl; have hf1_1 := blk_frozen BK1.out 1; have hz1_2 : w12.cell? ⟨gb1, 2, none⟩ = some (.int .i64 a0_2) := (blk_cell BK1.out 2).trans rfl; have hf1_2 := blk_frozen BK1.out 2; have hz1_3 : w12.cell? ⟨gb1, 3, none⟩ = some (.int .i64 a0_3) := (blk_cell BK1.out 3).trans rfl; have hf1_3 := blk_frozen BK1.out 3; have hz1_4 : w12.cell? ⟨gb1, 4, none⟩ = some (.int .i64 a0_4) := (blk_cell BK1.out 4).trans rfl; have hf1_4 := blk_frozen BK1.out 4; have hz1_5 : w12.cell? ⟨gb1, 5, none⟩ = some (.slice A0_5 l0_5.length c0_5) := (blk_cell BK1.out 5).trans rfl; have hf1_5 := blk_frozen BK1.out 5; have hz2_0 : w12.cell? ⟨gb2, 0, none⟩ = some (.int .i64 a1) := (blk_cell BK2.out 0).trans rfl; have hf2_0 := blk_frozen BK2.out 0; have hz3_0 : w12.cell? ⟨gb3, 0, none⟩ = some (.int .i64 a2_0) := (blk_cell BK3.out 0).trans rfl; have hf3_0 := blk_frozen BK3.out 0; have hz3_1 : w12.cell? ⟨gb3, 1, none⟩ = some (.int .i64 a2_1) := (blk_cell BK3.out 1).trans rfl; have hf3_1 := blk_frozen BK3.out 1; have hz3_2 : w12.cell? ⟨gb3, 2, none⟩ = some (.int .i64 a2_2) := (blk_cell BK3.out 2).trans rfl; have hf3_2 := blk_frozen BK3.out 2) | (go_at_call 39; (refine (impl_are_string_isHash.calls A0_1 c0_1 l0_1 _ _ qz25_ HC0_1.out A5.out).mono ?_); rintro e w13 ⟨rfl, hb⟩; have m1_ := am_ (blk_below (g := gb1) (o := .cells #[.slice A0_0 l0_0.length c0_0, .slice A0_1 l0_1.length c0_1, .int .i64 a0_2, .int .i64 a0_3, .int .i64 a0_4, .slice A0_5 l0_5.length c0_5] 47 (0, 0)) qz21_ hb); have m2_ := am_ (blk_below (g := gb2) (o := .cells #[.int .i64 a1] 3 (0, 0)) qz22_ hb); have m3_ := am_ (blk_below (g := gb3) (o := .cells #[.int .i64 a2_0, .int .i64 a2_1, .int .i64 a2_2] 49 (0, 0)) qz23_ hb); clear BK1; have BK1 := m1_; clear m1_; clear BK2; have BK2 := m2_; clear m2_; clear BK3; have BK3 := m3_; clear m3_; have n0_ := am_ (below_step qz4_ hb); clear HB; have HB := n0_; clear n0_; clear hb; have hz1_0 : w13.cell? ⟨gb1, 0, none⟩ = some (.slice A0_0 l0_0.length c0_0) := (blk_cell BK1.out 0).trans rfl; have hf1_0 := blk_frozen BK1.out 0; have hz1_1 : w13.cell? ⟨gb1, 1, none⟩ = some (.slice A0_1 l0_1.length c0_1) := (blk_cell BK1.out 1).trans rfl; have hf1_1 := blk_frozen BK1.out 1; have hz1_2 : w13.cell? ⟨gb1, 2, none⟩ = some (.int .i64 a0_2) := (blk_cell BK1.out 2).trans rfl; have hf1_2 := blk_frozen BK1.out 2; have hz1_3 : w13.cell? ⟨gb1, 3, none⟩ = some (.int .i64 a0_3) := (blk_cell BK1.out 3).trans rfl; have hf1_3 := blk_frozen BK1.out 3; have hz1_4 : w13.cell? ⟨gb1, 4, none⟩ = some (.int .i64 a0_4) := (blk_cell BK1.out 4).trans rfl; have hf1_4 := blk_frozen BK1.out 4; have hz1_5 : w13.cell? ⟨gb1, 5, none⟩ = some (.slice A0_5 l0_5.length c0_5) := (blk_cell BK1.out 5).trans rfl; have hf1_5 := blk_frozen BK1.out 5; have hz2_0 : w13.cell? ⟨gb2, 0, none⟩ = some (.int .i64 a1) := (blk_cell BK2.out 0).trans rfl; have hf2_0 := blk_frozen BK2.out 0; have hz3_0 : w13.cell? ⟨gb3, 0, none⟩ = some (.int .i64 a2_0) := (blk_cell BK3.out 0).trans rfl; have hf3_0 := blk_frozen BK3.out 0; have hz3_1 : w13.cell? ⟨gb3, 1, none⟩ = some (.int .i64 a2_1) := (blk_cell BK3.out 1).trans rfl; have hf3_1 := blk_frozen BK3.out 1; have hz3_2 : w13.cell? ⟨gb3, 2, none⟩ = some (.int .i64 a2_2) := (blk_cell BK3.out 2).trans rfl; have hf3_2 := blk_frozen BK3.out 2) | (go_at_call 41; (refine (impl_ExtOK.calls a0_2 a0_3 _ _ A6.out).mono ?_); rintro e w14 ⟨rfl, hb⟩; have m1_ := am_ (blk_below (g := gb1) (o := .cells #[.slice A0_0 l0_0.length c0_0, .slice A0_1 l0_1.length c0_1, .int .i64 a0_2, .int .i64 a0_3, .int .i64 a0_4, .slice A0_5 l0_5.length c0_5] 47 (0, 0)) qz21_ hb); have m2_ := am_ (blk_below (g := gb2) (o := .cells #[.int .i64 a1] 3 (0, 0)) qz22_ hb); have m3_ := am_ (blk_below (g := gb3) (o := .cells #[.int .i64 a2_0, .int .i64 a2_1, .int .i64 a2_2] 49 (0, 0)) qz23_ hb); clear BK1; have BK1 := m1_; clear m1_; clear BK2; have BK2 := m2_; clear m2_; clear BK3; have BK3 := m3_; clear m3_; have n0_ := am_ (below_step qz4_ hb); clear HB; have HB := n0_; clear n0_; clear hb; have hz1_0 : w14.cell? ⟨gb1, 0, none⟩ = some (.slice A0_0 l0_0.length c0_0) := (blk_cell BK1.out 0).trans rfl; have hf1_0 := blk_frozen BK1.out 0; have hz1_1 : w14.cell? ⟨gb1, 1, none⟩ = some (.slice A0_1 l0_1.length c0_1) := (blk_cell BK1.out 1).trans rfl; have hf1_1 := blk_frozen BK1.out 1; have hz1_2 : w14.cell? ⟨gb1, 2, none⟩ = some (.int .i64 a0_2) := (blk_cell BK1.out 2).trans rfl; have hf1_2 := blk_frozen BK1.out 2; have hz1_3 : w14.cell? ⟨gb1, 3, none⟩ = some (.int .i64 a0_3) := (blk_cell BK1.out 3).trans rfl; have hf1_3 := blk_frozen BK1.out 3; have hz1_4 : w14.cell? ⟨gb1, 4, none⟩ = some (.int .i64 a0_4) := (blk_cell BK1.out 4).trans rfl; have hf1_4 := blk_frozen BK1.out 4; have hz1_5 : w14.cell? ⟨gb1, 5, none⟩ = some (.slice A0_5 l0_5.length c0_5) := (blk_cell BK1.out 5).trans rfl; have hf1_5 := blk_frozen BK1.out 5; have hz2_0 : w14.cell? ⟨gb2, 0, none⟩ = some (.int .i64 a1) := (blk_cell BK2.out 0).trans rfl; have hf2_0 := blk_frozen BK2.out 0; have hz3_0 : w14.cell? ⟨gb3, 0, none⟩ = some (.int .i64 a2_0) := (blk_cell BK3.out 0).trans rfl; have hf3_0 := blk_frozen BK3.out 0; have hz3_1 : w14.cell? ⟨gb3, 1, none⟩ = some (.int .i64 a2_1) := (blk_cell BK3.out 1).trans rfl; have hf3_1 := blk_frozen BK3.out 1; have hz3_2 : w14.cell? ⟨gb3, 2, none⟩ = some (.int .i64 a2_2) := (blk_cell BK3.out 2).trans rfl; have hf3_2 := blk_frozen BK3.out 2) | (go_at_call 36; (with_reducible refine (impl_in.calls a0_4 0 65535 _ _ A7.out).mono ?_); rintro e w' ⟨rfl, ⟨nd, rfl⟩⟩) | (go_at_call 42; (refine (impl_are_Query.calls k gb2 gb3 a1 a2_0 a2_1 a2_2 A0_5 c0_5 l0_5 _ _ qz22_ qz23_ qz26_ HC0_5.out A9.out).mono ?_); rintro e w15 ⟨rfl, hb⟩; have n0_ := am_ (below_step qz4_ hb); clear HB; have HB := n0_; clear n0_; clear hb))
       go_ret
       exact ⟨(by first | rfl | simp), qz4_⟩
      | true =>
       rw [if_pos rfl] at h
       obtain ⟨t7, a_, h⟩ := Option.bind_eq_some_iff.mp h
       have A7 := am_ a_
       clear a_
       cases t7 with
       | false =>
        rw [if_neg (by decide)] at h
        obtain rfl := Option.some.inj h
        clear h
        go_enter Try.func18, Try.ntmps18
        go_wp2_with (first | ((with_reducible refine gate_dst (N := 3) rfl ?_); refine box_event ?hg (N := 3) ?hd (cs := #[.slice A0_0 l0_0.length c0_0, .slice A0_1 l0_1.length c0_1, .int .i64 a0_2, .int .i64 a0_3, .int .i64 a0_4, .slice A0_5 l0_5.length c0_5]) (t := 47) ?hr ?_; (case hd => rfl); (case hg => rfl); (case hr => first | (go_simp; done) | (go_simp; rfl)); intro gb1 hg w1 hbox hb; have BK1 := am_ hbox; have n0_ := am_ (below_step qz4_ hb); clear HB; have HB := n0_; clear n0_; clear hb; clear hbox hg) | ((with_reducible refine gate_dst (N := 4) rfl ?_); refine box_event ?hg (N := 4) ?hd (cs := #[.int .i64 a1]) (t := 3) ?hr ?_; (case hd => rfl); (case hg => rfl); (case hr => first | (go_simp; done) | (go_simp; rfl)); intro gb2 hg w2 hbox hb; have m1_ := am_ (blk_below (g := gb1) (o := .cells #[.slice A0_0 l0_0.length c0_0, .slice A0_1 l0_1.length c0_1, .int .i64 a0_2, .int .i64 a0_3, .int .i64 a0_4, .slice A0_5 l0_5.length c0_5] 47 (0, 0)) qz21_ hb); clear BK1; have BK1 := m1_; clear m1_; have BK2 := am_ hbox; have n0_ := am_ (below_step qz4_ hb); clear HB; have HB := n0_; clear n0_; clear hb; clear hbox hg) | ((with_reducible refine gate_dst (N := 5) rfl ?_); refine box_event ?hg (N := 5) ?hd (cs := #[.int .i64 a2_0, .int .i64 a2_1, .int .i64 a2_2]) (t := 49) ?hr ?_; (case hd => rfl); (case hg => rfl); (case hr => first | (go_simp; done) | (go_simp; rfl)); intro gb3 hg w3 hbox hb; have m1_ := am_ (blk_below (g := gb1) (o := .cells #[.slice A0_0 l0_0.length c0_0, .slice A0_1 l0_1.length c0_1, .int .i64 a0_2, .int .i64 a0_3, .int .i64 a0_4, .slice A0_5 l0_5.length c0_5] 47 (0, 0)) qz21_ hb); have m2_ := am_ (blk_below (g := gb2) (o := .cells #[.int .i64 a1] 3 (0, 0)) qz22_ hb); clear BK1; have BK1 := m1_; clear m1_; clear BK2; have BK2 := m2_; clear m2_; have BK3 := am_ hbox; have n0_ := am_ (below_step qz4_ hb); clear HB; have HB := n0_; clear n0_; clear hb; clear hbox hg; have hz1_0 : w3.cell? ⟨gb1, 0, none⟩ = some (.slice A0_0 l0_0.length c0_0) := (blk_cell BK1.out 0).trans rfl; have hf1_0 := blk_frozen BK1.out 0; have hz1_1 : w3.cell? ⟨gb1, 1, none⟩ = some (.slice A0_1 l0_1.length c0_1) := (blk_cell BK1.out 1).trans rfl; have hf1_1 := blk_frozen BK1.out 1; have hz1_2 : w3.cell? ⟨gb1, 2, none⟩ = some (.int .i64 a0_2) := (blk_cell BK1.out 2).trans rfl; have hf1_2 := blk_frozen BK1.out 2; have hz1_3 : w3.cell? ⟨gb1, 3, none⟩ = some (.int .i64 a0_3) := (blk_cell BK1.out 3).trans rfl; have hf1_3 := blk_frozen BK1.out 3; have hz1_4 : w3.cell? ⟨gb1, 4, none⟩ = some (.int .i64 a0_4) := (blk_cell BK1.out 4).trans rfl; have hf1_4 := blk_frozen BK1.out 4; have hz1_5 : w3.cell? ⟨gb1, 5, none⟩ = some (.slice A0_5 l0_5.length c0_5) := (blk_cell BK1.out 5).trans rfl; have hf1_5 := blk_frozen BK1.out 5; have hz2_0 : w3.cell? ⟨gb2, 0, none⟩ = some (.int .i64 a1) := (blk_cell BK2.out 0).trans rfl; have hf2_0 := blk_frozen BK2.out 0; have hz3_0 : w3.cell? ⟨gb3, 0, none⟩ = some (.int .i64 a2_0) := (blk_cell BK3.out 0).trans rfl; have hf3_0 := blk_frozen BK3.out 0; have hz3_1 : w3.cell? ⟨gb3, 1, none⟩ = some (.int .i64 a2_1) := (blk_cell BK3.out 1).trans rfl; have hf3_1 := blk_frozen BK3.out 1; have hz3_2 : w3.cell? ⟨gb3, 2, none⟩ = some (.int .i64 a2_2) := (blk_cell BK3.out 2).trans rfl; have hf3_2 := blk_frozen BK3.out 2) | (go_at_call 36; (with_reducible refine (impl_in.calls a1 1 6 _ _ A1.out).mono ?_); rintro e w' ⟨rfl, ⟨nd, rfl⟩⟩) | (go_at_call 37; (refine (impl_SettingOK.calls a2_0 a2_1 a2_2 _ _ A2.out).mono ?_); rintro e w11 ⟨rfl, hb⟩; have m1_ := am_ (blk_below (g := gb1) (o := .cells #[.slice A0_0 l0_0.length c0_0, .slice A0_1 l0_1.length c0_1, .int .i64 a0_2, .int .i64 a0_3, .int .i64 a0_4, .slice A0_5 l0_5.length c0_5] 47 (0, 0)) qz21_ hb); have m2_ := am_ (blk_below (g := gb2) (o := .cells #[.int .i64 a1] 3 (0, 0)) qz22_ hb); have m3_ := am_ (blk_below (g := gb3) (o := .cells #[.int .i64 a2_0, .int .i64 a2_1, .int .i64 a2_2] 49 (0, 0)) qz23_ hb); clear BK1; have BK1 := m1_; clear m1_; clear BK2; have BK2 := m2_; clear m2_; clear BK3; have BK3 := m3_; clear m3_; have n0_ := am_ (below_step qz4_ hb); clear HB; have HB := n0_; clear n0_; clear hb; have hz1_0 : w11.cell? ⟨gb1, 0, none⟩ = some (.slice A0_0 l0_0.length c0_0) := (blk_cell BK1.out 0).trans rfl; have hf1_0 := blk_frozen BK1.out 0; have hz1_1 : w11.cell? ⟨gb1, 1, none⟩ = some (.slice A0_1 l0_1.length c0_1) := (blk_cell BK1.out 1).trans rfl; have hf1_1 := blk_frozen BK1.out 1; have hz1_2 : w11.cell? ⟨gb1, 2, none⟩ = some (.int .i64 a0_2) := (blk_cell BK1.out 2).trans rfl; have hf1_2 := blk_frozen BK1.out 2; have hz1_3 : w11.cell? ⟨gb1, 3, none⟩ = some (.int .i64 a0_3) := (blk_cell BK1.out 3).trans rfl; have hf1_3 := blk_frozen BK1.out 3; have hz1_4 : w11.cell? ⟨gb1, 4, none⟩ = some (.int .i64 a0_4) := (blk_cell BK1.out 4).trans rfl; have hf1_4 := blk_frozen BK1.out 4; have hz1_5 : w11.cell? ⟨gb1, 5, none⟩ = some (.slice A0_5 l0_5.length c0_5) := (blk_cell BK1.out 5).trans rfl; have hf1_5 := blk_frozen BK1.out 5; have hz2_0 : w11.cell? ⟨gb2, 0, none⟩ = some (.int .i64 a1) := (blk_cell BK2.out 0).trans rfl; have hf2_0 := blk_frozen BK2.out 0; have hz3_0 : w11.cell? ⟨gb3, 0, none⟩ = some (.int .i64 a2_0) := (blk_cell BK3.out 0).trans rfl; have hf3_0 := blk_frozen BK3.out 0; have hz3_1 : w11.cell? ⟨gb3, 1, none⟩ = some (.int .i64 a2_1) := (blk_cell BK3.out 1).trans rfl; have hf3_1 := blk_frozen BK3.out 1; have hz3_2 : w11.cell? ⟨gb3, 2, none⟩ = some (.int .i64 a2_2) := (blk_cell BK3.out 2).trans rfl; have hf3_2 := blk_frozen BK3.out 2) | (go_at_call 38; (refine (impl_areRounds.calls A0_0 c0_0 l0_0 a1 3 _ _ qz24_ HC0_0.out A3.out).mono ?_); rintro e w12 ⟨rfl, hb⟩; have m1_ := am_ (blk_below (g := gb1) (o := .cells #[.slice A0_0 l0_0.length c0_0, .slice A0_1 l0_1.length c0_1, .int .i64 a0_2, .int .i64 a0_3, .int .i64 a0_4, .slice A0_5 l0_5.length c0_5] 47 (0, 0)) qz21_ hb); have m2_ := am_ (blk_below (g := gb2) (o := .cells #[.int .i64 a1] 3 (0, 0)) qz22_ hb); have m3_ := am_ (blk_below (g := gb3) (o := .cells #[.int .i64 a2_0, .int .i64 a2_1, .int .i64 a2_2] 49 (0, 0)) qz23_ hb); clear BK1; have BK1 := m1_; clear m1_; clear BK2; have BK2 := m2_; clear m2_; clear BK3; have BK3 := m3_; clear m3_; have n0_ := am_ (below_step qz4_ hb); clear HB; have HB := n0_; clear n0_; clear hb; have hz1_0 : w12.cell? ⟨gb1, 0, none⟩ = some (.slice A0_0 l0_0.length c0_0) := (blk_cell BK1.out 0).trans rfl; have hf1_0 := blk_frozen BK1.out 0; have hz1_1 : w12.cell? ⟨gb1, 1, none⟩ = some (.slice A0_1 l0_1.length c0_1) := (blk_cell BK1.out 1).trans rfl; have hf1_1 := blk_frozen BK1.out 1; have hz1_2 : w12.cell? ⟨gb1, 2, none⟩ = some (.int .i64 a0_2) := (blk_cell BK1.out 2).trans rfl; have hf1_2 := blk_frozen BK1.out 2; have hz1_3 : w12.cell? ⟨gb1, 3, none⟩ = some (.int .i64 a0_3) := (blk_cell BK1.out 3).trans rfl; have hf1_3 := blk_frozen BK1.out 3; have hz1_4 : w12.cell? ⟨gb1, 4, none⟩ = some (.int .i64 a0_4) := (blk_cell BK1.out 4).trans rfl; have hf1_4 := blk_frozen BK1.out 4; have hz1_5 : w12.cell? ⟨gb1, 5, none⟩ = some (.slice A0_5 l0_5.length c0_5) := (blk_cell BK1.out 5).trans rfl; have hf1_5 := blk_frozen BK1.out 5; have hz2_0 : w12.cell? ⟨gb2, 0, none⟩ = some (.int .i64 a1) := (blk_cell BK2.out 0).trans rfl; have hf2_0 := blk_frozen BK2.out 0; have hz3_0 : w12.cell? ⟨gb3, 0, none⟩ = some (.int .i64 a2_0) := (blk_cell BK3.out 0).trans rfl; have hf3_0 := blk_frozen BK3.out 0; have hz3_1 : w12.cell? ⟨gb3, 1, none⟩ = some (.int .i64 a2_1) := (blk_cell BK3.out 1).trans rfl; have hf3_1 := blk_frozen BK3.out 1; have hz3_2 : w12.cell? ⟨gb3, 2, none⟩ = some (.int .i64 a2_2) := (blk_cell BK3.out 2).trans rfl; have hf3_2 := blk_frozen BK3.out 2) | (go_at_call 39; (refine (impl_are_string_isHash.calls A0_1 c0_1 l0_1 _ _ qz25_ HC0_1.out A5.out).mono ?_); rintro e w13 ⟨rfl, hb⟩; have m1_ := am_ (blk_below (g := gb1) (o := .cells #[.slice A0_0 l0_0.length c0_0, .slice A0_1 l0_1.length c0_1, .int .i64 a0_2, .int .i64 a0_3, .int .i64 a0_4, .slice A0_5 l0_5.length c0_5] 47 (0, 0)) qz21_ hb); have m2_ := am_ (blk_below (g := gb2) (o := .cells #[.int .i64 a1] 3 (0, 0)) qz22_ hb); have m3_ := am_ (blk_below (g := gb3) (o := .cells #[.int .i64 a2_0, .int .i64 a2_1, .int .i64 a2_2] 49 (0, 0)) qz23_ hb); clear BK1; have BK1 := m1_; clear m1_; clear BK2; have BK2 := m2_; clear m2_; clear BK3; have BK3 := m3_; clear m3_; have n0_ := am_ (below_step qz4_ hb); clear HB; have HB := n0_; clear n0_; clear hb; have hz1_0 : w13.cell? ⟨gb1, 0, none⟩ = some (.slice A0_0 l0_0.length c0_0) := (blk_cell BK1.out 0).trans rfl; have hf1_0 := blk_frozen BK1.out 0; have hz1_1 : w13.cell? ⟨gb1, 1, none⟩ = some (.slice A0_1 l0_1.length c0_1) := (blk_cell BK1.out 1).trans rfl; have hf1_1 := blk_frozen BK1.out 1; have hz1_2 : w13.cell? ⟨gb1, 2, none⟩ = some (.int .i64 a0_2) := (blk_cell BK1.out 2).trans rfl; have hf1_2 := blk_frozen BK1.out 2; have hz1_3 : w13.cell? ⟨gb1, 3, none⟩ = some (.int .i64 a0_3) := (blk_cell BK1.out 3).trans rfl; have hf1_3 := blk_frozen BK1.out 3; have hz1_4 : w13.cell? ⟨gb1, 4, none⟩ = some (.int .i64 a0_4) := (blk_cell BK1.out 4).trans rfl; have hf1_4 := blk_frozen BK1.out 4; have hz1_5 : w13.cell? ⟨gb1, 5, none⟩ = some (.slice A0_5 l0_5.length c0_5) := (blk_cell BK1.out 5).trans rfl; have hf1_5 := blk_frozen BK1.out 5; have hz2_0 : w13.cell? ⟨gb2, 0, none⟩ = some (.int .i64 a1) := (blk_cell BK2.out 0).trans rfl; have hf2_0 := blk_frozen BK2.out 0; have hz3_0 : w13.cell? ⟨gb3, 0, none⟩ = some (.int .i64 a2_0) := (blk_cell BK3.out 0).trans rfl; have hf3_0 := blk_frozen BK3.out 0; have hz3_1 : w13.cell? ⟨gb3, 1, none⟩ = some (.int .i64 a2_1) := (blk_cell BK3.out 1).trans rfl; have hf3_1 := blk_frozen BK3.out 1; have hz3_2 : w13.cell? ⟨gb3, 2, none⟩ = some (.int .i64 a2_2) := (blk_cell BK3.out 2).trans rfl; have hf3_2 := blk_frozen BK3.out 2) | (go_at_call 41; (refine (impl_ExtOK.calls a0_2 a0_3 _ _ A6.out).mono ?_); rintro e w14 ⟨rfl, hb⟩; have m1_ := am_ (blk_below (g := gb1) (o := .cells #[.slice A0_0 l0_0.length c0_0, .slice A0_1 l0_1.length c0_1, .int .i64 a0_2, .int .i64 a0_3, .int .i64 a0_4, .slice A0_5 l0_5.length c0_5] 47 (0, 0)) qz21_ hb); have m2_ := am_ (blk_below (g := gb2) (o := .cells #[.int .i64 a1] 3 (0, 0)) qz22_ hb); have m3_ := am_ (blk_below (g := gb3) (o := .cells #[.int .i64 a2_0, .int .i64 a2_1, .int .i64 a2_2] 49 (0, 0)) qz23_ hb); clear BK1; have BK1 := m1_; clear m1_; clear BK2; have BK2 := m2_; clear m2_; clear BK3; have BK3 := m3_; clear m3_; have n0_ := am_ (below_step qz4_ hb); clear HB; have HB := n0_; clear n0_; clear hb; have hz1_0 : w14.cell? ⟨gb1, 0, none⟩ = some (.slice A0_0 l0_0.length c0_0) := (blk_cell BK1.out 0).trans rfl; have hf1_0 := blk_frozen BK1.out 0; have hz1_1 : w14.cell? ⟨gb1, 1, none⟩ = some (.slice A0_1 l0_1.length c0_1) := (blk_cell BK1.out 1).trans rfl; have hf1_1 := blk_frozen BK1.out 1; have hz1_2 : w14.cell? ⟨gb1, 2, none⟩ = some (.int .i64 a0_2) := (blk_cell BK1.out 2).trans rfl; have hf1_2 := blk_frozen BK1.out 2; have hz1_3 : w14.cell? ⟨gb1, 3, none⟩ = some (.int .i64 a0_3) := (blk_cell BK1.out 3).trans rfl; have hf1_3 := blk_frozen BK1.out 3; have hz1_4 : w14.cell? ⟨gb1, 4, none⟩ = some (.int .i64 a0_4) := (blk_cell BK1.out 4).trans rfl; have hf1_4 := blk_frozen BK1.out 4; have hz1_5 : w14.cell? ⟨gb1, 5, none⟩ = some (.slice A0_5 l0_5.length c0_5) := (blk_cell BK1.out 5).trans rfl; have hf1_5 := blk_frozen BK1.out 5; have hz2_0 : w14.cell? ⟨gb2, 0, none⟩ = some (.int .i64 a1) := (blk_cell BK2.out 0).trans rfl; have hf2_0 := blk_frozen BK2.out 0; have hz3_0 : w14.cell? ⟨gb3, 0, none⟩ = some (.int .i64 a2_0) := (blk_cell BK3.out 0).trans rfl; have hf3_0 := blk_frozen BK3.out 0; have hz3_1 : w14.cell? ⟨gb3, 1, none⟩ = some (.int .i64 a2_1) := (blk_cell BK3.out 1).trans rfl; have hf3_1 := blk_frozen BK3.out 1; have hz3_2 : w14.cell? ⟨gb3, 2, none⟩ = some (.int .i64 a2_2) := (blk_cell BK3.out 2).trans rfl; have hf3_2 := blk_frozen BK3.out 2) | (go_at_call 36; (with_reducible refine (impl_in.calls a0_4 0 65535 _ _ A7.out).mono ?_); rintro e w' ⟨rfl, ⟨nd, rfl⟩⟩) | (go_at_call 42; (refine (impl_are_Query.calls k gb2 gb3 a1 a2_0 a2_1 a2_2 A0_5 c0_5 l0_5 _ _ qz22_ qz23_ qz26_ HC0_5.out A9.out).mono ?_); rintro e w15 ⟨rfl, hb⟩; have n0_ := am_ (below_step qz4_ hb); clear HB; have HB := n0_; clear n0_; clear hb))
        go_ret
        exact ⟨(by first | rfl | simp), qz4_⟩
       | true =>
        rw [if_pos rfl] at h
        by_cases c8 : (l0_5.length : Int) = a2_1
        ·
         rw [if_pos c8] at h
         have c8b0 : ((l0_5.length : Int) == a2_1) = true := beq_iff_eq.mpr c8
         clear c8
         have A9 := am_ h
         clear h
         go_enter Try.func18, Try.ntmps18
         go_wp2_with (first | ((with_reducible refine gate_dst (N := 3) rfl ?_); refine box_event ?hg (N := 3) ?hd (cs := #[.slice A0_0 l0_0.length c0_0, .slice A0_1 l0_1.length c0_1, .int .i64 a0_2, .int .i64 a0_3, .int .i64 a0_4, .slice A0_5 l0_5.length c0_5]) (t := 47) ?hr ?_; (case hd => rfl); (case hg => rfl); (case hr => first | (go_simp; done) | (go_simp; rfl)); intro gb1 hg w1 hbox hb; have BK1 := am_ hbox; have n0_ := am_ (below_step qz4_ hb); clear HB; have HB := n0_; clear n0_; clear hb; clear hbox hg) | ((with_reducible refine gate_dst (N := 4) rfl ?_); refine box_event ?hg (N := 4) ?hd (cs := #[.int .i64 a1]) (t := 3) ?hr ?_; (case hd => rfl); (case hg => rfl); (case hr => first | (go_simp; done) | (go_simp; rfl)); intro gb2 hg w2 hbox hb; have m1_ := am_ (blk_below (g := gb1) (o := .cells #[.slice A0_0 l0_0.length c0_0, .slice A0_1 l0_1.length c0_1, .int .i64 a0_2, .int .i64 a0_3, .int .i64 a0_4, .slice A0_5 l0_5.length c0_5] 47 (0, 0)) qz21_ hb); clear BK1; have BK1 := m1_; clear m1_; have BK2 := am_ hbox; have n0_ := am_ (below_step qz4_ hb); clear HB; have HB := n0_; clear n0_; clear hb; clear hbox hg) | ((with_reducible refine gate_dst (N := 5) rfl ?_); refine box_event ?hg (N := 5) ?hd (cs := #[.int .i64 a2_0, .int .i64 a2_1, .int .i64 a2_2]) (t := 49) ?hr ?_; (case hd => rfl); (case hg => rfl); (case hr => first | (go_simp; done) | (go_simp; rfl)); intro gb3 hg w3 hbox hb; have m1_ := am_ (blk_below (g := gb1) (o := .cells #[.slice A0_0 l0_0.length c0_0, .slice A0_1 l0_1.length c0_1, .int .i64 a0_2, .int .i64 a0_3, .int .i64 a0_4, .slice A0_5 l0_5.length c0_5] 47 (0, 0)) qz21_ hb); have m2_ := am_ (blk_below (g := gb2) (o := .cells #[.int .i64 a1] 3 (0, 0)) qz22_ hb); clear BK1; have BK1 := m1_; clear m1_; clear BK2; have BK2 := m2_; clear m2_; have BK3 := am_ hbox; have n0_ := am_ (below_step qz4_ hb); clear HB; have HB := n0_; clear n0_; clear hb; clear hbox hg; have hz1_0 : w3.cell? ⟨gb1, 0, none⟩ = some (.slice A0_0 l0_0.length c0_0) := (blk_cell BK1.out 0).trans rfl; have hf1_0 := blk_frozen BK1.out 0; have hz1_1 : w3.cell? ⟨gb1, 1, none⟩ = some (.slice A0_1 l0_1.length c0_1) := (blk_cell BK1.out 1).trans rfl; have hf1_1 := blk_frozen BK1.out 1; have hz1_2 : w3.cell? ⟨gb1, 2, none⟩ = some (.int .i64 a0_2) := (blk_cell BK1.out 2).trans rfl; have hf1_2 := blk_frozen BK1.out 2; have hz1_3 : w3.cell? ⟨gb1, 3, none⟩ = some (.int .i64 a0_3) := (blk_cell BK1.out 3).trans rfl; have hf1_3 := blk_frozen BK1.out 3; have hz1_4 : w3.cell? ⟨gb1, 4, none⟩ = some (.int .i64 a0_4) := (blk_cell BK1.out 4).trans rfl; have hf1_4 := blk_frozen BK1.out 4; have hz1_5 : w3.cell? ⟨gb1, 5, none⟩ = some (.slice A0_5 l0_5.length c0_5) := (blk_cell BK1.out 5).trans rfl; have hf1_5 := blk_frozen BK1.out 5; have hz2_0 : w3.cell? ⟨gb2, 0, none⟩ = some (.int .i64 a1) := (blk_cell BK2.out 0).trans rfl; have hf2_0 := blk_frozen BK2.out 0; have hz3_0 : w3.cell? ⟨gb3, 0, none⟩ = some (.int .i64 a2_0) := (blk_cell BK3.out 0).trans rfl; have hf3_0 := blk_frozen BK3.out 0; have hz3_1 : w3.cell? ⟨gb3, 1, none⟩ = some (.int .i64 a2_1) := (blk_cell BK3.out 1).trans rfl; have hf3_1 := blk_frozen BK3.out 1; have hz3_2 : w3.cell? ⟨gb3, 2, none⟩ = some (.int .i64 a2_2) := (blk_cell BK3.out 2).trans rfl; have hf3_2 := blk_frozen BK3.out 2) | (go_at_call 36; (with_reducible refine (impl_in.calls a1 1 6 _ _ A1.out).mono ?_); rintro e w' ⟨rfl, ⟨nd, rfl⟩⟩) | (go_at_call 37; (refine (impl_SettingOK.calls a2_0 a2_1 a2_2 _ _ A2.out).mono ?_); rintro e w11 ⟨rfl, hb⟩; have m1_ := am_ (blk_below (g := gb1) (o := .cells #[.slice A0_0 l0_0.length c0_0, .slice A0_1 l0_1.length c0_1, .int .i64 a0_2, .int .i64 a0_3, .int .i64 a0_4, .slice A0_5 l0_5.length c0_5] 47 (0, 0)) qz21_ hb); have m2_ := am_ (blk_below (g := gb2) (o := .cells #[.int .i64 a1] 3 (0, 0)) qz22_ hb); have m3_ := am_ (blk_below (g := gb3) (o := .cells #[.int .i64 a2_0, .int .i64 a2_1, .int .i64 a2_2] 49 (0, 0)) qz23_ hb); clear BK1; have BK1 := m1_; clear m1_; clear BK2; have BK2 := m2_; clear m2_; clear BK3; have BK3 := m3_; clear m3_; have n0_ := am_ (below_step qz4_ hb); clear HB; have HB := n0_; clear n0_; clear hb; have hz1_0 : w11.cell? ⟨gb1, 0, none⟩ = some (.slice A0_0 l0_0.length c0_0) := (blk_cell BK1.out 0).trans rfl; have hf1_0 := blk_frozen BK1.out 0; have hz1_1 : w11.cell? ⟨gb1, 1, none⟩ = some (.slice A0_1 l0_1.length c0_1) := (blk_cell BK1.out 1).trans rfl; have hf1_1 := blk_frozen BK1.out 1; have hz1_2 : w11.cell? ⟨gb1, 2, none⟩ = some (.int .i64 a0_2) := (blk_cell BK1.out 2).trans rfl; have hf1_2 := blk_frozen BK1.out 2; have hz1_3 : w11.cell? ⟨gb1, 3, none⟩ = some (.int .i64 a0_3) := (blk_cell BK1.out 3).trans rfl; have hf1_3 := blk_frozen BK1.out 3; have hz1_4 : w11.cell? ⟨gb1, 4, none⟩ = some (.int .i64 a0_4) := (blk_cell BK1.out 4).trans rfl; have hf1_4 := blk_frozen BK1.out 4; have hz1_5 : w11.cell? ⟨gb1, 5, none⟩ = some (.slice A0_5 l0_5.length c0_5) := (blk_cell BK1.out 5).trans rfl; have hf1_5 := blk_frozen BK1.out 5; have hz2_0 : w11.cell? ⟨gb2, 0, none⟩ = some (.int .i64 a1) := (blk_cell BK2.out 0).trans rfl; have hf2_0 := blk_frozen BK2.out 0; have hz3_0 : w11.cell? ⟨gb3, 0, none⟩ = some (.int .i64 a2_0) := (blk_cell BK3.out 0).trans rfl; have hf3_0 := blk_frozen BK3.out 0; have hz3_1 : w11.cell? ⟨gb3, 1, none⟩ = some (.int .i64 a2_1) := (blk_cell BK3.out 1).trans rfl; have hf3_1 := blk_frozen BK3.out 1; have hz3_2 : w11.cell? ⟨gb3, 2, none⟩ = some (.int .i64 a2_2) := (blk_cell BK3.out 2).trans rfl; have hf3_2 := blk_frozen BK3.out 2) | (go_at_call 38; (refine (impl_areRounds.calls A0_0 c0_0 l0_0 a1 3 _ _ qz24_ HC0_0.out A3.out).mono ?_); rintro e w12 ⟨rfl, hb⟩; have m1_ := am_ (blk_below (g := gb1) (o := .cells #[.slice A0_0 l0_0.length c0_0, .slice A0_1 l0_1.length c0_1, .int .i64 a0_2, .int .i64 a0_3, .int .i64 a0_4, .slice A0_5 l0_5.length c0_5] 47 (0, 0)) qz21_ hb); have m2_ := am_ (blk_below (g := gb2) (o := .cells #[.int .i64 a1] 3 (0, 0)) qz22_ hb); have m3_ := am_ (blk_below (g := gb3) (o := .cells #[.int .i64 a2_0, .int .i64 a2_1, .int .i64 a2_2] 49 (0, 0)) qz23_ hb); clear BK1; have BK1 := m1_; clear m1_; clear BK2; have BK2 := m2_; clear m2_; clear BK3; have BK3 := m3_; clear m3_; have n0_ := am_ (below_step qz4_ hb); clear HB; have HB := n0_; clear n0_; clear hb; have hz1_0 : w12.cell? ⟨gb1, 0, none⟩ = some (.slice A0_0 l0_0.length c0_0) := (blk_cell BK1.out 0).trans rfl; have hf1_0 := blk_frozen BK1.out 0; have hz1_1 : w12.cell? ⟨gb1, 1, none⟩ = some (.slice A0_1 l0_1.length c0_1) := (blk_cell BK1.out 1).trans rfl; have hf1_1 := blk_frozen BK1.out 1; have hz1_2 : w12.cell? ⟨gb1, 2, none⟩ = some (.int .i64 a0_2) := (blk_cell BK1.out 2).trans rfl; have hf1_2 := blk_frozen BK1.out 2; have hz1_3 : w12.cell? ⟨gb1, 3, none⟩ = some (.int .i64 a0_3) := (blk_cell BK1.out 3).trans rfl; have hf1_3 := blk_frozen BK1.out 3; have hz1_4 : w12.cell? ⟨gb1, 4, none⟩ = some (.int .i64 a0_4) := (blk_cell BK1.out 4).trans rfl; have hf1_4 := blk_frozen BK1.out 4; have hz1_5 : w12.cell? ⟨gb1, 5, none⟩ = some (.slice A0_5 l0_5.length c0_5) := (blk_cell BK1.out 5).trans rfl; have hf1_5 := blk_frozen BK1.out 5; have hz2_0 : w12.cell? ⟨gb2, 0, none⟩ = some (.int .i64 a1) := (blk_cell BK2.out 0).trans rfl; have hf2_0 := blk_frozen BK2.out 0; have hz3_0 : w12.cell? ⟨gb3, 0, none⟩ = some (.int .i64 a2_0) := (blk_cell BK3.out 0).trans rfl; have hf3_0 := blk_frozen BK3.out 0; have hz3_1 : w12.cell? ⟨gb3, 1, none⟩ = some (.int .i64 a2_1) := (blk_cell BK3.out 1).trans rfl; have hf3_1 := blk_frozen BK3.out 1; have hz3_2 : w12.cell? ⟨gb3, 2, none⟩ = some (.int .i64 a2_2) := (blk_cell BK3.out 2).trans rfl; have hf3_2 := blk_frozen BK3.out 2) | (go_at_call 39; (refine (impl_are_string_isHash.calls A0_1 c0_1 l0_1 _ _ qz25_ HC0_1.out A5.out).mono ?_); rintro e w13 ⟨rfl, hb⟩; have m1_ := am_ (blk_below (g := gb1) (o := .cells #[.slice A0_0 l0_0.length c0_0, .slice A0_1 l0_1.length c0_1, .int .i64 a0_2, .int .i64 a0_3, .int .i64 a0_4, .slice A0_5 l0_5.length c0_5] 47 (0, 0)) qz21_ hb); have m2_ := am_ (blk_below (g := gb2) (o := .cells #[.int .i64 a1] 3 (0, 0)) qz22_ hb); have m3_ := am_ (blk_below (g := gb3) (o := .cells #[.int .i64 a2_0, .int .i64 a2_1, .int .i64 a2_2] 49 (0, 0)) qz23_ hb); clear BK1; have BK1 := m1_; clear m1_; clear BK2; have BK2 := m2_; clear m2_; clear BK3; have BK3 := m3_; clear m3_; have n0_ := am_ (below_step qz4_ hb); clear HB; have HB := n0_; clear n0_; clear hb; have hz1_0 : w13.cell? ⟨gb1, 0, none⟩ = some (.slice A0_0 l0_0.length c0_0) := (blk_cell BK1.out 0).trans rfl; have hf1_0 := blk_frozen BK1.out 0; have hz1_1 : w13.cell? ⟨gb1, 1, none⟩ = some (.slice A0_1 l0_1.length c0_1) := (blk_cell BK1.out 1).trans rfl; have hf1_1 := blk_frozen BK1.out 1; have hz1_2 : w13.cell? ⟨gb1, 2, none⟩ = some (.int .i64 a0_2) := (blk_cell BK1.out 2).trans rfl; have hf1_2 := blk_frozen BK1.out 2; have hz1_3 : w13.cell? ⟨gb1, 3, none⟩ = some (.int .i64 a0_3) := (blk_cell BK1.out 3).trans rfl; have hf1_3 := blk_frozen BK1.out 3; have hz1_4 : w13.cell? ⟨gb1, 4, none⟩ = some (.int .i64 a0_4) := (blk_cell BK1.out 4).trans rfl; have hf1_4 := blk_frozen BK1.out 4; have hz1_5 : w13.cell? ⟨gb1, 5, none⟩ = some (.slice A0_5 l0_5.length c0_5) := (blk_cell BK1.out 5).trans rfl; have hf1_5 := blk_frozen BK1.out 5; have hz2_0 : w13.cell? ⟨gb2, 0, none⟩ = some (.int .i64 a1) := (blk_cell BK2.out 0).trans rfl; have hf2_0 := blk_frozen BK2.out 0; have hz3_0 : w13.cell? ⟨gb3, 0, none⟩ = some (.int .i64 a2_0) := (blk_cell BK3.out 0).trans rfl; have hf3_0 := blk_frozen BK3.out 0; have hz3_1 : w13.cell? ⟨gb3, 1, none⟩ = some (.int .i64 a2_1) := (blk_cell BK3.out 1).trans rfl; have hf3_1 := blk_frozen BK3.out 1; have hz3_2 : w13.cell? ⟨gb3, 2, none⟩ = some (.int .i64 a2_2) := (blk_cell BK3.out 2).trans rfl; have hf3_2 := blk_frozen BK3.out 2) | (go_at_call 41; (refine (impl_ExtOK.calls a0_2 a0_3 _ _ A6.out).mono ?_); rintro e w14 ⟨rfl, hb⟩; have m1_ := am_ (blk_below (g := gb1) (o := .cells #[.slice A0_0 l0_0.length c0_0, .slice A0_1 l0_1.length c0_1, .int .i64 a0_2, .int .i64 a0_3, .int .i64 a0_4, .slice A0_5 l0_5.length c0_5] 47 (0, 0)) qz21_ hb); have m2_ := am_ (blk_below (g := gb2) (o := .cells #[.int .i64 a1] 3 (0, 0)) qz22_ hb); have m3_ := am_ (blk_below (g := gb3) (o := .cells #[.int .i64 a2_0, .int .i64 a2_1, .int .i64 a2_2] 49 (0, 0)) qz23_ hb); clear BK1; have BK1 := m1_; clear m1_; clear BK2; have BK2 := m2_; clear m2_; clear BK3; have BK3 := m3_; clear m3_; have n0_ := am_ (below_step qz4_ hb); clear HB; have HB := n0_; clear n0_; clear hb; have hz1_0 : w14.cell? ⟨gb1, 0, none⟩ = some (.slice A0_0 l0_0.length c0_0) := (blk_cell BK1.out 0).trans rfl; have hf1_0 := blk_frozen BK1.out 0; have hz1_1 : w14.cell? ⟨gb1, 1, none⟩ = some (.slice A0_1 l0_1.length c0_1) := (blk_cell BK1.out 1).trans rfl; have hf1_1 := blk_frozen BK1.out 1; have hz1_2 : w14.cell? ⟨gb1, 2, none⟩ = some (.int .i64 a0_2) := (blk_cell BK1.out 2).trans rfl; have hf1_2 := blk_frozen BK1.out 2; have hz1_3 : w14.cell? ⟨gb1, 3, none⟩ = some (.int .i64 a0_3) := (blk_cell BK1.out 3).trans rfl; have hf1_3 := blk_frozen BK1.out 3; have hz1_4 : w14.cell? ⟨gb1, 4, none⟩ = some (.int .i64 a0_4) := (blk_cell BK1.out 4).trans rfl; have hf1_4 := blk_frozen BK1.out 4; have hz1_5 : w14.cell? ⟨gb1, 5, none⟩ = some (.slice A0_5 l0_5.length c0_5) := (blk_cell BK1.out 5).trans rfl; have hf1_5 := blk_frozen BK1.out 5; have hz2_0 : w14.cell? ⟨gb2, 0, none⟩ = some (.int .i64 a1) := (blk_cell BK2.out 0).trans rfl; have hf2_0 := blk_frozen BK2.out 0; have hz3_0 : w14.cell? ⟨gb3, 0, none⟩ = some (.int .i64 a2_0) := (blk_cell BK3.out 0).trans rfl; have hf3_0 := blk_frozen BK3.out 0; have hz3_1 : w14.cell? ⟨gb3, 1, none⟩ = some (.int .i64 a2_1) := (blk_cell BK3.out 1).trans rfl; have hf3_1 := blk_frozen BK3.out 1; have hz3_2 : w14.cell? ⟨gb3, 2, none⟩ = some (.int .i64 a2_2) := (blk_cell BK3.out 2).trans rfl; have hf3_2 := blk_frozen BK3.out 2) | (go_at_call 36; (with_reducible refine (impl_in.calls a0_4 0 65535 _ _ A7.out).mono ?_); rintro e w' ⟨rfl, ⟨nd, rfl⟩⟩) | (go_at_call 42; (refine (impl_are_Query.calls k gb2 gb3 a1 a2_0 a2_1 a2_2 A0_5 c0_5 l0_5 _ _ qz22_ qz23_ qz26_ HC0_5.out A9.out).mono ?_); rintro e w15 ⟨rfl, hb⟩; have n0_ := am_ (below_step qz4_ hb); clear HB; have HB := n0_; clear n0_; clear hb))
         go_ret
         exact ⟨(by first | rfl | simp), qz4_⟩
        ·
         rw [if_neg c8] at h
         have c8b0 : ((l0_5.length : Int) == a2_1) = false := beq_eq_false_iff_ne.mpr c8
         clear c8
         obtain rfl := Option.some.inj h
         clear h
         go_enter Try.func18, Try.ntmps18
         go_wp2_with (first | ((with_reducible refine gate_dst (N := 3) rfl ?_); refine box_event ?hg (N := 3) ?hd (cs := #[.slice A0_0 l0_0.length c0_0, .slice A0_1 l0_1.length c0_1, .int .i64 a0_2, .int .i64 a0_3, .int .i64 a0_4, .slice A0_5 l0_5.length c0_5]) (t := 47) ?hr ?_; (case hd => rfl); (case hg => rfl); (case hr => first | (go_simp; done) | (go_simp; rfl)); intro gb1 hg w1 hbox hb; have BK1 := am_ hbox; have n0_ := am_ (below_step qz4_ hb); clear HB; have HB := n0_; clear n0_; clear hb; clear hbox hg) | ((with_reducible refine gate_dst (N := 4) rfl ?_); refine box_event ?hg (N := 4) ?hd (cs := #[.int .i64 a1]) (t := 3) ?hr ?_; (case hd => rfl); (case hg => rfl); (case hr => first | (go_simp; done) | (go_simp; rfl)); intro gb2 hg w2 hbox hb; have m1_ := am_ (blk_below (g := gb1) (o := .cells #[.slice A0_0 l0_0.length c0_0, .slice A0_1 l0_1.length c0_1, .int .i64 a0_2, .int .i64 a0_3, .int .i64 a0_4, .slice A0_5 l0_5.length c0_5] 47 (0, 0)) qz21_ hb); clear BK1; have BK1 := m1_; clear m1_; have BK2 := am_ hbox; have n0_ := am_ (below_step qz4_ hb); clear HB; have HB := n0_; clear n0_; clear hb; clear hbox hg) | ((with_reducible refine gate_dst (N := 5) rfl ?_); refine box_event ?hg (N := 5) ?hd (cs := #[.int .i64 a2_0, .int .i64 a2_1, .int .i64 a2_2]) (t := 49) ?hr ?_; (case hd => rfl); (case hg => rfl); (case hr => first | (go_simp; done) | (go_simp; rfl)); intro gb3 hg w3 hbox hb; have m1_ := am_ (blk_below (g := gb1) (o := .cells #[.slice A0_0 l0_0.length c0_0, .slice A0_1 l0_1.length c0_1, .int .i64 a0_2, .int .i64 a0_3, .int .i64 a0_4, .slice A0_5 l0_5.length c0_5] 47 (0, 0)) qz21_ hb); have m2_ := am_ (blk_below (g := gb2) (o := .cells #[.int .i64 a1] 3 (0, 0)) qz22_ hb); clear BK1; have BK1 := m1_; clear m1_; clear BK2; have BK2 := m2_; clear m2_; have BK3 := am_ hbox; have n0_ := am_ (below_step qz4_ hb); clear HB; have HB := n0_; clear n0_; clear hb; clear hbox hg; have hz1_0 : w3.cell? ⟨gb1, 0, none⟩ = some (.slice A0_0 l0_0.length c0_0) := (blk_cell BK1.out 0).trans rfl; have hf1_0 := blk_frozen BK1.out 0; have hz1_1 : w3.cell? ⟨gb1, 1, none⟩ = some (.slice A0_1 l0_1.length c0_1) := (blk_cell BK1.out 1).trans rfl; have hf1_1 := blk_frozen BK1.out 1; have hz1_2 : w3.cell? ⟨gb1, 2, none⟩ = some (.int .i64 a0_2) := (blk_cell BK1.out 2).trans rfl; have hf1_2 := blk_frozen BK1.out 2; have hz1_3 : w3.cell? ⟨gb1, 3, none⟩ = some (.int .i64 a0_3) := (blk_cell BK1.out 3).trans rfl; have hf1_3 := blk_frozen BK1.out 3; have hz1_4 : w3.cell? ⟨gb1, 4, none⟩ = some (.int .i64 a0_4) := (blk_cell BK1.out 4).trans rfl; have hf1_4 := blk_frozen BK1.out 4; have hz1_5 : w3.cell? ⟨gb1, 5, none⟩ = some (.slice A0_5 l0_5.length c0_5) := (blk_cell BK1.out 5).trans rfl; have hf1_5 := blk_frozen BK1.out 5; have hz2_0 : w3.cell? ⟨gb2, 0, none⟩ = some (.int .i64 a1) := (blk_cell BK2.out 0).trans rfl; have hf2_0 := blk_frozen BK2.out 0; have hz3_0 : w3.cell? ⟨gb3, 0, none⟩ = some (.int .i64 a2_0) := (blk_cell BK3.out 0).trans rfl; have hf3_0 := blk_frozen BK3.out 0; have hz3_1 : w3.cell? ⟨gb3, 1, none⟩ = some (.int .i64 a2_1) := (blk_cell BK3.out 1).trans rfl; have hf3_1 := blk_frozen BK3.out 1; have hz3_2 : w3.cell? ⟨gb3, 2, none⟩ = some (.int .i64 a2_2) := (blk_cell BK3.out 2).trans rfl; have hf3_2 := blk_frozen BK3.out 2) | (go_at_call 36; (with_reducible refine (impl_in.calls a1 1 6 _ _ A1.out).mono ?_); rintro e w' ⟨rfl, ⟨nd, rfl⟩⟩) | (go_at_call 37; (refine (impl_SettingOK.calls a2_0 a2_1 a2_2 _ _ A2.out).mono ?_); rintro e w11 ⟨rfl, hb⟩; have m1_ := am_ (blk_below (g := gb1) (o := .cells #[.slice A0_0 l0_0.length c0_0, .slice A0_1 l0_1.length c0_1, .int .i64 a0_2, .int .i64 a0_3, .int .i64 a0_4, .slice A0_5 l0_5.length c0_5] 47 (0, 0)) qz21_ hb); have m2_ := am_ (blk_below (g := gb2) (o := .cells #[.int .i64 a1] 3 (0, 0)) qz22_ hb); have m3_ := am_ (blk_below (g := gb3) (o := .cells #[.int .i64 a2_0, .int .i64 a2_1, .int .i64 a2_2] 49 (0, 0)) qz23_ hb); clear BK1; have BK1 := m1_; clear m1_; clear BK2; have BK2 := m2_; clear m2_; clear BK3; have BK3 := m3_; clear m3_; have n0_ := am_ (below_step qz4_ hb); clear HB; have HB := n0_; clear n0_; clear hb; have hz1_0 : w11.cell? ⟨gb1, 0, none⟩ = some (.slice A0_0 l0_0.length c0_0) := (blk_cell BK1.out 0).trans rfl; have hf1_0 := blk_frozen BK1.out 0; have hz1_1 : w11.cell? ⟨gb1, 1, none⟩ = some (.slice A0_1 l0_1.length c0_1) := (blk_cell BK1.out 1).trans rfl; have hf1_1 := blk_frozen BK1.out 1; have hz1_2 : w11.cell? ⟨gb1, 2, none⟩ = some (.int .i64 a0_2) := (blk_cell BK1.out 2).trans rfl; have hf1_2 := blk_frozen BK1.out 2; have hz1_3 : w11.cell? ⟨gb1, 3, none⟩ = some (.int .i64 a0_3) := (blk_cell BK1.out 3).trans rfl; have hf1_3 := blk_frozen BK1.out 3; have hz1_4 : w11.cell? ⟨gb1, 4, none⟩ = some (.int .i64 a0_4) := (blk_cell BK1.out 4).trans rfl; have hf1_4 := blk_frozen BK1.out 4; have hz1_5 : w11.cell? ⟨gb1, 5, none⟩ = some (.slice A0_5 l0_5.length c0_5) := (blk_cell BK1.out 5).trans rfl; have hf1_5 := blk_frozen BK1.out 5; have hz2_0 : w11.cell? ⟨gb2, 0, none⟩ = some (.int .i64 a1) := (blk_cell BK2.out 0).trans rfl; have hf2_0 := blk_frozen BK2.out 0; have hz3_0 : w11.cell? ⟨gb3, 0, none⟩ = some (.int .i64 a2_0) := (blk_cell BK3.out 0).trans rfl; have hf3_0 := blk_frozen BK3.out 0; have hz3_1 : w11.cell? ⟨gb3, 1, none⟩ = some (.int .i64 a2_1) := (blk_cell BK3.out 1).trans rfl; have hf3_1 := blk_frozen BK3.out 1; have hz3_2 : w11.cell? ⟨gb3, 2, none⟩ = some (.int .i64 a2_2) := (blk_cell BK3.out 2).trans rfl; have hf3_2 := blk_frozen BK3.out 2) | (go_at_call 38; (refine (impl_areRounds.calls A0_0 c0_0 l0_0 a1 3 _ _ qz24_ HC0_0.out A3.out).mono ?_); rintro e w12 ⟨rfl, hb⟩; have m1_ := am_ (blk_below (g := gb1) (o := .cells #[.slice A0_0 l0_0.length c0_0, .slice A0_1 l0_1.length c0_1, .int .i64 a0_2, .int .i64 a0_3, .int .i64 a0_4, .slice A0_5 l0_5.length c0_5] 47 (0, 0)) qz21_ hb); have m2_ := am_ (blk_below (g := gb2) (o := .cells #[.int .i64 a1] 3 (0, 0)) qz22_ hb); have m3_ := am_ (blk_below (g := gb3) (o := .cells #[.int .i64 a2_0, .int .i64 a2_1, .int .i64 a2_2] 49 (0, 0)) qz23_ hb); clear BK1; have BK1 := m1_; clear m1_; clear BK2; have BK2 := m2_; clear m2_; clear BK3; have BK3 := m3_; clear m3_; have n0_ := am_ (below_step qz4_ hb); clear HB; have HB := n0_; clear n0_; clear hb; have hz1_0 : w12.cell? ⟨gb1, 0, none⟩ = some (.slice A0_0 l0_0.length c0_0) := (blk_cell BK1.out 0).trans rfl; have hf1_0 := blk_frozen BK1.out 0; have hz1_1 : w12.cell? ⟨gb1, 1, none⟩ = some (.slice A0_1 l0_1.length c0_1) := (blk_cell BK1.out 1).trans rfl; have hf1_1 := blk_frozen BK1.out 1; have hz1_2 : w12.cell? ⟨gb1, 2, none⟩ = some (.int .i64 a0_2) := (blk_cell BK1.out 2).trans rfl; have hf1_2 := blk_frozen BK1.out 2; have hz1_3 : w12.cell? ⟨gb1, 3, none⟩ = some (.int .i64 a0_3) := (blk_cell BK1.out 3).trans rfl; have hf1_3 := blk_frozen BK1.out 3; have hz1_4 : w12.cell? ⟨gb1, 4, none⟩ = some (.int .i64 a0_4) := (blk_cell BK1.out 4).trans rfl; have hf1_4 := blk_frozen BK1.out 4; have hz1_5 : w12.cell? ⟨gb1, 5, none⟩ = some (.slice A0_5 l0_5.length c0_5) := (blk_cell BK1.out 5).trans rfl; have hf1_5 := blk_frozen BK1.out 5; have hz2_0 : w12.cell? ⟨gb2, 0, none⟩ = some (.int .i64 a1) := (blk_cell BK2.out 0).trans rfl; have hf2_0 := blk_frozen BK2.out 0; have hz3_0 : w12.cell? ⟨gb3, 0, none⟩ = some (.int .i64 a2_0) := (blk_cell BK3.out 0).trans rfl; have hf3_0 := blk_frozen BK3.out 0; have hz3_1 : w12.cell? ⟨gb3, 1, none⟩ = some (.int .i64 a2_1) := (blk_cell BK3.out 1).trans rfl; have hf3_1 := blk_frozen BK3.out 1; have hz3_2 : w12.cell? ⟨gb3, 2, none⟩ = some (.int .i64 a2_2) := (blk_cell BK3.out 2).trans rfl; have hf3_2 := blk_frozen BK3.out 2) | (go_at_call 39; (refine (impl_are_string_isHash.calls A0_1 c0_1 l0_1 _ _ qz25_ HC0_1.out A5.out).mono ?_); rintro e w13 ⟨rfl, hb⟩; have m1_ := am_ (blk_below (g := gb1) (o := .cells #[.slice A0_0 l0_0.length c0_0, .slice A0_1 l0_1.length c0_1, .int .i64 a0_2, .int .i64 a0_3, .int .i64 a0_4, .slice A0_5 l0_5.length c0_5] 47 (0, 0)) qz21_ hb); have m2_ := am_ (blk_below (g := gb2) (o := .cells #[.int .i64 a1] 3 (0, 0)) qz22_ hb); have m3_ := am_ (blk_below (g := gb3) (o := .cells #[.int .i64 a2_0, .int .i64 a2_1, .int .i64 a2_2] 49 (0, 0)) qz23_ hb); clear BK1; have BK1 := m1_; clear m1_; clear BK2; have BK2 := m2_; clear m2_; clear BK3; have BK3 := m3_; clear m3_; have n0_ := am_ (below_step qz4_ hb); clear HB; have HB := n0_; clear n0_; clear hb; have hz1_0 : w13.cell? ⟨gb1, 0, none⟩ = some (.slice A0_0 l0_0.length c0_0) := (blk_cell BK1.out 0).trans rfl; have hf1_0 := blk_frozen BK1.out 0; have hz1_1 : w13.cell? ⟨gb1, 1, none⟩ = some (.slice A0_1 l0_1.length c0_1) := (blk_cell BK1.out 1).trans rfl; have hf1_1 := blk_frozen BK1.out 1; have hz1_2 : w13.cell? ⟨gb1, 2, none⟩ = some (.int .i64 a0_2) := (blk_cell BK1.out 2).trans rfl; have hf1_2 := blk_frozen BK1.out 2; have hz1_3 : w13.cell? ⟨gb1, 3, none⟩ = some (.int .i64 a0_3) := (blk_cell BK1.out 3).trans rfl; have hf1_3 := blk_frozen BK1.out 3; have hz1_4 : w13.cell? ⟨gb1, 4, none⟩ = some (.int .i64 a0_4) := (blk_cell BK1.out 4).trans rfl; have hf1_4 := blk_frozen BK1.out 4; have hz1_5 : w13.cell? ⟨gb1, 5, none⟩ = some (.slice A0_5 l0_5.length c0_5) := (blk_cell BK1.out 5).trans rfl; have hf1_5 := blk_frozen BK1.out 5; have hz2_0 : w13.cell? ⟨gb2, 0, none⟩ = some (.int .i64 a1) := (blk_cell BK2.out 0).trans rfl; have hf2_0 := blk_frozen BK2.out 0; have hz3_0 : w13.cell? ⟨gb3, 0, none⟩ = some (.int .i64 a2_0) := (blk_cell BK3.out 0).trans rfl; have hf3_0 := blk_frozen BK3.out 0; have hz3_1 : w13.cell? ⟨gb3, 1, none⟩ = some (.int .i64 a2_1) := (blk_cell BK3.out 1).trans rfl; have hf3_1 := blk_frozen BK3.out 1; have hz3_2 : w13.cell? ⟨gb3, 2, none⟩ = some (.int .i64 a2_2) := (blk_cell BK3.out 2).trans rfl; have hf3_2 := blk_frozen BK3.out 2) | (go_at_call 41; (refine (impl_ExtOK.calls a0_2 a0_3 _ _ A6.out).mono ?_); rintro e w14 ⟨rfl, hb⟩; have m1_ := am_ (blk_below (g := gb1) (o := .cells #[.slice A0_0 l0_0.length c0_0, .slice A0_1 l0_1.length c0_1, .int .i64 a0_2, .int .i64 a0_3, .int .i64 a0_4, .slice A0_5 l0_5.length c0_5] 47 (0, 0)) qz21_ hb); have m2_ := am_ (blk_below (g := gb2) (o := .cells #[.int .i64 a1] 3 (0, 0)) qz22_ hb); have m3_ := am_ (blk_below (g := gb3) (o := .cells #[.int .i64 a2_0, .int .i64 a2_1, .int .i64 a2_2] 49 (0, 0)) qz23_ hb); clear BK1; have BK1 := m1_; clear m1_; clear BK2; have BK2 := m2_; clear m2_; clear BK3; have BK3 := m3_; clear m3_; have n0_ := am_ (below_step qz4_ hb); clear HB; have HB := n0_; clear n0_; clear hb; have hz1_0 : w14.cell? ⟨gb1, 0, none⟩ = some (.slice A0_0 l0_0.length c0_0) := (blk_cell BK1.out 0).trans rfl; have hf1_0 := blk_frozen BK1.out 0; have hz1_1 : w14.cell? ⟨gb1, 1, none⟩ = some (.slice A0_1 l0_1.length c0_1) := (blk_cell BK1.out 1).trans rfl; have hf1_1 := blk_frozen BK1.out 1; have hz1_2 : w14.cell? ⟨gb1, 2, none⟩ = some (.int .i64 a0_2) := (blk_cell BK1.out 2).trans rfl; have hf1_2 := blk_frozen BK1.out 2; have hz1_3 : w14.cell? ⟨gb1, 3, none⟩ = some (.int .i64 a0_3) := (blk_cell BK1.out 3).trans rfl; have hf1_3 := blk_frozen BK1.out 3; have hz1_4 : w14.cell? ⟨gb1, 4, none⟩ = some (.int .i64 a0_4) := (blk_cell BK1.out 4).trans rfl; have hf1_4 := blk_frozen BK1.out 4; have hz1_5 : w14.cell? ⟨gb1, 5, none⟩ = some (.slice A0_5 l0_5.length c0_5) := (blk_cell BK1.out 5).trans rfl; have hf1_5 := blk_frozen BK1.out 5; have hz2_0 : w14.cell? ⟨gb2, 0, none⟩ = some (.int .i64 a1) := (blk_cell BK2.out 0).trans rfl; have hf2_0 := blk_frozen BK2.out 0; have hz3_0 : w14.cell? ⟨gb3, 0, none⟩ = some (.int .i64 a2_0) := (blk_cell BK3.out 0).trans rfl; have hf3_0 := blk_frozen BK3.out 0; have hz3_1 : w14.cell? ⟨gb3, 1, none⟩ = some (.int .i64 a2_1) := (blk_cell BK3.out 1).trans rfl; have hf3_1 := blk_frozen BK3.out 1; have hz3_2 : w14.cell? ⟨gb3, 2, none⟩ = some (.int .i64 a2_2) := (blk_cell BK3.out 2).trans rfl; have hf3_2 := blk_frozen BK3.out 2) | (go_at_call 36; (with_reducible refine (impl_in.calls a0_4 0 65535 _ _ A7.out).mono ?_); rintro e w' ⟨rfl, ⟨nd, rfl⟩⟩) | (go_at_call 42; (refine (impl_are_Query.calls k gb2 gb3 a1 a2_0 a2_1 a2_2 A0_5 c0_5 l0_5 _ _ qz22_ qz23_ qz26_ HC0_5.out A9.out).mono ?_); rintro e w15 ⟨rfl, hb⟩; have n0_ := am_ (below_step qz4_ hb); clear HB; have HB := n0_; clear n0_; clear hb))
         go_ret
         exact ⟨(by first | rfl | simp), qz4_⟩
    ·
     rw [if_neg c4] at h
     have c4b0 : ((l0_1.length : Int) == wrap64 (a1 - 1)) = false := beq_eq_false_iff_ne.mpr c4
     clear c4
     obtain rfl := Option.some.inj h
     clear h
     go_enter Try.func18, Try.ntmps18
     go_wp2_with (first | ((with_reducible refine gate_dst (N := 3) rfl ?_); refine box_event ?hg (N := 3) ?hd (cs := #[.slice A0_0 l0_0.length c0_0, .slice A0_1 l0_1.length c0_1, .int .i64 a0_2, .int .i64 a0_3, .int .i64 a0_4, .slice A0_5 l0_5.length c0_5]) (t := 47) ?hr ?_; (case hd => rfl); (case hg => rfl); (case hr => first | (go_simp; done) | (go_simp; rfl)); intro gb1 hg w1 hbox hb; have BK1 := am_ hbox; have n0_ := am_ (below_step qz4_ hb); clear HB; have HB := n0_; clear n0_; clear hb; clear hbox hg) | ((with_reducible refine gate_dst (N := 4) rfl ?_); refine box_event ?hg (N := 4) ?hd (cs := #[.int .i64 a1]) (t := 3) ?hr ?_; (case hd => rfl); (case hg => rfl); (case hr => first | (go_simp; done) | (go_simp; rfl)); intro gb2 hg w2 hbox hb; have m1_ := am_ (blk_below (g := gb1) (o := .cells #[.slice A0_0 l0_0.length c0_0, .slice A0_1 l0_1.length c0_1, .int .i64 a0_2, .int .i64 a0_3, .int .i64 a0_4, .slice A0_5 l0_5.length c0_5] 47 (0, 0)) qz21_ hb); clear BK1; have BK1 := m1_; clear m1_; have BK2 := am_ hbox; have n0_ := am_ (below_step qz4_ hb); clear HB; have HB := n0_; clear n0_; clear hb; clear hbox hg) | ((with_reducible refine gate_dst (N := 5) rfl ?_); refine box_event ?hg (N := 5) ?hd (cs := #[.int .i64 a2_0, .int .i64 a2_1, .int .i64 a2_2]) (t := 49) ?hr ?_; (case hd => rfl); (case hg => rfl); (case hr => first | (go_simp; done) | (go_simp; rfl)); intro gb3 hg w3 hbox hb; have m1_ := am_ (blk_below (g := gb1) (o := .cells #[.slice A0_0 l0_0.length c0_0, .slice A0_1 l0_1.length c0_1, .int .i64 a0_2, .int .i64 a0_3, .int .i64 a0_4, .slice A0_5 l0_5.length c0_5] 47 (0, 0)) qz21_ hb); have m2_ := am_ (blk_below (g := gb2) (o := .cells #[.int .i64 a1] 3 (0, 0)) qz22_ hb); clear BK1; have BK1 := m1_; clear m1_; clear BK2; have BK2 := m2_; clear m2_; have BK3 := am_ hbox; have n0_ := am_ (below_step qz4_ hb); clear HB; have HB := n0_; clear n0_; clear hb; clear hbox hg; have hz1_0 : w3.cell? ⟨gb1, 0, none⟩ = some (.slice A0_0 l0_0.length c0_0) := (blk_cell BK1.out 0).trans rfl; have hf1_0 := blk_frozen BK1.out 0; have hz1_1 : w3.cell? ⟨gb1, 1, none⟩ = some (.slice A0_1 l0_1.length c0_1) := (blk_cell BK1.out 1).trans rfl; have hf1_1 := blk_frozen BK1.out 1; have hz1_2 : w3.cell? ⟨gb1, 2, none⟩ = some (.int .i64 a0_2) := (blk_cell BK1.out 2).trans rfl; have hf1_2 := blk_frozen BK1.out 2; have hz1_3 : w3.cell? ⟨gb1, 3, none⟩ = some (.int .i64 a0_3) := (blk_cell BK1.out 3).trans rfl; have hf1_3 := blk_frozen BK1.out 3; have hz1_4 : w3.cell? ⟨gb1, 4, none⟩ = some (.int .i64 a0_4) := (blk_cell BK1.out 4).trans rfl; have hf1_4 := blk_frozen BK1.out 4; have hz1_5 : w3.cell? ⟨gb1, 5, none⟩ = some (.slice A0_5 l0_5.length c0_5) := (blk_cell BK1.out 5).trans rfl; have hf1_5 := blk_frozen BK1.out 5; have hz2_0 : w3.cell? ⟨gb2, 0, none⟩ = some (.int .i64 a1) := (blk_cell BK2.out 0).trans rfl; have hf2_0 := blk_frozen BK2.out 0; have hz3_0 : w3.cell? ⟨gb3, 0, none⟩ = some (.int .i64 a2_0) := (blk_cell BK3.out 0).trans rfl; have hf3_0 := blk_frozen BK3.out 0; have hz3_1 : w3.cell? ⟨gb3, 1, none⟩ = some (.int .i64 a2_1) := (blk_cell BK3.out 1).trans rfl; have hf3_1 := blk_frozen BK3.out 1; have hz3_2 : w3.cell? ⟨gb3, 2, none⟩ = some (.int .i64 a2_2) := (blk_cell BK3.out 2).trans rfl; have hf3_2 := blk_frozen BK3.out 2) | (go_at_call 36; (with_reducible refine (impl_in.calls a1 1 6 _ _ A1.out).mono ?_); rintro e w' ⟨rfl, ⟨nd, rfl⟩⟩) | (go_at_call 37; (refine (impl_SettingOK.calls a2_0 a2_1 a2_2 _ _ A2.out).mono ?_); rintro e w11 ⟨rfl, hb⟩; have m1_ := am_ (blk_below (g := gb1) (o := .cells #[.slice A0_0 l0_0.length c0_0, .slice A0_1 l0_1.length c0_1, .int .i64 a0_2, .int .i64 a0_3, .int .i64 a0_4, .slice A0_5 l0_5.length c0_5] 47 (0, 0)) qz21_ hb); have m2_ := am_ (blk_below (g := gb2) (o := .cells #[.int .i64 a1] 3 (0, 0)) qz22_ hb); have m3_ := am_ (blk_below (g := gb3) (o := .cells #[.int .i64 a2_0, .int .i64 a2_1, .int .i64 a2_2] 49 (0, 0)) qz23_ hb); clear BK1; have BK1 := m1_; clear m1_; clear BK2; have BK2 := m2_; clear m2_; clear BK3; have BK3 := m3_; clear m3_; have n0_ := am_ (below_step qz4_ hb); clear HB; have HB := n0_; clear n0_; clear hb; have hz1_0 : w11.cell? ⟨gb1, 0, none⟩ = some (.slice A0_0 l0_0.length c0_0) := (blk_cell BK1.out 0).trans rfl; have hf1_0 := blk_frozen BK1.out 0; have hz1_1 : w11.cell? ⟨gb1, 1, none⟩ = some (.slice A0_1 l0_1.length c0_1) := (blk_cell BK1.out 1).trans rfl; have hf1_1 := blk_frozen BK1.out 1; have hz1_2 : w11.cell? ⟨gb1, 2, none⟩ = some (.int .i64 a0_2) := (blk_cell BK1.out 2).trans rfl; have hf1_2 := blk_frozen BK1.out 2; have hz1_3 : w11.cell? ⟨gb1, 3, none⟩ = some (.int .i64 a0_3) := (blk_cell BK1.out 3).trans rfl; have hf1_3 := blk_frozen BK1.out 3; have hz1_4 : w11.cell? ⟨gb1, 4, none⟩ = some (.int .i64 a0_4) := (blk_cell BK1.out 4).trans rfl; have hf1_4 := blk_frozen BK1.out 4; have hz1_5 : w11.cell? ⟨gb1, 5, none⟩ = some (.slice A0_5 l0_5.length c0_5) := (blk_cell BK1.out 5).trans rfl; have hf1_5 := blk_frozen BK1.out 5; have hz2_0 : w11.cell? ⟨gb2, 0, none⟩ = some (.int .i64 a1) := (blk_cell BK2.out 0).trans rfl; have hf2_0 := blk_frozen BK2.out 0; have hz3_0 : w11.cell? ⟨gb3, 0, none⟩ = some (.int .i64 a2_0) := (blk_cell BK3.out 0).trans rfl; have hf3_0 := blk_frozen BK3.out 0; have hz3_1 : w11.cell? ⟨gb3, 1, none⟩ = some (.int .i64 a2_1) := (blk_cell BK3.out 1).trans rfl; have hf3_1 := blk_frozen BK3.out 1; have hz3_2 : w11.cell? ⟨gb3, 2, none⟩ = some (.int .i64 a2_2) := (blk_cell BK3.out 2).trans rfl; have hf3_2 := blk_frozen BK3.out 2) | (go_at_call 38; (refine (impl_areRounds.calls A0_0 c0_0 l0_0 a1 3 _ _ qz24_ HC0_0.out A3.out).mono ?_); rintro e w12 ⟨rfl, hb⟩; have m1_ := am_ (blk_below (g := gb1) (o := .cells #[.slice A0_0 l0_0.length c0_0, .slice A0_1 l0_1.length c0_1, .int .i64 a0_2, .int .i64 a0_3, .int .i64 a0_4, .slice A0_5 l0_5.length c0_5] 47 (0, 0)) qz21_ hb); have m2_ := am_ (blk_below (g := gb2) (o := .cells #[.int .i64 a1] 3 (0, 0)) qz22_ hb); have m3_ := am_ (blk_below (g := gb3) (o := .cells #[.int .i64 a2_0, .int .i64 a2_1, .int .i64 a2_2] 49 (0, 0)) qz23_ hb); clear BK1; have BK1 := m1_; clear m1_; clear BK2; have BK2 := m2_; clear m2_; clear BK3; have BK3 := m3_; clear m3_; have n0_ := am_ (below_step qz4_ hb); clear HB; have HB := n0_; clear n0_; clear hb; have hz1_0 : w12.cell? ⟨gb1, 0, none⟩ = some (.slice A0_0 l0_0.length c0_0) := (blk_cell BK1.out 0).trans rfl; have hf1_0 := blk_frozen BK1.out 0; have hz1_1 : w12.cell? ⟨gb1, 1, none⟩ = some (.slice A0_1 l0_1.length c0_1) := (blk_cell BK1.out 1).trans rfl; have hf1_1 := blk_frozen BK1.out 1; have hz1_2 : w12.cell? ⟨gb1, 2, none⟩ = some (.int .i64 a0_2) := (blk_cell BK1.out 2).trans rfl; have hf1_2 := blk_frozen BK1.out 2; have hz1_3 : w12.cell? ⟨gb1, 3, none⟩ = some (.int .i64 a0_3) := (blk_cell BK1.out 3).trans rfl; have hf1_3 := blk_frozen BK1.out 3; have hz1_4 : w12.cell? ⟨gb1, 4, none⟩ = some (.int .i64 a0_4) := (blk_cell BK1.out 4).trans rfl; have hf1_4 := blk_frozen BK1.out 4; have hz1_5 : w12.cell? ⟨gb1, 5, none⟩ = some (.slice A0_5 l0_5.length c0_5) := (blk_cell BK1.out 5).trans rfl; have hf1_5 := blk_frozen BK1.out 5; have hz2_0 : w12.cell? ⟨gb2, 0, none⟩ = some (.int .i64 a1) := (blk_cell BK2.out 0).trans rfl; have hf2_0 := blk_frozen BK2.out 0; have hz3_0 : w12.cell? ⟨gb3, 0, none⟩ = some (.int .i64 a2_0) := (blk_cell BK3.out 0).trans rfl; have hf3_0 := blk_frozen BK3.out 0; have hz3_1 : w12.cell? ⟨gb3, 1, none⟩ = some (.int .i64 a2_1) := (blk_cell BK3.out 1).trans rfl; have hf3_1 := blk_frozen BK3.out 1; have hz3_2 : w12.cell? ⟨gb3, 2, none⟩ = some (.int .i64 a2_2) := (blk_cell BK3.out 2).trans rfl; have hf3_2 := blk_frozen BK3.out 2) | (go_at_call 39; (refine (impl_are_string_isHash.calls A0_1 c0_1 l0_1 _ _ qz25_ HC0_1.out A5.out).mono ?_); rintro e w13 ⟨rfl, hb⟩; have m1_ := am_ (blk_below (g := gb1) (o := .cells #[.slice A0_0 l0_0.length c0_0, .slice A0_1 l0_1.length c0_1, .int .i64 a0_2, .int .i64 a0_3, .int .i64 a0_4, .slice A0_5 l0_5.length c0_5] 47 (0, 0)) qz21_ hb); have m2_ := am_ (blk_below (g := gb2) (o := .cells #[.int .i64 a1] 3 (0, 0)) qz22_ hb); have m3_ := am_ (blk_below (g := gb3) (o := .cells #[.int .i64 a2_0, .int .i64 a2_1, .int .i64 a2_2] 49 (0, 0)) qz23_ hb); clear BK1; have BK1 := m1_; clear m1_; clear BK2; have BK2 := m2_; clear m2_; clear BK3; have BK3 := m3_; clear m3_; have n0_ := am_ (below_step qz4_ hb); clear HB; have HB := n0_; clear n0_; clear hb; have hz1_0 : w13.cell? ⟨gb1, 0, none⟩ = some (.slice A0_0 l0_0.length c0_0) := (blk_cell BK1.out 0).trans rfl; have hf1_0 := blk_frozen BK1.out 0; have hz1_1 : w13.cell? ⟨gb1, 1, none⟩ = some (.slice A0_1 l0_1.length c0_1) := (blk_cell BK1.out 1).trans rfl; have hf1_1 := blk_frozen BK1.out 1; have hz1_2 : w13.cell? ⟨gb1, 2, none⟩ = some (.int .i64 a0_2) := (blk_cell BK1.out 2).trans rfl; have hf1_2 := blk_frozen BK1.out 2; have hz1_3 : w13.cell? ⟨gb1, 3, none⟩ = some (.int .i64 a0_3) := (blk_cell BK1.out 3).trans rfl; have hf1_3 := blk_frozen BK1.out 3; have hz1_4 : w13.cell? ⟨gb1, 4, none⟩ = some (.int .i64 a0_4) := (blk_cell BK1.out 4).trans rfl; have hf1_4 := blk_frozen BK1.out 4; have hz1_5 : w13.cell? ⟨gb1, 5, none⟩ = some (.slice A0_5 l0_5.length c0_5) := (blk_cell BK1.out 5).trans rfl; have hf1_5 := blk_frozen BK1.out 5; have hz2_0 : w13.cell? ⟨gb2, 0, none⟩ = some (.int .i64 a1) := (blk_cell BK2.out 0).trans rfl; have hf2_0 := blk_frozen BK2.out 0; have hz3_0 : w13.cell? ⟨gb3, 0, none⟩ = some (.int .i64 a2_0) := (blk_cell BK3.out 0).trans rfl; have hf3_0 := blk_frozen BK3.out 0; have hz3_1 : w13.cell? ⟨gb3, 1, none⟩ = some (.int .i64 a2_1) := (blk_cell BK3.out 1).trans rfl; have hf3_1 := blk_frozen BK3.out 1; have hz3_2 : w13.cell? ⟨gb3, 2, none⟩ = some (.int .i64 a2_2) := (blk_cell BK3.out 2).trans rfl; have hf3_2 := blk_frozen BK3.out 2) | (go_at_call 41; (refine (impl_ExtOK.calls a0_2 a0_3 _ _ A6.out).mono ?_); rintro e w14 ⟨rfl, hb⟩; have m1_ := am_ (blk_below (g := gb1) (o := .cells #[.slice A0_0 l0_0.length c0_0, .slice A0_1 l0_1.length c0_1, .int .i64 a0_2, .int .i64 a0_3, .int .i64 a0_4, .slice A0_5 l0_5.length c0_5] 47 (0, 0)) qz21_ hb); have m2_ := am_ (blk_below (g := gb2) (o := .cells #[.int .i64 a1] 3 (0, 0)) qz22_ hb); have m3_ := am_ (blk_below (g := gb3) (o := .cells #[.int .i64 a2_0, .int .i64 a2_1, .int .i64 a2_2] 49 (0, 0)) qz23_ hb); clear BK1; have BK1 := m1_; clear m1_; clear BK2; have BK2 := m2_; clear m2_; clear BK3; have BK3 := m3_; clear m3_; have n0_ := am_ (below_step qz4_ hb); clear HB; have HB := n0_; clear n0_; clear hb; have hz1_0 : w14.cell? ⟨gb1, 0, none⟩ = some (.slice A0_0 l0_0.length c0_0) := (blk_cell BK1.out 0).trans rfl; have hf1_0 := blk_frozen BK1.out 0; have hz1_1 : w14.cell? ⟨gb1, 1, none⟩ = some (.slice A0_1 l0_1.length c0_1) := (blk_cell BK1.out 1).trans rfl; have hf1_1 := blk_frozen BK1.out 1; have hz1_2 : w14.cell? ⟨gb1, 2, none⟩ = some (.int .i64 a0_2) := (blk_cell BK1.out 2).trans rfl; have hf1_2 := blk_frozen BK1.out 2; have hz1_3 : w14.cell? ⟨gb1, 3, none⟩ = some (.int .i64 a0_3) := (blk_cell BK1.out 3).trans rfl; have hf1_3 := blk_frozen BK1.out 3; have hz1_4 : w14.cell? ⟨gb1, 4, none⟩ = some (.int .i64 a0_4) := (blk_cell BK1.out 4).trans rfl; have hf1_4 := blk_frozen BK1.out 4; have hz1_5 : w14.cell? ⟨gb1, 5, none⟩ = some (.slice A0_5 l0_5.length c0_5) := (blk_cell BK1.out 5).trans rfl; have hf1_5 := blk_frozen BK1.out 5; have hz2_0 : w14.cell? ⟨gb2, 0, none⟩ = some (.int .i64 a1) := (blk_cell BK2.out 0).trans rfl; have hf2_0 := blk_frozen BK2.out 0; have hz3_0 : w14.cell? ⟨gb3, 0, none⟩ = some (.int .i64 a2_0) := (blk_cell BK3.out 0).trans rfl; have hf3_0 := blk_frozen BK3.out 0; have hz3_1 : w14.cell? ⟨gb3, 1, none⟩ = some (.int .i64 a2_1) := (blk_cell BK3.out 1).trans rfl; have hf3_1 := blk_frozen BK3.out 1; have hz3_2 : w14.cell? ⟨gb3, 2, none⟩ = some (.int .i64 a2_2) := (blk_cell BK3.out 2).trans rfl; have hf3_2 := blk_frozen BK3.out 2) | (go_at_call 36; (with_reducible refine (impl_in.calls a0_4 0 65535 _ _ A7.out).mono ?_); rintro e w' ⟨rfl, ⟨nd, rfl⟩⟩) | (go_at_call 42; (refine (impl_are_Query.calls k gb2 gb3 a1 a2_0 a2_1 a2_2 A0_5 c0_5 l0_5 _ _ qz22_ qz23_ qz26_ HC0_5.out A9.out).mono ?_); rintro e w15 ⟨rfl, hb⟩; have n0_ := am_ (below_step qz4_ hb); clear HB; have HB := n0_; clear n0_; clear hb))
     go_ret
     exact ⟨(by first | rfl | simp), qz4_⟩

end Go.Proofs.Ytcfdefkpheeibaa.PT
end
section
namespace Go.Proofs.Ytcfdefkpheeibaa.PT
open Go.RowKit Go.Proofs.YtcfdefkpheeibaaW.PrintWords Go.Proofs.YtcfdefkpheeibaaW.PrintLast Go.Proofs.YtcfdefkpheeibaaW.PrintMore
attribute [local go_sem] max2_int min2_int max_two min_two max_three min_three max_four min_four   -- for this text's walks alone
set_option linter.unusedVariables false
set_option linter.unusedSimpArgs false

/-! ### laws_eqExt: function 26 -/
def laws_eqExt.f (a0_0 : Int) (a0_1 : Int) (a1_0 : Int) (a1_1 : Int) : Option (Bool) := if a0_0 = a1_0 then (if a0_1 = a1_1 then (some true) else (some false)) else (some false)
set_option maxHeartbeats 8000000 in
set_option maxRecDepth 100000 in
theorem laws_eqExt.calls (a0_0 : Int) (a0_1 : Int) (a1_0 : Int) (a1_1 : Int) (r : Bool) (w : World) (h : laws_eqExt.f a0_0 a0_1 a1_0 a1_1 = some r) :
  Calls Try.prog 26 #[.agg #[.int .i64 a0_0, .int .i64 a0_1], .agg #[.int .i64 a1_0, .int .i64 a1_1]] w fun e w' => e = .returned (.bool r) ∧ Below w.heap.size w w' := by
 have hu44 := Try.underlying44
 have HB := am_ (Below.refl w.heap.size w)
 have H : (if a0_0 = a1_0 then (if a0_1 = a1_1 then (some true) else (some false)) else (some false)) = some r := h
 clear h
 by_cases c3 : a0_0 = a1_0
 ·
  rw [if_pos c3] at H
  have c3b0 : (a0_0 == a1_0) = true := beq_iff_eq.mpr c3
  have c3b1 : (a0_0 != a1_0) = false := bne_eq_false_iff_eq.mpr c3
  clear c3
  by_cases c4 : a0_1 = a1_1
  ·
   rw [if_pos c4] at H
   have c4b0 : (a0_1 == a1_1) = true := beq_iff_eq.mpr c4
   have c4b1 : (a0_1 != a1_1) = false := bne_eq_false_iff_eq.mpr c4
   clear c4
   obtain rfl := Option.some.inj H
   go_enter Try.func26, Try.ntmps26
   go_wp2_with (first | ((with_reducible refine gate_dst (N := 2) rfl ?_); refine box_event ?hg (N := 2) ?hd (cs := #[.int .i64 a0_0, .int .i64 a0_1]) (t := 44) ?hr ?_; (case hd => rfl); (case hg => rfl); (case hr => first | (go_simp; done) | (go_simp; rfl)); intro gb101 hg w5 hbox hb; have n0_ := am_ (below_step qz4_ hb); have n1_ := am_ (hbox); have n2_ := am_ ((by rw [hg]; exact (below_size qz4_) : w.heap.size ≤ gb101)); have n3_ := am_ ((by rw [hg]; exact (below_size qz4_) : w.heap.size ≤ gb101)); clear HB; have HB := n0_; have BK101 := n1_; have GW101 := n2_; have GE101 := n3_; clear n0_ n1_ n2_ n3_; clear hb hbox hg) | ((with_reducible refine gate_dst (N := 3) rfl ?_); refine box_event ?hg (N := 3) ?hd (cs := #[.int .i64 a1_0, .int .i64 a1_1]) (t := 44) ?hr ?_; (case hd => rfl); (case hg => rfl); (case hr => first | (go_simp; done) | (go_simp; rfl)); intro gb102 hg w6 hbox hb; have n0_ := am_ (blk_below (g := gb101) (o := .cells #[.int .i64 a0_0, .int .i64 a0_1] 44 (0, 0)) qz7_ hb); have n1_ := am_ (below_step qz6_ hb); have n2_ := am_ (hbox); have n3_ := am_ ((by rw [hg]; exact (below_size qz6_) : w.heap.size ≤ gb102)); have n4_ := am_ ((by rw [hg]; exact (below_size qz6_) : w.heap.size ≤ gb102)); have n5_ := am_ ((by rw [hg]; exact Nat.ne_of_lt (blk_lt (g := gb101) (o := .cells #[.int .i64 a0_0, .int .i64 a0_1] 44 (0, 0)) qz7_) : gb101 ≠ gb102)); have n6_ := am_ ((by rw [hg]; exact Nat.ne_of_gt (blk_lt (g := gb101) (o := .cells #[.int .i64 a0_0, .int .i64 a0_1] 44 (0, 0)) qz7_) : gb102 ≠ gb101)); clear BK101; clear HB; have BK101 := n0_; have HB := n1_; have BK102 := n2_; have GW102 := n3_; have GE102 := n4_; have NB101_102 := n5_; have NB102_101 := n6_; clear n0_ n1_ n2_ n3_ n4_ n5_ n6_; clear hb hbox hg; have hnb7 := NB101_102.out; have hnc7 := NB102_101.out; have hcz8_0 : w6.cell? ⟨gb101, 0, none⟩ = some (.int .i64 a0_0) := (blk_cell BK101.out 0).trans rfl; have hcz8_1 : w6.cell? ⟨gb101, 1, none⟩ = some (.int .i64 a0_1) := (blk_cell BK101.out 1).trans rfl; have hfz8_0 := blk_frozen BK101.out 0; have hfz8_1 := blk_frozen BK101.out 1; have hcz9_0 : w6.cell? ⟨gb102, 0, none⟩ = some (.int .i64 a1_0) := (blk_cell BK102.out 0).trans rfl; have hcz9_1 : w6.cell? ⟨gb102, 1, none⟩ = some (.int .i64 a1_1) := (blk_cell BK102.out 1).trans rfl; have hfz9_0 := blk_frozen BK102.out 0; have hfz9_1 := blk_frozen BK102.out 1))
   go_ret
   exact ⟨qz5_, qz9_⟩
  ·
   rw [if_neg c4] at H
   have c4b0 : (a0_1 == a1_1) = false := beq_eq_false_iff_ne.mpr c4
   have c4b1 : (a0_1 != a1_1) = true := bne_iff_ne.mpr c4
   obtain rfl := Option.some.inj H
   go_enter Try.func26, Try.ntmps26
   go_wp2_with (first | ((with_reducible refine gate_dst (N := 2) rfl ?_); refine box_event ?hg (N := 2) ?hd (cs := #[.int .i64 a0_0, .int .i64 a0_1]) (t := 44) ?hr ?_; (case hd => rfl); (case hg => rfl); (case hr => first | (go_simp; done) | (go_simp; rfl)); intro gb101 hg w10 hbox hb; have n0_ := am_ (below_step qz4_ hb); have n1_ := am_ (hbox); have n2_ := am_ ((by rw [hg]; exact (below_size qz4_) : w.heap.size ≤ gb101)); have n3_ := am_ ((by rw [hg]; exact (below_size qz4_) : w.heap.size ≤ gb101)); clear HB; have HB := n0_; have BK101 := n1_; have GW101 := n2_; have GE101 := n3_; clear n0_ n1_ n2_ n3_; clear hb hbox hg) | ((with_reducible refine gate_dst (N := 3) rfl ?_); refine box_event ?hg (N := 3) ?hd (cs := #[.int .i64 a1_0, .int .i64 a1_1]) (t := 44) ?hr ?_; (case hd => rfl); (case hg => rfl); (case hr => first | (go_simp; done) | (go_simp; rfl)); intro gb102 hg w11 hbox hb; have n0_ := am_ (blk_below (g := gb101) (o := .cells #[.int .i64 a0_0, .int .i64 a0_1] 44 (0, 0)) qz7_ hb); have n1_ := am_ (below_step qz6_ hb); have n2_ := am_ (hbox); have n3_ := am_ ((by rw [hg]; exact (below_size qz6_) : w.heap.size ≤ gb102)); have n4_ := am_ ((by rw [hg]; exact (below_size qz6_) : w.heap.size ≤ gb102)); have n5_ := am_ ((by rw [hg]; exact Nat.ne_of_lt (blk_lt (g := gb101) (o := .cells #[.int .i64 a0_0, .int .i64 a0_1] 44 (0, 0)) qz7_) : gb101 ≠ gb102)); have n6_ := am_ ((by rw [hg]; exact Nat.ne_of_gt (blk_lt (g := gb101) (o := .cells #[.int .i64 a0_0, .int .i64 a0_1] 44 (0, 0)) qz7_) : gb102 ≠ gb101)); clear BK101; clear HB; have BK101 := n0_; have HB := n1_; have BK102 := n2_; have GW102 := n3_; have GE102 := n4_; have NB101_102 := n5_; have NB102_101 := n6_; clear n0_ n1_ n2_ n3_ n4_ n5_ n6_; clear hb hbox hg; have hnb12 := NB101_102.out; have hnc12 := NB102_101.out; have hcz13_0 : w11.cell? ⟨gb101, 0, none⟩ = some (.int .i64 a0_0) := (blk_cell BK101.out 0).trans rfl; have hcz13_1 : w11.cell? ⟨gb101, 1, none⟩ = some (.int .i64 a0_1) := (blk_cell BK101.out 1).trans rfl; have hfz13_0 := blk_frozen BK101.out 0; have hfz13_1 := blk_frozen BK101.out 1; have hcz14_0 : w11.cell? ⟨gb102, 0, none⟩ = some (.int .i64 a1_0) := (blk_cell BK102.out 0).trans rfl; have hcz14_1 : w11.cell? ⟨gb102, 1, none⟩ = some (.int .i64 a1_1) := (blk_cell BK102.out 1).trans rfl; have hfz14_0 := blk_frozen BK102.out 0; have hfz14_1 := blk_frozen BK102.out 1))
   go_ret
   exact ⟨qz5_, qz9_⟩
 ·
  rw [if_neg c3] at H
  have c3b0 : (a0_0 == a1_0) = false := beq_eq_false_iff_ne.mpr c3
  have c3b1 : (a0_0 != a1_0) = true := bne_iff_ne.mpr c3
  obtain rfl := Option.some.inj H
  go_enter Try.func26, Try.ntmps26
  go_wp2_with (first | ((with_reducible refine gate_dst (N := 2) rfl ?_); refine box_event ?hg (N := 2) ?hd (cs := #[.int .i64 a0_0, .int .i64 a0_1]) (t := 44) ?hr ?_; (case hd => rfl); (case hg => rfl); (case hr => first | (go_simp; done) | (go_simp; rfl)); intro gb101 hg w15 hbox hb; have n0_ := am_ (below_step qz4_ hb); have n1_ := am_ (hbox); have n2_ := am_ ((by rw [hg]; exact (below_size qz4_) : w.heap.size ≤ gb101)); have n3_ := am_ ((by rw [hg]; exact (below_size qz4_) : w.heap.size ≤ gb101)); clear HB; have HB := n0_; have BK101 := n1_; have GW101 := n2_; have GE101 := n3_; clear n0_ n1_ n2_ n3_; clear hb hbox hg) | ((with_reducible refine gate_dst (N := 3) rfl ?_); refine box_event ?hg (N := 3) ?hd (cs := #[.int .i64 a1_0, .int .i64 a1_1]) (t := 44) ?hr ?_; (case hd => rfl); (case hg => rfl); (case hr => first | (go_simp; done) | (go_simp; rfl)); intro gb102 hg w16 hbox hb; have n0_ := am_ (blk_below (g := gb101) (o := .cells #[.int .i64 a0_0, .int .i64 a0_1] 44 (0, 0)) qz7_ hb); have n1_ := am_ (below_step qz6_ hb); have n2_ := am_ (hbox); have n3_ := am_ ((by rw [hg]; exact (below_size qz6_) : w.heap.size ≤ gb102)); have n4_ := am_ ((by rw [hg]; exact (below_size qz6_) : w.heap.size ≤ gb102)); have n5_ := am_ ((by rw [hg]; exact Nat.ne_of_lt (blk_lt (g := gb101) (o := .cells #[.int .i64 a0_0, .int .i64 a0_1] 44 (0, 0)) qz7_) : gb101 ≠ gb102)); have n6_ := am_ ((by rw [hg]; exact Nat.ne_of_gt (blk_lt (g := gb101) (o := .cells #[.int .i64 a0_0, .int .i64 a0_1] 44 (0, 0)) qz7_) : gb102 ≠ gb101)); clear BK101; clear HB; have BK101 := n0_; have HB := n1_; have BK102 := n2_; have GW102 := n3_; have GE102 := n4_; have NB101_102 := n5_; have NB102_101 := n6_; clear n0_ n1_ n2_ n3_ n4_ n5_ n6_; clear hb hbox hg; have hnb17 := NB101_102.out; have hnc17 := NB102_101.out; have hcz18_0 : w16.cell? ⟨gb101, 0, none⟩ = some (.int .i64 a0_0) := (blk_cell BK101.out 0).trans rfl; have hcz18_1 : w16.cell? ⟨gb101, 1, none⟩ = some (.int .i64 a0_1) := (blk_cell BK101.out 1).trans rfl; have hfz18_0 := blk_frozen BK101.out 0; have hfz18_1 := blk_frozen BK101.out 1; have hcz19_0 : w16.cell? ⟨gb102, 0, none⟩ = some (.int .i64 a1_0) := (blk_cell BK102.out 0).trans rfl; have hcz19_1 : w16.cell? ⟨gb102, 1, none⟩ = some (.int .i64 a1_1) := (blk_cell BK102.out 1).trans rfl; have hfz19_0 := blk_frozen BK102.out 0; have hfz19_1 := blk_frozen BK102.out 1))
  go_ret
  exact ⟨qz5_, qz9_⟩


/-! ### laws_eqExtS: function 9 -/
def laws_eqExtS.l0 : Nat → List (S44) → List (S44) → Int → Option (Bool)
 | 0, _, _, _ => none
 | k + 1, x0, x1, x5 => if x5 < (x0.length : Int) then (if 0 ≤ x5 then (if x5 < (x1.length : Int) then ((laws_eqExt.f ((rd_T44 x0 x5).f0) ((rd_T44 x0 x5).f1) ((rd_T44 x1 x5).f0) ((rd_T44 x1 x5).f1)).bind fun t103 => (if t103 = true then (laws_eqExtS.l0 k x0 x1 (wrap64 (x5 + 1))) else (some false))) else (none)) else (none)) else (some true)
def laws_eqExtS.f (k : Nat) (l0 : List (S44)) (l1 : List (S44)) : Option (Bool) := if (l0.length : Int) = (l1.length : Int) then (laws_eqExtS.l0 k l0 l1 0) else (some false)
theorem laws_eqExtS.mono_l : ∀ k, (∀ y0 y1 y2, LeO (laws_eqExtS.l0 k y0 y1 y2) (laws_eqExtS.l0 (k + 1) y0 y1 y2))
 | 0 => fun _ _ _ r h => by simp [laws_eqExtS.l0] at h
 | k + 1 => by
  have ih0 := laws_eqExtS.mono_l k
  ·
   intro y0 y1 y2
   unfold laws_eqExtS.l0
   repeat' first
   | (with_reducible exact ih0 _ _ _)
   | (with_reducible exact LeO.refl _)
   | (with_reducible exact LeO.none _)
   | (with_reducible refine LeO.ite ?_ ?_)
   | (with_reducible refine LeO.bind ?_ (fun _ => ?_))
   | exact ih0 _ _ _
   | exact LeO.none _
   | refine LeO.ite ?_ ?_
   | refine LeO.bind ?_ (fun _ => ?_)
theorem laws_eqExtS.mono : ∀ a0 a1 k, LeO (laws_eqExtS.f k a0 a1) (laws_eqExtS.f (k + 1) a0 a1) := by
 intro a0 a1 k
 have ih0 := laws_eqExtS.mono_l k
 unfold laws_eqExtS.f
 repeat' first
   | (with_reducible exact ih0 _ _ _)
   | (with_reducible exact LeO.refl _)
   | (with_reducible exact LeO.none _)
   | (with_reducible refine LeO.ite ?_ ?_)
   | (with_reducible refine LeO.bind ?_ (fun _ => ?_))
   | exact ih0 _ _ _
   | exact LeO.none _
   | refine LeO.ite ?_ ?_
   | refine LeO.bind ?_ (fun _ => ?_)
def laws_eqExtS.T6 : Bool × List (List Nat × List Nat) := (true, [([], []), ([], []), ([0, 1], [0, 1]), ([2], [2]), ([], []), ([], []), ([4, 5], [4, 5]), ([6], [6]), ([3, 7], [3, 7]), ([8], [8])])
def laws_eqExtS.B6 : List Nat := [0, 0, 3, 7, 0, 0, 48, 112, 255, 511]
theorem laws_eqExtS.tab6 : rtab .any (opsOf Try.f9 6) = laws_eqExtS.T6 := by kernel_rfl
theorem laws_eqExtS.bits6 : waitsOk laws_eqExtS.T6.2 laws_eqExtS.B6 = true := by kernel_rfl
set_option maxHeartbeats 8000000 in
set_option maxRecDepth 100000 in
theorem laws_eqExtS.calls (k : Nat) (A0 : Option Addr) (c0 : Nat) (l0 : List (S44)) (A1 : Option Addr) (c1 : Nat) (l1 : List (S44)) (r : Bool) (w : World) (hr0 : Kd.C k44 w A0 l0.length l0) (hc0 : l0.length ≤ c0) (hr1 : Kd.C k44 w A1 l1.length l1) (hc1 : l1.length ≤ c1) (h : laws_eqExtS.f k l0 l1 = some r) :
  Calls Try.prog 9 #[.slice A0 l0.length c0, .slice A1 l1.length c1] w fun e w' => e = .returned (.bool r) ∧ Below w.heap.size w w' := by
 have hu44 := Try.underlying44
 have HR0 := am_ hr0
 have HC0 := am_ hc0
 clear hr0 hc0
 have HR1 := am_ hr1
 have HC1 := am_ hc1
 clear hr1 hc1
 have HB := am_ (Below.refl w.heap.size w)
 have H : (if (l0.length : Int) = (l1.length : Int) then (laws_eqExtS.l0 k l0 l1 0) else (some false)) = some r := h
 clear h
 by_cases c3 : (l0.length : Int) = (l1.length : Int)
 ·
  rw [if_pos c3] at H
  have c3b0 : ((l0.length : Int) == (l1.length : Int)) = true := beq_iff_eq.mpr c3
  have c3b1 : ((l0.length : Int) != (l1.length : Int)) = false := bne_eq_false_iff_eq.mpr c3
  have c3b2 : (l0.length == l1.length) = true := by first | simpa using c3 | (simp at c3 ⊢; omega)
  clear c3
  have H' := am_ H
  clear H
  go_enter Try.func9, Try.ntmps9
  go_wp2
  go_loopg [5] k (fun kq v5 w' => ∃ (x5_1 : Int), v5 = .int .i64 x5_1 ∧ Aside0 (laws_eqExtS.l0 kq l0 l1 x5_1 = some r) ∧ Aside0 (kq ≤ k) ∧ Aside0 (Below w.heap.size w w'))
  case atStart => exact ⟨(0), qz0_, H', ⟨Nat.le_refl _⟩, ⟨qz4_⟩⟩
  case round =>
   clear H'
   try clear c1
   try clear p2
   try clear c3
   try clear c3b0
   try clear c3b1
   try clear c3b2
   obtain ⟨x5_1, rfl, HA, HK1, HB⟩ := hrel
   cases gk with
   | zero => exact absurd HA.out (by simp [laws_eqExtS.l0])
   | succ k1 =>
    have H := HA.out
    clear HA
    simp only [laws_eqExtS.l0] at H
    by_cases c4 : x5_1 < (l0.length : Int)
    ·
     rw [if_pos c4] at H
     have c4b0 : decide (x5_1 < (l0.length : Int)) = true := decide_eq_true c4
     clear c4
     by_cases c5 : 0 ≤ x5_1
     ·
      rw [if_pos c5] at H
      have c5b0 : decide (0 ≤ x5_1) = true := decide_eq_true c5
      clear c5
      by_cases c6 : x5_1 < (l1.length : Int)
      ·
       rw [if_pos c6] at H
       have c6b0 : decide (x5_1 < (l1.length : Int)) = true := decide_eq_true c6
       clear c6
       replace H := Option.bind_eq_some_iff.mp H
       obtain ⟨t103, A70, H⟩ := H
       replace H : (if t103 = true then (laws_eqExtS.l0 k1 l0 l1 (wrap64 (x5_1 + 1))) else (some false)) = some r := H
       have A7 := am_ A70
       clear A70
       by_cases c8 : t103 = true
       ·
        subst c8
        have H1 : (laws_eqExtS.l0 k1 l0 l1 (wrap64 (x5_1 + 1))) = some r := by rw [if_pos rfl] at H; exact H
        clear H
        have H := H1
        clear H1
        have H' := am_ H
        clear H
        try go_wp2
        have n0_ := am_ (below_drew1 HB.out)
        clear HB
        have HB := n0_
        clear n0_
        have p101 : 0 ≤ (x5_1 : Int) := of_decide_eq_true qz2_
        have q101 : x5_1 < (l0.length : Int) := of_decide_eq_true qz2_
        obtain ⟨ad101, e101, hx101_0, hx101_1⟩ := at_T44 HR0.out x5_1 p101 q101
        have hw101_1 := hx101_1
        have hw101_0 := hx101_0
        cases e101
        replace hx101_0 := (HB.out.cell (World.block_lt_of_cell? w _ hx101_0)).trans hx101_0
        replace hx101_1 := (HB.out.cell (World.block_lt_of_cell? w _ hx101_1)).trans hx101_1
        replace p101 := eq_true p101
        replace q101 := eq_true q101
        have p102 : 0 ≤ (x5_1 : Int) := of_decide_eq_true qz2_
        have q102 : x5_1 < (l1.length : Int) := of_decide_eq_true qz2_
        obtain ⟨ad102, e102, hx102_0, hx102_1⟩ := at_T44 HR1.out x5_1 p102 q102
        have hw102_1 := hx102_1
        have hw102_0 := hx102_0
        cases e102
        replace hx102_0 := (HB.out.cell (World.block_lt_of_cell? w _ hx102_0)).trans hx102_0
        replace hx102_1 := (HB.out.cell (World.block_lt_of_cell? w _ hx102_1)).trans hx102_1
        replace p102 := eq_true p102
        replace q102 := eq_true q102
        refine start_ (n := 10) (S := fun w' => w'.cell? (ad101.add ((x5_1).toNat * 2)) = some (.int .i64 ((rd_T44 l0 x5_1).f0)) ∧ w'.cell? ⟨(ad101.add ((x5_1).toNat * 2)).block, (ad101.add ((x5_1).toNat * 2)).off + 1, none⟩ = some (.int .i64 ((rd_T44 l0 x5_1).f1)) ∧ w'.cell? (ad102.add ((x5_1).toNat * 2)) = some (.int .i64 ((rd_T44 l1 x5_1).f0)) ∧ w'.cell? ⟨(ad102.add ((x5_1).toNat * 2)).block, (ad102.add ((x5_1).toNat * 2)).off + 1, none⟩ = some (.int .i64 ((rd_T44 l1 x5_1).f1))) (ds := []) #[false, false, false, false, false, false, false, false, false, false] (by kernel_rfl) rfl rfl ⟨((HB.out.cell (World.block_lt_of_cell? w _ hw101_0)).trans hw101_0), ((HB.out.cell (World.block_lt_of_cell? w _ hw101_1)).trans hw101_1), ((HB.out.cell (World.block_lt_of_cell? w _ hw102_0)).trans hw102_0), ((HB.out.cell (World.block_lt_of_cell? w _ hw102_1)).trans hw102_1)⟩ (fun hHeld => ?_); refine with_tabW laws_eqExtS.tab6 laws_eqExtS.bits6 (fun HT_ HW_ => ?_)
        generalize wr.drew = w9 at HB hx101_0 hx101_1 hx102_0 hx102_1 hHeld ⊢
        refine pure_ (i := 0) (N := some 17) (v := ?_) (a' := ?_) #[true, false, false, false, false, false, false, false, false, false] rfl rfl (any_of HT_.out (by kernel_rfl)) (fun _ _ _ h => h) (Or.inl ⟨(by rfl), ?_⟩) ?_ ?_
        rotate_left
        ·
         intro w'
         go_simp
         with_reducible rfl
        rotate_left
        ·
         simp only [Act.put, List.setIfInBounds_toArray, List.set_cons_zero, List.set_cons_succ, i64_w, i32_w]
         rfl
        refine pure_ (i := 1) (N := some 18) (v := ?_) (a' := ?_) #[true, true, false, false, false, false, false, false, false, false] rfl rfl (any_of HT_.out (by kernel_rfl)) (fun _ _ _ h => h) (Or.inl ⟨(by rfl), ?_⟩) ?_ ?_
        rotate_left
        ·
         intro w'
         go_simp
         with_reducible rfl
        rotate_left
        ·
         simp only [Act.put, List.setIfInBounds_toArray, List.set_cons_zero, List.set_cons_succ, i64_w, i32_w]
         rfl
        refine pure_ (i := 2) (N := some 19) (v := ?_) (a' := ?_) #[true, true, true, false, false, false, false, false, false, false] rfl rfl (any_of HT_.out (by kernel_rfl)) (fun _ _ _ h => h) (Or.inl ⟨(by rfl), ?_⟩) ?_ ?_
        rotate_left
        ·
         intro w'
         go_simp
         with_reducible rfl
        rotate_left
        ·
         simp only [Act.put, List.setIfInBounds_toArray, List.set_cons_zero, List.set_cons_succ, i64_w, i32_w]
         rfl
        refine pure_ (i := 4) (N := some 21) (v := ?_) (a' := ?_) #[true, true, true, false, true, false, false, false, false, false] rfl rfl (any_of HT_.out (by kernel_rfl)) (fun _ _ _ h => h) (Or.inl ⟨(by rfl), ?_⟩) ?_ ?_
        rotate_left
        ·
         intro w'
         go_simp
         with_reducible rfl
        rotate_left
        ·
         simp only [Act.put, List.setIfInBounds_toArray, List.set_cons_zero, List.set_cons_succ, i64_w, i32_w]
         rfl
        refine pure_ (i := 5) (N := some 22) (v := ?_) (a' := ?_) #[true, true, true, false, true, true, false, false, false, false] rfl rfl (any_of HT_.out (by kernel_rfl)) (fun _ _ _ h => h) (Or.inl ⟨(by rfl), ?_⟩) ?_ ?_
        rotate_left
        ·
         intro w'
         go_simp
         with_reducible rfl
        rotate_left
        ·
         simp only [Act.put, List.setIfInBounds_toArray, List.set_cons_zero, List.set_cons_succ, i64_w, i32_w]
         rfl
        refine pure_ (i := 6) (N := some 23) (v := ?_) (a' := ?_) #[true, true, true, false, true, true, true, false, false, false] rfl rfl (any_of HT_.out (by kernel_rfl)) (fun _ _ _ h => h) (Or.inl ⟨(by rfl), ?_⟩) ?_ ?_
        rotate_left
        ·
         intro w'
         go_simp
         with_reducible rfl
        rotate_left
        ·
         simp only [Act.put, List.setIfInBounds_toArray, List.set_cons_zero, List.set_cons_succ, i64_w, i32_w]
         rfl
        refine take_ (i := 3) (N := some 20) (v := ?_) (a' := ?_) #[true, true, true, true, true, true, true, false, false, false] rfl rfl (take_ofW HT_.out HW_.out (by kernel_rfl)) (fun _ _ _ h => h) (Or.inl ⟨(by rfl), ?_⟩) hHeld ?_ ?_
        rotate_left
        ·
         rintro w' ⟨s0, s1, s2, s3⟩
         go_simp
         with_reducible rfl
        rotate_left
        ·
         simp only [Act.put, List.setIfInBounds_toArray, List.set_cons_zero, List.set_cons_succ, i64_w, i32_w]
         rfl
        refine take_ (i := 7) (N := some 24) (v := ?_) (a' := ?_) #[true, true, true, true, true, true, true, true, false, false] rfl rfl (take_ofW HT_.out HW_.out (by kernel_rfl)) (fun _ _ _ h => h) (Or.inl ⟨(by rfl), ?_⟩) hHeld ?_ ?_
        rotate_left
        ·
         rintro w' ⟨s0, s1, s2, s3⟩
         go_simp
         with_reducible rfl
        rotate_left
        ·
         simp only [Act.put, List.setIfInBounds_toArray, List.set_cons_zero, List.set_cons_succ, i64_w, i32_w]
         rfl
        refine one_ (i := 8) (N := some 25) #[true, true, true, true, true, true, true, true, true, false] rfl rfl (one_of HT_.out (by kernel_rfl)) (by decide) (fun K hK => ?_)
        refine goes_ Try.func26 (by kernel_rfl) rfl #[.agg #[.int .i64 ((rd_T44 l0 x5_1).f0), .int .i64 ((rd_T44 l0 x5_1).f1)], .agg #[.int .i64 ((rd_T44 l1 x5_1).f0), .int .i64 ((rd_T44 l1 x5_1).f1)]] (by rfl) rfl rfl qz3_ ?_
        with_reducible refine (laws_eqExt.calls ((rd_T44 l0 x5_1).f0) ((rd_T44 l0 x5_1).f1) ((rd_T44 l1 x5_1).f0) ((rd_T44 l1 x5_1).f1) true _ A7.out).mono ?_
        rintro e w10 ⟨rfl, hb⟩
        refine ⟨_, rfl, ?_⟩
        have n0_ := am_ (below_step qz4_ hb)
        clear HB
        have HB := n0_
        clear n0_
        (try clear hb)
        (try clear hb2)
        (try clear hk)
        (try clear hi)
        refine hK.out _ _ ⟨((HB.out.cell (World.block_lt_of_cell? w _ hw101_0)).trans hw101_0), ((HB.out.cell (World.block_lt_of_cell? w _ hw101_1)).trans hw101_1), ((HB.out.cell (World.block_lt_of_cell? w _ hw102_0)).trans hw102_0), ((HB.out.cell (World.block_lt_of_cell? w _ hw102_1)).trans hw102_1)⟩ (fun hHeld => ?_)
        clear hK K
        refine norm_ (a' := ?_) ?_ ?_
        rotate_left
        ·
         show Act.put _ (some 25) _ = _
         simp only [Act.put, List.setIfInBounds_toArray, List.set_cons_zero, List.set_cons_succ, i64_w, i32_w]
         rfl
        refine pure_ (i := 9) (N := some 26) (v := ?_) (a' := ?_) #[true, true, true, true, true, true, true, true, true, true] rfl rfl (any_of HT_.out (by kernel_rfl)) (fun _ _ _ h => h) (Or.inl ⟨(by rfl), ?_⟩) ?_ ?_
        rotate_left
        ·
         intro w'
         go_simp
         with_reducible rfl
        rotate_left
        ·
         simp only [Act.put, List.setIfInBounds_toArray, List.set_cons_zero, List.set_cons_succ, i64_w, i32_w]
         rfl
        refine done_ (done_of HT_.out (by kernel_rfl)) ?_
        try go_wp2
        go_roundg k1
        case measure => have := HK1.out; omega
        case rel => exact ⟨(wrap64 (x5_1 + 1)), qz0_, H', ⟨(by have := HK1.out; omega)⟩, ⟨qz4_⟩⟩
       ·
        replace c8 := Bool.eq_false_iff.mpr c8
        subst c8
        have H1 : (some false) = some r := by rw [if_neg (show ¬ (false = true) by decide)] at H; exact H
        clear H
        have H := H1
        clear H1
        obtain rfl := Option.some.inj H
        try go_wp2
        have n0_ := am_ (below_drew1 HB.out)
        clear HB
        have HB := n0_
        clear n0_
        have p101 : 0 ≤ (x5_1 : Int) := of_decide_eq_true qz2_
        have q101 : x5_1 < (l0.length : Int) := of_decide_eq_true qz2_
        obtain ⟨ad101, e101, hx101_0, hx101_1⟩ := at_T44 HR0.out x5_1 p101 q101
        have hw101_1 := hx101_1
        have hw101_0 := hx101_0
        cases e101
        replace hx101_0 := (HB.out.cell (World.block_lt_of_cell? w _ hx101_0)).trans hx101_0
        replace hx101_1 := (HB.out.cell (World.block_lt_of_cell? w _ hx101_1)).trans hx101_1
        replace p101 := eq_true p101
        replace q101 := eq_true q101
        have p102 : 0 ≤ (x5_1 : Int) := of_decide_eq_true qz2_
        have q102 : x5_1 < (l1.length : Int) := of_decide_eq_true qz2_
        obtain ⟨ad102, e102, hx102_0, hx102_1⟩ := at_T44 HR1.out x5_1 p102 q102
        have hw102_1 := hx102_1
        have hw102_0 := hx102_0
        cases e102
        replace hx102_0 := (HB.out.cell (World.block_lt_of_cell? w _ hx102_0)).trans hx102_0
        replace hx102_1 := (HB.out.cell (World.block_lt_of_cell? w _ hx102_1)).trans hx102_1
        replace p102 := eq_true p102
        replace q102 := eq_true q102
        refine start_ (n := 10) (S := fun w' => w'.cell? (ad101.add ((x5_1).toNat * 2)) = some (.int .i64 ((rd_T44 l0 x5_1).f0)) ∧ w'.cell? ⟨(ad101.add ((x5_1).toNat * 2)).block, (ad101.add ((x5_1).toNat * 2)).off + 1, none⟩ = some (.int .i64 ((rd_T44 l0 x5_1).f1)) ∧ w'.cell? (ad102.add ((x5_1).toNat * 2)) = some (.int .i64 ((rd_T44 l1 x5_1).f0)) ∧ w'.cell? ⟨(ad102.add ((x5_1).toNat * 2)).block, (ad102.add ((x5_1).toNat * 2)).off + 1, none⟩ = some (.int .i64 ((rd_T44 l1 x5_1).f1))) (ds := []) #[false, false, false, false, false, false, false, false, false, false] (by kernel_rfl) rfl rfl ⟨((HB.out.cell (World.block_lt_of_cell? w _ hw101_0)).trans hw101_0), ((HB.out.cell (World.block_lt_of_cell? w _ hw101_1)).trans hw101_1), ((HB.out.cell (World.block_lt_of_cell? w _ hw102_0)).trans hw102_0), ((HB.out.cell (World.block_lt_of_cell? w _ hw102_1)).trans hw102_1)⟩ (fun hHeld => ?_); refine with_tabW laws_eqExtS.tab6 laws_eqExtS.bits6 (fun HT_ HW_ => ?_)
        generalize wr.drew = w11 at HB hx101_0 hx101_1 hx102_0 hx102_1 hHeld ⊢
        refine pure_ (i := 0) (N := some 17) (v := ?_) (a' := ?_) #[true, false, false, false, false, false, false, false, false, false] rfl rfl (any_of HT_.out (by kernel_rfl)) (fun _ _ _ h => h) (Or.inl ⟨(by rfl), ?_⟩) ?_ ?_
        rotate_left
        ·
         intro w'
         go_simp
         with_reducible rfl
        rotate_left
        ·
         simp only [Act.put, List.setIfInBounds_toArray, List.set_cons_zero, List.set_cons_succ, i64_w, i32_w]
         rfl
        refine pure_ (i := 1) (N := some 18) (v := ?_) (a' := ?_) #[true, true, false, false, false, false, false, false, false, false] rfl rfl (any_of HT_.out (by kernel_rfl)) (fun _ _ _ h => h) (Or.inl ⟨(by rfl), ?_⟩) ?_ ?_
        rotate_left
        ·
         intro w'
         go_simp
         with_reducible rfl
        rotate_left
        ·
         simp only [Act.put, List.setIfInBounds_toArray, List.set_cons_zero, List.set_cons_succ, i64_w, i32_w]
         rfl
        refine pure_ (i := 2) (N := some 19) (v := ?_) (a' := ?_) #[true, true, true, false, false, false, false, false, false, false] rfl rfl (any_of HT_.out (by kernel_rfl)) (fun _ _ _ h => h) (Or.inl ⟨(by rfl), ?_⟩) ?_ ?_
        rotate_left
        ·
         intro w'
         go_simp
         with_reducible rfl
        rotate_left
        ·
         simp only [Act.put, List.setIfInBounds_toArray, List.set_cons_zero, List.set_cons_succ, i64_w, i32_w]
         rfl
        refine pure_ (i := 4) (N := some 21) (v := ?_) (a' := ?_) #[true, true, true, false, true, false, false, false, false, false] rfl rfl (any_of HT_.out (by kernel_rfl)) (fun _ _ _ h => h) (Or.inl ⟨(by rfl), ?_⟩) ?_ ?_
        rotate_left
        ·
         intro w'
         go_simp
         with_reducible rfl
        rotate_left
        ·
         simp only [Act.put, List.setIfInBounds_toArray, List.set_cons_zero, List.set_cons_succ, i64_w, i32_w]
         rfl
        refine pure_ (i := 5) (N := some 22) (v := ?_) (a' := ?_) #[true, true, true, false, true, true, false, false, false, false] rfl rfl (any_of HT_.out (by kernel_rfl)) (fun _ _ _ h => h) (Or.inl ⟨(by rfl), ?_⟩) ?_ ?_
        rotate_left
        ·
         intro w'
         go_simp
         with_reducible rfl
        rotate_left
        ·
         simp only [Act.put, List.setIfInBounds_toArray, List.set_cons_zero, List.set_cons_succ, i64_w, i32_w]
         rfl
        refine pure_ (i := 6) (N := some 23) (v := ?_) (a' := ?_) #[true, true, true, false, true, true, true, false, false, false] rfl rfl (any_of HT_.out (by kernel_rfl)) (fun _ _ _ h => h) (Or.inl ⟨(by rfl), ?_⟩) ?_ ?_
        rotate_left
        ·
         intro w'
         go_simp
         with_reducible rfl
        rotate_left
        ·
         simp only [Act.put, List.setIfInBounds_toArray, List.set_cons_zero, List.set_cons_succ, i64_w, i32_w]
         rfl
        refine take_ (i := 3) (N := some 20) (v := ?_) (a' := ?_) #[true, true, true, true, true, true, true, false, false, false] rfl rfl (take_ofW HT_.out HW_.out (by kernel_rfl)) (fun _ _ _ h => h) (Or.inl ⟨(by rfl), ?_⟩) hHeld ?_ ?_
        rotate_left
        ·
         rintro w' ⟨s0, s1, s2, s3⟩
         go_simp
         with_reducible rfl
        rotate_left
        ·
         simp only [Act.put, List.setIfInBounds_toArray, List.set_cons_zero, List.set_cons_succ, i64_w, i32_w]
         rfl
        refine take_ (i := 7) (N := some 24) (v := ?_) (a' := ?_) #[true, true, true, true, true, true, true, true, false, false] rfl rfl (take_ofW HT_.out HW_.out (by kernel_rfl)) (fun _ _ _ h => h) (Or.inl ⟨(by rfl), ?_⟩) hHeld ?_ ?_
        rotate_left
        ·
         rintro w' ⟨s0, s1, s2, s3⟩
         go_simp
         with_reducible rfl
        rotate_left
        ·
         simp only [Act.put, List.setIfInBounds_toArray, List.set_cons_zero, List.set_cons_succ, i64_w, i32_w]
         rfl
        refine one_ (i := 8) (N := some 25) #[true, true, true, true, true, true, true, true, true, false] rfl rfl (one_of HT_.out (by kernel_rfl)) (by decide) (fun K hK => ?_)
        refine goes_ Try.func26 (by kernel_rfl) rfl #[.agg #[.int .i64 ((rd_T44 l0 x5_1).f0), .int .i64 ((rd_T44 l0 x5_1).f1)], .agg #[.int .i64 ((rd_T44 l1 x5_1).f0), .int .i64 ((rd_T44 l1 x5_1).f1)]] (by rfl) rfl rfl qz3_ ?_
        with_reducible refine (laws_eqExt.calls ((rd_T44 l0 x5_1).f0) ((rd_T44 l0 x5_1).f1) ((rd_T44 l1 x5_1).f0) ((rd_T44 l1 x5_1).f1) false _ A7.out).mono ?_
        rintro e w12 ⟨rfl, hb⟩
        refine ⟨_, rfl, ?_⟩
        have n0_ := am_ (below_step qz4_ hb)
        clear HB
        have HB := n0_
        clear n0_
        (try clear hb)
        (try clear hb2)
        (try clear hk)
        (try clear hi)
        refine hK.out _ _ ⟨((HB.out.cell (World.block_lt_of_cell? w _ hw101_0)).trans hw101_0), ((HB.out.cell (World.block_lt_of_cell? w _ hw101_1)).trans hw101_1), ((HB.out.cell (World.block_lt_of_cell? w _ hw102_0)).trans hw102_0), ((HB.out.cell (World.block_lt_of_cell? w _ hw102_1)).trans hw102_1)⟩ (fun hHeld => ?_)
        clear hK K
        refine norm_ (a' := ?_) ?_ ?_
        rotate_left
        ·
         show Act.put _ (some 25) _ = _
         simp only [Act.put, List.setIfInBounds_toArray, List.set_cons_zero, List.set_cons_succ, i64_w, i32_w]
         rfl
        refine pure_ (i := 9) (N := some 26) (v := ?_) (a' := ?_) #[true, true, true, true, true, true, true, true, true, true] rfl rfl (any_of HT_.out (by kernel_rfl)) (fun _ _ _ h => h) (Or.inl ⟨(by rfl), ?_⟩) ?_ ?_
        rotate_left
        ·
         intro w'
         go_simp
         with_reducible rfl
        rotate_left
        ·
         simp only [Act.put, List.setIfInBounds_toArray, List.set_cons_zero, List.set_cons_succ, i64_w, i32_w]
         rfl
        refine done_ (done_of HT_.out (by kernel_rfl)) ?_
        try go_wp2
        go_ret
        exact ⟨qz5_, qz4_⟩
      ·
       rw [if_neg c6] at H
       exact absurd H (by simp)
     ·
      rw [if_neg c5] at H
      exact absurd H (by simp)
    ·
     rw [if_neg c4] at H
     have c4b0 : decide (x5_1 < (l0.length : Int)) = false := decide_eq_false c4
     clear c4
     obtain rfl := Option.some.inj H
     go_wp2
     go_ret
     exact ⟨qz5_, qz4_⟩
 ·
  rw [if_neg c3] at H
  have c3b0 : ((l0.length : Int) == (l1.length : Int)) = false := beq_eq_false_iff_ne.mpr c3
  have c3b1 : ((l0.length : Int) != (l1.length : Int)) = true := bne_iff_ne.mpr c3
  have c3b2 : (l0.length == l1.length) = false := by first | simpa using c3 | (simp at c3 ⊢; omega)
  obtain rfl := Option.some.inj H
  go_enter Try.func9, Try.ntmps9
  go_wp2
  go_ret
  exact ⟨qz5_, qz4_⟩


/-! ### laws_eqExtSS: function 10 -/
def laws_eqExtSS.l0 : Nat → List (List (S44)) → List (List (S44)) → Int → Option (Bool)
 | 0, _, _, _ => none
 | k + 1, x0, x1, x5 => if x5 < (x0.length : Int) then (if 0 ≤ x5 then (if x5 < (x1.length : Int) then ((laws_eqExtS.f k (rd_L4 x0 x5) (rd_L4 x1 x5)).bind fun t103 => (if t103 = true then (laws_eqExtSS.l0 k x0 x1 (wrap64 (x5 + 1))) else (some false))) else (none)) else (none)) else (some true)
def laws_eqExtSS.f (k : Nat) (l0 : List (List (S44))) (l1 : List (List (S44))) : Option (Bool) := if (l0.length : Int) = (l1.length : Int) then (laws_eqExtSS.l0 k l0 l1 0) else (some false)
theorem laws_eqExtSS.mono_l : ∀ k, (∀ y0 y1 y2, LeO (laws_eqExtSS.l0 k y0 y1 y2) (laws_eqExtSS.l0 (k + 1) y0 y1 y2))
 | 0 => fun _ _ _ r h => by simp [laws_eqExtSS.l0] at h
 | k + 1 => by
  have ih0 := laws_eqExtSS.mono_l k
  ·
   intro y0 y1 y2
   unfold laws_eqExtSS.l0
   repeat' first
   | (with_reducible exact ih0 _ _ _)
   | (with_reducible exact laws_eqExtS.mono _ _ _)
   | (with_reducible exact LeO.refl _)
   | (with_reducible exact LeO.none _)
   | (with_reducible refine LeO.ite ?_ ?_)
   | (with_reducible refine LeO.bind ?_ (fun _ => ?_))
   | exact ih0 _ _ _
   | exact laws_eqExtS.mono _ _ _
   | exact LeO.none _
   | refine LeO.ite ?_ ?_
   | refine LeO.bind ?_ (fun _ => ?_)
theorem laws_eqExtSS.mono : ∀ a0 a1 k, LeO (laws_eqExtSS.f k a0 a1) (laws_eqExtSS.f (k + 1) a0 a1) := by
 intro a0 a1 k
 have ih0 := laws_eqExtSS.mono_l k
 unfold laws_eqExtSS.f
 repeat' first
   | (with_reducible exact ih0 _ _ _)
   | (with_reducible exact laws_eqExtS.mono _ _ _)
   | (with_reducible exact LeO.refl _)
   | (with_reducible exact LeO.none _)
   | (with_reducible refine LeO.ite ?_ ?_)
   | (with_reducible refine LeO.bind ?_ (fun _ => ?_))
   | exact ih0 _ _ _
   | exact laws_eqExtS.mono _ _ _
   | exact LeO.none _
   | refine LeO.ite ?_ ?_
   | refine LeO.bind ?_ (fun _ => ?_)
def laws_eqExtSS.T6 : Bool × List (List Nat × List Nat) := (true, [([], []), ([], []), ([0, 1], [0, 1]), ([2], [2]), ([], []), ([], []), ([4, 5], [4, 5]), ([6], [6]), ([3, 7], [3, 7]), ([8], [8])])
def laws_eqExtSS.B6 : List Nat := [0, 0, 3, 7, 0, 0, 48, 112, 255, 511]
theorem laws_eqExtSS.tab6 : rtab .any (opsOf Try.f10 6) = laws_eqExtSS.T6 := by kernel_rfl
theorem laws_eqExtSS.bits6 : waitsOk laws_eqExtSS.T6.2 laws_eqExtSS.B6 = true := by kernel_rfl
set_option maxHeartbeats 8000000 in
set_option maxRecDepth 100000 in
theorem laws_eqExtSS.calls (k : Nat) (A0 : Option Addr) (c0 : Nat) (l0 : List (List (S44))) (A1 : Option Addr) (c1 : Nat) (l1 : List (List (S44))) (r : Bool) (w : World) (hr0 : Kd.C (Kd.slice 44 k44) w A0 l0.length l0) (hc0 : l0.length ≤ c0) (hr1 : Kd.C (Kd.slice 44 k44) w A1 l1.length l1) (hc1 : l1.length ≤ c1) (h : laws_eqExtSS.f k l0 l1 = some r) :
  Calls Try.prog 10 #[.slice A0 l0.length c0, .slice A1 l1.length c1] w fun e w' => e = .returned (.bool r) ∧ Below w.heap.size w w' := by
 have HR0 := am_ hr0
 have HC0 := am_ hc0
 clear hr0 hc0
 have HR1 := am_ hr1
 have HC1 := am_ hc1
 clear hr1 hc1
 have HB := am_ (Below.refl w.heap.size w)
 have H : (if (l0.length : Int) = (l1.length : Int) then (laws_eqExtSS.l0 k l0 l1 0) else (some false)) = some r := h
 clear h
 by_cases c3 : (l0.length : Int) = (l1.length : Int)
 ·
  rw [if_pos c3] at H
  have c3b0 : ((l0.length : Int) == (l1.length : Int)) = true := beq_iff_eq.mpr c3
  have c3b1 : ((l0.length : Int) != (l1.length : Int)) = false := bne_eq_false_iff_eq.mpr c3
  have c3b2 : (l0.length == l1.length) = true := by first | simpa using c3 | (simp at c3 ⊢; omega)
  clear c3
  have H' := am_ H
  clear H
  go_enter Try.func10, Try.ntmps10
  go_wp2
  go_loopg [5] k (fun kq v5 w' => ∃ (x5_1 : Int), v5 = .int .i64 x5_1 ∧ Aside0 (laws_eqExtSS.l0 kq l0 l1 x5_1 = some r) ∧ Aside0 (kq ≤ k) ∧ Aside0 (Below w.heap.size w w'))
  case atStart => exact ⟨(0), qz0_, H', ⟨Nat.le_refl _⟩, ⟨qz4_⟩⟩
  case round =>
   clear H'
   try clear c1
   try clear p2
   try clear c3
   try clear c3b0
   try clear c3b1
   try clear c3b2
   obtain ⟨x5_1, rfl, HA, HK1, HB⟩ := hrel
   cases gk with
   | zero => exact absurd HA.out (by simp [laws_eqExtSS.l0])
   | succ k1 =>
    have H := HA.out
    clear HA
    simp only [laws_eqExtSS.l0] at H
    by_cases c4 : x5_1 < (l0.length : Int)
    ·
     rw [if_pos c4] at H
     have c4b0 : decide (x5_1 < (l0.length : Int)) = true := decide_eq_true c4
     clear c4
     by_cases c5 : 0 ≤ x5_1
     ·
      rw [if_pos c5] at H
      have c5b0 : decide (0 ≤ x5_1) = true := decide_eq_true c5
      clear c5
      by_cases c6 : x5_1 < (l1.length : Int)
      ·
       rw [if_pos c6] at H
       have c6b0 : decide (x5_1 < (l1.length : Int)) = true := decide_eq_true c6
       clear c6
       replace H := Option.bind_eq_some_iff.mp H
       obtain ⟨t103, A70, H⟩ := H
       replace H : (if t103 = true then (laws_eqExtSS.l0 k1 l0 l1 (wrap64 (x5_1 + 1))) else (some false)) = some r := H
       have A7 := am_ A70
       clear A70
       by_cases c8 : t103 = true
       ·
        subst c8
        have H1 : (laws_eqExtSS.l0 k1 l0 l1 (wrap64 (x5_1 + 1))) = some r := by rw [if_pos rfl] at H; exact H
        clear H
        have H := H1
        clear H1
        have H' := am_ H
        clear H
        try go_wp2
        have n0_ := am_ (below_drew1 HB.out)
        clear HB
        have HB := n0_
        clear n0_
        have p101 : 0 ≤ (x5_1 : Int) := of_decide_eq_true qz2_
        have q101 : x5_1 < (l0.length : Int) := of_decide_eq_true qz2_
        obtain ⟨ad101, A101_0, c101_0, e101, hx101_0, hl101_0, hi101_0⟩ := at_L4 HR0.out x5_1 p101 q101
        have hw101_0 := hx101_0
        cases e101
        replace hx101_0 := (HB.out.cell (World.block_lt_of_cell? w _ hx101_0)).trans hx101_0
        have HR101_0 := am_ hi101_0
        have HC101_0 := am_ hl101_0
        clear hi101_0 hl101_0
        replace p101 := eq_true p101
        replace q101 := eq_true q101
        have p102 : 0 ≤ (x5_1 : Int) := of_decide_eq_true qz2_
        have q102 : x5_1 < (l1.length : Int) := of_decide_eq_true qz2_
        obtain ⟨ad102, A102_0, c102_0, e102, hx102_0, hl102_0, hi102_0⟩ := at_L4 HR1.out x5_1 p102 q102
        have hw102_0 := hx102_0
        cases e102
        replace hx102_0 := (HB.out.cell (World.block_lt_of_cell? w _ hx102_0)).trans hx102_0
        have HR102_0 := am_ hi102_0
        have HC102_0 := am_ hl102_0
        clear hi102_0 hl102_0
        replace p102 := eq_true p102
        replace q102 := eq_true q102
        refine start_ (n := 10) (S := fun w' => w'.cell? (ad101.add (x5_1).toNat) = some (.slice A101_0 (rd_L4 l0 x5_1).length c101_0) ∧ w'.cell? (ad102.add (x5_1).toNat) = some (.slice A102_0 (rd_L4 l1 x5_1).length c102_0)) (ds := []) #[false, false, false, false, false, false, false, false, false, false] (by kernel_rfl) rfl rfl ⟨((HB.out.cell (World.block_lt_of_cell? w _ hw101_0)).trans hw101_0), ((HB.out.cell (World.block_lt_of_cell? w _ hw102_0)).trans hw102_0)⟩ (fun hHeld => ?_); refine with_tabW laws_eqExtSS.tab6 laws_eqExtSS.bits6 (fun HT_ HW_ => ?_)
        generalize wr.drew = w9 at HB HR101_0 HR102_0 hx101_0 hx102_0 hHeld ⊢
        refine pure_ (i := 0) (N := some 17) (v := ?_) (a' := ?_) #[true, false, false, false, false, false, false, false, false, false] rfl rfl (any_of HT_.out (by kernel_rfl)) (fun _ _ _ h => h) (Or.inl ⟨(by rfl), ?_⟩) ?_ ?_
        rotate_left
        ·
         intro w'
         go_simp
         with_reducible rfl
        rotate_left
        ·
         simp only [Act.put, List.setIfInBounds_toArray, List.set_cons_zero, List.set_cons_succ, i64_w, i32_w]
         rfl
        refine pure_ (i := 1) (N := some 18) (v := ?_) (a' := ?_) #[true, true, false, false, false, false, false, false, false, false] rfl rfl (any_of HT_.out (by kernel_rfl)) (fun _ _ _ h => h) (Or.inl ⟨(by rfl), ?_⟩) ?_ ?_
        rotate_left
        ·
         intro w'
         go_simp
         with_reducible rfl
        rotate_left
        ·
         simp only [Act.put, List.setIfInBounds_toArray, List.set_cons_zero, List.set_cons_succ, i64_w, i32_w]
         rfl
        refine pure_ (i := 2) (N := some 19) (v := ?_) (a' := ?_) #[true, true, true, false, false, false, false, false, false, false] rfl rfl (any_of HT_.out (by kernel_rfl)) (fun _ _ _ h => h) (Or.inl ⟨(by rfl), ?_⟩) ?_ ?_
        rotate_left
        ·
         intro w'
         go_simp
         with_reducible rfl
        rotate_left
        ·
         simp only [Act.put, List.setIfInBounds_toArray, List.set_cons_zero, List.set_cons_succ, i64_w, i32_w]
         rfl
        refine pure_ (i := 4) (N := some 21) (v := ?_) (a' := ?_) #[true, true, true, false, true, false, false, false, false, false] rfl rfl (any_of HT_.out (by kernel_rfl)) (fun _ _ _ h => h) (Or.inl ⟨(by rfl), ?_⟩) ?_ ?_
        rotate_left
        ·
         intro w'
         go_simp
         with_reducible rfl
        rotate_left
        ·
         simp only [Act.put, List.setIfInBounds_toArray, List.set_cons_zero, List.set_cons_succ, i64_w, i32_w]
         rfl
        refine pure_ (i := 5) (N := some 22) (v := ?_) (a' := ?_) #[true, true, true, false, true, true, false, false, false, false] rfl rfl (any_of HT_.out (by kernel_rfl)) (fun _ _ _ h => h) (Or.inl ⟨(by rfl), ?_⟩) ?_ ?_
        rotate_left
        ·
         intro w'
         go_simp
         with_reducible rfl
        rotate_left
        ·
         simp only [Act.put, List.setIfInBounds_toArray, List.set_cons_zero, List.set_cons_succ, i64_w, i32_w]
         rfl
        refine pure_ (i := 6) (N := some 23) (v := ?_) (a' := ?_) #[true, true, true, false, true, true, true, false, false, false] rfl rfl (any_of HT_.out (by kernel_rfl)) (fun _ _ _ h => h) (Or.inl ⟨(by rfl), ?_⟩) ?_ ?_
        rotate_left
        ·
         intro w'
         go_simp
         with_reducible rfl
        rotate_left
        ·
         simp only [Act.put, List.setIfInBounds_toArray, List.set_cons_zero, List.set_cons_succ, i64_w, i32_w]
         rfl
        refine take_ (i := 3) (N := some 20) (v := ?_) (a' := ?_) #[true, true, true, true, true, true, true, false, false, false] rfl rfl (take_ofW HT_.out HW_.out (by kernel_rfl)) (fun _ _ _ h => h) (Or.inl ⟨(by rfl), ?_⟩) hHeld ?_ ?_
        rotate_left
        ·
         rintro w' ⟨s0, s1⟩
         go_simp
         with_reducible rfl
        rotate_left
        ·
         simp only [Act.put, List.setIfInBounds_toArray, List.set_cons_zero, List.set_cons_succ, i64_w, i32_w]
         rfl
        refine take_ (i := 7) (N := some 24) (v := ?_) (a' := ?_) #[true, true, true, true, true, true, true, true, false, false] rfl rfl (take_ofW HT_.out HW_.out (by kernel_rfl)) (fun _ _ _ h => h) (Or.inl ⟨(by rfl), ?_⟩) hHeld ?_ ?_
        rotate_left
        ·
         rintro w' ⟨s0, s1⟩
         go_simp
         with_reducible rfl
        rotate_left
        ·
         simp only [Act.put, List.setIfInBounds_toArray, List.set_cons_zero, List.set_cons_succ, i64_w, i32_w]
         rfl
        refine one_ (i := 8) (N := some 25) #[true, true, true, true, true, true, true, true, true, false] rfl rfl (one_of HT_.out (by kernel_rfl)) (by decide) (fun K hK => ?_)
        refine goes_ Try.func9 (by kernel_rfl) rfl #[.slice A101_0 (rd_L4 l0 x5_1).length c101_0, .slice A102_0 (rd_L4 l1 x5_1).length c102_0] (by rfl) rfl rfl qz3_ ?_
        with_reducible refine (laws_eqExtS.calls k1 _ _ (rd_L4 l0 x5_1) _ _ (rd_L4 l1 x5_1) true _ ?side1 ?side2 ?side3 ?side4 A7.out).mono ?_
        (case side1 => exact qc_ (Kd.C_below HR101_0.out HB.out))
        (case side2 => exact HC101_0.out)
        (case side3 => exact qc_ (Kd.C_below HR102_0.out HB.out))
        (case side4 => exact HC102_0.out)
        rintro e w10 ⟨rfl, hb⟩
        refine ⟨_, rfl, ?_⟩
        have n0_ := am_ (below_step qz4_ hb)
        clear HB
        have HB := n0_
        clear n0_
        (try clear hb)
        (try clear hb2)
        (try clear hk)
        (try clear hi)
        refine hK.out _ _ ⟨((HB.out.cell (World.block_lt_of_cell? w _ hw101_0)).trans hw101_0), ((HB.out.cell (World.block_lt_of_cell? w _ hw102_0)).trans hw102_0)⟩ (fun hHeld => ?_)
        clear hK K
        refine norm_ (a' := ?_) ?_ ?_
        rotate_left
        ·
         show Act.put _ (some 25) _ = _
         simp only [Act.put, List.setIfInBounds_toArray, List.set_cons_zero, List.set_cons_succ, i64_w, i32_w]
         rfl
        refine pure_ (i := 9) (N := some 26) (v := ?_) (a' := ?_) #[true, true, true, true, true, true, true, true, true, true] rfl rfl (any_of HT_.out (by kernel_rfl)) (fun _ _ _ h => h) (Or.inl ⟨(by rfl), ?_⟩) ?_ ?_
        rotate_left
        ·
         intro w'
         go_simp
         with_reducible rfl
        rotate_left
        ·
         simp only [Act.put, List.setIfInBounds_toArray, List.set_cons_zero, List.set_cons_succ, i64_w, i32_w]
         rfl
        refine done_ (done_of HT_.out (by kernel_rfl)) ?_
        try go_wp2
        go_roundg k1
        case measure => have := HK1.out; omega
        case rel => exact ⟨(wrap64 (x5_1 + 1)), qz0_, H', ⟨(by have := HK1.out; omega)⟩, ⟨qz4_⟩⟩
       ·
        replace c8 := Bool.eq_false_iff.mpr c8
        subst c8
        have H1 : (some false) = some r := by rw [if_neg (show ¬ (false = true) by decide)] at H; exact H
        clear H
        have H := H1
        clear H1
        obtain rfl := Option.some.inj H
        try go_wp2
        have n0_ := am_ (below_drew1 HB.out)
        clear HB
        have HB := n0_
        clear n0_
        have p101 : 0 ≤ (x5_1 : Int) := of_decide_eq_true qz2_
        have q101 : x5_1 < (l0.length : Int) := of_decide_eq_true qz2_
        obtain ⟨ad101, A101_0, c101_0, e101, hx101_0, hl101_0, hi101_0⟩ := at_L4 HR0.out x5_1 p101 q101
        have hw101_0 := hx101_0
        cases e101
        replace hx101_0 := (HB.out.cell (World.block_lt_of_cell? w _ hx101_0)).trans hx101_0
        have HR101_0 := am_ hi101_0
        have HC101_0 := am_ hl101_0
        clear hi101_0 hl101_0
        replace p101 := eq_true p101
        replace q101 := eq_true q101
        have p102 : 0 ≤ (x5_1 : Int) := of_decide_eq_true qz2_
        have q102 : x5_1 < (l1.length : Int) := of_decide_eq_true qz2_
        obtain ⟨ad102, A102_0, c102_0, e102, hx102_0, hl102_0, hi102_0⟩ := at_L4 HR1.out x5_1 p102 q102
        have hw102_0 := hx102_0
        cases e102
        replace hx102_0 := (HB.out.cell (World.block_lt_of_cell? w _ hx102_0)).trans hx102_0
        have HR102_0 := am_ hi102_0
        have HC102_0 := am_ hl102_0
        clear hi102_0 hl102_0
        replace p102 := eq_true p102
        replace q102 := eq_true q102
        refine start_ (n := 10) (S := fun w' => w'.cell? (ad101.add (x5_1).toNat) = some (.slice A101_0 (rd_L4 l0 x5_1).length c101_0) ∧ w'.cell? (ad102.add (x5_1).toNat) = some (.slice A102_0 (rd_L4 l1 x5_1).length c102_0)) (ds := []) #[false, false, false, false, false, false, false, false, false, false] (by kernel_rfl) rfl rfl ⟨((HB.out.cell (World.block_lt_of_cell? w _ hw101_0)).trans hw101_0), ((HB.out.cell (World.block_lt_of_cell? w _ hw102_0)).trans hw102_0)⟩ (fun hHeld => ?_); refine with_tabW laws_eqExtSS.tab6 laws_eqExtSS.bits6 (fun HT_ HW_ => ?_)
        generalize wr.drew = w11 at HB HR101_0 HR102_0 hx101_0 hx102_0 hHeld ⊢
        refine pure_ (i := 0) (N := some 17) (v := ?_) (a' := ?_) #[true, false, false, false, false, false, false, false, false, false] rfl rfl (any_of HT_.out (by kernel_rfl)) (fun _ _ _ h => h) (Or.inl ⟨(by rfl), ?_⟩) ?_ ?_
        rotate_left
        ·
         intro w'
         go_simp
         with_reducible rfl
        rotate_left
        ·
         simp only [Act.put, List.setIfInBounds_toArray, List.set_cons_zero, List.set_cons_succ, i64_w, i32_w]
         rfl
        refine pure_ (i := 1) (N := some 18) (v := ?_) (a' := ?_) #[true, true, false, false, false, false, false, false, false, false] rfl rfl (any_of HT_.out (by kernel_rfl)) (fun _ _ _ h => h) (Or.inl ⟨(by rfl), ?_⟩) ?_ ?_
        rotate_left
        ·
         intro w'
         go_simp
         with_reducible rfl
        rotate_left
        ·
         simp only [Act.put, List.setIfInBounds_toArray, List.set_cons_zero, List.set_cons_succ, i64_w, i32_w]
         rfl
        refine pure_ (i := 2) (N := some 19) (v := ?_) (a' := ?_) #[true, true, true, false, false, false, false, false, false, false] rfl rfl (any_of HT_.out (by kernel_rfl)) (fun _ _ _ h => h) (Or.inl ⟨(by rfl), ?_⟩) ?_ ?_
        rotate_left
        ·
         intro w'
         go_simp
         with_reducible rfl
        rotate_left
        ·
         simp only [Act.put, List.setIfInBounds_toArray, List.set_cons_zero, List.set_cons_succ, i64_w, i32_w]
         rfl
        refine pure_ (i := 4) (N := some 21) (v := ?_) (a' := ?_) #[true, true, true, false, true, false, false, false, false, false] rfl rfl (any_of HT_.out (by kernel_rfl)) (fun _ _ _ h => h) (Or.inl ⟨(by rfl), ?_⟩) ?_ ?_
        rotate_left
        ·
         intro w'
         go_simp
         with_reducible rfl
        rotate_left
        ·
         simp only [Act.put, List.setIfInBounds_toArray, List.set_cons_zero, List.set_cons_succ, i64_w, i32_w]
         rfl
        refine pure_ (i := 5) (N := some 22) (v := ?_) (a' := ?_) #[true, true, true, false, true, true, false, false, false, false] rfl rfl (any_of HT_.out (by kernel_rfl)) (fun _ _ _ h => h) (Or.inl ⟨(by rfl), ?_⟩) ?_ ?_
        rotate_left
        ·
         intro w'
         go_simp
         with_reducible rfl
        rotate_left
        ·
         simp only [Act.put, List.setIfInBounds_toArray, List.set_cons_zero, List.set_cons_succ, i64_w, i32_w]
         rfl
        refine pure_ (i := 6) (N := some 23) (v := ?_) (a' := ?_) #[true, true, true, false, true, true, true, false, false, false] rfl rfl (any_of HT_.out (by kernel_rfl)) (fun _ _ _ h => h) (Or.inl ⟨(by rfl), ?_⟩) ?_ ?_
        rotate_left
        ·
         intro w'
         go_simp
         with_reducible rfl
        rotate_left
        ·
         simp only [Act.put, List.setIfInBounds_toArray, List.set_cons_zero, List.set_cons_succ, i64_w, i32_w]
         rfl
        refine take_ (i := 3) (N := some 20) (v := ?_) (a' := ?_) #[true, true, true, true, true, true, true, false, false, false] rfl rfl (take_ofW HT_.out HW_.out (by kernel_rfl)) (fun _ _ _ h => h) (Or.inl ⟨(by rfl), ?_⟩) hHeld ?_ ?_
        rotate_left
        ·
         rintro w' ⟨s0, s1⟩
         go_simp
         with_reducible rfl
        rotate_left
        ·
         simp only [Act.put, List.setIfInBounds_toArray, List.set_cons_zero, List.set_cons_succ, i64_w, i32_w]
         rfl
        refine take_ (i := 7) (N := some 24) (v := ?_) (a' := ?_) #[true, true, true, true, true, true, true, true, false, false] rfl rfl (take_ofW HT_.out HW_.out (by kernel_rfl)) (fun _ _ _ h => h) (Or.inl ⟨(by rfl), ?_⟩) hHeld ?_ ?_
        rotate_left
        ·
         rintro w' ⟨s0, s1⟩
         go_simp
         with_reducible rfl
        rotate_left
        ·
         simp only [Act.put, List.setIfInBounds_toArray, List.set_cons_zero, List.set_cons_succ, i64_w, i32_w]
         rfl
        refine one_ (i := 8) (N := some 25) #[true, true, true, true, true, true, true, true, true, false] rfl rfl (one_of HT_.out (by kernel_rfl)) (by decide) (fun K hK => ?_)
        refine goes_ Try.func9 (by kernel_rfl) rfl #[.slice A101_0 (rd_L4 l0 x5_1).length c101_0, .slice A102_0 (rd_L4 l1 x5_1).length c102_0] (by rfl) rfl rfl qz3_ ?_
        with_reducible refine (laws_eqExtS.calls k1 _ _ (rd_L4 l0 x5_1) _ _ (rd_L4 l1 x5_1) false _ ?side1 ?side2 ?side3 ?side4 A7.out).mono ?_
        (case side1 => exact qc_ (Kd.C_below HR101_0.out HB.out))
        (case side2 => exact HC101_0.out)
        (case side3 => exact qc_ (Kd.C_below HR102_0.out HB.out))
        (case side4 => exact HC102_0.out)
        rintro e w12 ⟨rfl, hb⟩
        refine ⟨_, rfl, ?_⟩
        have n0_ := am_ (below_step qz4_ hb)
        clear HB
        have HB := n0_
        clear n0_
        (try clear hb)
        (try clear hb2)
        (try clear hk)
        (try clear hi)
        refine hK.out _ _ ⟨((HB.out.cell (World.block_lt_of_cell? w _ hw101_0)).trans hw101_0), ((HB.out.cell (World.block_lt_of_cell? w _ hw102_0)).trans hw102_0)⟩ (fun hHeld => ?_)
        clear hK K
        refine norm_ (a' := ?_) ?_ ?_
        rotate_left
        ·
         show Act.put _ (some 25) _ = _
         simp only [Act.put, List.setIfInBounds_toArray, List.set_cons_zero, List.set_cons_succ, i64_w, i32_w]
         rfl
        refine pure_ (i := 9) (N := some 26) (v := ?_) (a' := ?_) #[true, true, true, true, true, true, true, true, true, true] rfl rfl (any_of HT_.out (by kernel_rfl)) (fun _ _ _ h => h) (Or.inl ⟨(by rfl), ?_⟩) ?_ ?_
        rotate_left
        ·
         intro w'
         go_simp
         with_reducible rfl
        rotate_left
        ·
         simp only [Act.put, List.setIfInBounds_toArray, List.set_cons_zero, List.set_cons_succ, i64_w, i32_w]
         rfl
        refine done_ (done_of HT_.out (by kernel_rfl)) ?_
        try go_wp2
        go_ret
        exact ⟨qz5_, qz4_⟩
      ·
       rw [if_neg c6] at H
       exact absurd H (by simp)
     ·
      rw [if_neg c5] at H
      exact absurd H (by simp)
    ·
     rw [if_neg c4] at H
     have c4b0 : decide (x5_1 < (l0.length : Int)) = false := decide_eq_false c4
     clear c4
     obtain rfl := Option.some.inj H
     go_wp2
     go_ret
     exact ⟨qz5_, qz4_⟩
 ·
  rw [if_neg c3] at H
  have c3b0 : ((l0.length : Int) == (l1.length : Int)) = false := beq_eq_false_iff_ne.mpr c3
  have c3b1 : ((l0.length : Int) != (l1.length : Int)) = true := bne_iff_ne.mpr c3
  have c3b2 : (l0.length == l1.length) = false := by first | simpa using c3 | (simp at c3 ⊢; omega)
  obtain rfl := Option.some.inj H
  go_enter Try.func10, Try.ntmps10
  go_wp2
  go_ret
  exact ⟨qz5_, qz4_⟩


/-! ### laws_eqStringS: function 45 -/
def laws_eqStringS.l0 : Nat → List ByteArray → List ByteArray → Int → Option (Bool)
 | 0, _, _, _ => none
 | k + 1, x0, x1, x5 => if x5 < (x0.length : Int) then (if 0 ≤ x5 then (if x5 < (x1.length : Int) then (if (rdOf ByteArray.empty x0 x5).toList = (rdOf ByteArray.empty x1 x5).toList then (laws_eqStringS.l0 k x0 x1 (wrap64 (x5 + 1))) else (some false)) else (none)) else (none)) else (some true)
def laws_eqStringS.f (k : Nat) (l0 : List ByteArray) (l1 : List ByteArray) : Option (Bool) := if (l0.length : Int) = (l1.length : Int) then (laws_eqStringS.l0 k l0 l1 0) else (some false)
theorem laws_eqStringS.mono_l : ∀ k, (∀ y0 y1 y2, LeO (laws_eqStringS.l0 k y0 y1 y2) (laws_eqStringS.l0 (k + 1) y0 y1 y2))
 | 0 => fun _ _ _ r h => by simp [laws_eqStringS.l0] at h
 | k + 1 => by
  have ih0 := laws_eqStringS.mono_l k
  ·
   intro y0 y1 y2
   unfold laws_eqStringS.l0
   repeat' first
   | (with_reducible exact ih0 _ _ _)
   | (with_reducible exact LeO.refl _)
   | (with_reducible exact LeO.none _)
   | (with_reducible refine LeO.ite ?_ ?_)
   | (with_reducible refine LeO.bind ?_ (fun _ => ?_))
   | exact ih0 _ _ _
   | exact LeO.none _
   | refine LeO.ite ?_ ?_
   | refine LeO.bind ?_ (fun _ => ?_)
theorem laws_eqStringS.mono : ∀ a0 a1 k, LeO (laws_eqStringS.f k a0 a1) (laws_eqStringS.f (k + 1) a0 a1) := by
 intro a0 a1 k
 have ih0 := laws_eqStringS.mono_l k
 unfold laws_eqStringS.f
 repeat' first
   | (with_reducible exact ih0 _ _ _)
   | (with_reducible exact LeO.refl _)
   | (with_reducible exact LeO.none _)
   | (with_reducible refine LeO.ite ?_ ?_)
   | (with_reducible refine LeO.bind ?_ (fun _ => ?_))
   | exact ih0 _ _ _
   | exact LeO.none _
   | refine LeO.ite ?_ ?_
   | refine LeO.bind ?_ (fun _ => ?_)
set_option maxHeartbeats 8000000 in
set_option maxRecDepth 100000 in
theorem laws_eqStringS.calls (k : Nat) (A0 : Option Addr) (c0 : Nat) (l0 : List ByteArray) (A1 : Option Addr) (c1 : Nat) (l1 : List ByteArray) (r : Bool) (w : World) (hr0 : Kd.C Kd.string w A0 l0.length l0) (hc0 : l0.length ≤ c0) (hr1 : Kd.C Kd.string w A1 l1.length l1) (hc1 : l1.length ≤ c1) (h : laws_eqStringS.f k l0 l1 = some r) :
  Calls Try.prog 45 #[.slice A0 l0.length c0, .slice A1 l1.length c1] w fun e w' => e = .returned (.bool r) ∧ Drawn0 w w' := by
 have HR0 := am_ hr0
 have HC0 := am_ hc0
 clear hr0 hc0
 have HR1 := am_ hr1
 have HC1 := am_ hc1
 clear hr1 hc1
 have H : (if (l0.length : Int) = (l1.length : Int) then (laws_eqStringS.l0 k l0 l1 0) else (some false)) = some r := h
 clear h
 by_cases c3 : (l0.length : Int) = (l1.length : Int)
 ·
  rw [if_pos c3] at H
  have c3b0 : ((l0.length : Int) == (l1.length : Int)) = true := beq_iff_eq.mpr c3
  have c3b1 : ((l0.length : Int) != (l1.length : Int)) = false := bne_eq_false_iff_eq.mpr c3
  have c3b2 : (l0.length == l1.length) = true := by first | simpa using c3 | (simp at c3 ⊢; omega)
  clear c3
  have H' := am_ H
  clear H
  go_enter Try.func45, Try.ntmps45
  go_wp2
  repeat (go_quiet (fail); try go_wp2)
  go_loopg [5] k (fun kq v5 w' => ∃ (x5_1 : Int), v5 = .int .i64 x5_1 ∧ Aside0 (laws_eqStringS.l0 kq l0 l1 x5_1 = some r) ∧ Aside0 (kq ≤ k) ∧ Drawn0 w w')
  case atStart => exact ⟨(0), qz0_, H', ⟨Nat.le_refl _⟩, by repeat (first | exact Drawn0.refl _ | apply Drawn0.step)⟩
  case round =>
   clear H'
   try clear c1
   try clear p2
   try clear c3
   try clear c3b0
   try clear c3b1
   try clear c3b2
   obtain ⟨x5_1, rfl, HA, HK1, ⟨m1, rfl⟩⟩ := hrel
   cases gk with
   | zero => exact absurd HA.out (by simp [laws_eqStringS.l0])
   | succ k1 =>
    have H := HA.out
    clear HA
    simp only [laws_eqStringS.l0] at H
    by_cases c4 : x5_1 < (l0.length : Int)
    ·
     rw [if_pos c4] at H
     have c4b0 : decide (x5_1 < (l0.length : Int)) = true := decide_eq_true c4
     clear c4
     by_cases c5 : 0 ≤ x5_1
     ·
      rw [if_pos c5] at H
      have c5b0 : decide (0 ≤ x5_1) = true := decide_eq_true c5
      clear c5
      by_cases c6 : x5_1 < (l1.length : Int)
      ·
       rw [if_pos c6] at H
       have c6b0 : decide (x5_1 < (l1.length : Int)) = true := decide_eq_true c6
       clear c6
       by_cases c7 : (rdOf ByteArray.empty l0 x5_1).toList = (rdOf ByteArray.empty l1 x5_1).toList
       ·
        rw [if_pos c7] at H
        have c7b0 : ((rdOf ByteArray.empty l0 x5_1).toList == (rdOf ByteArray.empty l1 x5_1).toList) = true := beq_iff_eq.mpr c7
        have c7b1 : ((rdOf ByteArray.empty l0 x5_1).toList != (rdOf ByteArray.empty l1 x5_1).toList) = false := bne_eq_false_iff_eq.mpr c7
        clear c7
        have H' := am_ H
        clear H
        have p101 : 0 ≤ (x5_1 : Int) := of_decide_eq_true qz2_
        have q101 : x5_1 < (l0.length : Int) := of_decide_eq_true qz2_
        obtain ⟨ad101, e101, hx101_0⟩ := Kd.at_string HR0.out x5_1 p101 q101
        cases e101
        replace p101 := eq_true p101
        replace q101 := eq_true q101
        have p102 : 0 ≤ (x5_1 : Int) := of_decide_eq_true qz2_
        have q102 : x5_1 < (l1.length : Int) := of_decide_eq_true qz2_
        obtain ⟨ad102, e102, hx102_0⟩ := Kd.at_string HR1.out x5_1 p102 q102
        cases e102
        replace p102 := eq_true p102
        replace q102 := eq_true q102
        go_wp2
        repeat (go_quiet (fail); try go_wp2)
        go_roundg k1
        case measure => have := HK1.out; omega
        case rel => exact ⟨(wrap64 (x5_1 + 1)), qz0_, H', ⟨(by have := HK1.out; omega)⟩, by repeat (first | exact Drawn0.refl _ | apply Drawn0.step)⟩
       ·
        rw [if_neg c7] at H
        have c7b0 : ((rdOf ByteArray.empty l0 x5_1).toList == (rdOf ByteArray.empty l1 x5_1).toList) = false := beq_eq_false_iff_ne.mpr c7
        have c7b1 : ((rdOf ByteArray.empty l0 x5_1).toList != (rdOf ByteArray.empty l1 x5_1).toList) = true := bne_iff_ne.mpr c7
        obtain rfl := Option.some.inj H
        have p101 : 0 ≤ (x5_1 : Int) := of_decide_eq_true qz2_
        have q101 : x5_1 < (l0.length : Int) := of_decide_eq_true qz2_
        obtain ⟨ad101, e101, hx101_0⟩ := Kd.at_string HR0.out x5_1 p101 q101
        cases e101
        replace p101 := eq_true p101
        replace q101 := eq_true q101
        have p102 : 0 ≤ (x5_1 : Int) := of_decide_eq_true qz2_
        have q102 : x5_1 < (l1.length : Int) := of_decide_eq_true qz2_
        obtain ⟨ad102, e102, hx102_0⟩ := Kd.at_string HR1.out x5_1 p102 q102
        cases e102
        replace p102 := eq_true p102
        replace q102 := eq_true q102
        go_wp2
        repeat (go_quiet (fail); try go_wp2)
        go_ret
        exact ⟨qz0_, qz1_⟩
      ·
       rw [if_neg c6] at H
       exact absurd H (by simp)
     ·
      rw [if_neg c5] at H
      exact absurd H (by simp)
    ·
     rw [if_neg c4] at H
     have c4b0 : decide (x5_1 < (l0.length : Int)) = false := decide_eq_false c4
     clear c4
     obtain rfl := Option.some.inj H
     go_wp2
     repeat (go_quiet (fail); try go_wp2)
     go_ret
     exact ⟨qz0_, qz1_⟩
 ·
  rw [if_neg c3] at H
  have c3b0 : ((l0.length : Int) == (l1.length : Int)) = false := beq_eq_false_iff_ne.mpr c3
  have c3b1 : ((l0.length : Int) != (l1.length : Int)) = true := bne_iff_ne.mpr c3
  have c3b2 : (l0.length == l1.length) = false := by first | simpa using c3 | (simp at c3 ⊢; omega)
  obtain rfl := Option.some.inj H
  go_enter Try.func45, Try.ntmps45
  go_wp2
  repeat (go_quiet (fail); try go_wp2)
  go_ret
  exact ⟨qz0_, qz1_⟩


/-! ### laws_eqStringSS: function 86 -/
def laws_eqStringSS.l0 : Nat → List (List ByteArray) → List (List ByteArray) → Int → Option (Bool)
 | 0, _, _, _ => none
 | k + 1, x0, x1, x5 => if x5 < (x0.length : Int) then (if 0 ≤ x5 then (if x5 < (x1.length : Int) then ((laws_eqStringS.f k (rd_L6 x0 x5) (rd_L6 x1 x5)).bind fun t103 => (if t103 = true then (laws_eqStringSS.l0 k x0 x1 (wrap64 (x5 + 1))) else (some false))) else (none)) else (none)) else (some true)
def laws_eqStringSS.f (k : Nat) (l0 : List (List ByteArray)) (l1 : List (List ByteArray)) : Option (Bool) := if (l0.length : Int) = (l1.length : Int) then (laws_eqStringSS.l0 k l0 l1 0) else (some false)
theorem laws_eqStringSS.mono_l : ∀ k, (∀ y0 y1 y2, LeO (laws_eqStringSS.l0 k y0 y1 y2) (laws_eqStringSS.l0 (k + 1) y0 y1 y2))
 | 0 => fun _ _ _ r h => by simp [laws_eqStringSS.l0] at h
 | k + 1 => by
  have ih0 := laws_eqStringSS.mono_l k
  ·
   intro y0 y1 y2
   unfold laws_eqStringSS.l0
   repeat' first
   | (with_reducible exact ih0 _ _ _)
   | (with_reducible exact laws_eqStringS.mono _ _ _)
   | (with_reducible exact LeO.refl _)
   | (with_reducible exact LeO.none _)
   | (with_reducible refine LeO.ite ?_ ?_)
   | (with_reducible refine LeO.bind ?_ (fun _ => ?_))
   | exact ih0 _ _ _
   | exact laws_eqStringS.mono _ _ _
   | exact LeO.none _
   | refine LeO.ite ?_ ?_
   | refine LeO.bind ?_ (fun _ => ?_)
theorem laws_eqStringSS.mono : ∀ a0 a1 k, LeO (laws_eqStringSS.f k a0 a1) (laws_eqStringSS.f (k + 1) a0 a1) := by
 intro a0 a1 k
 have ih0 := laws_eqStringSS.mono_l k
 unfold laws_eqStringSS.f
 repeat' first
   | (with_reducible exact ih0 _ _ _)
   | (with_reducible exact laws_eqStringS.mono _ _ _)
   | (with_reducible exact LeO.refl _)
   | (with_reducible exact LeO.none _)
   | (with_reducible refine LeO.ite ?_ ?_)
   | (with_reducible refine LeO.bind ?_ (fun _ => ?_))
   | exact ih0 _ _ _
   | exact laws_eqStringS.mono _ _ _
   | exact LeO.none _
   | refine LeO.ite ?_ ?_
   | refine LeO.bind ?_ (fun _ => ?_)
set_option maxHeartbeats 8000000 in
set_option maxRecDepth 100000 in
theorem laws_eqStringSS.calls (k : Nat) (A0 : Option Addr) (c0 : Nat) (l0 : List (List ByteArray)) (A1 : Option Addr) (c1 : Nat) (l1 : List (List ByteArray)) (r : Bool) (w : World) (hr0 : Kd.C (Kd.slice 9 Kd.string) w A0 l0.length l0) (hc0 : l0.length ≤ c0) (hr1 : Kd.C (Kd.slice 9 Kd.string) w A1 l1.length l1) (hc1 : l1.length ≤ c1) (h : laws_eqStringSS.f k l0 l1 = some r) :
  Calls Try.prog 86 #[.slice A0 l0.length c0, .slice A1 l1.length c1] w fun e w' => e = .returned (.bool r) ∧ Drawn0 w w' := by
 have HR0 := am_ hr0
 have HC0 := am_ hc0
 clear hr0 hc0
 have HR1 := am_ hr1
 have HC1 := am_ hc1
 clear hr1 hc1
 have H : (if (l0.length : Int) = (l1.length : Int) then (laws_eqStringSS.l0 k l0 l1 0) else (some false)) = some r := h
 clear h
 by_cases c3 : (l0.length : Int) = (l1.length : Int)
 ·
  rw [if_pos c3] at H
  have c3b0 : ((l0.length : Int) == (l1.length : Int)) = true := beq_iff_eq.mpr c3
  have c3b1 : ((l0.length : Int) != (l1.length : Int)) = false := bne_eq_false_iff_eq.mpr c3
  have c3b2 : (l0.length == l1.length) = true := by first | simpa using c3 | (simp at c3 ⊢; omega)
  clear c3
  have H' := am_ H
  clear H
  go_enter Try.func86, Try.ntmps86
  go_wp2
  repeat (go_quiet (fail); try go_wp2)
  go_loopg [5] k (fun kq v5 w' => ∃ (x5_1 : Int), v5 = .int .i64 x5_1 ∧ Aside0 (laws_eqStringSS.l0 kq l0 l1 x5_1 = some r) ∧ Aside0 (kq ≤ k) ∧ Drawn0 w w')
  case atStart => exact ⟨(0), qz0_, H', ⟨Nat.le_refl _⟩, by repeat (first | exact Drawn0.refl _ | apply Drawn0.step)⟩
  case round =>
   clear H'
   try clear c1
   try clear p2
   try clear c3
   try clear c3b0
   try clear c3b1
   try clear c3b2
   obtain ⟨x5_1, rfl, HA, HK1, ⟨m1, rfl⟩⟩ := hrel
   cases gk with
   | zero => exact absurd HA.out (by simp [laws_eqStringSS.l0])
   | succ k1 =>
    have H := HA.out
    clear HA
    simp only [laws_eqStringSS.l0] at H
    by_cases c4 : x5_1 < (l0.length : Int)
    ·
     rw [if_pos c4] at H
     have c4b0 : decide (x5_1 < (l0.length : Int)) = true := decide_eq_true c4
     clear c4
     by_cases c5 : 0 ≤ x5_1
     ·
      rw [if_pos c5] at H
      have c5b0 : decide (0 ≤ x5_1) = true := decide_eq_true c5
      clear c5
      by_cases c6 : x5_1 < (l1.length : Int)
      ·
       rw [if_pos c6] at H
       have c6b0 : decide (x5_1 < (l1.length : Int)) = true := decide_eq_true c6
       clear c6
       replace H := Option.bind_eq_some_iff.mp H
       obtain ⟨t103, A70, H⟩ := H
       replace H : (if t103 = true then (laws_eqStringSS.l0 k1 l0 l1 (wrap64 (x5_1 + 1))) else (some false)) = some r := H
       have A7 := am_ A70
       clear A70
       by_cases c8 : t103 = true
       ·
        subst c8
        have H1 : (laws_eqStringSS.l0 k1 l0 l1 (wrap64 (x5_1 + 1))) = some r := by rw [if_pos rfl] at H; exact H
        clear H
        have H := H1
        clear H1
        have H' := am_ H
        clear H
        have p101 : 0 ≤ (x5_1 : Int) := of_decide_eq_true qz2_
        have q101 : x5_1 < (l0.length : Int) := of_decide_eq_true qz2_
        obtain ⟨ad101, A101_0, c101_0, e101, hx101_0, hl101_0, hi101_0⟩ := at_L6 HR0.out x5_1 p101 q101
        cases e101
        have HR101_0 := am_ hi101_0
        have HC101_0 := am_ hl101_0
        clear hi101_0 hl101_0
        replace p101 := eq_true p101
        replace q101 := eq_true q101
        have p102 : 0 ≤ (x5_1 : Int) := of_decide_eq_true qz2_
        have q102 : x5_1 < (l1.length : Int) := of_decide_eq_true qz2_
        obtain ⟨ad102, A102_0, c102_0, e102, hx102_0, hl102_0, hi102_0⟩ := at_L6 HR1.out x5_1 p102 q102
        cases e102
        have HR102_0 := am_ hi102_0
        have HC102_0 := am_ hl102_0
        clear hi102_0 hl102_0
        replace p102 := eq_true p102
        replace q102 := eq_true q102
        go_wp2_with (first | (go_at_call 45; (with_reducible refine (laws_eqStringS.calls k1 _ _ (rd_L6 l0 x5_1) _ _ (rd_L6 l1 x5_1) true _ ?side1 ?side2 ?side3 ?side4 A7.out).mono ?_); (case side1 => exact qc_ HR101_0.out); (case side2 => exact HC101_0.out); (case side3 => exact qc_ HR102_0.out); (case side4 => exact HC102_0.out); rintro e w' ⟨rfl, ⟨nd, rfl⟩⟩; (try first | exact ⟨rfl, _, qd1_⟩ | exact ⟨rfl, _, qd2_⟩)))
        repeat (go_quiet (first | (go_at_call 45; (with_reducible refine (laws_eqStringS.calls k1 _ _ (rd_L6 l0 x5_1) _ _ (rd_L6 l1 x5_1) true _ ?side1 ?side2 ?side3 ?side4 A7.out).mono ?_); (case side1 => exact qc_ HR101_0.out); (case side2 => exact HC101_0.out); (case side3 => exact qc_ HR102_0.out); (case side4 => exact HC102_0.out); rintro e w' ⟨rfl, ⟨nd, rfl⟩⟩; (try first | exact ⟨rfl, _, qd1_⟩ | exact ⟨rfl, _, qd2_⟩))); try go_wp2_with (first | (go_at_call 45; (with_reducible refine (laws_eqStringS.calls k1 _ _ (rd_L6 l0 x5_1) _ _ (rd_L6 l1 x5_1) true _ ?side1 ?side2 ?side3 ?side4 A7.out).mono ?_); (case side1 => exact qc_ HR101_0.out); (case side2 => exact HC101_0.out); (case side3 => exact qc_ HR102_0.out); (case side4 => exact HC102_0.out); rintro e w' ⟨rfl, ⟨nd, rfl⟩⟩; (try first | exact ⟨rfl, _, qd1_⟩ | exact ⟨rfl, _, qd2_⟩))))
        go_roundg k1
        case measure => have := HK1.out; omega
        case rel => exact ⟨(wrap64 (x5_1 + 1)), qz0_, H', ⟨(by have := HK1.out; omega)⟩, by repeat (first | exact Drawn0.refl _ | apply Drawn0.step)⟩
       ·
        replace c8 := Bool.eq_false_iff.mpr c8
        subst c8
        have H1 : (some false) = some r := by rw [if_neg (show ¬ (false = true) by decide)] at H; exact H
        clear H
        have H := H1
        clear H1
        obtain rfl := Option.some.inj H
        have p101 : 0 ≤ (x5_1 : Int) := of_decide_eq_true qz2_
        have q101 : x5_1 < (l0.length : Int) := of_decide_eq_true qz2_
        obtain ⟨ad101, A101_0, c101_0, e101, hx101_0, hl101_0, hi101_0⟩ := at_L6 HR0.out x5_1 p101 q101
        cases e101
        have HR101_0 := am_ hi101_0
        have HC101_0 := am_ hl101_0
        clear hi101_0 hl101_0
        replace p101 := eq_true p101
        replace q101 := eq_true q101
        have p102 : 0 ≤ (x5_1 : Int) := of_decide_eq_true qz2_
        have q102 : x5_1 < (l1.length : Int) := of_decide_eq_true qz2_
        obtain ⟨ad102, A102_0, c102_0, e102, hx102_0, hl102_0, hi102_0⟩ := at_L6 HR1.out x5_1 p102 q102
        cases e102
        have HR102_0 := am_ hi102_0
        have HC102_0 := am_ hl102_0
        clear hi102_0 hl102_0
        replace p102 := eq_true p102
        replace q102 := eq_true q102
        go_wp2_with (first | (go_at_call 45; (with_reducible refine (laws_eqStringS.calls k1 _ _ (rd_L6 l0 x5_1) _ _ (rd_L6 l1 x5_1) false _ ?side1 ?side2 ?side3 ?side4 A7.out).mono ?_); (case side1 => exact qc_ HR101_0.out); (case side2 => exact HC101_0.out); (case side3 => exact qc_ HR102_0.out); (case side4 => exact HC102_0.out); rintro e w' ⟨rfl, ⟨nd, rfl⟩⟩; (try first | exact ⟨rfl, _, qd1_⟩ | exact ⟨rfl, _, qd2_⟩)))
        repeat (go_quiet (first | (go_at_call 45; (with_reducible refine (laws_eqStringS.calls k1 _ _ (rd_L6 l0 x5_1) _ _ (rd_L6 l1 x5_1) false _ ?side1 ?side2 ?side3 ?side4 A7.out).mono ?_); (case side1 => exact qc_ HR101_0.out); (case side2 => exact HC101_0.out); (case side3 => exact qc_ HR102_0.out); (case side4 => exact HC102_0.out); rintro e w' ⟨rfl, ⟨nd, rfl⟩⟩; (try first | exact ⟨rfl, _, qd1_⟩ | exact ⟨rfl, _, qd2_⟩))); try go_wp2_with (first | (go_at_call 45; (with_reducible refine (laws_eqStringS.calls k1 _ _ (rd_L6 l0 x5_1) _ _ (rd_L6 l1 x5_1) false _ ?side1 ?side2 ?side3 ?side4 A7.out).mono ?_); (case side1 => exact qc_ HR101_0.out); (case side2 => exact HC101_0.out); (case side3 => exact qc_ HR102_0.out); (case side4 => exact HC102_0.out); rintro e w' ⟨rfl, ⟨nd, rfl⟩⟩; (try first | exact ⟨rfl, _, qd1_⟩ | exact ⟨rfl, _, qd2_⟩))))
        go_ret
        exact ⟨qz0_, qz1_⟩
      ·
       rw [if_neg c6] at H
       exact absurd H (by simp)
     ·
      rw [if_neg c5] at H
      exact absurd H (by simp)
    ·
     rw [if_neg c4] at H
     have c4b0 : decide (x5_1 < (l0.length : Int)) = false := decide_eq_false c4
     clear c4
     obtain rfl := Option.some.inj H
     go_wp2
     repeat (go_quiet (fail); try go_wp2)
     go_ret
     exact ⟨qz0_, qz1_⟩
 ·
  rw [if_neg c3] at H
  have c3b0 : ((l0.length : Int) == (l1.length : Int)) = false := beq_eq_false_iff_ne.mpr c3
  have c3b1 : ((l0.length : Int) != (l1.length : Int)) = true := bne_iff_ne.mpr c3
  have c3b2 : (l0.length == l1.length) = false := by first | simpa using c3 | (simp at c3 ⊢; omega)
  obtain rfl := Option.some.inj H
  go_enter Try.func86, Try.ntmps86
  go_wp2
  repeat (go_quiet (fail); try go_wp2)
  go_ret
  exact ⟨qz0_, qz1_⟩


/-! ### laws_eqQuery: function 70 -/
def laws_eqQuery.f (k : Nat) (l0_0 : List (S44)) (l0_1 : List (List ByteArray)) (l1_0 : List (S44)) (l1_1 : List (List ByteArray)) : Option (Bool) := (laws_eqExtS.f k l0_0 l1_0).bind fun t103 => (if t103 = true then ((laws_eqStringSS.f k l0_1 l1_1).bind fun t104 => (if t104 = true then (some true) else (some false))) else (some false))
theorem laws_eqQuery.mono : ∀ a0 a1 a2 a3 k, LeO (laws_eqQuery.f k a0 a1 a2 a3) (laws_eqQuery.f (k + 1) a0 a1 a2 a3) := by
 intro a0 a1 a2 a3 k
 unfold laws_eqQuery.f
 repeat' first
   | (with_reducible exact laws_eqExtS.mono _ _ _)
   | (with_reducible exact laws_eqStringSS.mono _ _ _)
   | (with_reducible exact LeO.refl _)
   | (with_reducible exact LeO.none _)
   | (with_reducible refine LeO.ite ?_ ?_)
   | (with_reducible refine LeO.bind ?_ (fun _ => ?_))
   | exact laws_eqExtS.mono _ _ _
   | exact laws_eqStringSS.mono _ _ _
   | exact LeO.none _
   | refine LeO.ite ?_ ?_
   | refine LeO.bind ?_ (fun _ => ?_)
set_option maxHeartbeats 8000000 in
set_option maxRecDepth 100000 in
theorem laws_eqQuery.calls (k : Nat) (A0_0 : Option Addr) (c0_0 : Nat) (l0_0 : List (S44)) (A0_1 : Option Addr) (c0_1 : Nat) (l0_1 : List (List ByteArray)) (A1_0 : Option Addr) (c1_0 : Nat) (l1_0 : List (S44)) (A1_1 : Option Addr) (c1_1 : Nat) (l1_1 : List (List ByteArray)) (r : Bool) (w : World) (hr0_0 : Kd.C k44 w A0_0 l0_0.length l0_0) (hc0_0 : l0_0.length ≤ c0_0) (hr0_1 : Kd.C (Kd.slice 9 Kd.string) w A0_1 l0_1.length l0_1) (hc0_1 : l0_1.length ≤ c0_1) (hr1_0 : Kd.C k44 w A1_0 l1_0.length l1_0) (hc1_0 : l1_0.length ≤ c1_0) (hr1_1 : Kd.C (Kd.slice 9 Kd.string) w A1_1 l1_1.length l1_1) (hc1_1 : l1_1.length ≤ c1_1) (h : laws_eqQuery.f k l0_0 l0_1 l1_0 l1_1 = some r) :
  Calls Try.prog 70 #[.agg #[.slice A0_0 l0_0.length c0_0, .slice A0_1 l0_1.length c0_1], .agg #[.slice A1_0 l1_0.length c1_0, .slice A1_1 l1_1.length c1_1]] w fun e w' => e = .returned (.bool r) ∧ Below w.heap.size w w' := by
 have hu67 := Try.underlying67
 have HR0_0 := am_ hr0_0
 have HC0_0 := am_ hc0_0
 clear hr0_0 hc0_0
 have HR0_1 := am_ hr0_1
 have HC0_1 := am_ hc0_1
 clear hr0_1 hc0_1
 have HR1_0 := am_ hr1_0
 have HC1_0 := am_ hc1_0
 clear hr1_0 hc1_0
 have HR1_1 := am_ hr1_1
 have HC1_1 := am_ hc1_1
 clear hr1_1 hc1_1
 have HB := am_ (Below.refl w.heap.size w)
 have H : ((laws_eqExtS.f k l0_0 l1_0).bind fun t103 => (if t103 = true then ((laws_eqStringSS.f k l0_1 l1_1).bind fun t104 => (if t104 = true then (some true) else (some false))) else (some false))) = some r := h
 clear h
 replace H := Option.bind_eq_some_iff.mp H
 obtain ⟨t103, A30, H⟩ := H
 replace H : (if t103 = true then ((laws_eqStringSS.f k l0_1 l1_1).bind fun t104 => (if t104 = true then (some true) else (some false))) else (some false)) = some r := H
 have A3 := am_ A30
 clear A30
 by_cases c4 : t103 = true
 ·
  subst c4
  have H1 : ((laws_eqStringSS.f k l0_1 l1_1).bind fun t104 => (if t104 = true then (some true) else (some false))) = some r := by rw [if_pos rfl] at H; exact H
  clear H
  have H := H1
  clear H1
  replace H := Option.bind_eq_some_iff.mp H
  obtain ⟨t104, A50, H⟩ := H
  replace H : (if t104 = true then (some true) else (some false)) = some r := H
  have A5 := am_ A50
  clear A50
  by_cases c6 : t104 = true
  ·
   subst c6
   have H1 : (some true) = some r := by rw [if_pos rfl] at H; exact H
   clear H
   have H := H1
   clear H1
   obtain rfl := Option.some.inj H
   go_enter Try.func70, Try.ntmps70
   go_wp2_with (first | ((with_reducible refine gate_dst (N := 2) rfl ?_); refine box_event ?hg (N := 2) ?hd (cs := #[.slice A0_0 l0_0.length c0_0, .slice A0_1 l0_1.length c0_1]) (t := 67) ?hr ?_; (case hd => rfl); (case hg => rfl); (case hr => first | (go_simp; done) | (go_simp; rfl)); intro gb101 hg w7 hbox hb; have n0_ := am_ (below_step qz4_ hb); have n1_ := am_ (hbox); have n2_ := am_ ((by rw [hg]; exact (below_size qz4_) : w.heap.size ≤ gb101)); have n3_ := am_ ((by rw [hg]; exact (below_size qz4_) : w.heap.size ≤ gb101)); clear HB; have HB := n0_; have BK101 := n1_; have GW101 := n2_; have GE101 := n3_; clear n0_ n1_ n2_ n3_; clear hb hbox hg) | ((with_reducible refine gate_dst (N := 3) rfl ?_); refine box_event ?hg (N := 3) ?hd (cs := #[.slice A1_0 l1_0.length c1_0, .slice A1_1 l1_1.length c1_1]) (t := 67) ?hr ?_; (case hd => rfl); (case hg => rfl); (case hr => first | (go_simp; done) | (go_simp; rfl)); intro gb102 hg w8 hbox hb; have n0_ := am_ (blk_below (g := gb101) (o := .cells #[.slice A0_0 l0_0.length c0_0, .slice A0_1 l0_1.length c0_1] 67 (0, 0)) qz7_ hb); have n1_ := am_ (below_step qz6_ hb); have n2_ := am_ (hbox); have n3_ := am_ ((by rw [hg]; exact (below_size qz6_) : w.heap.size ≤ gb102)); have n4_ := am_ ((by rw [hg]; exact (below_size qz6_) : w.heap.size ≤ gb102)); have n5_ := am_ ((by rw [hg]; exact Nat.ne_of_lt (blk_lt (g := gb101) (o := .cells #[.slice A0_0 l0_0.length c0_0, .slice A0_1 l0_1.length c0_1] 67 (0, 0)) qz7_) : gb101 ≠ gb102)); have n6_ := am_ ((by rw [hg]; exact Nat.ne_of_gt (blk_lt (g := gb101) (o := .cells #[.slice A0_0 l0_0.length c0_0, .slice A0_1 l0_1.length c0_1] 67 (0, 0)) qz7_) : gb102 ≠ gb101)); clear BK101; clear HB; have BK101 := n0_; have HB := n1_; have BK102 := n2_; have GW102 := n3_; have GE102 := n4_; have NB101_102 := n5_; have NB102_101 := n6_; clear n0_ n1_ n2_ n3_ n4_ n5_ n6_; clear hb hbox hg; have hnb9 := NB101_102.out; have hnc9 := NB102_101.out; have hcz10_0 : w8.cell? ⟨gb101, 0, none⟩ = some (.slice A0_0 l0_0.length c0_0) := (blk_cell BK101.out 0).trans rfl; have hcz10_1 : w8.cell? ⟨gb101, 1, none⟩ = some (.slice A0_1 l0_1.length c0_1) := (blk_cell BK101.out 1).trans rfl; have hfz10_0 := blk_frozen BK101.out 0; have hfz10_1 := blk_frozen BK101.out 1; have hcz11_0 : w8.cell? ⟨gb102, 0, none⟩ = some (.slice A1_0 l1_0.length c1_0) := (blk_cell BK102.out 0).trans rfl; have hcz11_1 : w8.cell? ⟨gb102, 1, none⟩ = some (.slice A1_1 l1_1.length c1_1) := (blk_cell BK102.out 1).trans rfl; have hfz11_0 := blk_frozen BK102.out 0; have hfz11_1 := blk_frozen BK102.out 1) | ((with_reducible refine gate_callee (f := 9) rfl ?_); refine goesL_ (some 9) rfl rfl Try.func9 (by kernel_rfl) rfl #[.slice A0_0 l0_0.length c0_0, .slice A1_0 l1_0.length c1_0] rfl qz3_ ?_; (with_reducible refine (laws_eqExtS.calls k _ _ l0_0 _ _ l1_0 true _ ?side1 ?side2 ?side3 ?side4 A3.out).mono ?_); (case side1 => exact qc_ (Kd.C_below HR0_0.out HB.out)); (case side2 => exact HC0_0.out); (case side3 => exact qc_ (Kd.C_below HR1_0.out HB.out)); (case side4 => exact HC1_0.out); rintro e w12 ⟨rfl, hb⟩; refine ⟨_, rfl, ?_⟩; have n0_ := am_ (blk_below (g := gb101) (o := .cells #[.slice A0_0 l0_0.length c0_0, .slice A0_1 l0_1.length c0_1] 67 (0, 0)) qz7_ hb); have n1_ := am_ (blk_below (g := gb102) (o := .cells #[.slice A1_0 l1_0.length c1_0, .slice A1_1 l1_1.length c1_1] 67 (0, 0)) qz8_ hb); have n2_ := am_ (below_step qz9_ hb); clear BK101; clear BK102; clear HB; have BK101 := n0_; have BK102 := n1_; have HB := n2_; clear n0_ n1_ n2_; (try clear hb); (try clear hb2); (try clear hk); (try clear hi); have hcz13_0 : w12.cell? ⟨gb101, 0, none⟩ = some (.slice A0_0 l0_0.length c0_0) := (blk_cell BK101.out 0).trans rfl; have hcz13_1 : w12.cell? ⟨gb101, 1, none⟩ = some (.slice A0_1 l0_1.length c0_1) := (blk_cell BK101.out 1).trans rfl; have hfz13_0 := blk_frozen BK101.out 0; have hfz13_1 := blk_frozen BK101.out 1; have hcz14_0 : w12.cell? ⟨gb102, 0, none⟩ = some (.slice A1_0 l1_0.length c1_0) := (blk_cell BK102.out 0).trans rfl; have hcz14_1 : w12.cell? ⟨gb102, 1, none⟩ = some (.slice A1_1 l1_1.length c1_1) := (blk_cell BK102.out 1).trans rfl; have hfz14_0 := blk_frozen BK102.out 0; have hfz14_1 := blk_frozen BK102.out 1) | ((with_reducible refine gate_callee (f := 86) rfl ?_); refine goesL_ (some 15) rfl rfl Try.func86 (by kernel_rfl) rfl #[.slice A0_1 l0_1.length c0_1, .slice A1_1 l1_1.length c1_1] rfl qz3_ ?_; (with_reducible refine (laws_eqStringSS.calls k _ _ l0_1 _ _ l1_1 true _ ?side1 ?side2 ?side3 ?side4 A5.out).mono ?_); (case side1 => exact qc_ (Kd.C_below HR0_1.out HB.out)); (case side2 => exact HC0_1.out); (case side3 => exact qc_ (Kd.C_below HR1_1.out HB.out)); (case side4 => exact HC1_1.out); rintro e w' ⟨rfl, ⟨nd, rfl⟩⟩; refine ⟨_, rfl, ?_⟩))
   go_ret
   exact ⟨qz5_, qz9_⟩
  ·
   replace c6 := Bool.eq_false_iff.mpr c6
   subst c6
   have H1 : (some false) = some r := by rw [if_neg (show ¬ (false = true) by decide)] at H; exact H
   clear H
   have H := H1
   clear H1
   obtain rfl := Option.some.inj H
   go_enter Try.func70, Try.ntmps70
   go_wp2_with (first | ((with_reducible refine gate_dst (N := 2) rfl ?_); refine box_event ?hg (N := 2) ?hd (cs := #[.slice A0_0 l0_0.length c0_0, .slice A0_1 l0_1.length c0_1]) (t := 67) ?hr ?_; (case hd => rfl); (case hg => rfl); (case hr => first | (go_simp; done) | (go_simp; rfl)); intro gb101 hg w15 hbox hb; have n0_ := am_ (below_step qz4_ hb); have n1_ := am_ (hbox); have n2_ := am_ ((by rw [hg]; exact (below_size qz4_) : w.heap.size ≤ gb101)); have n3_ := am_ ((by rw [hg]; exact (below_size qz4_) : w.heap.size ≤ gb101)); clear HB; have HB := n0_; have BK101 := n1_; have GW101 := n2_; have GE101 := n3_; clear n0_ n1_ n2_ n3_; clear hb hbox hg) | ((with_reducible refine gate_dst (N := 3) rfl ?_); refine box_event ?hg (N := 3) ?hd (cs := #[.slice A1_0 l1_0.length c1_0, .slice A1_1 l1_1.length c1_1]) (t := 67) ?hr ?_; (case hd => rfl); (case hg => rfl); (case hr => first | (go_simp; done) | (go_simp; rfl)); intro gb102 hg w16 hbox hb; have n0_ := am_ (blk_below (g := gb101) (o := .cells #[.slice A0_0 l0_0.length c0_0, .slice A0_1 l0_1.length c0_1] 67 (0, 0)) qz7_ hb); have n1_ := am_ (below_step qz6_ hb); have n2_ := am_ (hbox); have n3_ := am_ ((by rw [hg]; exact (below_size qz6_) : w.heap.size ≤ gb102)); have n4_ := am_ ((by rw [hg]; exact (below_size qz6_) : w.heap.size ≤ gb102)); have n5_ := am_ ((by rw [hg]; exact Nat.ne_of_lt (blk_lt (g := gb101) (o := .cells #[.slice A0_0 l0_0.length c0_0, .slice A0_1 l0_1.length c0_1] 67 (0, 0)) qz7_) : gb101 ≠ gb102)); have n6_ := am_ ((by rw [hg]; exact Nat.ne_of_gt (blk_lt (g := gb101) (o := .cells #[.slice A0_0 l0_0.length c0_0, .slice A0_1 l0_1.length c0_1] 67 (0, 0)) qz7_) : gb102 ≠ gb101)); clear BK101; clear HB; have BK101 := n0_; have HB := n1_; have BK102 := n2_; have GW102 := n3_; have GE102 := n4_; have NB101_102 := n5_; have NB102_101 := n6_; clear n0_ n1_ n2_ n3_ n4_ n5_ n6_; clear hb hbox hg; have hnb17 := NB101_102.out; have hnc17 := NB102_101.out; have hcz18_0 : w16.cell? ⟨gb101, 0, none⟩ = some (.slice A0_0 l0_0.length c0_0) := (blk_cell BK101.out 0).trans rfl; have hcz18_1 : w16.cell? ⟨gb101, 1, none⟩ = some (.slice A0_1 l0_1.length c0_1) := (blk_cell BK101.out 1).trans rfl; have hfz18_0 := blk_frozen BK101.out 0; have hfz18_1 := blk_frozen BK101.out 1; have hcz19_0 : w16.cell? ⟨gb102, 0, none⟩ = some (.slice A1_0 l1_0.length c1_0) := (blk_cell BK102.out 0).trans rfl; have hcz19_1 : w16.cell? ⟨gb102, 1, none⟩ = some (.slice A1_1 l1_1.length c1_1) := (blk_cell BK102.out 1).trans rfl; have hfz19_0 := blk_frozen BK102.out 0; have hfz19_1 := blk_frozen BK102.out 1) | ((with_reducible refine gate_callee (f := 9) rfl ?_); refine goesL_ (some 9) rfl rfl Try.func9 (by kernel_rfl) rfl #[.slice A0_0 l0_0.length c0_0, .slice A1_0 l1_0.length c1_0] rfl qz3_ ?_; (with_reducible refine (laws_eqExtS.calls k _ _ l0_0 _ _ l1_0 true _ ?side1 ?side2 ?side3 ?side4 A3.out).mono ?_); (case side1 => exact qc_ (Kd.C_below HR0_0.out HB.out)); (case side2 => exact HC0_0.out); (case side3 => exact qc_ (Kd.C_below HR1_0.out HB.out)); (case side4 => exact HC1_0.out); rintro e w20 ⟨rfl, hb⟩; refine ⟨_, rfl, ?_⟩; have n0_ := am_ (blk_below (g := gb101) (o := .cells #[.slice A0_0 l0_0.length c0_0, .slice A0_1 l0_1.length c0_1] 67 (0, 0)) qz7_ hb); have n1_ := am_ (blk_below (g := gb102) (o := .cells #[.slice A1_0 l1_0.length c1_0, .slice A1_1 l1_1.length c1_1] 67 (0, 0)) qz8_ hb); have n2_ := am_ (below_step qz9_ hb); clear BK101; clear BK102; clear HB; have BK101 := n0_; have BK102 := n1_; have HB := n2_; clear n0_ n1_ n2_; (try clear hb); (try clear hb2); (try clear hk); (try clear hi); have hcz21_0 : w20.cell? ⟨gb101, 0, none⟩ = some (.slice A0_0 l0_0.length c0_0) := (blk_cell BK101.out 0).trans rfl; have hcz21_1 : w20.cell? ⟨gb101, 1, none⟩ = some (.slice A0_1 l0_1.length c0_1) := (blk_cell BK101.out 1).trans rfl; have hfz21_0 := blk_frozen BK101.out 0; have hfz21_1 := blk_frozen BK101.out 1; have hcz22_0 : w20.cell? ⟨gb102, 0, none⟩ = some (.slice A1_0 l1_0.length c1_0) := (blk_cell BK102.out 0).trans rfl; have hcz22_1 : w20.cell? ⟨gb102, 1, none⟩ = some (.slice A1_1 l1_1.length c1_1) := (blk_cell BK102.out 1).trans rfl; have hfz22_0 := blk_frozen BK102.out 0; have hfz22_1 := blk_frozen BK102.out 1) | ((with_reducible refine gate_callee (f := 86) rfl ?_); refine goesL_ (some 15) rfl rfl Try.func86 (by kernel_rfl) rfl #[.slice A0_1 l0_1.length c0_1, .slice A1_1 l1_1.length c1_1] rfl qz3_ ?_; (with_reducible refine (laws_eqStringSS.calls k _ _ l0_1 _ _ l1_1 false _ ?side1 ?side2 ?side3 ?side4 A5.out).mono ?_); (case side1 => exact qc_ (Kd.C_below HR0_1.out HB.out)); (case side2 => exact HC0_1.out); (case side3 => exact qc_ (Kd.C_below HR1_1.out HB.out)); (case side4 => exact HC1_1.out); rintro e w' ⟨rfl, ⟨nd, rfl⟩⟩; refine ⟨_, rfl, ?_⟩))
   go_ret
   exact ⟨qz5_, qz9_⟩
 ·
  replace c4 := Bool.eq_false_iff.mpr c4
  subst c4
  have H1 : (some false) = some r := by rw [if_neg (show ¬ (false = true) by decide)] at H; exact H
  clear H
  have H := H1
  clear H1
  obtain rfl := Option.some.inj H
  go_enter Try.func70, Try.ntmps70
  go_wp2_with (first | ((with_reducible refine gate_dst (N := 2) rfl ?_); refine box_event ?hg (N := 2) ?hd (cs := #[.slice A0_0 l0_0.length c0_0, .slice A0_1 l0_1.length c0_1]) (t := 67) ?hr ?_; (case hd => rfl); (case hg => rfl); (case hr => first | (go_simp; done) | (go_simp; rfl)); intro gb101 hg w23 hbox hb; have n0_ := am_ (below_step qz4_ hb); have n1_ := am_ (hbox); have n2_ := am_ ((by rw [hg]; exact (below_size qz4_) : w.heap.size ≤ gb101)); have n3_ := am_ ((by rw [hg]; exact (below_size qz4_) : w.heap.size ≤ gb101)); clear HB; have HB := n0_; have BK101 := n1_; have GW101 := n2_; have GE101 := n3_; clear n0_ n1_ n2_ n3_; clear hb hbox hg) | ((with_reducible refine gate_dst (N := 3) rfl ?_); refine box_event ?hg (N := 3) ?hd (cs := #[.slice A1_0 l1_0.length c1_0, .slice A1_1 l1_1.length c1_1]) (t := 67) ?hr ?_; (case hd => rfl); (case hg => rfl); (case hr => first | (go_simp; done) | (go_simp; rfl)); intro gb102 hg w24 hbox hb; have n0_ := am_ (blk_below (g := gb101) (o := .cells #[.slice A0_0 l0_0.length c0_0, .slice A0_1 l0_1.length c0_1] 67 (0, 0)) qz7_ hb); have n1_ := am_ (below_step qz6_ hb); have n2_ := am_ (hbox); have n3_ := am_ ((by rw [hg]; exact (below_size qz6_) : w.heap.size ≤ gb102)); have n4_ := am_ ((by rw [hg]; exact (below_size qz6_) : w.heap.size ≤ gb102)); have n5_ := am_ ((by rw [hg]; exact Nat.ne_of_lt (blk_lt (g := gb101) (o := .cells #[.slice A0_0 l0_0.length c0_0, .slice A0_1 l0_1.length c0_1] 67 (0, 0)) qz7_) : gb101 ≠ gb102)); have n6_ := am_ ((by rw [hg]; exact Nat.ne_of_gt (blk_lt (g := gb101) (o := .cells #[.slice A0_0 l0_0.length c0_0, .slice A0_1 l0_1.length c0_1] 67 (0, 0)) qz7_) : gb102 ≠ gb101)); clear BK101; clear HB; have BK101 := n0_; have HB := n1_; have BK102 := n2_; have GW102 := n3_; have GE102 := n4_; have NB101_102 := n5_; have NB102_101 := n6_; clear n0_ n1_ n2_ n3_ n4_ n5_ n6_; clear hb hbox hg; have hnb25 := NB101_102.out; have hnc25 := NB102_101.out; have hcz26_0 : w24.cell? ⟨gb101, 0, none⟩ = some (.slice A0_0 l0_0.length c0_0) := (blk_cell BK101.out 0).trans rfl; have hcz26_1 : w24.cell? ⟨gb101, 1, none⟩ = some (.slice A0_1 l0_1.length c0_1) := (blk_cell BK101.out 1).trans rfl; have hfz26_0 := blk_frozen BK101.out 0; have hfz26_1 := blk_frozen BK101.out 1; have hcz27_0 : w24.cell? ⟨gb102, 0, none⟩ = some (.slice A1_0 l1_0.length c1_0) := (blk_cell BK102.out 0).trans rfl; have hcz27_1 : w24.cell? ⟨gb102, 1, none⟩ = some (.slice A1_1 l1_1.length c1_1) := (blk_cell BK102.out 1).trans rfl; have hfz27_0 := blk_frozen BK102.out 0; have hfz27_1 := blk_frozen BK102.out 1) | ((with_reducible refine gate_callee (f := 9) rfl ?_); refine goesL_ (some 9) rfl rfl Try.func9 (by kernel_rfl) rfl #[.slice A0_0 l0_0.length c0_0, .slice A1_0 l1_0.length c1_0] rfl qz3_ ?_; (with_reducible refine (laws_eqExtS.calls k _ _ l0_0 _ _ l1_0 false _ ?side1 ?side2 ?side3 ?side4 A3.out).mono ?_); (case side1 => exact qc_ (Kd.C_below HR0_0.out HB.out)); (case side2 => exact HC0_0.out); (case side3 => exact qc_ (Kd.C_below HR1_0.out HB.out)); (case side4 => exact HC1_0.out); rintro e w28 ⟨rfl, hb⟩; refine ⟨_, rfl, ?_⟩; have n0_ := am_ (blk_below (g := gb101) (o := .cells #[.slice A0_0 l0_0.length c0_0, .slice A0_1 l0_1.length c0_1] 67 (0, 0)) qz7_ hb); have n1_ := am_ (blk_below (g := gb102) (o := .cells #[.slice A1_0 l1_0.length c1_0, .slice A1_1 l1_1.length c1_1] 67 (0, 0)) qz8_ hb); have n2_ := am_ (below_step qz9_ hb); clear BK101; clear BK102; clear HB; have BK101 := n0_; have BK102 := n1_; have HB := n2_; clear n0_ n1_ n2_; (try clear hb); (try clear hb2); (try clear hk); (try clear hi)))
  go_ret
  exact ⟨qz5_, qz9_⟩

end Go.Proofs.Ytcfdefkpheeibaa.PT
end
