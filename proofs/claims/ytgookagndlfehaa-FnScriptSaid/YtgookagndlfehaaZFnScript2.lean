/- Part 2 of the proof of FnScript: what functions compute, shown step by step, and what that says (the claim's last text states the law). -/
import Derived.Test.YtgookagndlfehaaProg
import Derived.Test.YtgookagndlfehaaVMore
import Derived.Test.YtgookagndlfehaaVWords
import Derived.Test.YtgookagndlfehaaVLast
import Derived.Test.YtgookagndlfehaaVTab
import Derived.Test.YtgookagndlfehaaVFour
import Derived.Test.YtgookagndlfehaaVQPut
import Derived.Test.YtgookagndlfehaaVApart
import Derived.Test.YtgookagndlfehaaVArr
import Derived.Test.YtgookagndlfehaaVZeros
import Derived.Test.YtgookagndlfehaaVFoot
import Derived.Test.YtgookagndlfehaaVKept
import Derived.Test.YtgookagndlfehaaVShare
import Derived.Test.YtgookagndlfehaaVN
import Derived.Test.YtgookagndlfehaaVFootNe
import Derived.Test.YtgookagndlfehaaVAt
import Derived.Test.YtgookagndlfehaaVRepsOne
import Derived.Test.YtgookagndlfehaaVGuard
import Derived.Test.YtgookagndlfehaaVNEv
import Derived.Test.YtgookagndlfehaaRows
import Derived.JoinedOf
import Derived.WalkKit
import Derived.ProofKit
import Derived.Below
import Derived.Deep.Draws
import Derived.Deep.AppendLies
import Derived.Maps.AppendAt
import Derived.OwnWalk
import Derived.Laws.BytesArg
import Derived.Laws.MakeOwn
import Derived.Laws.OwnMore
import Derived.Deep.OwnRows
import Derived.Tactics
import Derived.Lib.ConvBytes
import Derived.Laws.Slices
import Derived.KernelRfl
import Derived.RowKit3
import Derived.Deep.LoopGhost
import Derived.Deep.QuietTactic
import Derived.BigQuiet
import Derived.WideLaws
import Derived.Deep.DeepCutAuto
import Derived.Deep.CutBlock
import Derived.Deep.RegionHeld3
import Derived.Laws.Rows
import Derived.Lib.AppendStr
import Derived.ArgAppend
import Derived.Laws.IdiomCopy
import Derived.OrdersHeld
import Derived.Laws.BitsLemmas
import Derived.RowKit
import Derived.StillTailTactics
import Derived.Lib.BufferMore
import Derived.Lib.SliceRun
import Derived.Deep.DeepMust
import Derived.Laws.CopyOwn
import Derived.OpenShut
import Derived.ShutString
import Derived.ChangeOld
import Derived.SizedLaws
import Derived.Deep.Slices
import Derived.ChangeArms
import Derived.Test.YtgookagndlfehaaZFnScript1
section
/- l03Permute: a state permuted. -/
namespace Go.Proofs.Ytgookagndlfehaa.PT
open Go.RowKit Go.Proofs.YtgookagndlfehaaW.PrintWords Go.Proofs.YtgookagndlfehaaW.PrintLast Go.Proofs.YtgookagndlfehaaW.PrintMore
set_option linter.unusedVariables false
set_option linter.unusedSimpArgs false
theorem turn_some {x k : Int} (h0 : 0 ≤ k) (h1 : k ≤ 64) : ∃ r, spec_l03Turn.f x k = some r := by
 unfold spec_l03Turn.f
 by_cases h : k = 0
 ·
  exact ⟨_, if_pos h⟩
 ·
  rw [if_neg h, if_pos h0, if_pos (by rw [IntKind.wrap_u64]; omega)]
  exact ⟨_, rfl⟩
def turn (x k : Int) : Int := (spec_l03Turn.f x k).getD 0
theorem turn_eq {x k : Int} (h0 : 0 ≤ k) (h1 : k ≤ 64) : spec_l03Turn.f x k = some (turn x k) := by
 obtain ⟨r, h⟩ := turn_some (x := x) h0 h1
 unfold turn
 rw [h]
 rfl
def cpl (x : Int) : Int := Go.bits .xor .u64 IntKind.u64.max x
def bnd (x y : Int) : Int := Go.bits .and .u64 x y
def cS (a : List Int) (x : Nat) (c : List Int) : List Int := c.set x (xr (xr (xr (xr (a.getD x 0) (a.getD (x + 5) 0)) (a.getD (x + 10) 0)) (a.getD (x + 15) 0)) (a.getD (x + 20) 0))
def tS (c : List Int) (i : Nat) (a : List Int) : List Int := a.set i (xr (a.getD i 0) (xr (c.getD ((i + 4) % 5) 0) (turn (c.getD ((i + 1) % 5) 0) 1)))
def bS1 (a : List Int) (x y : Nat) (b : List Int) : List Int := b.set (y + 5 * ((2 * x + 3 * y) % 5)) (turn (a.getD (x + 5 * y) 0) (shifts_.getD (x + 5 * y) 0))
def bRw (a : List Int) (x : Nat) (b : List Int) : List Int := iter (bS1 a x) 5 0 b
def hS1 (b : List Int) (x y : Nat) (a : List Int) : List Int := a.set (x + 5 * y) (xr (b.getD (x + 5 * y) 0) (bnd (cpl (b.getD ((x + 1) % 5 + 5 * y) 0)) (b.getD ((x + 2) % 5 + 5 * y) 0)))
def hS (b : List Int) (x : Nat) (a : List Int) : List Int := iter (hS1 b x) 5 0 a
def c_ (a : List Int) : List Int := iter (cS a) 5 0 z5
def t_ (a : List Int) : List Int := iter (tS (c_ a)) 25 0 a
def b_ (a : List Int) : List Int := iter (bRw a) 5 0 z25
def h_ (b a : List Int) : List Int := iter (hS b) 5 0 a
def roundS (r : Nat) (a : List Int) : List Int := roundEnd r (h_ (b_ (t_ a)) (t_ a))
def permS (a : List Int) : List Int := iter roundS 24 0 a
theorem cS_length (a : List Int) (j : Nat) (x : List Int) : (cS a j x).length = x.length := by simp [cS]
theorem tS_length (a : List Int) (j : Nat) (x : List Int) : (tS a j x).length = x.length := by simp [tS]
theorem bS1_length (a : List Int) (i j : Nat) (x : List Int) : (bS1 a i j x).length = x.length := by simp [bS1]
theorem bRw_length (a : List Int) (j : Nat) (x : List Int) : (bRw a j x).length = x.length := iter_length (bS1_length a j) 5 0 x
theorem hS1_length (a : List Int) (i j : Nat) (x : List Int) : (hS1 a i j x).length = x.length := by simp [hS1]
theorem hS_length (a : List Int) (j : Nat) (x : List Int) : (hS a j x).length = x.length := iter_length (hS1_length a j) 5 0 x
theorem c_length (a : List Int) : (c_ a).length = 5 := iter_length (cS_length a) 5 0 z5
theorem t_length (a : List Int) : (t_ a).length = a.length := iter_length (tS_length _) 25 0 a
theorem b_length (a : List Int) : (b_ a).length = 25 := iter_length (bRw_length a) 5 0 z25
theorem h_length (b a : List Int) : (h_ b a).length = a.length := iter_length (hS_length b) 5 0 a
theorem roundS_length (r : Nat) (a : List Int) : (roundS r a).length = a.length := by unfold roundS roundEnd; rw [List.length_set, h_length, t_length]
theorem permS_length (a : List Int) : (permS a).length = a.length := iter_length roundS_length 24 0 a
theorem wr_ {n : Int} {p : Nat} (h : n = (p : Int)) (hp : p < 1000) : wrap64 n = (p : Int) := by rw [h]; unfold wrap64; omega
theorem mv1' {i : Nat} (h : i < 25) : wrap64 ((i : Int) + 4) = (i : Int) + 4 := by unfold wrap64; omega
theorem mv3' {i : Nat} (h : i < 25) : wrap64 ((i : Int) + 1) = (i : Int) + 1 := by unfold wrap64; omega
theorem mv2' {i p : Nat} (h : i < 25) (hp : (i + 4) % 5 = p) : Int.tmod ((i : Int) + 4) 5 = (p : Int) := by rw [Int.tmod_eq_emod_of_nonneg (by omega)]; omega
theorem mv4' {i p : Nat} (h : i < 25) (hp : (i + 1) % 5 = p) : Int.tmod ((i : Int) + 1) 5 = (p : Int) := by rw [Int.tmod_eq_emod_of_nonneg (by omega)]; omega
theorem ix1_ : ∀ x y : Fin 5, wrap64 ((y.val : Int) + wrap64 (5 * Int.tmod (wrap64 (wrap64 (2 * (x.val : Int)) + wrap64 (3 * (y.val : Int)))) 5)) = ((y.val + 5 * ((2 * x.val + 3 * y.val) % 5) : Nat) : Int) ∧ y.val + 5 * ((2 * x.val + 3 * y.val) % 5) < 25 := by decide +kernel
theorem ix1 {x y d : Nat} (hx : x < 5) (hy : y < 5) (hd : y + 5 * ((2 * x + 3 * y) % 5) = d) : wrap64 ((y : Int) + wrap64 (5 * Int.tmod (wrap64 (wrap64 (2 * (x : Int)) + wrap64 (3 * (y : Int)))) 5)) = (d : Int) ∧ d < 25 := by rw [← hd]; exact ix1_ ⟨x, hx⟩ ⟨y, hy⟩
theorem ix2_ : ∀ x y : Fin 5, wrap64 ((x.val : Int) + wrap64 (5 * (y.val : Int))) = ((x.val + 5 * y.val : Nat) : Int) ∧ x.val + 5 * y.val < 25 := by decide +kernel
theorem ix2 {x y d : Nat} (hx : x < 5) (hy : y < 5) (hd : x + 5 * y = d) : wrap64 ((x : Int) + wrap64 (5 * (y : Int))) = (d : Int) ∧ d < 25 := by rw [← hd]; exact ix2_ ⟨x, hx⟩ ⟨y, hy⟩
theorem ix3_ : ∀ x y : Fin 5, (wrap64 (Int.tmod (wrap64 ((x.val : Int) + 1)) 5 + wrap64 (5 * (y.val : Int))) = (((x.val + 1) % 5 + 5 * y.val : Nat) : Int) ∧ (x.val + 1) % 5 + 5 * y.val < 25) ∧ (wrap64 (Int.tmod (wrap64 ((x.val : Int) + 2)) 5 + wrap64 (5 * (y.val : Int))) = (((x.val + 2) % 5 + 5 * y.val : Nat) : Int) ∧ (x.val + 2) % 5 + 5 * y.val < 25) := by decide +kernel
theorem ix3 {x y d e : Nat} (hx : x < 5) (hy : y < 5) (hd : (x + 1) % 5 + 5 * y = d) (he : (x + 2) % 5 + 5 * y = e) : (wrap64 (Int.tmod (wrap64 ((x : Int) + 1)) 5 + wrap64 (5 * (y : Int))) = (d : Int) ∧ d < 25) ∧ (wrap64 (Int.tmod (wrap64 ((x : Int) + 2)) 5 + wrap64 (5 * (y : Int))) = (e : Int) ∧ e < 25) := by rw [← hd, ← he]; exact ix3_ ⟨x, hx⟩ ⟨y, hy⟩
theorem sh_ : ∀ i : Fin 25, 0 ≤ shifts_.getD i.val 0 ∧ shifts_.getD i.val 0 ≤ 64 := by decide +kernel
theorem sh {i : Nat} (h : i < 25) : 0 ≤ shifts_.getD i 0 ∧ shifts_.getD i 0 ≤ 64 := sh_ ⟨i, h⟩
set_option maxHeartbeats 8000000 in
set_option maxRecDepth 100000 in
theorem spec_l03Rounds.calls (w : World) :
  Calls Try.prog 160 #[] w fun e w' => e = .returned (.agg (uarr .u64 consts_)) ∧ Below w.heap.size w w' := by
 have HI := am_ (Inv.start w (fun _ => True) (fun _ _ => trivial))
 have hu157 := Try.underlying157
 go_enter Try.func160, Try.ntmps160
 go_wp2_with (first | ((with_reducible refine gate_dst (N := 0) rfl ?_); refine box_event ?hg (N := 0) ?hd (cs := uarr .u64 z24) (t := 157) ?hr ?_; (case hd => rfl); (case hg => rfl); (case hr => first | (go_simp; done) | (go_simp; rfl)); intro g0 hg w0_ hbox hb; have HI_ := am_ ((HI.out).box hg hbox hb); clear HI; have HI := HI_; clear HI_; clear hb hbox hg) | ((with_reducible refine gate_store (p := 0) (v := .tmp 1) (t := 157) rfl ?_); go_must (refine wpList_store_row rfl 157 _ _ rfl g0 (uarr .u64 consts_) rfl qz11_ 157 (uarr .u64 z24) (Inv.blk0 (HI.out)) (by kernel_rfl) (by rfl) (uarr_one _ _) ?_; have HI_ := am_ (Inv.put0 (HI.out) (uarr .u64 consts_)); clear HI; have HI := HI_; clear HI_; generalize World.setRow _ g0 (uarr .u64 consts_) = w1_ at HI ⊢)))
 refine bodyPost_ret (v := .agg (uarr .u64 consts_)) ?hres rfl ?_
 case hres => exact results_cell_row (fn := Try.f160) (p := 0) rfl _ _ g0 157 (uarr .u64 consts_) (0, 0) _ (by first | rfl | (simp; done)) HI.out.blk0 hu157 rfl (by kernel_rfl)
 exact ⟨rfl, HI.out.below⟩
set_option maxHeartbeats 8000000 in
set_option maxRecDepth 100000 in
theorem spec_l03Shifts.calls (w : World) :
  Calls Try.prog 161 #[] w fun e w' => e = .returned (.agg (uarr .u64 shifts_)) ∧ Below w.heap.size w w' := by
 have HI := am_ (Inv.start w (fun _ => True) (fun _ _ => trivial))
 have hu168 := Try.underlying168
 go_enter Try.func161, Try.ntmps161
 go_wp2_with (first | ((with_reducible refine gate_dst (N := 0) rfl ?_); refine box_event ?hg (N := 0) ?hd (cs := uarr .u64 z25) (t := 168) ?hr ?_; (case hd => rfl); (case hg => rfl); (case hr => first | (go_simp; done) | (go_simp; rfl)); intro g0 hg w0_ hbox hb; have HI_ := am_ ((HI.out).box hg hbox hb); clear HI; have HI := HI_; clear HI_; clear hb hbox hg) | ((with_reducible refine gate_store (p := 0) (v := .tmp 1) (t := 168) rfl ?_); go_must (refine wpList_store_row rfl 168 _ _ rfl g0 (uarr .u64 shifts_) rfl qz11_ 168 (uarr .u64 z25) (Inv.blk0 (HI.out)) (by kernel_rfl) (by rfl) (uarr_one _ _) ?_; have HI_ := am_ (Inv.put0 (HI.out) (uarr .u64 shifts_)); clear HI; have HI := HI_; clear HI_; generalize World.setRow _ g0 (uarr .u64 shifts_) = w1_ at HI ⊢)))
 refine bodyPost_ret (v := .agg (uarr .u64 shifts_)) ?hres rfl ?_
 case hres => exact results_cell_row (fn := Try.f161) (p := 0) rfl _ _ g0 168 (uarr .u64 shifts_) (0, 0) _ (by first | rfl | (simp; done)) HI.out.blk0 hu168 rfl (by kernel_rfl)
 exact ⟨rfl, HI.out.below⟩
set_option maxHeartbeats 8000000 in
set_option maxRecDepth 100000 in
theorem spec_l03Permute.calls (a0 : List Int) (w : World) (hlen : a0.length = 25) :
  Calls Try.prog 129 #[.agg (uarr .u64 a0)] w fun e w' => e = .returned (.agg (uarr .u64 (permS a0))) ∧ Below w.heap.size w w' := by
 have HL := am_ hlen
 have hu133 := Try.underlying133
 have HTT := am_ (show iter roundS 24 0 a0 = permS a0 from rfl)
 have HTL := am_ (show (permS a0).length = 25 from (permS_length a0).trans hlen)
 generalize permS a0 = tt at HTT HTL
 have HI := am_ (Inv.start w (fun _ => True) (fun _ _ => trivial))
 clear hlen
 go_enter Try.func129, Try.ntmps129
 go_wp2_with (first | ((with_reducible refine gate_dst (N := 1) rfl ?_); refine box_event ?hg (N := 1) ?hd (cs := uarr .u64 a0) (t := 133) ?hr ?_; (case hd => rfl); (case hg => rfl); (case hr => first | (go_simp; done) | (go_simp; rfl)); intro g1 hg w1 hbox hb; have HI_ := am_ ((HI.out).box hg hbox hb); clear HI; have HI := HI_; clear HI_; clear hb hbox hg) | ((with_reducible refine gate_dst (N := 2) rfl ?_); refine box_event ?hg (N := 2) ?hd (cs := uarr .u64 z25) (t := 133) ?hr ?_; (case hd => rfl); (case hg => rfl); (case hr => first | (go_simp; done) | (go_simp; rfl)); intro g2 hg w2 hbox hb; have HI_ := am_ ((HI.out).box hg hbox hb); clear HI; have HI := HI_; clear HI_; clear hb hbox hg) | (go_at_call 160; refine (spec_l03Rounds.calls _).mono ?_; rintro e w14 ⟨rfl, hb⟩; have HI_ := am_ (HI.out.grow hb); clear HI; have HI := HI_; clear HI_; clear hb) | ((with_reducible refine gate_dst (N := 3) rfl ?_); refine box_event ?hg (N := 3) ?hd (cs := uarr .u64 z24) (t := 157) ?hr ?_; (case hd => rfl); (case hg => rfl); (case hr => first | (go_simp; done) | (go_simp; rfl)); intro g3 hg w3 hbox hb; have HI_ := am_ ((HI.out).box hg hbox hb); clear HI; have HI := HI_; clear HI_; clear hb hbox hg) | ((with_reducible refine gate_store (p := 3) (v := .tmp 14) (t := 157) rfl ?_); go_must (refine wpList_store_row rfl 157 _ _ rfl g3 (uarr .u64 consts_) rfl qz11_ 157 (uarr .u64 z24) (Inv.blk0 (HI.out)) (by kernel_rfl) (by rfl) (uarr_one _ _) ?_; have HI_ := am_ (Inv.put0 (HI.out) (uarr .u64 consts_)); clear HI; have HI := HI_; clear HI_; generalize World.setRow _ g3 (uarr .u64 consts_) = w4 at HI ⊢)) | (go_at_call 161; refine (spec_l03Shifts.calls _).mono ?_; rintro e w15 ⟨rfl, hb⟩; have HI_ := am_ (HI.out.grow hb); clear HI; have HI := HI_; clear HI_; clear hb) | ((with_reducible refine gate_dst (N := 4) rfl ?_); refine box_event ?hg (N := 4) ?hd (cs := uarr .u64 z25) (t := 168) ?hr ?_; (case hd => rfl); (case hg => rfl); (case hr => first | (go_simp; done) | (go_simp; rfl)); intro g4 hg w5 hbox hb; have HI_ := am_ ((HI.out).box hg hbox hb); clear HI; have HI := HI_; clear HI_; clear hb hbox hg) | ((with_reducible refine gate_store (p := 4) (v := .tmp 15) (t := 168) rfl ?_); go_must (refine wpList_store_row rfl 168 _ _ rfl g4 (uarr .u64 shifts_) rfl qz11_ 168 (uarr .u64 z25) (Inv.blk0 (HI.out)) (by kernel_rfl) (by rfl) (uarr_one _ _) ?_; have HI_ := am_ (Inv.put0 (HI.out) (uarr .u64 shifts_)); clear HI; have HI := HI_; clear HI_; generalize World.setRow _ g4 (uarr .u64 shifts_) = w6 at HI ⊢)))
 go_loopg [5] 24 (fun kq v5 w' => ∃ (r : Nat) (a : List Int), v5 = .int .i64 r ∧ Aside0 (r + kq = 24) ∧ Aside0 (iter roundS kq r a = tt) ∧ Aside0 (a.length = 25) ∧ Aside0 (Inv w NoB w' [blk g1 133 (uarr .u64 a), blk g4 168 (uarr .u64 shifts_), blk g3 157 (uarr .u64 consts_), blk g2 133 (uarr .u64 z25)] (fun _ => True)))
 case atStart => exact ⟨0, a0, rfl, ⟨(by omega)⟩, HTT, HL, ⟨HI.out.front3⟩⟩
 case round =>
  clear HTT HL HI
  obtain ⟨r, a, rfl, HJ, HR, HL, HI⟩ := hrel
  cases gk with
  | zero =>
   have hj := HJ.out
   have c1 : decide ((r : Int) < 24) = false := decide_eq_false (by omega)
   have c2 : decide (r < 24) = false := decide_eq_false (by omega)
   have hi : a = tt := HR.out
   subst hi
   have hl := HL.out
   clear HR hj
   go_wp2_with (first | ((with_reducible refine gate_dst (N := 148) rfl ?_); go_must (refine wpList_load_row rfl 133 _ rfl g1 rfl 133 (uarr .u64 a) (0, 0) _ (HI.out.blk0) hu133 rfl (by rw [uarr_size, hl]; kernel_rfl) ?_)) | ((with_reducible refine gate_store (p := 2) (v := .tmp 148) (t := 133) rfl ?_); go_must (refine wpList_store_row rfl 133 _ _ rfl g2 (uarr .u64 a) rfl qz11_ 133 (uarr .u64 z25) (Inv.blk0 (HI.out.front3)) (by rw [uarr_size, hl]; kernel_rfl) (by rw [uarr_size, uarr_size, hl]; rfl) (uarr_one _ _) ?_; have HI_ := am_ (Inv.put0 (HI.out.front3) (uarr .u64 a)); clear HI; have HI := HI_; clear HI_; generalize World.setRow _ g2 (uarr .u64 a) = w150 at HI ⊢)))
   simp only [Act.put, List.setIfInBounds_toArray, List.set_cons_zero, List.set_cons_succ]
   refine bodyPost_ret (v := .agg (uarr .u64 a)) ?hres rfl ?_
   case hres => exact results_cell_row (fn := Try.f129) (p := 2) rfl _ _ g2 133 (uarr .u64 a) (0, 0) _ (by first | rfl | (simp; done)) HI.out.blk0 hu133 rfl (by rw [uarr_size, hl]; kernel_rfl)
   exact ⟨rfl, HI.out.below⟩
  | succ k1 =>
   have hj := HJ.out
   have c1 : decide ((r : Int) < 24) = true := decide_eq_true (by omega)
   have c2 : decide (r < 24) = true := decide_eq_true (by omega)
   have HR2 := am_ (show iter roundS k1 (r + 1) (roundS r a) = tt from HR.out)
   clear HR hj
   go_wp2_with (first | ((with_reducible refine gate_dst (N := 6) rfl ?_); refine box_event ?hg (N := 6) ?hd (cs := uarr .u64 z5) (t := 158) ?hr ?_; (case hd => rfl); (case hg => rfl); (case hr => first | (go_simp; done) | (go_simp; rfl)); intro g6 hg w7 hbox hb; have HI_ := am_ ((HI.out).box hg hbox hb); clear HI; have HI := HI_; clear HI_; clear hb hbox hg) | ((with_reducible refine gate_store (p := 6) (v := .tmp 20) (t := 158) rfl ?_); go_must (refine wpList_store_row rfl 158 _ _ rfl g6 (uarr .u64 z5) rfl qz11_ 158 (uarr .u64 z5) (Inv.blk0 (HI.out)) (by kernel_rfl) (by rfl) (uarr_one _ _) ?_; have HI_ := am_ (Inv.put0 (HI.out) (uarr .u64 z5)); clear HI; have HI := HI_; clear HI_; generalize World.setRow _ g6 (uarr .u64 z5) = w8 at HI ⊢)))
   clear c1 c2
   have HCD := am_ (show iter (cS a) 5 0 z5 = c_ a from rfl)
   have HCL := am_ (c_length a)
   generalize hC : c_ a = C at HCD HCL
   have HC := am_ hC
   clear hC
   go_loopg [7] 5 (fun kq v7 w' => ∃ (i : Nat) (c : List Int), v7 = .int .i64 i ∧ Aside0 (i + kq = 5) ∧ Aside0 (iter (cS a) kq i c = C) ∧ Aside0 (c.length = 5) ∧ Aside0 (Inv w NoB w' [blk g6 158 (uarr .u64 c), blk g1 133 (uarr .u64 a), blk g4 168 (uarr .u64 shifts_), blk g3 157 (uarr .u64 consts_), blk g2 133 (uarr .u64 z25)] (fun _ => True)))
   case atStart => exact ⟨0, z5, rfl, ⟨(by omega)⟩, HCD, ⟨rfl⟩, HI⟩
   case round =>
    clear HCD HI
    obtain ⟨i, c, rfl, HJ1, HR1, HL1, HI⟩ := hrel
    cases gk with
    | zero =>
     have hj := HJ1.out
     have c1 : decide ((i : Int) < 5) = false := decide_eq_false (by omega)
     have c2 : decide (i < 5) = false := decide_eq_false (by omega)
     have hi : c = C := HR1.out
     subst hi
     clear HR1 hj HJ1
     go_wp2
     clear c1 c2
     have HTD := am_ (show iter (tS c) 25 0 a = t_ a by unfold t_; rw [HC.out])
     have HTL2 := am_ ((t_length a).trans HL.out)
     generalize hT : t_ a = T at HTD HTL2
     have HT := am_ hT
     clear hT
     have HI2 := am_ HI.out.swap
     clear HI
     have HI := HI2
     clear HI2
     go_loopg [8] 25 (fun kq v8 w' => ∃ (i : Nat) (t : List Int), v8 = .int .i64 i ∧ Aside0 (i + kq = 25) ∧ Aside0 (iter (tS c) kq i t = T) ∧ Aside0 (t.length = 25) ∧ Aside0 (Inv w NoB w' [blk g1 133 (uarr .u64 t), blk g6 158 (uarr .u64 c), blk g4 168 (uarr .u64 shifts_), blk g3 157 (uarr .u64 consts_), blk g2 133 (uarr .u64 z25)] (fun _ => True)))
     case atStart => exact ⟨0, a, rfl, ⟨(by omega)⟩, HTD, HL, HI⟩
     case round =>
      clear HTD HI
      obtain ⟨i, t, rfl, HJ1, HR1, HAL, HI⟩ := hrel
      cases gk with
      | zero =>
       have hj := HJ1.out
       have c1 : decide ((i : Int) < 25) = false := decide_eq_false (by omega)
       have c2 : decide (i < 25) = false := decide_eq_false (by omega)
       have hi : t = T := HR1.out
       subst hi
       clear HR1 hj HJ1 HAL
       have HI2 := am_ HI.out.swap.drop
       clear HI
       have HI := HI2
       clear HI2
       go_wp2_with (first | ((with_reducible refine gate_dst (N := 9) rfl ?_); refine box_event ?hg (N := 9) ?hd (cs := uarr .u64 z25) (t := 133) ?hr ?_; (case hd => rfl); (case hg => rfl); (case hr => first | (go_simp; done) | (go_simp; rfl)); intro g9 hg w9 hbox hb; have HI_ := am_ ((HI.out).box hg hbox hb); clear HI; have HI := HI_; clear HI_; clear hb hbox hg) | ((with_reducible refine gate_store (p := 9) (v := .tmp 71) (t := 133) rfl ?_); go_must (refine wpList_store_row rfl 133 _ _ rfl g9 (uarr .u64 z25) rfl qz11_ 133 (uarr .u64 z25) (Inv.blk0 (HI.out)) (by kernel_rfl) (by rfl) (uarr_one _ _) ?_; have HI_ := am_ (Inv.put0 (HI.out) (uarr .u64 z25)); clear HI; have HI := HI_; clear HI_; generalize World.setRow _ g9 (uarr .u64 z25) = w10 at HI ⊢)))
       clear c1 c2
       have HBD := am_ (show iter (bRw t) 5 0 z25 = b_ t from rfl)
       have HBL := am_ (b_length t)
       generalize hB : b_ t = B at HBD HBL
       have HB := am_ hB
       clear hB
       go_loopg [10] 5 (fun kq v10 w' => ∃ (x : Nat) (b : List Int), v10 = .int .i64 x ∧ Aside0 (x + kq = 5) ∧ Aside0 (iter (bRw t) kq x b = B) ∧ Aside0 (b.length = 25) ∧ Aside0 (Inv w NoB w' [blk g9 133 (uarr .u64 b), blk g1 133 (uarr .u64 t), blk g4 168 (uarr .u64 shifts_), blk g3 157 (uarr .u64 consts_), blk g2 133 (uarr .u64 z25)] (fun _ => True)))
       case atStart => exact ⟨0, z25, rfl, ⟨(by omega)⟩, HBD, ⟨rfl⟩, HI⟩
       case round =>
        clear HBD HI
        obtain ⟨x, b, rfl, HJ1, HR1, HBL2, HI⟩ := hrel
        cases gk with
        | zero =>
         have hj := HJ1.out
         have c1 : decide ((x : Int) < 5) = false := decide_eq_false (by omega)
         have c2 : decide (x < 5) = false := decide_eq_false (by omega)
         have hi : b = B := HR1.out
         subst hi
         clear HR1 hj HJ1 HBL2
         go_wp2
         clear c1 c2
         have HZD := am_ (show iter (hS b) 5 0 t = h_ b t from rfl)
         generalize hZ : h_ b t = Z at HZD
         have HZ := am_ hZ
         clear hZ
         have HI2 := am_ HI.out.swap
         clear HI
         have HI := HI2
         clear HI2
         go_loopg [12] 5 (fun kq v12 w' => ∃ (x : Nat) (z : List Int), v12 = .int .i64 x ∧ Aside0 (x + kq = 5) ∧ Aside0 (iter (hS b) kq x z = Z) ∧ Aside0 (z.length = 25) ∧ Aside0 (Inv w NoB w' [blk g1 133 (uarr .u64 z), blk g9 133 (uarr .u64 b), blk g4 168 (uarr .u64 shifts_), blk g3 157 (uarr .u64 consts_), blk g2 133 (uarr .u64 z25)] (fun _ => True)))
         case atStart => exact ⟨0, t, rfl, ⟨(by omega)⟩, HZD, HTL2, HI⟩
         case round =>
          clear HZD HI
          obtain ⟨x, z, rfl, HJ1, HR1, HAL, HI⟩ := hrel
          cases gk with
          | zero =>
           have hj := HJ1.out
           have c1 : decide ((x : Int) < 5) = false := decide_eq_false (by omega)
           have c2 : decide (x < 5) = false := decide_eq_false (by omega)
           have hi : z = Z := HR1.out
           subst hi
           clear HR1 hj HJ1
           go_wp2
           clear c1 c2
           have hl := HAL.out
           have hs0 := row_cell HI.out.blk0 (i := 0) (by omega)
           have hf0 := blk_frozen HI.out.blk0 0
           have hr24 : r < 24 := by have := HJ.out; omega
           have h3 : wr.heap[g3]? = _ := HI.out.get 3 rfl
           have hs1 : wr.cell? ⟨g3, r, none⟩ = some (.int .u64 (consts_.getD r 0)) := row_cell h3 (i := r) hr24
           clear h3
           have hh := HR2.out
           rw [show roundS r a = z.set 0 (xr (z.getD 0 0) (consts_.getD r 0)) by unfold roundS; rw [HT.out, HB.out, HZ.out]; rfl] at hh
           generalize z.getD 0 0 = A at hs0 hh
           generalize consts_.getD r 0 = D at hs1 hh
           have HR3 := am_ hh
           have HL3 := am_ (show (z.set 0 (xr A D)).length = 25 by rw [List.length_set]; exact hl)
           have cr : ((r : Int) < 24) = True := eq_true (by omega)
           have cn : (r < 24) = True := eq_true hr24
           clear hh hl HR2 HAL hr24
           refine start_ (n := 8) (S := fun w' => w'.cell? ⟨g1, 0, none⟩ = some (.int .u64 A) ∧ w'.cell? ⟨g3, r, none⟩ = some (.int .u64 D)) (ds := [7]) #[false, false, false, false, false, false, false, false] (by kernel_rfl) rfl rfl ⟨hs0, hs1⟩ (fun hHeld => ?_)
           refine pure_ (i := 0) (N := some 141) (v := ?_) (a' := ?_) #[true, false, false, false, false, false, false, false] rfl rfl (by kernel_rfl) (fun _ _ _ h => h) (Or.inl ⟨(by rfl), ?_⟩) ?_ ?_
           rotate_left
           ·
            intro w'
            go_simp
            with_reducible rfl
           rotate_left
           ·
            exact ap_
           refine take_ (i := 1) (N := some 142) (v := ?_) (a' := ?_) #[true, true, false, false, false, false, false, false] rfl rfl (by kernel_rfl) (fun _ _ _ h => h) (Or.inl ⟨(by rfl), ?_⟩) hHeld ?_ ?_
           rotate_left
           ·
            rintro w' ⟨s0, s1⟩
            go_simp
            with_reducible rfl
           rotate_left
           ·
            exact ap_
           refine pure_ (i := 2) (N := some 143) (v := ?_) (a' := ?_) #[true, true, true, false, false, false, false, false] rfl rfl (by kernel_rfl) (fun _ _ _ h => h) (Or.inl ⟨(by rfl), ?_⟩) ?_ ?_
           rotate_left
           ·
            intro w'
            go_simp
            with_reducible rfl
           rotate_left
           ·
            exact ap_
           refine pure_ (i := 3) (N := some 144) (v := ?_) (a' := ?_) #[true, true, true, true, false, false, false, false] rfl rfl (by kernel_rfl) (fun _ _ _ h => h) (Or.inl ⟨(by rfl), ?_⟩) ?_ ?_
           rotate_left
           ·
            intro w'
            go_simp
            with_reducible rfl
           rotate_left
           ·
            exact ap_
           refine take_ (i := 4) (N := some 145) (v := ?_) (a' := ?_) #[true, true, true, true, true, false, false, false] rfl rfl (by kernel_rfl) (fun _ _ _ h => h) (Or.inl ⟨(by rfl), ?_⟩) hHeld ?_ ?_
           rotate_left
           ·
            rintro w' ⟨s0, s1⟩
            go_simp
            with_reducible rfl
           rotate_left
           ·
            exact ap_
           refine pure_ (i := 5) (N := some 146) (v := ?_) (a' := ?_) #[true, true, true, true, true, true, false, false] rfl rfl (by kernel_rfl) (fun _ _ _ h => h) (Or.inl ⟨(by rfl), ?_⟩) ?_ ?_
           rotate_left
           ·
            intro w'
            go_simp
            with_reducible rfl
           rotate_left
           ·
            exact ap_
           refine pure_ (i := 6) (N := some 147) (v := ?_) (a' := ?_) #[true, true, true, true, true, true, true, false] rfl rfl (by kernel_rfl) (fun _ _ _ h => h) (Or.inl ⟨(by rfl), ?_⟩) ?_ ?_
           rotate_left
           ·
            intro w'
            go_simp
            with_reducible rfl
           rotate_left
           ·
            exact ap_
           refine last_ (i := 7) (N := none) #[true, true, true, true, true, true, true, true] rfl rfl (by kernel_rfl) (by decide) (fun K hK => ?_)
           refine skip_ (w1 := ?_) (by rfl) rfl ?_ ?_
           rotate_left
           ·
            go_simp
            rfl
           refine hK.out _ _ ?_
           clear hK K
           refine done_ (by kernel_rfl) ?_
           have HI2 := am_ ((HI.out.set0 0 (.int .u64 (xr A D))).swap.drop)
           rw [uarr_put] at HI2
           clear HI hs0 hs1 hf0
           try go_wp2
           go_roundg k1
           case measure => omega
           case rel => exact ⟨r + 1, _, by have := HJ.out; rw [w64_ (by omega) (by omega)]; rfl, ⟨(by have := HJ.out; omega)⟩, HR3, HL3, ⟨(by (with_reducible repeat (first | refine Inv.drewN ?_ _ | refine Inv.drew ?_)); exact HI2.out)⟩⟩
          | succ k2 =>
           have hj := HJ1.out
           have c1 : decide ((x : Int) < 5) = true := decide_eq_true (by omega)
           have c2 : decide (x < 5) = true := decide_eq_true (by omega)
           have HR2i := am_ (show iter (hS b) k2 (x + 1) (hS b x z) = Z from HR1.out)
           have HYD := am_ (show iter (hS1 b x) 5 0 z = hS b x z from rfl)
           have HYL := am_ ((hS_length b x z).trans HAL.out)
           generalize hS b x z = Y at HR2i HYD HYL
           clear HR1 hj
           go_wp2
           clear c1 c2
           go_loopg [13] 5 (fun kq v13 w' => ∃ (y : Nat) (z : List Int), v13 = .int .i64 y ∧ Aside0 (y + kq = 5) ∧ Aside0 (iter (hS1 b x) kq y z = Y) ∧ Aside0 (z.length = 25) ∧ Aside0 (Inv w NoB w' [blk g1 133 (uarr .u64 z), blk g9 133 (uarr .u64 b), blk g4 168 (uarr .u64 shifts_), blk g3 157 (uarr .u64 consts_), blk g2 133 (uarr .u64 z25)] (fun _ => True)))
           case atStart => exact ⟨0, z, rfl, ⟨(by omega)⟩, HYD, HAL, HI⟩
           case round =>
            clear HYD HAL HI z
            obtain ⟨y, z, rfl, HJ2, HR3, HAL, HI⟩ := hrel
            cases gk with
            | zero =>
             have hj := HJ2.out
             have c1 : decide ((y : Int) < 5) = false := decide_eq_false (by omega)
             have c2 : decide (y < 5) = false := decide_eq_false (by omega)
             have hi : z = Y := HR3.out
             subst hi
             clear HR3 hj HJ2
             try go_wp2
             clear c1 c2
             go_roundg k2
             case measure => omega
             case rel => exact ⟨x + 1, _, by have := HJ1.out; rw [w64_ (by omega) (by omega)]; rfl, ⟨(by have := HJ1.out; omega)⟩, HR2i, HAL, HI⟩
            | succ k3 =>
             have hj := HJ2.out
             have c1 : decide ((y : Int) < 5) = true := decide_eq_true (by omega)
             have c2 : decide (y < 5) = true := decide_eq_true (by omega)
             have hi := HR3.out
             rw [iter_succ] at hi
             unfold hS1 at hi
             have hj5 : y < 5 := by omega
             have hx5 : x < 5 := by have := HJ1.out; omega
             have hl := HAL.out
             have hb9 := HBL.out
             have h9 : wr.heap[g9]? = _ := HI.out.get 1 rfl
             generalize hp : x + 5 * y = p at hi
             generalize hq : (x + 1) % 5 + 5 * y = q at hi
             generalize hs : (x + 2) % 5 + 5 * y = s at hi
             obtain ⟨f1, b1⟩ := ix2 hx5 hj5 hp
             obtain ⟨⟨f2, b2⟩, ⟨f3, b3⟩⟩ := ix3 hx5 hj5 hq hs
             have HL2 := am_ (show ∀ v, (z.set p v).length = 25 from fun v => by rw [List.length_set]; exact hl)
             clear hp hq hs hj5 hx5 hj
             have hs0 := row_cell h9 (i := p) (by rw [hb9]; exact b1)
             have hs1 := row_cell h9 (i := q) (by rw [hb9]; exact b2)
             have hs2 := row_cell h9 (i := s) (by rw [hb9]; exact b3)
             have hsp := row_cell HI.out.blk0 (i := p) (by rw [hl]; exact b1)
             have hfs := blk_frozen HI.out.blk0 p
             clear h9 HR3 hl hb9 HAL
             generalize b.getD p 0 = A at hs0 hi
             generalize b.getD q 0 = U at hs1 hi
             generalize b.getD s 0 = V at hs2 hi
             have HR4 := am_ hi
             have hun : ∀ W, (Op.unary .xor (.int .u64 U)).run Try.prog W = .ok (.int .u64 (cpl U)) W := fun W => rfl
             clear hi
             have e1 := lt25 b1
             have e2 := lt25 b2
             have e3 := lt25 b3
             replace b1 := eq_true b1
             replace b2 := eq_true b2
             replace b3 := eq_true b3
             go_wp2
             refine start_ (n := 31) (S := fun w' => w'.cell? ⟨g9, p, none⟩ = some (.int .u64 A) ∧ w'.cell? ⟨g9, q, none⟩ = some (.int .u64 U) ∧ w'.cell? ⟨g9, s, none⟩ = some (.int .u64 V)) (ds := [30]) #[false, false, false, false, false, false, false, false, false, false, false, false, false, false, false, false, false, false, false, false, false, false, false, false, false, false, false, false, false, false, false] (by kernel_rfl) rfl rfl ⟨hs0, hs1, hs2⟩ (fun hHeld => ?_)
             refine pure_ (i := 0) (N := some 111) (v := ?_) (a' := ?_) #[true, false, false, false, false, false, false, false, false, false, false, false, false, false, false, false, false, false, false, false, false, false, false, false, false, false, false, false, false, false, false] rfl rfl (by kernel_rfl) (fun _ _ _ h => h) (Or.inl ⟨(by rfl), ?_⟩) ?_ ?_
             rotate_left
             ·
              intro w'
              go_simp
              with_reducible rfl
             rotate_left
             ·
              exact ap_
             refine pure_ (i := 1) (N := some 112) (v := ?_) (a' := ?_) #[true, true, false, false, false, false, false, false, false, false, false, false, false, false, false, false, false, false, false, false, false, false, false, false, false, false, false, false, false, false, false] rfl rfl (by kernel_rfl) (fun _ _ _ h => h) (Or.inl ⟨(by rfl), ?_⟩) ?_ ?_
             rotate_left
             ·
              intro w'
              go_simp
              with_reducible rfl
             rotate_left
             ·
              exact ap_
             refine pure_ (i := 2) (N := some 113) (v := ?_) (a' := ?_) #[true, true, true, false, false, false, false, false, false, false, false, false, false, false, false, false, false, false, false, false, false, false, false, false, false, false, false, false, false, false, false] rfl rfl (by kernel_rfl) (fun _ _ _ h => h) (Or.inl ⟨(by rfl), ?_⟩) ?_ ?_
             rotate_left
             ·
              intro w'
              go_simp
              with_reducible rfl
             rotate_left
             ·
              exact ap_
             refine pure_ (i := 3) (N := some 114) (v := ?_) (a' := ?_) #[true, true, true, true, false, false, false, false, false, false, false, false, false, false, false, false, false, false, false, false, false, false, false, false, false, false, false, false, false, false, false] rfl rfl (by kernel_rfl) (fun _ _ _ h => h) (Or.inl ⟨(by rfl), ?_⟩) ?_ ?_
             rotate_left
             ·
              intro w'
              go_simp
              with_reducible rfl
             rotate_left
             ·
              exact ap_
             refine pure_ (i := 4) (N := some 115) (v := ?_) (a' := ?_) #[true, true, true, true, true, false, false, false, false, false, false, false, false, false, false, false, false, false, false, false, false, false, false, false, false, false, false, false, false, false, false] rfl rfl (by kernel_rfl) (fun _ _ _ h => h) (Or.inl ⟨(by rfl), ?_⟩) ?_ ?_
             rotate_left
             ·
              intro w'
              go_simp
              with_reducible rfl
             rotate_left
             ·
              exact ap_
             refine pure_ (i := 5) (N := some 116) (v := ?_) (a' := ?_) #[true, true, true, true, true, true, false, false, false, false, false, false, false, false, false, false, false, false, false, false, false, false, false, false, false, false, false, false, false, false, false] rfl rfl (by kernel_rfl) (fun _ _ _ h => h) (Or.inl ⟨(by rfl), ?_⟩) ?_ ?_
             rotate_left
             ·
              intro w'
              go_simp
              with_reducible rfl
             rotate_left
             ·
              exact ap_
             refine pure_ (i := 6) (N := some 117) (v := ?_) (a' := ?_) #[true, true, true, true, true, true, true, false, false, false, false, false, false, false, false, false, false, false, false, false, false, false, false, false, false, false, false, false, false, false, false] rfl rfl (by kernel_rfl) (fun _ _ _ h => h) (Or.inl ⟨(by rfl), ?_⟩) ?_ ?_
             rotate_left
             ·
              intro w'
              go_simp
              with_reducible rfl
             rotate_left
             ·
              exact ap_
             refine pure_ (i := 7) (N := some 118) (v := ?_) (a' := ?_) #[true, true, true, true, true, true, true, true, false, false, false, false, false, false, false, false, false, false, false, false, false, false, false, false, false, false, false, false, false, false, false] rfl rfl (by kernel_rfl) (fun _ _ _ h => h) (Or.inl ⟨(by rfl), ?_⟩) ?_ ?_
             rotate_left
             ·
              intro w'
              go_simp
              with_reducible rfl
             rotate_left
             ·
              exact ap_
             refine pure_ (i := 8) (N := some 119) (v := ?_) (a' := ?_) #[true, true, true, true, true, true, true, true, true, false, false, false, false, false, false, false, false, false, false, false, false, false, false, false, false, false, false, false, false, false, false] rfl rfl (by kernel_rfl) (fun _ _ _ h => h) (Or.inl ⟨(by rfl), ?_⟩) ?_ ?_
             rotate_left
             ·
              intro w'
              go_simp
              with_reducible rfl
             rotate_left
             ·
              exact ap_
             refine take_ (i := 9) (N := some 120) (v := ?_) (a' := ?_) #[true, true, true, true, true, true, true, true, true, true, false, false, false, false, false, false, false, false, false, false, false, false, false, false, false, false, false, false, false, false, false] rfl rfl (by kernel_rfl) (fun _ _ _ h => h) (Or.inl ⟨(by rfl), ?_⟩) hHeld ?_ ?_
             rotate_left
             ·
              rintro w' ⟨s0, s1, s2⟩
              go_simp
              with_reducible rfl
             rotate_left
             ·
              exact ap_
             refine pure_ (i := 10) (N := some 121) (v := ?_) (a' := ?_) #[true, true, true, true, true, true, true, true, true, true, true, false, false, false, false, false, false, false, false, false, false, false, false, false, false, false, false, false, false, false, false] rfl rfl (by kernel_rfl) (fun _ _ _ h => h) (Or.inl ⟨(by rfl), ?_⟩) ?_ ?_
             rotate_left
             ·
              intro w'
              go_simp
              with_reducible rfl
             rotate_left
             ·
              exact ap_
             refine pure_ (i := 11) (N := some 122) (v := ?_) (a' := ?_) #[true, true, true, true, true, true, true, true, true, true, true, true, false, false, false, false, false, false, false, false, false, false, false, false, false, false, false, false, false, false, false] rfl rfl (by kernel_rfl) (fun _ _ _ h => h) (Or.inl ⟨(by rfl), ?_⟩) ?_ ?_
             rotate_left
             ·
              intro w'
              go_simp
              with_reducible rfl
             rotate_left
             ·
              exact ap_
             refine pure_ (i := 12) (N := some 123) (v := ?_) (a' := ?_) #[true, true, true, true, true, true, true, true, true, true, true, true, true, false, false, false, false, false, false, false, false, false, false, false, false, false, false, false, false, false, false] rfl rfl (by kernel_rfl) (fun _ _ _ h => h) (Or.inl ⟨(by rfl), ?_⟩) ?_ ?_
             rotate_left
             ·
              intro w'
              go_simp
              with_reducible rfl
             rotate_left
             ·
              exact ap_
             refine pure_ (i := 13) (N := some 124) (v := ?_) (a' := ?_) #[true, true, true, true, true, true, true, true, true, true, true, true, true, true, false, false, false, false, false, false, false, false, false, false, false, false, false, false, false, false, false] rfl rfl (by kernel_rfl) (fun _ _ _ h => h) (Or.inl ⟨(by rfl), ?_⟩) ?_ ?_
             rotate_left
             ·
              intro w'
              go_simp
              with_reducible rfl
             rotate_left
             ·
              exact ap_
             refine pure_ (i := 14) (N := some 125) (v := ?_) (a' := ?_) #[true, true, true, true, true, true, true, true, true, true, true, true, true, true, true, false, false, false, false, false, false, false, false, false, false, false, false, false, false, false, false] rfl rfl (by kernel_rfl) (fun _ _ _ h => h) (Or.inl ⟨(by rfl), ?_⟩) ?_ ?_
             rotate_left
             ·
              intro w'
              go_simp
              with_reducible rfl
             rotate_left
             ·
              exact ap_
             refine pure_ (i := 15) (N := some 126) (v := ?_) (a' := ?_) #[true, true, true, true, true, true, true, true, true, true, true, true, true, true, true, true, false, false, false, false, false, false, false, false, false, false, false, false, false, false, false] rfl rfl (by kernel_rfl) (fun _ _ _ h => h) (Or.inl ⟨(by rfl), ?_⟩) ?_ ?_
             rotate_left
             ·
              intro w'
              go_simp
              with_reducible rfl
             rotate_left
             ·
              exact ap_
             refine pure_ (i := 16) (N := some 127) (v := ?_) (a' := ?_) #[true, true, true, true, true, true, true, true, true, true, true, true, true, true, true, true, true, false, false, false, false, false, false, false, false, false, false, false, false, false, false] rfl rfl (by kernel_rfl) (fun _ _ _ h => h) (Or.inl ⟨(by rfl), ?_⟩) ?_ ?_
             rotate_left
             ·
              intro w'
              go_simp
              with_reducible rfl
             rotate_left
             ·
              exact ap_
             refine take_ (i := 17) (N := some 128) (v := ?_) (a' := ?_) #[true, true, true, true, true, true, true, true, true, true, true, true, true, true, true, true, true, true, false, false, false, false, false, false, false, false, false, false, false, false, false] rfl rfl (by kernel_rfl) (fun _ _ _ h => h) (Or.inl ⟨(by rfl), ?_⟩) hHeld ?_ ?_
             rotate_left
             ·
              rintro w' ⟨s0, s1, s2⟩
              go_simp
              with_reducible rfl
             rotate_left
             ·
              exact ap_
             refine pure_ (i := 18) (N := some 129) (v := ?_) (a' := ?_) #[true, true, true, true, true, true, true, true, true, true, true, true, true, true, true, true, true, true, true, false, false, false, false, false, false, false, false, false, false, false, false] rfl rfl (by kernel_rfl) (fun _ _ _ h => h) (Or.inl ⟨(by rfl), ?_⟩) ?_ ?_
             rotate_left
             ·
              intro w'
              go_simp
              with_reducible rfl
             rotate_left
             ·
              exact ap_
             refine pure_ (i := 19) (N := some 130) (v := ?_) (a' := ?_) #[true, true, true, true, true, true, true, true, true, true, true, true, true, true, true, true, true, true, true, true, false, false, false, false, false, false, false, false, false, false, false] rfl rfl (by kernel_rfl) (fun _ _ _ h => h) (Or.inl ⟨(by rfl), ?_⟩) ?_ ?_
             rotate_left
             ·
              intro w'
              go_simp
              with_reducible rfl
             rotate_left
             ·
              exact ap_
             refine pure_ (i := 20) (N := some 131) (v := ?_) (a' := ?_) #[true, true, true, true, true, true, true, true, true, true, true, true, true, true, true, true, true, true, true, true, true, false, false, false, false, false, false, false, false, false, false] rfl rfl (by kernel_rfl) (fun _ _ _ h => h) (Or.inl ⟨(by rfl), ?_⟩) ?_ ?_
             rotate_left
             ·
              intro w'
              go_simp
              with_reducible rfl
             rotate_left
             ·
              exact ap_
             refine pure_ (i := 21) (N := some 132) (v := ?_) (a' := ?_) #[true, true, true, true, true, true, true, true, true, true, true, true, true, true, true, true, true, true, true, true, true, true, false, false, false, false, false, false, false, false, false] rfl rfl (by kernel_rfl) (fun _ _ _ h => h) (Or.inl ⟨(by rfl), ?_⟩) ?_ ?_
             rotate_left
             ·
              intro w'
              go_simp
              with_reducible rfl
             rotate_left
             ·
              exact ap_
             refine pure_ (i := 22) (N := some 133) (v := ?_) (a' := ?_) #[true, true, true, true, true, true, true, true, true, true, true, true, true, true, true, true, true, true, true, true, true, true, true, false, false, false, false, false, false, false, false] rfl rfl (by kernel_rfl) (fun _ _ _ h => h) (Or.inl ⟨(by rfl), ?_⟩) ?_ ?_
             rotate_left
             ·
              intro w'
              go_simp
              with_reducible rfl
             rotate_left
             ·
              exact ap_
             refine pure_ (i := 23) (N := some 134) (v := ?_) (a' := ?_) #[true, true, true, true, true, true, true, true, true, true, true, true, true, true, true, true, true, true, true, true, true, true, true, true, false, false, false, false, false, false, false] rfl rfl (by kernel_rfl) (fun _ _ _ h => h) (Or.inl ⟨(by rfl), ?_⟩) ?_ ?_
             rotate_left
             ·
              intro w'
              go_simp
              with_reducible rfl
             rotate_left
             ·
              exact ap_
             refine pure_ (i := 24) (N := some 135) (v := ?_) (a' := ?_) #[true, true, true, true, true, true, true, true, true, true, true, true, true, true, true, true, true, true, true, true, true, true, true, true, true, false, false, false, false, false, false] rfl rfl (by kernel_rfl) (fun _ _ _ h => h) (Or.inl ⟨(by rfl), ?_⟩) ?_ ?_
             rotate_left
             ·
              intro w'
              go_simp
              with_reducible rfl
             rotate_left
             ·
              exact ap_
             refine pure_ (i := 25) (N := some 136) (v := ?_) (a' := ?_) #[true, true, true, true, true, true, true, true, true, true, true, true, true, true, true, true, true, true, true, true, true, true, true, true, true, true, false, false, false, false, false] rfl rfl (by kernel_rfl) (fun _ _ _ h => h) (Or.inl ⟨(by rfl), ?_⟩) ?_ ?_
             rotate_left
             ·
              intro w'
              go_simp
              with_reducible rfl
             rotate_left
             ·
              exact ap_
             refine take_ (i := 26) (N := some 137) (v := ?_) (a' := ?_) #[true, true, true, true, true, true, true, true, true, true, true, true, true, true, true, true, true, true, true, true, true, true, true, true, true, true, true, false, false, false, false] rfl rfl (by kernel_rfl) (fun _ _ _ h => h) (Or.inl ⟨(by rfl), ?_⟩) hHeld ?_ ?_
             rotate_left
             ·
              rintro w' ⟨s0, s1, s2⟩
              go_simp
              with_reducible rfl
             rotate_left
             ·
              exact ap_
             refine pure_ (i := 27) (N := some 138) (v := ?_) (a' := ?_) #[true, true, true, true, true, true, true, true, true, true, true, true, true, true, true, true, true, true, true, true, true, true, true, true, true, true, true, true, false, false, false] rfl rfl (by kernel_rfl) (fun _ _ _ h => h) (Or.inl ⟨(by rfl), ?_⟩) ?_ ?_
             rotate_left
             ·
              intro w'
              go_simp
              with_reducible rfl
             rotate_left
             ·
              exact ap_
             refine pure_ (i := 28) (N := some 139) (v := ?_) (a' := ?_) #[true, true, true, true, true, true, true, true, true, true, true, true, true, true, true, true, true, true, true, true, true, true, true, true, true, true, true, true, true, false, false] rfl rfl (by kernel_rfl) (fun _ _ _ h => h) (Or.inl ⟨(by rfl), ?_⟩) ?_ ?_
             rotate_left
             ·
              intro w'
              go_simp
              with_reducible rfl
             rotate_left
             ·
              exact ap_
             refine pure_ (i := 29) (N := some 140) (v := ?_) (a' := ?_) #[true, true, true, true, true, true, true, true, true, true, true, true, true, true, true, true, true, true, true, true, true, true, true, true, true, true, true, true, true, true, false] rfl rfl (by kernel_rfl) (fun _ _ _ h => h) (Or.inl ⟨(by rfl), ?_⟩) ?_ ?_
             rotate_left
             ·
              intro w'
              go_simp
              with_reducible rfl
             rotate_left
             ·
              exact ap_
             refine last_ (i := 30) (N := none) #[true, true, true, true, true, true, true, true, true, true, true, true, true, true, true, true, true, true, true, true, true, true, true, true, true, true, true, true, true, true, true] rfl rfl (by kernel_rfl) (by decide) (fun K hK => ?_)
             refine skip_ (w1 := ?_) (by rfl) rfl ?_ ?_
             rotate_left
             ·
              go_simp
              rfl
             refine hK.out _ _ ?_
             clear hK K
             refine done_ (by kernel_rfl) ?_
             clear f1 f2 f3 e1 e2 e3 b1 b2 b3 hun
             have HI2 := am_ (HI.out.set0 p (.int .u64 (xr A (bnd (cpl U) V))))
             rw [uarr_put] at HI2
             clear HI hs0 hs1 hs2 hsp hfs
             try go_wp2
             go_roundg k3
             case measure => omega
             case rel => exact ⟨y + 1, _, by have := HJ2.out; rw [w64_ (by omega) (by omega)]; rfl, ⟨(by have := HJ2.out; omega)⟩, HR4, ⟨HL2.out _⟩, ⟨(by (with_reducible repeat (first | refine Inv.drewN ?_ _ | refine Inv.drew ?_)); exact HI2.out)⟩⟩
        | succ k2 =>
         have hj := HJ1.out
         have c1 : decide ((x : Int) < 5) = true := decide_eq_true (by omega)
         have c2 : decide (x < 5) = true := decide_eq_true (by omega)
         have HR2i := am_ (show iter (bRw t) k2 (x + 1) (bRw t x b) = B from HR1.out)
         have HYD := am_ (show iter (bS1 t x) 5 0 b = bRw t x b from rfl)
         have HYL := am_ ((bRw_length t x b).trans HBL2.out)
         generalize bRw t x b = Y at HR2i HYD HYL
         clear HR1 hj
         go_wp2
         clear c1 c2
         go_loopg [11] 5 (fun kq v11 w' => ∃ (y : Nat) (b : List Int), v11 = .int .i64 y ∧ Aside0 (y + kq = 5) ∧ Aside0 (iter (bS1 t x) kq y b = Y) ∧ Aside0 (b.length = 25) ∧ Aside0 (Inv w NoB w' [blk g9 133 (uarr .u64 b), blk g1 133 (uarr .u64 t), blk g4 168 (uarr .u64 shifts_), blk g3 157 (uarr .u64 consts_), blk g2 133 (uarr .u64 z25)] (fun _ => True)))
         case atStart => exact ⟨0, b, rfl, ⟨(by omega)⟩, HYD, HBL2, HI⟩
         case round =>
          clear HYD HBL2 HI b
          obtain ⟨y, b, rfl, HJ2, HR3, HBL, HI⟩ := hrel
          cases gk with
          | zero =>
           have hj := HJ2.out
           have c1 : decide ((y : Int) < 5) = false := decide_eq_false (by omega)
           have c2 : decide (y < 5) = false := decide_eq_false (by omega)
           have hi : b = Y := HR3.out
           subst hi
           clear HR3 hj HJ2
           try go_wp2
           clear c1 c2
           go_roundg k2
           case measure => omega
           case rel => exact ⟨x + 1, _, by have := HJ1.out; rw [w64_ (by omega) (by omega)]; rfl, ⟨(by have := HJ1.out; omega)⟩, HR2i, HBL, HI⟩
          | succ k3 =>
           have hj := HJ2.out
           have c1 : decide ((y : Int) < 5) = true := decide_eq_true (by omega)
           have c2 : decide (y < 5) = true := decide_eq_true (by omega)
           have hi := HR3.out
           rw [iter_succ] at hi
           unfold bS1 at hi
           have hj5 : y < 5 := by omega
           have hx5 : x < 5 := by have := HJ1.out; omega
           have hl := HBL.out
           have hla := HTL2.out
           have h1 : wr.heap[g1]? = _ := HI.out.get 1 rfl
           have h4 : wr.heap[g4]? = _ := HI.out.get 2 rfl
           generalize hp : x + 5 * y = p at hi
           generalize hd : y + 5 * ((2 * x + 3 * y) % 5) = d at hi
           obtain ⟨f1, b1⟩ := ix2 hx5 hj5 hp
           obtain ⟨f2, b2⟩ := ix1 hx5 hj5 hd
           have HL2 := am_ (show ∀ v, (b.set d v).length = 25 from fun v => by rw [List.length_set]; exact hl)
           clear hp hd hj5 hx5 hj
           have hs0 := row_cell h1 (i := p) (by rw [hla]; exact b1)
           have hs1 : wr.cell? ⟨g4, p, none⟩ = some (.int .u64 (shifts_.getD p 0)) := row_cell h4 (i := p) b1
           have HSH := am_ (sh b1)
           have hsd := row_cell HI.out.blk0 (i := d) (by rw [hl]; exact b2)
           have hfs := blk_frozen HI.out.blk0 d
           clear h1 h4 HR3 hl hla HBL
           generalize t.getD p 0 = A at hs0 hi
           generalize shifts_.getD p 0 = D at hs1 hi HSH
           have HR4 := am_ hi
           clear hi
           have e1 := lt25 b1
           have e2 := lt25 b2
           replace b1 := eq_true b1
           replace b2 := eq_true b2
           go_wp2
           refine start_ (n := 24) (S := fun w' => w'.cell? ⟨g1, p, none⟩ = some (.int .u64 A) ∧ w'.cell? ⟨g4, p, none⟩ = some (.int .u64 D)) (ds := [23]) #[false, false, false, false, false, false, false, false, false, false, false, false, false, false, false, false, false, false, false, false, false, false, false, false] (by kernel_rfl) rfl rfl ⟨hs0, hs1⟩ (fun hHeld => ?_)
           refine pure_ (i := 0) (N := some 80) (v := ?_) (a' := ?_) #[true, false, false, false, false, false, false, false, false, false, false, false, false, false, false, false, false, false, false, false, false, false, false, false] rfl rfl (by kernel_rfl) (fun _ _ _ h => h) (Or.inl ⟨(by rfl), ?_⟩) ?_ ?_
           rotate_left
           ·
            intro w'
            go_simp
            with_reducible rfl
           rotate_left
           ·
            exact ap_
           refine pure_ (i := 1) (N := some 81) (v := ?_) (a' := ?_) #[true, true, false, false, false, false, false, false, false, false, false, false, false, false, false, false, false, false, false, false, false, false, false, false] rfl rfl (by kernel_rfl) (fun _ _ _ h => h) (Or.inl ⟨(by rfl), ?_⟩) ?_ ?_
           rotate_left
           ·
            intro w'
            go_simp
            with_reducible rfl
           rotate_left
           ·
            exact ap_
           refine pure_ (i := 2) (N := some 82) (v := ?_) (a' := ?_) #[true, true, true, false, false, false, false, false, false, false, false, false, false, false, false, false, false, false, false, false, false, false, false, false] rfl rfl (by kernel_rfl) (fun _ _ _ h => h) (Or.inl ⟨(by rfl), ?_⟩) ?_ ?_
           rotate_left
           ·
            intro w'
            go_simp
            with_reducible rfl
           rotate_left
           ·
            exact ap_
           refine pure_ (i := 3) (N := some 83) (v := ?_) (a' := ?_) #[true, true, true, true, false, false, false, false, false, false, false, false, false, false, false, false, false, false, false, false, false, false, false, false] rfl rfl (by kernel_rfl) (fun _ _ _ h => h) (Or.inl ⟨(by rfl), ?_⟩) ?_ ?_
           rotate_left
           ·
            intro w'
            go_simp
            with_reducible rfl
           rotate_left
           ·
            exact ap_
           refine pure_ (i := 4) (N := some 84) (v := ?_) (a' := ?_) #[true, true, true, true, true, false, false, false, false, false, false, false, false, false, false, false, false, false, false, false, false, false, false, false] rfl rfl (by kernel_rfl) (fun _ _ _ h => h) (Or.inl ⟨(by rfl), ?_⟩) ?_ ?_
           rotate_left
           ·
            intro w'
            go_simp
            with_reducible rfl
           rotate_left
           ·
            exact ap_
           refine pure_ (i := 5) (N := some 85) (v := ?_) (a' := ?_) #[true, true, true, true, true, true, false, false, false, false, false, false, false, false, false, false, false, false, false, false, false, false, false, false] rfl rfl (by kernel_rfl) (fun _ _ _ h => h) (Or.inl ⟨(by rfl), ?_⟩) ?_ ?_
           rotate_left
           ·
            intro w'
            go_simp
            with_reducible rfl
           rotate_left
           ·
            exact ap_
           refine pure_ (i := 6) (N := some 86) (v := ?_) (a' := ?_) #[true, true, true, true, true, true, true, false, false, false, false, false, false, false, false, false, false, false, false, false, false, false, false, false] rfl rfl (by kernel_rfl) (fun _ _ _ h => h) (Or.inl ⟨(by rfl), ?_⟩) ?_ ?_
           rotate_left
           ·
            intro w'
            go_simp
            with_reducible rfl
           rotate_left
           ·
            exact ap_
           refine pure_ (i := 7) (N := some 87) (v := ?_) (a' := ?_) #[true, true, true, true, true, true, true, true, false, false, false, false, false, false, false, false, false, false, false, false, false, false, false, false] rfl rfl (by kernel_rfl) (fun _ _ _ h => h) (Or.inl ⟨(by rfl), ?_⟩) ?_ ?_
           rotate_left
           ·
            intro w'
            go_simp
            with_reducible rfl
           rotate_left
           ·
            exact ap_
           refine pure_ (i := 8) (N := some 88) (v := ?_) (a' := ?_) #[true, true, true, true, true, true, true, true, true, false, false, false, false, false, false, false, false, false, false, false, false, false, false, false] rfl rfl (by kernel_rfl) (fun _ _ _ h => h) (Or.inl ⟨(by rfl), ?_⟩) ?_ ?_
           rotate_left
           ·
            intro w'
            go_simp
            with_reducible rfl
           rotate_left
           ·
            exact ap_
           refine pure_ (i := 9) (N := some 89) (v := ?_) (a' := ?_) #[true, true, true, true, true, true, true, true, true, true, false, false, false, false, false, false, false, false, false, false, false, false, false, false] rfl rfl (by kernel_rfl) (fun _ _ _ h => h) (Or.inl ⟨(by rfl), ?_⟩) ?_ ?_
           rotate_left
           ·
            intro w'
            go_simp
            with_reducible rfl
           rotate_left
           ·
            exact ap_
           refine pure_ (i := 10) (N := some 90) (v := ?_) (a' := ?_) #[true, true, true, true, true, true, true, true, true, true, true, false, false, false, false, false, false, false, false, false, false, false, false, false] rfl rfl (by kernel_rfl) (fun _ _ _ h => h) (Or.inl ⟨(by rfl), ?_⟩) ?_ ?_
           rotate_left
           ·
            intro w'
            go_simp
            with_reducible rfl
           rotate_left
           ·
            exact ap_
           refine pure_ (i := 11) (N := some 91) (v := ?_) (a' := ?_) #[true, true, true, true, true, true, true, true, true, true, true, true, false, false, false, false, false, false, false, false, false, false, false, false] rfl rfl (by kernel_rfl) (fun _ _ _ h => h) (Or.inl ⟨(by rfl), ?_⟩) ?_ ?_
           rotate_left
           ·
            intro w'
            go_simp
            with_reducible rfl
           rotate_left
           ·
            exact ap_
           refine pure_ (i := 12) (N := some 92) (v := ?_) (a' := ?_) #[true, true, true, true, true, true, true, true, true, true, true, true, true, false, false, false, false, false, false, false, false, false, false, false] rfl rfl (by kernel_rfl) (fun _ _ _ h => h) (Or.inl ⟨(by rfl), ?_⟩) ?_ ?_
           rotate_left
           ·
            intro w'
            go_simp
            with_reducible rfl
           rotate_left
           ·
            exact ap_
           refine pure_ (i := 13) (N := some 93) (v := ?_) (a' := ?_) #[true, true, true, true, true, true, true, true, true, true, true, true, true, true, false, false, false, false, false, false, false, false, false, false] rfl rfl (by kernel_rfl) (fun _ _ _ h => h) (Or.inl ⟨(by rfl), ?_⟩) ?_ ?_
           rotate_left
           ·
            intro w'
            go_simp
            with_reducible rfl
           rotate_left
           ·
            exact ap_
           refine take_ (i := 14) (N := some 94) (v := ?_) (a' := ?_) #[true, true, true, true, true, true, true, true, true, true, true, true, true, true, true, false, false, false, false, false, false, false, false, false] rfl rfl (by kernel_rfl) (fun _ _ _ h => h) (Or.inl ⟨(by rfl), ?_⟩) hHeld ?_ ?_
           rotate_left
           ·
            rintro w' ⟨s0, s1⟩
            go_simp
            with_reducible rfl
           rotate_left
           ·
            exact ap_
           refine pure_ (i := 15) (N := some 95) (v := ?_) (a' := ?_) #[true, true, true, true, true, true, true, true, true, true, true, true, true, true, true, true, false, false, false, false, false, false, false, false] rfl rfl (by kernel_rfl) (fun _ _ _ h => h) (Or.inl ⟨(by rfl), ?_⟩) ?_ ?_
           rotate_left
           ·
            intro w'
            go_simp
            with_reducible rfl
           rotate_left
           ·
            exact ap_
           refine pure_ (i := 16) (N := some 96) (v := ?_) (a' := ?_) #[true, true, true, true, true, true, true, true, true, true, true, true, true, true, true, true, true, false, false, false, false, false, false, false] rfl rfl (by kernel_rfl) (fun _ _ _ h => h) (Or.inl ⟨(by rfl), ?_⟩) ?_ ?_
           rotate_left
           ·
            intro w'
            go_simp
            with_reducible rfl
           rotate_left
           ·
            exact ap_
           refine pure_ (i := 17) (N := some 97) (v := ?_) (a' := ?_) #[true, true, true, true, true, true, true, true, true, true, true, true, true, true, true, true, true, true, false, false, false, false, false, false] rfl rfl (by kernel_rfl) (fun _ _ _ h => h) (Or.inl ⟨(by rfl), ?_⟩) ?_ ?_
           rotate_left
           ·
            intro w'
            go_simp
            with_reducible rfl
           rotate_left
           ·
            exact ap_
           refine pure_ (i := 18) (N := some 98) (v := ?_) (a' := ?_) #[true, true, true, true, true, true, true, true, true, true, true, true, true, true, true, true, true, true, true, false, false, false, false, false] rfl rfl (by kernel_rfl) (fun _ _ _ h => h) (Or.inl ⟨(by rfl), ?_⟩) ?_ ?_
           rotate_left
           ·
            intro w'
            go_simp
            with_reducible rfl
           rotate_left
           ·
            exact ap_
           refine pure_ (i := 19) (N := some 99) (v := ?_) (a' := ?_) #[true, true, true, true, true, true, true, true, true, true, true, true, true, true, true, true, true, true, true, true, false, false, false, false] rfl rfl (by kernel_rfl) (fun _ _ _ h => h) (Or.inl ⟨(by rfl), ?_⟩) ?_ ?_
           rotate_left
           ·
            intro w'
            go_simp
            with_reducible rfl
           rotate_left
           ·
            exact ap_
           refine take_ (i := 20) (N := some 100) (v := ?_) (a' := ?_) #[true, true, true, true, true, true, true, true, true, true, true, true, true, true, true, true, true, true, true, true, true, false, false, false] rfl rfl (by kernel_rfl) (fun _ _ _ h => h) (Or.inl ⟨(by rfl), ?_⟩) hHeld ?_ ?_
           rotate_left
           ·
            rintro w' ⟨s0, s1⟩
            go_simp
            with_reducible rfl
           rotate_left
           ·
            exact ap_
           refine one_ (i := 21) (N := some 101) #[true, true, true, true, true, true, true, true, true, true, true, true, true, true, true, true, true, true, true, true, true, true, false, false] rfl rfl (by kernel_rfl) (by decide) (fun K hK => ?_)
           refine goes_ Try.func162 (by kernel_rfl) rfl #[.int .u64 A, .int .u64 D] (by rfl) rfl rfl qz13_ ?_
           with_reducible refine (spec_l03Turn.calls A D (turn A D) _ (turn_eq HSH.out.1 HSH.out.2)).mono ?_
           rintro e w12 ⟨rfl, ⟨m1, rfl⟩⟩
           refine ⟨_, rfl, ?_⟩
           refine hK.out _ _ ⟨hs0, hs1⟩ (fun hHeld => ?_)
           clear hK K
           refine norm_ (a' := ?_) ?_ ?_
           rotate_left
           ·
            show Act.put _ (some 101) _ = _
            exact ap_
           refine pure_ (i := 22) (N := some 102) (v := ?_) (a' := ?_) #[true, true, true, true, true, true, true, true, true, true, true, true, true, true, true, true, true, true, true, true, true, true, true, false] rfl rfl (by kernel_rfl) (fun _ _ _ h => h) (Or.inl ⟨(by rfl), ?_⟩) ?_ ?_
           rotate_left
           ·
            intro w'
            go_simp
            with_reducible rfl
           rotate_left
           ·
            exact ap_
           refine last_ (i := 23) (N := none) #[true, true, true, true, true, true, true, true, true, true, true, true, true, true, true, true, true, true, true, true, true, true, true, true] rfl rfl (by kernel_rfl) (by decide) (fun K hK => ?_)
           refine skip_ (w1 := ?_) (by rfl) rfl ?_ ?_
           rotate_left
           ·
            go_simp
            rfl
           refine hK.out _ _ ?_
           clear hK K
           refine done_ (by kernel_rfl) ?_
           clear f1 f2 e1 e2 b1 b2
           have HI2 := am_ (fun n => by have h := (HI.out.drewN n).set0 d (.int .u64 (turn A D)); rw [uarr_put] at h; exact h)
           clear HI hs0 hs1 hsd hfs
           try go_wp2
           go_roundg k3
           case measure => omega
           case rel => exact ⟨y + 1, _, by have := HJ2.out; rw [w64_ (by omega) (by omega)]; rfl, ⟨(by have := HJ2.out; omega)⟩, HR4, ⟨HL2.out _⟩, ⟨(by (with_reducible repeat (first | refine Inv.drewN ?_ _ | refine Inv.drew ?_)); exact HI2.out _)⟩⟩
      | succ k2 =>
       have hj := HJ1.out
       have c1 : decide ((i : Int) < 25) = true := decide_eq_true (by omega)
       have c2 : decide (i < 25) = true := decide_eq_true (by omega)
       have hi := HR1.out
       rw [iter_succ] at hi
       unfold tS at hi
       have hi25 : i < 25 := by omega
       have hl := HAL.out
       have hcl := HCL.out
       have h6 : wr.heap[g6]? = _ := HI.out.get 1 rfl
       have f3 := mv3' hi25
       generalize hp : (i + 4) % 5 = p at hi
       have f2 := mv2' hi25 hp
       have hp5 := mv5 hp
       clear hp
       generalize hq : (i + 1) % 5 = q at hi
       have f4 := mv4' hi25 hq
       have hq5 := mv5 hq
       clear hq
       have HL2 := am_ (show ∀ v, (t.set i v).length = 25 from fun v => by rw [List.length_set]; exact hl)
       have hs0 := row_cell HI.out.blk0 (i := i) (by omega)
       have hfs := blk_frozen HI.out.blk0 i
       have hs1 := row_cell h6 (i := p) (by omega)
       have hs2 := row_cell h6 (i := q) (by omega)
       clear h6 HR1 hj hl hcl HAL
       have f1 := mv1' hi25
       have ci : ((i : Int) < 25) = True := eq_true (by omega)
       have cn : (i < 25) = True := eq_true hi25
       have pp := lt5 hp5
       have pq := lt5 hq5
       have pn := eq_true hp5
       have qn := eq_true hq5
       generalize t.getD i 0 = A at hs0 hi
       generalize c.getD p 0 = U at hs1 hi
       generalize c.getD q 0 = V at hs2 hi
       have HR3 := am_ hi
       clear hi hi25 hp5 hq5
       go_wp2
       refine start_ (n := 18) (S := fun w' => w'.cell? ⟨g1, i, none⟩ = some (.int .u64 A) ∧ w'.cell? ⟨g6, p, none⟩ = some (.int .u64 U) ∧ w'.cell? ⟨g6, q, none⟩ = some (.int .u64 V)) (ds := [17]) #[false, false, false, false, false, false, false, false, false, false, false, false, false, false, false, false, false, false] (by kernel_rfl) rfl rfl ⟨hs0, hs1, hs2⟩ (fun hHeld => ?_)
       refine pure_ (i := 0) (N := some 54) (v := ?_) (a' := ?_) #[true, false, false, false, false, false, false, false, false, false, false, false, false, false, false, false, false, false] rfl rfl (by kernel_rfl) (fun _ _ _ h => h) (Or.inl ⟨(by rfl), ?_⟩) ?_ ?_
       rotate_left
       ·
        intro w'
        go_simp
        with_reducible rfl
       rotate_left
       ·
        exact ap_
       refine pure_ (i := 1) (N := some 55) (v := ?_) (a' := ?_) #[true, true, false, false, false, false, false, false, false, false, false, false, false, false, false, false, false, false] rfl rfl (by kernel_rfl) (fun _ _ _ h => h) (Or.inl ⟨(by rfl), ?_⟩) ?_ ?_
       rotate_left
       ·
        intro w'
        go_simp
        with_reducible rfl
       rotate_left
       ·
        exact ap_
       refine take_ (i := 2) (N := some 56) (v := ?_) (a' := ?_) #[true, true, true, false, false, false, false, false, false, false, false, false, false, false, false, false, false, false] rfl rfl (by kernel_rfl) (fun _ _ _ h => h) (Or.inl ⟨(by rfl), ?_⟩) hHeld ?_ ?_
       rotate_left
       ·
        rintro w' ⟨s0, s1, s2⟩
        go_simp
        with_reducible rfl
       rotate_left
       ·
        exact ap_
       refine pure_ (i := 3) (N := some 57) (v := ?_) (a' := ?_) #[true, true, true, true, false, false, false, false, false, false, false, false, false, false, false, false, false, false] rfl rfl (by kernel_rfl) (fun _ _ _ h => h) (Or.inl ⟨(by rfl), ?_⟩) ?_ ?_
       rotate_left
       ·
        intro w'
        go_simp
        with_reducible rfl
       rotate_left
       ·
        exact ap_
       refine pure_ (i := 4) (N := some 58) (v := ?_) (a' := ?_) #[true, true, true, true, true, false, false, false, false, false, false, false, false, false, false, false, false, false] rfl rfl (by kernel_rfl) (fun _ _ _ h => h) (Or.inl ⟨(by rfl), ?_⟩) ?_ ?_
       rotate_left
       ·
        intro w'
        go_simp
        with_reducible rfl
       rotate_left
       ·
        exact ap_
       refine pure_ (i := 5) (N := some 59) (v := ?_) (a' := ?_) #[true, true, true, true, true, true, false, false, false, false, false, false, false, false, false, false, false, false] rfl rfl (by kernel_rfl) (fun _ _ _ h => h) (Or.inl ⟨(by rfl), ?_⟩) ?_ ?_
       rotate_left
       ·
        intro w'
        go_simp
        with_reducible rfl
       rotate_left
       ·
        exact ap_
       refine pure_ (i := 6) (N := some 60) (v := ?_) (a' := ?_) #[true, true, true, true, true, true, true, false, false, false, false, false, false, false, false, false, false, false] rfl rfl (by kernel_rfl) (fun _ _ _ h => h) (Or.inl ⟨(by rfl), ?_⟩) ?_ ?_
       rotate_left
       ·
        intro w'
        go_simp
        with_reducible rfl
       rotate_left
       ·
        exact ap_
       refine take_ (i := 7) (N := some 61) (v := ?_) (a' := ?_) #[true, true, true, true, true, true, true, true, false, false, false, false, false, false, false, false, false, false] rfl rfl (by kernel_rfl) (fun _ _ _ h => h) (Or.inl ⟨(by rfl), ?_⟩) hHeld ?_ ?_
       rotate_left
       ·
        rintro w' ⟨s0, s1, s2⟩
        go_simp
        with_reducible rfl
       rotate_left
       ·
        exact ap_
       refine pure_ (i := 8) (N := some 62) (v := ?_) (a' := ?_) #[true, true, true, true, true, true, true, true, true, false, false, false, false, false, false, false, false, false] rfl rfl (by kernel_rfl) (fun _ _ _ h => h) (Or.inl ⟨(by rfl), ?_⟩) ?_ ?_
       rotate_left
       ·
        intro w'
        go_simp
        with_reducible rfl
       rotate_left
       ·
        exact ap_
       refine pure_ (i := 9) (N := some 63) (v := ?_) (a' := ?_) #[true, true, true, true, true, true, true, true, true, true, false, false, false, false, false, false, false, false] rfl rfl (by kernel_rfl) (fun _ _ _ h => h) (Or.inl ⟨(by rfl), ?_⟩) ?_ ?_
       rotate_left
       ·
        intro w'
        go_simp
        with_reducible rfl
       rotate_left
       ·
        exact ap_
       refine pure_ (i := 10) (N := some 64) (v := ?_) (a' := ?_) #[true, true, true, true, true, true, true, true, true, true, true, false, false, false, false, false, false, false] rfl rfl (by kernel_rfl) (fun _ _ _ h => h) (Or.inl ⟨(by rfl), ?_⟩) ?_ ?_
       rotate_left
       ·
        intro w'
        go_simp
        with_reducible rfl
       rotate_left
       ·
        exact ap_
       refine pure_ (i := 11) (N := some 65) (v := ?_) (a' := ?_) #[true, true, true, true, true, true, true, true, true, true, true, true, false, false, false, false, false, false] rfl rfl (by kernel_rfl) (fun _ _ _ h => h) (Or.inl ⟨(by rfl), ?_⟩) ?_ ?_
       rotate_left
       ·
        intro w'
        go_simp
        with_reducible rfl
       rotate_left
       ·
        exact ap_
       refine take_ (i := 12) (N := some 66) (v := ?_) (a' := ?_) #[true, true, true, true, true, true, true, true, true, true, true, true, true, false, false, false, false, false] rfl rfl (by kernel_rfl) (fun _ _ _ h => h) (Or.inl ⟨(by rfl), ?_⟩) hHeld ?_ ?_
       rotate_left
       ·
        rintro w' ⟨s0, s1, s2⟩
        go_simp
        with_reducible rfl
       rotate_left
       ·
        exact ap_
       refine one_ (i := 13) (N := some 67) #[true, true, true, true, true, true, true, true, true, true, true, true, true, true, false, false, false, false] rfl rfl (by kernel_rfl) (by decide) (fun K hK => ?_)
       refine goes_ Try.func162 (by kernel_rfl) rfl #[.int .u64 V, .int .u64 1] (by rfl) rfl rfl qz13_ ?_
       with_reducible refine (spec_l03Turn.calls V 1 (turn V 1) _ (turn_eq (by decide) (by decide))).mono ?_
       rintro e w12 ⟨rfl, ⟨m1, rfl⟩⟩
       refine ⟨_, rfl, ?_⟩
       refine hK.out _ _ ⟨hs0, hs1, hs2⟩ (fun hHeld => ?_)
       clear hK K
       refine norm_ (a' := ?_) ?_ ?_
       rotate_left
       ·
        show Act.put _ (some 67) _ = _
        exact ap_
       refine pure_ (i := 14) (N := some 68) (v := ?_) (a' := ?_) #[true, true, true, true, true, true, true, true, true, true, true, true, true, true, true, false, false, false] rfl rfl (by kernel_rfl) (fun _ _ _ h => h) (Or.inl ⟨(by rfl), ?_⟩) ?_ ?_
       rotate_left
       ·
        intro w'
        go_simp
        with_reducible rfl
       rotate_left
       ·
        exact ap_
       refine pure_ (i := 15) (N := some 69) (v := ?_) (a' := ?_) #[true, true, true, true, true, true, true, true, true, true, true, true, true, true, true, true, false, false] rfl rfl (by kernel_rfl) (fun _ _ _ h => h) (Or.inl ⟨(by rfl), ?_⟩) ?_ ?_
       rotate_left
       ·
        intro w'
        go_simp
        with_reducible rfl
       rotate_left
       ·
        exact ap_
       refine pure_ (i := 16) (N := some 70) (v := ?_) (a' := ?_) #[true, true, true, true, true, true, true, true, true, true, true, true, true, true, true, true, true, false] rfl rfl (by kernel_rfl) (fun _ _ _ h => h) (Or.inl ⟨(by rfl), ?_⟩) ?_ ?_
       rotate_left
       ·
        intro w'
        go_simp
        with_reducible rfl
       rotate_left
       ·
        exact ap_
       refine last_ (i := 17) (N := none) #[true, true, true, true, true, true, true, true, true, true, true, true, true, true, true, true, true, true] rfl rfl (by kernel_rfl) (by decide) (fun K hK => ?_)
       refine skip_ (w1 := ?_) (by rfl) rfl ?_ ?_
       rotate_left
       ·
        go_simp
        rfl
       refine hK.out _ _ ?_
       clear hK K
       refine done_ (by kernel_rfl) ?_
       clear f1 f2 f3 f4 pp pq pn qn
       have HI2 := am_ (fun n => by have h := (HI.out.drewN n).set0 i (.int .u64 (xr A (xr U (turn V 1)))); rw [uarr_put] at h; exact h)
       clear HI hs0 hs1 hs2 hfs
       try go_wp2
       go_roundg k2
       case measure => omega
       case rel => exact ⟨i + 1, _, by have := HJ1.out; rw [w64_ (by omega) (by omega)]; rfl, ⟨(by have := HJ1.out; omega)⟩, HR3, ⟨HL2.out _⟩, ⟨(by (with_reducible repeat (first | refine Inv.drewN ?_ _ | refine Inv.drew ?_)); exact HI2.out _)⟩⟩
    | succ k2 =>
     have hj := HJ1.out
     have c1 : decide ((i : Int) < 5) = true := decide_eq_true (by omega)
     have c2 : decide (i < 5) = true := decide_eq_true (by omega)
     have hi := HR1.out
     rw [iter_succ] at hi
     unfold cS at hi
     have hi5 : i < 5 := by omega
     have hl := HL.out
     have hl1 := HL1.out
     have h1 : wr.heap[g1]? = _ := HI.out.get 1 rfl
     have HL2 := am_ (show ∀ v, (c.set i v).length = 5 from fun v => by rw [List.length_set]; exact hl1)
     have hs0 := row_cell h1 (i := i) (by omega)
     have hs1 := row_cell h1 (i := i + 5) (by omega)
     have hs2 := row_cell h1 (i := i + 10) (by omega)
     have hs3 := row_cell h1 (i := i + 15) (by omega)
     have hs4 := row_cell h1 (i := i + 20) (by omega)
     have hs6 := row_cell HI.out.blk0 (i := i) (by omega)
     have hfs := blk_frozen HI.out.blk0 i
     clear h1 HR1 hj hl hl1
     have ci : ((i : Int) < 5) = True := eq_true (by omega)
     have cn : (i < 5) = True := eq_true (by omega)
     have di : ((i : Int) < 25) = True := eq_true (by omega)
     have dn : (i < 25) = True := eq_true (by omega)
     have f1 := wr_ (n := (i : Int) + 5) (p := i + 5) (by omega) (by omega)
     have f2 := wr_ (n := (i : Int) + 10) (p := i + 10) (by omega) (by omega)
     have f3 := wr_ (n := (i : Int) + 15) (p := i + 15) (by omega) (by omega)
     have f4 := wr_ (n := (i : Int) + 20) (p := i + 20) (by omega) (by omega)
     have b1 : i + 5 < 25 := by omega
     have b2 : i + 10 < 25 := by omega
     have b3 : i + 15 < 25 := by omega
     have b4 : i + 20 < 25 := by omega
     generalize a.getD i 0 = A0 at hs0 hi
     generalize a.getD (i + 5) 0 = A1 at hs1 hi
     generalize a.getD (i + 10) 0 = A2 at hs2 hi
     generalize a.getD (i + 15) 0 = A3 at hs3 hi
     generalize a.getD (i + 20) 0 = A4 at hs4 hi
     have HR3 := am_ hi
     clear hi hi5
     generalize i + 5 = p1 at f1 b1 hs1
     generalize i + 10 = p2 at f2 b2 hs2
     generalize i + 15 = p3 at f3 b3 hs3
     generalize i + 20 = p4 at f4 b4 hs4
     have e1 := lt25 b1
     have e2 := lt25 b2
     have e3 := lt25 b3
     have e4 := lt25 b4
     replace b1 := eq_true b1
     replace b2 := eq_true b2
     replace b3 := eq_true b3
     replace b4 := eq_true b4
     go_wp2
     refine start_ (n := 26) (S := fun w' => w'.cell? ⟨g1, i, none⟩ = some (.int .u64 A0) ∧ w'.cell? ⟨g1, p1, none⟩ = some (.int .u64 A1) ∧ w'.cell? ⟨g1, p2, none⟩ = some (.int .u64 A2) ∧ w'.cell? ⟨g1, p3, none⟩ = some (.int .u64 A3) ∧ w'.cell? ⟨g1, p4, none⟩ = some (.int .u64 A4)) (ds := [25]) #[false, false, false, false, false, false, false, false, false, false, false, false, false, false, false, false, false, false, false, false, false, false, false, false, false, false] (by kernel_rfl) rfl rfl ⟨hs0, hs1, hs2, hs3, hs4⟩ (fun hHeld => ?_)
     refine pure_ (i := 0) (N := some 25) (v := ?_) (a' := ?_) #[true, false, false, false, false, false, false, false, false, false, false, false, false, false, false, false, false, false, false, false, false, false, false, false, false, false] rfl rfl (by kernel_rfl) (fun _ _ _ h => h) (Or.inl ⟨(by rfl), ?_⟩) ?_ ?_
     rotate_left
     ·
      intro w'
      go_simp
      with_reducible rfl
     rotate_left
     ·
      exact ap_
     refine pure_ (i := 1) (N := some 26) (v := ?_) (a' := ?_) #[true, true, false, false, false, false, false, false, false, false, false, false, false, false, false, false, false, false, false, false, false, false, false, false, false, false] rfl rfl (by kernel_rfl) (fun _ _ _ h => h) (Or.inl ⟨(by rfl), ?_⟩) ?_ ?_
     rotate_left
     ·
      intro w'
      go_simp
      with_reducible rfl
     rotate_left
     ·
      exact ap_
     refine pure_ (i := 2) (N := some 27) (v := ?_) (a' := ?_) #[true, true, true, false, false, false, false, false, false, false, false, false, false, false, false, false, false, false, false, false, false, false, false, false, false, false] rfl rfl (by kernel_rfl) (fun _ _ _ h => h) (Or.inl ⟨(by rfl), ?_⟩) ?_ ?_
     rotate_left
     ·
      intro w'
      go_simp
      with_reducible rfl
     rotate_left
     ·
      exact ap_
     refine take_ (i := 3) (N := some 28) (v := ?_) (a' := ?_) #[true, true, true, true, false, false, false, false, false, false, false, false, false, false, false, false, false, false, false, false, false, false, false, false, false, false] rfl rfl (by kernel_rfl) (fun _ _ _ h => h) (Or.inl ⟨(by rfl), ?_⟩) hHeld ?_ ?_
     rotate_left
     ·
      rintro w' ⟨s0, s1, s2, s3, s4⟩
      go_simp
      with_reducible rfl
     rotate_left
     ·
      exact ap_
     refine pure_ (i := 4) (N := some 29) (v := ?_) (a' := ?_) #[true, true, true, true, true, false, false, false, false, false, false, false, false, false, false, false, false, false, false, false, false, false, false, false, false, false] rfl rfl (by kernel_rfl) (fun _ _ _ h => h) (Or.inl ⟨(by rfl), ?_⟩) ?_ ?_
     rotate_left
     ·
      intro w'
      go_simp
      with_reducible rfl
     rotate_left
     ·
      exact ap_
     refine pure_ (i := 5) (N := some 30) (v := ?_) (a' := ?_) #[true, true, true, true, true, true, false, false, false, false, false, false, false, false, false, false, false, false, false, false, false, false, false, false, false, false] rfl rfl (by kernel_rfl) (fun _ _ _ h => h) (Or.inl ⟨(by rfl), ?_⟩) ?_ ?_
     rotate_left
     ·
      intro w'
      go_simp
      with_reducible rfl
     rotate_left
     ·
      exact ap_
     refine pure_ (i := 6) (N := some 31) (v := ?_) (a' := ?_) #[true, true, true, true, true, true, true, false, false, false, false, false, false, false, false, false, false, false, false, false, false, false, false, false, false, false] rfl rfl (by kernel_rfl) (fun _ _ _ h => h) (Or.inl ⟨(by rfl), ?_⟩) ?_ ?_
     rotate_left
     ·
      intro w'
      go_simp
      with_reducible rfl
     rotate_left
     ·
      exact ap_
     refine take_ (i := 7) (N := some 32) (v := ?_) (a' := ?_) #[true, true, true, true, true, true, true, true, false, false, false, false, false, false, false, false, false, false, false, false, false, false, false, false, false, false] rfl rfl (by kernel_rfl) (fun _ _ _ h => h) (Or.inl ⟨(by rfl), ?_⟩) hHeld ?_ ?_
     rotate_left
     ·
      rintro w' ⟨s0, s1, s2, s3, s4⟩
      go_simp
      with_reducible rfl
     rotate_left
     ·
      exact ap_
     refine pure_ (i := 8) (N := some 33) (v := ?_) (a' := ?_) #[true, true, true, true, true, true, true, true, true, false, false, false, false, false, false, false, false, false, false, false, false, false, false, false, false, false] rfl rfl (by kernel_rfl) (fun _ _ _ h => h) (Or.inl ⟨(by rfl), ?_⟩) ?_ ?_
     rotate_left
     ·
      intro w'
      go_simp
      with_reducible rfl
     rotate_left
     ·
      exact ap_
     refine pure_ (i := 9) (N := some 34) (v := ?_) (a' := ?_) #[true, true, true, true, true, true, true, true, true, true, false, false, false, false, false, false, false, false, false, false, false, false, false, false, false, false] rfl rfl (by kernel_rfl) (fun _ _ _ h => h) (Or.inl ⟨(by rfl), ?_⟩) ?_ ?_
     rotate_left
     ·
      intro w'
      go_simp
      with_reducible rfl
     rotate_left
     ·
      exact ap_
     refine pure_ (i := 10) (N := some 35) (v := ?_) (a' := ?_) #[true, true, true, true, true, true, true, true, true, true, true, false, false, false, false, false, false, false, false, false, false, false, false, false, false, false] rfl rfl (by kernel_rfl) (fun _ _ _ h => h) (Or.inl ⟨(by rfl), ?_⟩) ?_ ?_
     rotate_left
     ·
      intro w'
      go_simp
      with_reducible rfl
     rotate_left
     ·
      exact ap_
     refine pure_ (i := 11) (N := some 36) (v := ?_) (a' := ?_) #[true, true, true, true, true, true, true, true, true, true, true, true, false, false, false, false, false, false, false, false, false, false, false, false, false, false] rfl rfl (by kernel_rfl) (fun _ _ _ h => h) (Or.inl ⟨(by rfl), ?_⟩) ?_ ?_
     rotate_left
     ·
      intro w'
      go_simp
      with_reducible rfl
     rotate_left
     ·
      exact ap_
     refine take_ (i := 12) (N := some 37) (v := ?_) (a' := ?_) #[true, true, true, true, true, true, true, true, true, true, true, true, true, false, false, false, false, false, false, false, false, false, false, false, false, false] rfl rfl (by kernel_rfl) (fun _ _ _ h => h) (Or.inl ⟨(by rfl), ?_⟩) hHeld ?_ ?_
     rotate_left
     ·
      rintro w' ⟨s0, s1, s2, s3, s4⟩
      go_simp
      with_reducible rfl
     rotate_left
     ·
      exact ap_
     refine pure_ (i := 13) (N := some 38) (v := ?_) (a' := ?_) #[true, true, true, true, true, true, true, true, true, true, true, true, true, true, false, false, false, false, false, false, false, false, false, false, false, false] rfl rfl (by kernel_rfl) (fun _ _ _ h => h) (Or.inl ⟨(by rfl), ?_⟩) ?_ ?_
     rotate_left
     ·
      intro w'
      go_simp
      with_reducible rfl
     rotate_left
     ·
      exact ap_
     refine pure_ (i := 14) (N := some 39) (v := ?_) (a' := ?_) #[true, true, true, true, true, true, true, true, true, true, true, true, true, true, true, false, false, false, false, false, false, false, false, false, false, false] rfl rfl (by kernel_rfl) (fun _ _ _ h => h) (Or.inl ⟨(by rfl), ?_⟩) ?_ ?_
     rotate_left
     ·
      intro w'
      go_simp
      with_reducible rfl
     rotate_left
     ·
      exact ap_
     refine pure_ (i := 15) (N := some 40) (v := ?_) (a' := ?_) #[true, true, true, true, true, true, true, true, true, true, true, true, true, true, true, true, false, false, false, false, false, false, false, false, false, false] rfl rfl (by kernel_rfl) (fun _ _ _ h => h) (Or.inl ⟨(by rfl), ?_⟩) ?_ ?_
     rotate_left
     ·
      intro w'
      go_simp
      with_reducible rfl
     rotate_left
     ·
      exact ap_
     refine pure_ (i := 16) (N := some 41) (v := ?_) (a' := ?_) #[true, true, true, true, true, true, true, true, true, true, true, true, true, true, true, true, true, false, false, false, false, false, false, false, false, false] rfl rfl (by kernel_rfl) (fun _ _ _ h => h) (Or.inl ⟨(by rfl), ?_⟩) ?_ ?_
     rotate_left
     ·
      intro w'
      go_simp
      with_reducible rfl
     rotate_left
     ·
      exact ap_
     refine take_ (i := 17) (N := some 42) (v := ?_) (a' := ?_) #[true, true, true, true, true, true, true, true, true, true, true, true, true, true, true, true, true, true, false, false, false, false, false, false, false, false] rfl rfl (by kernel_rfl) (fun _ _ _ h => h) (Or.inl ⟨(by rfl), ?_⟩) hHeld ?_ ?_
     rotate_left
     ·
      rintro w' ⟨s0, s1, s2, s3, s4⟩
      go_simp
      with_reducible rfl
     rotate_left
     ·
      exact ap_
     refine pure_ (i := 18) (N := some 43) (v := ?_) (a' := ?_) #[true, true, true, true, true, true, true, true, true, true, true, true, true, true, true, true, true, true, true, false, false, false, false, false, false, false] rfl rfl (by kernel_rfl) (fun _ _ _ h => h) (Or.inl ⟨(by rfl), ?_⟩) ?_ ?_
     rotate_left
     ·
      intro w'
      go_simp
      with_reducible rfl
     rotate_left
     ·
      exact ap_
     refine pure_ (i := 19) (N := some 44) (v := ?_) (a' := ?_) #[true, true, true, true, true, true, true, true, true, true, true, true, true, true, true, true, true, true, true, true, false, false, false, false, false, false] rfl rfl (by kernel_rfl) (fun _ _ _ h => h) (Or.inl ⟨(by rfl), ?_⟩) ?_ ?_
     rotate_left
     ·
      intro w'
      go_simp
      with_reducible rfl
     rotate_left
     ·
      exact ap_
     refine pure_ (i := 20) (N := some 45) (v := ?_) (a' := ?_) #[true, true, true, true, true, true, true, true, true, true, true, true, true, true, true, true, true, true, true, true, true, false, false, false, false, false] rfl rfl (by kernel_rfl) (fun _ _ _ h => h) (Or.inl ⟨(by rfl), ?_⟩) ?_ ?_
     rotate_left
     ·
      intro w'
      go_simp
      with_reducible rfl
     rotate_left
     ·
      exact ap_
     refine pure_ (i := 21) (N := some 46) (v := ?_) (a' := ?_) #[true, true, true, true, true, true, true, true, true, true, true, true, true, true, true, true, true, true, true, true, true, true, false, false, false, false] rfl rfl (by kernel_rfl) (fun _ _ _ h => h) (Or.inl ⟨(by rfl), ?_⟩) ?_ ?_
     rotate_left
     ·
      intro w'
      go_simp
      with_reducible rfl
     rotate_left
     ·
      exact ap_
     refine take_ (i := 22) (N := some 47) (v := ?_) (a' := ?_) #[true, true, true, true, true, true, true, true, true, true, true, true, true, true, true, true, true, true, true, true, true, true, true, false, false, false] rfl rfl (by kernel_rfl) (fun _ _ _ h => h) (Or.inl ⟨(by rfl), ?_⟩) hHeld ?_ ?_
     rotate_left
     ·
      rintro w' ⟨s0, s1, s2, s3, s4⟩
      go_simp
      with_reducible rfl
     rotate_left
     ·
      exact ap_
     refine pure_ (i := 23) (N := some 48) (v := ?_) (a' := ?_) #[true, true, true, true, true, true, true, true, true, true, true, true, true, true, true, true, true, true, true, true, true, true, true, true, false, false] rfl rfl (by kernel_rfl) (fun _ _ _ h => h) (Or.inl ⟨(by rfl), ?_⟩) ?_ ?_
     rotate_left
     ·
      intro w'
      go_simp
      with_reducible rfl
     rotate_left
     ·
      exact ap_
     refine pure_ (i := 24) (N := some 49) (v := ?_) (a' := ?_) #[true, true, true, true, true, true, true, true, true, true, true, true, true, true, true, true, true, true, true, true, true, true, true, true, true, false] rfl rfl (by kernel_rfl) (fun _ _ _ h => h) (Or.inl ⟨(by rfl), ?_⟩) ?_ ?_
     rotate_left
     ·
      intro w'
      go_simp
      with_reducible rfl
     rotate_left
     ·
      exact ap_
     refine last_ (i := 25) (N := none) #[true, true, true, true, true, true, true, true, true, true, true, true, true, true, true, true, true, true, true, true, true, true, true, true, true, true] rfl rfl (by kernel_rfl) (by decide) (fun K hK => ?_)
     refine skip_ (w1 := ?_) (by rfl) rfl ?_ ?_
     rotate_left
     ·
      go_simp
      rfl
     refine hK.out _ _ ?_
     clear hK K
     refine done_ (by kernel_rfl) ?_
     clear f1 f2 f3 f4 e1 e2 e3 e4 b1 b2 b3 b4
     have HI2 := am_ ((HI.out.set0 i (.int .u64 (xr (xr (xr (xr A0 A1) A2) A3) A4))).drew)
     rw [uarr_put] at HI2
     clear HI hs0 hs1 hs2 hs3 hs4 hs6 hfs
     try go_wp2
     go_roundg k2
     case measure => omega
     case rel => exact ⟨i + 1, _, by have := HJ1.out; rw [w64_ (by omega) (by omega)]; rfl, ⟨(by have := HJ1.out; omega)⟩, HR3, ⟨HL2.out _⟩, HI2⟩
end Go.Proofs.Ytgookagndlfehaa.PT
end
section
/- l03Hash: the reference's hash of a text. -/
namespace Go.Proofs.Ytgookagndlfehaa.PT
open Go.RowKit Go.Proofs.YtgookagndlfehaaW.PrintWords Go.Proofs.YtgookagndlfehaaW.PrintLast Go.Proofs.YtgookagndlfehaaW.PrintMore
set_option linter.unusedVariables false
set_option linter.unusedSimpArgs false
def spongeS : Nat → List Int → List Int → List Int
 | 0, _, s => s
 | k + 1, ys, s => spongeS k (ys.drop 136) (permS (xors (lanes_ (ys.take 136)) s))
def kecS (xs : List Int) : ByteArray := strOfNums ((text_ (spongeS ((padded xs).length / 136) (mark (padded xs)) z25)).take 32)
def Byt (xs : List Int) : Prop := ∀ x, x ∈ xs → 0 ≤ x ∧ x < 256
theorem nums_byt (t : ByteArray) : Byt (nums_ t) := by
 intro x hx
 unfold nums_ at hx
 obtain ⟨b, _, rfl⟩ := List.mem_map.1 hx
 have := b.toNat_lt
 omega
theorem nums_str {xs : List Int} (h : Byt xs) : nums_ (strOfNums xs) = xs := by
 unfold nums_
 rw [strOfNums_data, List.map_map]
 refine (List.map_congr_left (fun x hx => ?_)).trans (List.map_id xs)
 obtain ⟨h0, h1⟩ := h x hx
 simp only [Function.comp, id]
 rw [UInt8.toNat_ofNat']
 omega
theorem or128_byt : ∀ b : Fin 256, 0 ≤ Go.bits .or .u8 (b.val : Int) 128 ∧ Go.bits .or .u8 (b.val : Int) 128 < 256 := by decide +kernel
theorem padded_byt {xs : List Int} (h : Byt xs) : Byt (padded xs) := by
 intro x hx
 unfold padded at hx
 rcases List.mem_append.1 hx with hx | hx
 ·
  rcases List.mem_append.1 hx with hx | hx
  ·
   exact h x hx
  ·
   simp at hx; omega
 ·
  have := (List.mem_replicate.1 hx).2; omega
theorem mark_byt {ys : List Int} (h : Byt ys) (hn : 0 < ys.length) : Byt (mark ys) := by
 intro x hx
 unfold mark at hx
 rcases List.mem_or_eq_of_mem_set hx with hx | hx
 ·
  exact h x hx
 ·
  have h2 := h (rdOf 0 ys ((ys.length - 1 : Nat) : Int)) (by unfold rdOf; simp [List.getD, show ys.length - 1 < ys.length by omega])
  have h3 := or128_byt ⟨(rdOf 0 ys ((ys.length - 1 : Nat) : Int)).toNat, (by omega)⟩
  simp only [Int.toNat_of_nonneg h2.1] at h3
  rw [hx]
  exact h3
theorem byt_mid {xs : List Int} (h : Byt xs) (a b : Nat) : Byt ((xs.take b).drop a) := fun x hx => h x (List.mem_of_mem_take (List.mem_of_mem_drop hx))
theorem mark_length (ys : List Int) : (mark ys).length = ys.length := by unfold mark; rw [List.length_set]
set_option maxHeartbeats 8000000 in
set_option maxRecDepth 100000 in
theorem spec_l03Hash.calls0 (t : ByteArray) (w : World) (ht : t.size ≤ 2000000) :
  Calls Try.prog 92 #[.string t] w fun e w' => e = .returned (.string (kecS (nums_ t))) ∧ Below w.heap.size w w' := by
 have HLEN := am_ (show (nums_ t).length ≤ 2000000 by rw [nums_length]; exact ht)
 have hu133 := Try.underlying133
 have HKS := am_ (show strOfNums ((text_ (spongeS ((padded (nums_ t)).length / 136) (mark (padded (nums_ t))) z25)).take 32) = kecS (nums_ t) from rfl)
 generalize kecS (nums_ t) = ks at HKS ⊢
 have HBY := am_ (nums_byt t)
 obtain ⟨i5, hi5, _, hsz5, _⟩ := info_parts info5
 have HI5 := am_ hi5
 have HZ5 := am_ hsz5
 have HRT := am_ (RowT.bytes w t ht)
 have hcv := Go.Lib.run_convert_string_bytes w 9 22 5 t Try.underlying9 Try.underlying22 Try.underlying5
 have HBW := am_ (bytes_below w t)
 generalize Go.Lib.bytesWorld w 5 t = wb at HRT hcv HBW
 have HI := am_ ((Inv.start w (fun _ => True) (fun _ _ => trivial)).pushT HBW.out HRT.out)
 generalize nums_ t = xs at HLEN HKS HBY HRT HI
 generalize Value.slice (some ⟨w.heap.size, 0, none⟩) t.size (grownCap w t.size 0 5) = vb at HRT hcv HI
 clear hi5 hsz5 ht HRT HBW
 go_enter Try.func92, Try.ntmps92
 go_wp2_with (first | ((with_reducible refine gate_builtin (b := .append) (xs := #[.tmp 9, .tmp 10]) rfl ?_); at_builtin; refine wpT_append (base := w.heap.size) rfl (.tmp 9) (.tmp 10) rfl _ _ (1) rfl rfl (Inv.rowT0 HI.out) ?aL HI.out.agr.size ?_; (case aL => have := HLEN.out; omega); intro v11 w11 hR hg hat; have HI_ := am_ (HI.out.stepT hg hR hat); clear HI; have HI := HI_; clear HI_; clear hR hg hat))
 clear hcv
 generalize hpd : padded xs = pd at HKS
 have HPD := am_ hpd
 have HM := am_ (show pd.length % 136 = 0 ∧ pd.length ≤ 4000200 ∧ 1 ≤ pd.length by rw [← hpd]; exact ⟨(padded_length (by have := HLEN.out; omega)).1, (padded_length (by have := HLEN.out; omega)).2, (by unfold padded; simp; omega)⟩)
 have HPB := am_ (show Byt pd by rw [← hpd]; exact padded_byt HBY.out)
 unfold padded at hpd
 have HP0 := am_ hpd
 clear hpd
 go_loopg [3] (padN (xs.length + 1)) (fun kq v3 w' => ∃ (o : List Int), Aside0 (o ++ List.replicate kq 0 = pd) ∧ Aside0 (kq < 136) ∧ Aside0 (Inv w NoB w' [rowT w.heap.size v3 o] (fun _ => True)))
 case atStart => exact ⟨xs ++ [1], HP0, ⟨Nat.mod_lt _ (by decide)⟩, HI⟩
 case round =>
  clear HI HP0
  obtain ⟨o, HR, HQ, HI⟩ := hrel
  have hle := congrArg List.length HR.out
  rw [List.length_append, List.length_replicate] at hle
  have hm := HM.out
  have hq := HQ.out
  cases gk with
  | zero =>
   have hi : o = pd := by have h := HR.out; rw [List.replicate_zero, List.append_nil] at h; exact h
   subst hi
   obtain ⟨hm1, hm2, hm3⟩ := hm
   have m2 : (o.length : Int) % 136 = 0 := by omega
   obtain ⟨go, co, cur, fz, rfl, _, _, _, hco, _⟩ := id HI.out.rowT0
   obtain ⟨n1, hn1⟩ : ∃ n1 : Nat, o.length - 1 = n1 := ⟨_, rfl⟩
   have e10 : wrap64 ((o.length : Int) - 1) = (n1 : Int) := by unfold wrap64; omega
   have q10 : ((n1 : Int) < (o.length : Int)) = True := eq_true (by omega)
   have q10n : (n1 < o.length) = True := eq_true (by omega)
   obtain ⟨hx10, hf10⟩ := HI.out.rowT0.cell (g := go) rfl (j := n1) (by omega)
   have hmk : mark o = o.set n1 (Go.bits .or .u8 (o.getD n1 0) 128) := by unfold mark rdOf; rw [hn1, Int.toNat_natCast]
   have HML := am_ (mark_length o)
   have HMB := am_ (mark_byt HPB.out (show 0 < o.length by omega))
   have HI2 := am_ (Inv.freeze (HI.out.stepT (w1 := wr.setCell ⟨go, n1, none⟩ (.int .u8 (Go.bits .or .u8 (o.getD n1 0) 128))) ⟨rfl, rfl, rfl, by simp [World.setCell], fun k _ hne => Below.heap_setCell wr ⟨go, n1, none⟩ _ k (fun he => hne (by simp [Value.ownBlock, he]))⟩ (HI.out.rowT0.set (g := go) rfl (i := n1) (by omega) _) (.inl rfl)))
   rw [← hmk] at HI2
   generalize mark o = mk at HKS HML HMB HI2
   generalize o.getD n1 0 = b at hx10 HI2
   have HI3 := am_ (HI2.out.weaken (G := fun w' => (Kd.int .u8).C w' (some ⟨go, 0, none⟩) mk.length mk ∧ True) (fun w' h => by obtain ⟨A, c, e, _, hC⟩ := RowT.reads h.1; injection e with e1 e2 e3; rw [e1]; exact ⟨hC, trivial⟩))
   have HCC := am_ (show mk.length ≤ co by rw [HML.out]; exact hco)
   have HOL := am_ (show o.length % 136 = 0 ∧ o.length ≤ 4000200 from ⟨hm1, hm2⟩)
   clear HR HQ hle hm1 hm2 hm3 hq hmk HI HI2 hn1 hco
   have HI := HI3
   clear HI3
   go_wp2_with (first | ((with_reducible refine gate_store (t := 5) (p := 26) (v := .tmp 25) rfl ?_); (refine store_event (t := 5) (p := 26) (v := .tmp 25) (w1 := wr.setCell ⟨go, n1, none⟩ (.int .u8 (Go.bits .or .u8 b 128))) rfl rfl rfl ?hr ?_); (case hr => first | (go_simp; done) | (go_simp; rfl)); (intro w13 hw); rw [← hw] at HI; clear hw) | ((with_reducible refine gate_dst (N := 4) rfl ?_); refine box_event ?hg (N := 4) ?hd (cs := uarr .u64 z25) (t := 133) ?hr ?_; (case hd => rfl); (case hg => rfl); (case hr => first | (go_simp; done) | (go_simp; rfl)); intro g4 hg w14 hbox hb; have HI_ := am_ ((HI.out).box hg hbox hb); clear HI; have HI := HI_; clear HI_; clear hb hbox hg) | ((with_reducible refine gate_store (p := 4) (v := .tmp 27) (t := 133) rfl ?_); go_must (refine wpList_store_row rfl 133 _ _ rfl g4 (uarr .u64 z25) rfl qz11_ 133 (uarr .u64 z25) (Inv.blk0 (HI.out)) (by kernel_rfl) (by rfl) (uarr_one _ _) ?_; have HI_ := am_ (Inv.put0 (HI.out) (uarr .u64 z25)); clear HI; have HI := HI_; clear HI_; generalize World.setRow _ g4 (uarr .u64 z25) = w15 at HI ⊢)))
   clear m2 e10 q10 q10n hx10 hf10
   rw [← HML.out] at HKS HOL
   generalize hA : (some ⟨go, 0, none⟩ : Option Addr) = A at HI ⊢
   clear hA
   rw [← HML.out]
   have HTT := am_ (show spongeS (mk.length / 136) (mk.drop 0) z25 = spongeS (mk.length / 136) mk z25 from rfl)
   generalize spongeS (mk.length / 136) mk z25 = tt at HKS HTT
   go_loopg [5] (mk.length / 136) (fun kq v5 w' => ∃ (q : Nat) (s : List Int), v5 = .int .i64 q ∧ Aside0 (q + 136 * kq = mk.length) ∧ Aside0 (spongeS kq (mk.drop q) s = tt) ∧ Aside0 (s.length = 25) ∧ Aside0 (Inv w NoB w' [blk g4 133 (uarr .u64 s)] (fun w => (Kd.int .u8).C w A mk.length mk ∧ True)))
   case atStart => exact ⟨0, z25, rfl, ⟨(by have := HOL.out; omega)⟩, HTT, ⟨rfl⟩, HI⟩
   case round =>
    clear HI HTT
    obtain ⟨q, s, rfl, HJ, HR, HSL, HI⟩ := hrel
    have hj := HJ.out
    cases gk with
    | zero =>
     have c1 : decide ((q : Int) < (mk.length : Int)) = false := decide_eq_false (by omega)
     have c2 : decide (q < mk.length) = false := decide_eq_false (by omega)
     have hi : s = tt := HR.out
     subst hi
     have hl := HSL.out
     clear HR hj
     go_wp2_with (first | ((with_reducible refine gate_dst (N := 55) rfl ?_); go_must (refine wpList_load_row rfl 133 _ rfl g4 rfl 133 (uarr .u64 s) (0, 0) _ (HI.out.blk0) hu133 rfl (by rw [uarr_size, hl]; kernel_rfl) ?_)) | (go_at_call 130; (refine (spec_l03Text.calls s 32 _ hl (by decide)).mono ?_); rintro e w56 ⟨rfl, hb⟩; have HI_ := am_ (HI.out.grow hb); clear HI; have HI := HI_; clear HI_; clear hb))
     go_ret
     refine ⟨?_, HI.out.below⟩
     rw [← HKS.out]
     rfl
    | succ k1 =>
     have c1 : decide ((q : Int) < (mk.length : Int)) = true := decide_eq_true (by omega)
     have c2 : decide (q < mk.length) = true := decide_eq_true (by omega)
     have hml : mk.length ≤ 4000200 := HOL.out.2
     have e37 : wrap64 ((q : Int) + 136) = (q : Int) + 136 := by unfold wrap64; omega
     obtain ⟨A2, hcut, hC2, hc2⟩ := print_mid_int (P := Try.prog) (k := .u8) 22 5 Try.underlying22 HI5.out HZ5.out A co mk (q : Int) ((q : Int) + 136) (by omega) (by omega) (by omega) HCC.out
     have hC3 := Kd.C_of_reads (h1 := fun _ => rfl) (hC2 _ (Kd.reads_of_C HI.out.now.1))
     have hmid : (mk.take ((q : Int) + 136).toNat).drop (q : Int).toNat = (mk.drop q).take 136 := by
      rw [show ((q : Int) + 136).toNat = q + 136 by omega, Int.toNat_natCast, List.drop_take]
      congr 1
      omega
     have hpl : ((mk.drop q).take 136).length = 136 := by rw [List.length_take, List.length_drop]; omega
     rw [hmid] at hcut hC3
     have HPC := am_ (nums_str (show Byt ((mk.drop q).take 136) from fun x hx => HMB.out x (List.mem_of_mem_drop (List.mem_of_mem_take hx))))
     have hd2 : (mk.drop q).drop 136 = mk.drop (q + 136) := by rw [List.drop_drop]
     have HR2 := am_ (show spongeS k1 (mk.drop (q + 136)) (permS (xors (lanes_ ((mk.drop q).take 136)) s)) = tt by rw [← hd2]; exact HR.out)
     generalize (mk.drop q).take 136 = pc at hcut hC3 hpl HPC HR2
     have hcv := fun c => Kd.C_string (P := Try.prog) (src := 22) (dst := 9) (c := c) Try.underlying22 Try.underlying5 Try.underlying9 hC3
     have HPS := am_ (show (strOfNums pc).size ≤ 200 by rw [strOfNums_size, hpl]; decide)
     clear hC2 hc2 hC3 hmid hpl hd2 HR hj hml
     have hcv1 := hcv (co - q)
     clear hcv
     go_wp2_with (first | (go_at_call 128; (refine (spec_l03Lanes.calls (strOfNums pc) _ HPS.out).mono ?_); rintro e w40 ⟨rfl, hb⟩; have HI_ := am_ (HI.out.grow hb); clear HI; have HI := HI_; clear HI_; clear hb) | ((with_reducible refine gate_dst (N := 6) rfl ?_); refine box_event ?hg (N := 6) ?hd (cs := uarr .u64 z25) (t := 133) ?hr ?_; (case hd => rfl); (case hg => rfl); (case hr => first | (go_simp; done) | (go_simp; rfl)); intro g6 hg w41 hbox hb; have HI_ := am_ ((HI.out).box hg hbox hb); clear HI; have HI := HI_; clear HI_; clear hb hbox hg) | ((with_reducible refine gate_store (p := 6) (v := .tmp 40) (t := 133) rfl ?_); go_must (refine wpList_store_row rfl 133 _ _ rfl g6 (uarr .u64 (lanes_ (nums_ (strOfNums pc)))) rfl qz11_ 133 (uarr .u64 z25) (Inv.blk0 (HI.out)) (by rw [uarr_size, lanes_length]; kernel_rfl) (by rw [uarr_size, uarr_size, lanes_length]; rfl) (uarr_one _ _) ?_; have HI_ := am_ (Inv.put0 (HI.out) (uarr .u64 (lanes_ (nums_ (strOfNums pc))))); clear HI; have HI := HI_; clear HI_; generalize World.setRow _ g6 (uarr .u64 (lanes_ (nums_ (strOfNums pc)))) = w42 at HI ⊢)))
     clear hcut hcv1 e37 c1 c2
     rw [HPC.out] at HI ⊢
     have HLL := am_ (lanes_length pc)
     generalize lanes_ pc = l at HI HR2 HLL ⊢
     have HXL := am_ ((xors_length l s).trans HSL.out)
     have HXD := am_ (show iter (xorInto l) 25 0 s = xors l s from rfl)
     generalize xors l s = X at HR2 HXL HXD
     have HI2 := am_ HI.out.swap
     clear HI
     have HI := HI2
     clear HI2
     go_loopg [7] 25 (fun kq v7 w' => ∃ (i : Nat) (s : List Int), v7 = .int .i64 i ∧ Aside0 (i + kq = 25) ∧ Aside0 (iter (xorInto l) kq i s = X) ∧ Aside0 (s.length = 25) ∧ Aside0 (Inv w NoB w' [blk g4 133 (uarr .u64 s), blk g6 133 (uarr .u64 l)] (fun w => (Kd.int .u8).C w A mk.length mk ∧ True)))
     case atStart => exact ⟨0, s, rfl, ⟨(by omega)⟩, HXD, HSL, HI⟩
     case round =>
      clear HXD HSL HI s
      obtain ⟨i, s, rfl, HJ1, HR1, HSL, HI⟩ := hrel
      cases gk with
      | zero =>
       have hj := HJ1.out
       have c1 : decide ((i : Int) < 25) = false := decide_eq_false (by omega)
       have c2 : decide (i < 25) = false := decide_eq_false (by omega)
       have hi : s = X := HR1.out
       subst hi
       have hl := HSL.out
       have hpl := permS_length s
       rw [hl] at hpl
       clear HR1 hj HJ1
       go_wp2_with (first | ((with_reducible refine gate_dst (N := 53) rfl ?_); go_must (refine wpList_load_row rfl 133 _ rfl g4 rfl 133 (uarr .u64 s) (0, 0) _ (HI.out.blk0) hu133 rfl (by rw [uarr_size, hl]; kernel_rfl) ?_)) | (go_at_call 129; (refine (spec_l03Permute.calls s _ hl).mono ?_); rintro e w54 ⟨rfl, hb⟩; have HI_ := am_ (HI.out.grow hb); clear HI; have HI := HI_; clear HI_; clear hb) | ((with_reducible refine gate_store (p := 4) (v := .tmp 54) (t := 133) rfl ?_); go_must (refine wpList_store_row rfl 133 _ _ rfl g4 (uarr .u64 (permS s)) rfl qz11_ 133 (uarr .u64 s) (Inv.blk0 (HI.out)) (by rw [uarr_size, hpl]; kernel_rfl) (by rw [uarr_size, uarr_size, hpl, hl]) (uarr_one _ _) ?_; have HI_ := am_ (Inv.put0 (HI.out) (uarr .u64 (permS s))); clear HI; have HI := HI_; clear HI_; generalize World.setRow _ g4 (uarr .u64 (permS s)) = w55 at HI ⊢)))
       clear c1 c2 hl
       have HI2 := am_ HI.out.swap.drop
       have e33 : wrap64 ((q : Int) + 136) = (q : Int) + 136 := by have := HJ.out; have := HOL.out.2; unfold wrap64; omega
       try go_wp2
       go_roundg k1
       case measure => omega
       case rel => exact ⟨q + 136, permS s, by first | rfl | (rw [e33]; rfl) | go_num, ⟨(by have := HJ.out; omega)⟩, HR2, ⟨hpl⟩, HI2⟩
      | succ k2 =>
       have hj := HJ1.out
       have c1 : decide ((i : Int) < 25) = true := decide_eq_true (by omega)
       have c2 : decide (i < 25) = true := decide_eq_true (by omega)
       have hi := HR1.out
       rw [iter_succ] at hi
       unfold xorInto at hi
       have hl := HSL.out
       have hll := HLL.out
       have h6 : wr.heap[g6]? = _ := HI.out.get 1 rfl
       have HL2 := am_ (show ∀ v, (s.set i v).length = 25 from fun v => by rw [List.length_set]; exact hl)
       have hs0 := row_cell HI.out.blk0 (i := i) (by omega)
       have hs1 := row_cell h6 (i := i) (by omega)
       have hfs := blk_frozen HI.out.blk0 i
       have ci : ((i : Int) < 25) = True := eq_true (by omega)
       have cn : (i < 25) = True := eq_true (by omega)
       generalize s.getD i 0 = A0 at hs0 hi
       generalize l.getD i 0 = A1 at hs1 hi
       have HR3 := am_ hi
       clear hi hl hll h6 HR1 hj
       go_wp2
       refine start_ (n := 9) (S := fun w' => w'.cell? ⟨g4, i, none⟩ = some (.int .u64 A0) ∧ w'.cell? ⟨g6, i, none⟩ = some (.int .u64 A1)) (ds := [8]) #[false, false, false, false, false, false, false, false, false] (by kernel_rfl) rfl rfl ⟨hs0, hs1⟩ (fun hHeld => ?_)
       refine pure_ (i := 0) (N := some 45) (v := ?_) (a' := ?_) #[true, false, false, false, false, false, false, false, false] rfl rfl (by kernel_rfl) (fun _ _ _ h => h) (Or.inl ⟨(by rfl), ?_⟩) ?_ ?_
       rotate_left
       ·
        intro w'
        go_simp
        with_reducible rfl
       rotate_left
       ·
        exact ap_
       refine pure_ (i := 1) (N := some 46) (v := ?_) (a' := ?_) #[true, true, false, false, false, false, false, false, false] rfl rfl (by kernel_rfl) (fun _ _ _ h => h) (Or.inl ⟨(by rfl), ?_⟩) ?_ ?_
       rotate_left
       ·
        intro w'
        go_simp
        with_reducible rfl
       rotate_left
       ·
        exact ap_
       refine take_ (i := 2) (N := some 47) (v := ?_) (a' := ?_) #[true, true, true, false, false, false, false, false, false] rfl rfl (by kernel_rfl) (fun _ _ _ h => h) (Or.inl ⟨(by rfl), ?_⟩) hHeld ?_ ?_
       rotate_left
       ·
        rintro w' ⟨s0, s1⟩
        go_simp
        with_reducible rfl
       rotate_left
       ·
        exact ap_
       refine pure_ (i := 3) (N := some 48) (v := ?_) (a' := ?_) #[true, true, true, true, false, false, false, false, false] rfl rfl (by kernel_rfl) (fun _ _ _ h => h) (Or.inl ⟨(by rfl), ?_⟩) ?_ ?_
       rotate_left
       ·
        intro w'
        go_simp
        with_reducible rfl
       rotate_left
       ·
        exact ap_
       refine pure_ (i := 4) (N := some 49) (v := ?_) (a' := ?_) #[true, true, true, true, true, false, false, false, false] rfl rfl (by kernel_rfl) (fun _ _ _ h => h) (Or.inl ⟨(by rfl), ?_⟩) ?_ ?_
       rotate_left
       ·
        intro w'
        go_simp
        with_reducible rfl
       rotate_left
       ·
        exact ap_
       refine take_ (i := 5) (N := some 50) (v := ?_) (a' := ?_) #[true, true, true, true, true, true, false, false, false] rfl rfl (by kernel_rfl) (fun _ _ _ h => h) (Or.inl ⟨(by rfl), ?_⟩) hHeld ?_ ?_
       rotate_left
       ·
        rintro w' ⟨s0, s1⟩
        go_simp
        with_reducible rfl
       rotate_left
       ·
        exact ap_
       refine pure_ (i := 6) (N := some 51) (v := ?_) (a' := ?_) #[true, true, true, true, true, true, true, false, false] rfl rfl (by kernel_rfl) (fun _ _ _ h => h) (Or.inl ⟨(by rfl), ?_⟩) ?_ ?_
       rotate_left
       ·
        intro w'
        go_simp
        with_reducible rfl
       rotate_left
       ·
        exact ap_
       refine pure_ (i := 7) (N := some 52) (v := ?_) (a' := ?_) #[true, true, true, true, true, true, true, true, false] rfl rfl (by kernel_rfl) (fun _ _ _ h => h) (Or.inl ⟨(by rfl), ?_⟩) ?_ ?_
       rotate_left
       ·
        intro w'
        go_simp
        with_reducible rfl
       rotate_left
       ·
        exact ap_
       refine last_ (i := 8) (N := none) #[true, true, true, true, true, true, true, true, true] rfl rfl (by kernel_rfl) (by decide) (fun K hK => ?_)
       refine skip_ (w1 := ?_) (by rfl) rfl ?_ ?_
       rotate_left
       ·
        go_simp
        rfl
       refine hK.out _ _ ?_
       clear hK K
       refine done_ (by kernel_rfl) ?_
       have HI2 := am_ (HI.out.set0 i (.int .u64 (xr A0 A1)))
       rw [uarr_put] at HI2
       clear HI hs0 hs1 hfs
       try go_wp2
       go_roundg k2
       case measure => omega
       case rel => exact ⟨i + 1, _, by have := HJ1.out; rw [w64_ (by omega) (by omega)]; rfl, ⟨(by have := HJ1.out; omega)⟩, HR3, ⟨HL2.out _⟩, ⟨(by (with_reducible repeat (first | refine Inv.drewN ?_ _ | refine Inv.drew ?_)); exact HI2.out)⟩⟩
  | succ k1 =>
   have m2 : ((o.length : Int) % 136 == 0) = false := beq_eq_false_iff_ne.mpr (by omega)
   have m3 : ((o.length : Int) % 136 != 0) = true := bne_iff_ne.mpr (by omega)
   have HR2 := am_ (show (o ++ [0]) ++ List.replicate k1 0 = pd by rw [← HR.out, List.append_assoc]; congr 1)
   obtain ⟨A3, c3, rfl, hc3, _⟩ := HI.out.rowT0.reads
   have HOL := am_ (show o.length ≤ 4000200 by omega)
   clear hle hm HR
   go_wp2_with (first | ((with_reducible refine gate_builtin (b := .append) (xs := #[.tmp 16, .tmp 17]) rfl ?_); at_builtin; refine wpT_append (base := w.heap.size) rfl (.tmp 16) (.tmp 17) rfl _ _ (0) rfl rfl (Inv.rowT0 HI.out) ?aL HI.out.agr.size ?_; (case aL => have := HOL.out; omega); intro v18 w18 hR hg hat; have HI_ := am_ (HI.out.stepT hg hR hat); clear HI; have HI := HI_; clear HI_; clear hR hg hat))
   go_roundg k1
   case measure => omega
   case rel => exact ⟨o ++ [0], HR2, ⟨(by omega)⟩, HI⟩
end Go.Proofs.Ytgookagndlfehaa.PT
end
section
namespace Go.Proofs.Ytgookagndlfehaa.PT
open Go.RowKit Go.Proofs.YtgookagndlfehaaW.PrintWords Go.Proofs.YtgookagndlfehaaW.PrintLast Go.Proofs.YtgookagndlfehaaW.PrintMore
attribute [local go_sem] max2_int min2_int max_two min_two max_three min_three max_four min_four   -- for this text's walks alone
set_option linter.unusedVariables false
set_option linter.unusedSimpArgs false
theorem modl_some (xs : List Int) (hb : xs.length ≤ 1000) : ∀ (d i : Nat) (a : Int) (k : Nat), i + d = xs.length → d < k → ∃ r, impl_modulo.l0 k a xs (xs.length : Int) (i : Int) = some r := by
 intro d
 induction d with
 | zero =>
  intro i a k hi hk
  obtain ⟨m, rfl⟩ : ∃ m, k = m + 1 := ⟨k - 1, (by omega)⟩
  rw [impl_modulo.l0, if_neg (by omega)]
  exact ⟨_, rfl⟩
 | succ d ih =>
  intro i a k hi hk
  obtain ⟨m, rfl⟩ : ∃ m, k = m + 1 := ⟨k - 1, (by omega)⟩
  rw [impl_modulo.l0, if_pos (by omega), if_pos (by omega), if_pos (by omega)]
  rw [show wrap64 ((i : Int) + 1) = ((i + 1 : Nat) : Int) by rw [← i64_w]; unfold IntKind.wrap; simp [IntKind.signed, IntKind.bits]; omega]
  exact ih (i + 1) _ m (by omega) (by omega)
def mod8 (xs : List Int) : Int := (impl_modulo.f 20 xs).getD 0
theorem mod8_eq {xs : List Int} (h : xs.length = 8) : impl_modulo.f 20 xs = some (mod8 xs) := by
 obtain ⟨r, hr⟩ := modl_some xs (by omega) 8 0 0 20 (by omega) (by omega)
 unfold mod8 impl_modulo.f
 rw [show ((0 : Nat) : Int) = 0 from rfl] at hr
 rw [hr]
 rfl
theorem kec_size (xs : List Int) : (kec xs).size = 32 := by
 unfold kec
 rw [strOfNums_size, List.length_take, text_length]
 rfl
theorem draw_side (m1 m2 : Int) : (Try.prog.info? 34).map (·.size) = some (#[Value.int .i64 m1, Value.int .i64 m2] : Array Value).size := by kernel_rfl
theorem draw_one (m1 m2 : Int) : (#[Value.int .i64 m1, Value.int .i64 m2] : Array Value).all (·.oneCell') = true := by simp [Value.oneCell']
theorem draw_len (m1 m2 : Int) : (#[Value.int .i64 0, Value.int .i64 0] : Array Value).size = (#[Value.int .i64 m1, Value.int .i64 m2] : Array Value).size := rfl
def dpl (a n : Int) : Int := Int.tmod (wrap64 ((wrap64 (a + 1)) - 1)) n
def impl_Source_draw.f (s0_0 : List (S34)) (s0_1 : Int) (s0_2 : ByteArray) (s0_3 : Int) : Option (Int × Int × Int × ByteArray × Int) :=
 if 0 < s0_0.length then (if 0 ≤ dpl s0_1 s0_0.length then (if dpl s0_1 s0_0.length < (s0_0.length : Int) then some ((rd_T34 s0_0 (dpl s0_1 s0_0.length)).f0, (rd_T34 s0_0 (dpl s0_1 s0_0.length)).f1, wrap64 (s0_1 + 1), s0_2, s0_3) else none) else none)
 else (if s0_2.size ≤ 1000000 then some (mod8 ((nums_ (kec ([nums_ s0_2, [100, 114, 97, 119], four_ s0_3].flatten))).take 8), mod8 (((nums_ (kec ([nums_ s0_2, [100, 114, 97, 119], four_ s0_3].flatten))).take 16).drop 8), s0_1, s0_2, wrap64 (s0_3 + 1)) else none)
set_option maxHeartbeats 8000000 in
set_option maxRecDepth 100000 in
theorem impl_Source_draw.calls (g : Nat) (s0_0 : List (S34)) (s0_1 : Int) (s0_2 : ByteArray) (s0_3 : Int) (r1 : Int) (r2 : Int) (r3 : Int) (r4 : ByteArray) (r5 : Int) (w0 w : World) (hI : IsS27 w0 w g s0_0 s0_1 s0_2 s0_3) (hB : Below w0.heap.size w0 w) (h : impl_Source_draw.f s0_0 s0_1 s0_2 s0_3 = some (r1, r2, r3, r4, r5)) :
  Calls Try.prog 123 #[.pointer (some ⟨g, 0, none⟩)] w fun e w' => e = .returned (.agg #[.int .i64 r1, .int .i64 r2]) ∧ IsS27 w0 w' g s0_0 r3 r4 r5 ∧ Below w0.heap.size w0 w' ∧ KeepBut w w' g none := by
 unfold impl_Source_draw.f at h
 have HB := am_ hB
 have HGE := am_ (IsS27.ge hI)
 have hu34 := Try.underlying34
 obtain ⟨A0, c0, hblk, hge, hr0⟩ := hI
 have HGQ := am_ hge
 have HR0 := am_ hr0
 have HI := am_ (Inv.startP w hblk (fun w2 => Kd.C k34 w2 A0 s0_0.length s0_0) (fun w' ha => Kd.C_below hr0 (ha.onto hB (fun k hk => by obtain rfl : k = g := hk; exact HGE.out))))
 by_cases cl : 0 < s0_0.length
 ·
  rw [if_pos cl] at h
  by_cases cp : 0 ≤ dpl s0_1 s0_0.length
  ·
   rw [if_pos cp] at h
   by_cases cq : dpl s0_1 s0_0.length < (s0_0.length : Int)
   ·
    rw [if_pos cq] at h
    simp only [Option.some.injEq, Prod.mk.injEq] at h
    obtain ⟨hx_, hy_, rfl, rfl, rfl⟩ := h
    have c1 : decide (0 < (s0_0.length : Int)) = true := decide_eq_true (by omega)
    have c2 : decide (0 < s0_0.length) = true := decide_eq_true cl
    have c3 : ((s0_0.length : Int) == 0) = false := beq_eq_false_iff_ne.mpr (by omega)
    have c4 : ((s0_0.length : Int) != 0) = true := bne_iff_ne.mpr (by omega)
    have c5 : ¬ (s0_0 = []) := fun h_ => by rw [h_] at cl; simp at cl
    obtain ⟨q, hq⟩ : ∃ q : Nat, dpl s0_1 s0_0.length = (q : Int) := ⟨(dpl s0_1 s0_0.length).toNat, (by omega)⟩
    rw [hq] at cp cq hx_ hy_
    have hdp : Int.tmod (wrap64 ((wrap64 (s0_1 + 1)) - 1)) (s0_0.length : Int) = (q : Int) := hq
    have HDP := am_ hdp
    obtain ⟨ad, eA, hx0, hx1⟩ := at_T34 hr0 (q : Int) cp cq
    subst eA
    rw [Int.toNat_natCast] at hx0 hx1
    have HX0 := am_ hx0
    have HX1 := am_ hx1
    generalize rd_T34 s0_0 (q : Int) = x at HX0 HX1 hx_ hy_
    subst hx_ hy_
    have p6 := eq_true cp
    have q6 := eq_true cq
    have q6n : (q < s0_0.length) = True := eq_true (by omega)
    have hd0 : w.cell? ⟨g, 0, none⟩ = some (.slice (some ad) s0_0.length c0) := (blk_cell hblk 0).trans rfl
    have hd1 : w.cell? ⟨g, 1, none⟩ = some (.int .i64 s0_1) := (blk_cell hblk 1).trans rfl
    have hf1 := blk_frozen hblk 1
    clear hB hblk hge hr0 cl hq hdp hx0 hx1 cp cq
    go_enter Try.func123, Try.ntmps123
    go_wp2_with (first | ((with_reducible refine gate_dst (N := 2) rfl ?_); refine box_event ?hg (N := 2) ?hd (cs := #[.int .i64 0, .int .i64 0]) (t := 34) ?hr ?_; (case hd => rfl); (case hg => rfl); (case hr => first | (go_simp; done) | (go_simp; rfl)); intro gb hg w2 hbox hb; have HI_ := am_ ((HI.out).box hg hbox hb); clear HI; have HI := HI_; clear HI_; clear hb hbox hg; clear hd0 hd1 hf1; have hd0 : w2.cell? ⟨g, 0, none⟩ = some (.slice (some ad) s0_0.length c0) := (blk_cell HI.out.swap.blk0 0).trans rfl; have hd1 : w2.cell? ⟨g, 1, none⟩ = some (.int .i64 s0_1) := (blk_cell HI.out.swap.blk0 1).trans rfl; have hf1 := blk_frozen HI.out.swap.blk0 1))
    have HI2 := am_ (HI.out.swap.set0 1 (.int .i64 (wrap64 (s0_1 + 1))))
    clear HI hd0 hd1 hf1
    generalize w2.setCell ⟨g, 1, none⟩ (.int .i64 (wrap64 (s0_1 + 1))) = w3 at HI2 ⊢
    have HI := HI2
    clear HI2
    have hd0 : w3.cell? ⟨g, 0, none⟩ = some (.slice (some ad) s0_0.length c0) := (blk_cell HI.out.blk0 0).trans rfl
    have hd1 : w3.cell? ⟨g, 1, none⟩ = some (.int .i64 (wrap64 (s0_1 + 1))) := (blk_cell HI.out.blk0 1).trans rfl
    have hb3 := HI.out.agr.onto HB.out (fun k hk => by obtain rfl : k = g := hk; exact HGE.out)
    have hx0 := (hb3.cell (World.block_lt_of_cell? _ _ HX0.out)).trans HX0.out
    have hx1 := (hb3.cell (World.block_lt_of_cell? _ _ HX1.out)).trans HX1.out
    have hdp := HDP.out
    clear hb3
    refine start_ (n := 18) (S := fun w' => w'.cell? ⟨g, 0, none⟩ = some (.slice (some ad) s0_0.length c0) ∧ w'.cell? ⟨g, 1, none⟩ = some (.int .i64 (wrap64 (s0_1 + 1))) ∧ w'.cell? (ad.add (q * 2)) = some (.int .i64 x.f0) ∧ w'.cell? ⟨(ad.add (q * 2)).block, (ad.add (q * 2)).off + 1, none⟩ = some (.int .i64 x.f1)) (ds := [17]) #[false, false, false, false, false, false, false, false, false, false, false, false, false, false, false, false, false, false] (by kernel_rfl) rfl rfl ⟨hd0, hd1, hx0, hx1⟩ (fun hHeld => ?_)
    refine pure_ (i := 0) (N := some 17) (v := ?_) (a' := ?_) #[true, false, false, false, false, false, false, false, false, false, false, false, false, false, false, false, false, false] rfl rfl (by kernel_rfl) (fun _ _ _ h => h) (Or.inl ⟨(by rfl), ?_⟩) ?_ ?_
    rotate_left
    ·
     intro w'
     go_simp
     with_reducible rfl
    rotate_left
    ·
     exact ap_
    refine pure_ (i := 1) (N := some 18) (v := ?_) (a' := ?_) #[true, true, false, false, false, false, false, false, false, false, false, false, false, false, false, false, false, false] rfl rfl (by kernel_rfl) (fun _ _ _ h => h) (Or.inl ⟨(by rfl), ?_⟩) ?_ ?_
    rotate_left
    ·
     intro w'
     go_simp
     with_reducible rfl
    rotate_left
    ·
     exact ap_
    refine pure_ (i := 2) (N := some 19) (v := ?_) (a' := ?_) #[true, true, true, false, false, false, false, false, false, false, false, false, false, false, false, false, false, false] rfl rfl (by kernel_rfl) (fun _ _ _ h => h) (Or.inl ⟨(by rfl), ?_⟩) ?_ ?_
    rotate_left
    ·
     intro w'
     go_simp
     with_reducible rfl
    rotate_left
    ·
     exact ap_
    refine take_ (i := 3) (N := some 20) (v := ?_) (a' := ?_) #[true, true, true, true, false, false, false, false, false, false, false, false, false, false, false, false, false, false] rfl rfl (by kernel_rfl) (fun _ _ _ h => h) (Or.inl ⟨(by rfl), ?_⟩) hHeld ?_ ?_
    rotate_left
    ·
     rintro w' ⟨s0, s1, s2, s3⟩
     go_simp
     with_reducible rfl
    rotate_left
    ·
     exact ap_
    refine pure_ (i := 4) (N := some 21) (v := ?_) (a' := ?_) #[true, true, true, true, true, false, false, false, false, false, false, false, false, false, false, false, false, false] rfl rfl (by kernel_rfl) (fun _ _ _ h => h) (Or.inl ⟨(by rfl), ?_⟩) ?_ ?_
    rotate_left
    ·
     intro w'
     go_simp
     with_reducible rfl
    rotate_left
    ·
     exact ap_
    refine pure_ (i := 5) (N := some 22) (v := ?_) (a' := ?_) #[true, true, true, true, true, true, false, false, false, false, false, false, false, false, false, false, false, false] rfl rfl (by kernel_rfl) (fun _ _ _ h => h) (Or.inl ⟨(by rfl), ?_⟩) ?_ ?_
    rotate_left
    ·
     intro w'
     go_simp
     with_reducible rfl
    rotate_left
    ·
     exact ap_
    refine pure_ (i := 6) (N := some 23) (v := ?_) (a' := ?_) #[true, true, true, true, true, true, true, false, false, false, false, false, false, false, false, false, false, false] rfl rfl (by kernel_rfl) (fun _ _ _ h => h) (Or.inl ⟨(by rfl), ?_⟩) ?_ ?_
    rotate_left
    ·
     intro w'
     go_simp
     with_reducible rfl
    rotate_left
    ·
     exact ap_
    refine take_ (i := 7) (N := some 24) (v := ?_) (a' := ?_) #[true, true, true, true, true, true, true, true, false, false, false, false, false, false, false, false, false, false] rfl rfl (by kernel_rfl) (fun _ _ _ h => h) (Or.inl ⟨(by rfl), ?_⟩) hHeld ?_ ?_
    rotate_left
    ·
     rintro w' ⟨s0, s1, s2, s3⟩
     go_simp
     with_reducible rfl
    rotate_left
    ·
     exact ap_
    refine pure_ (i := 8) (N := some 25) (v := ?_) (a' := ?_) #[true, true, true, true, true, true, true, true, true, false, false, false, false, false, false, false, false, false] rfl rfl (by kernel_rfl) (fun _ _ _ h => h) (Or.inl ⟨(by rfl), ?_⟩) ?_ ?_
    rotate_left
    ·
     intro w'
     go_simp
     with_reducible rfl
    rotate_left
    ·
     exact ap_
    refine pure_ (i := 9) (N := some 26) (v := ?_) (a' := ?_) #[true, true, true, true, true, true, true, true, true, true, false, false, false, false, false, false, false, false] rfl rfl (by kernel_rfl) (fun _ _ _ h => h) (Or.inl ⟨(by rfl), ?_⟩) ?_ ?_
    rotate_left
    ·
     intro w'
     go_simp
     with_reducible rfl
    rotate_left
    ·
     exact ap_
    refine pure_ (i := 10) (N := some 27) (v := ?_) (a' := ?_) #[true, true, true, true, true, true, true, true, true, true, true, false, false, false, false, false, false, false] rfl rfl (by kernel_rfl) (fun _ _ _ h => h) (Or.inl ⟨(by rfl), ?_⟩) ?_ ?_
    rotate_left
    ·
     intro w'
     go_simp
     with_reducible rfl
    rotate_left
    ·
     exact ap_
    refine pure_ (i := 11) (N := some 28) (v := ?_) (a' := ?_) #[true, true, true, true, true, true, true, true, true, true, true, true, false, false, false, false, false, false] rfl rfl (by kernel_rfl) (fun _ _ _ h => h) (Or.inl ⟨(by rfl), ?_⟩) ?_ ?_
    rotate_left
    ·
     intro w'
     go_simp
     with_reducible rfl
    rotate_left
    ·
     exact ap_
    refine take_ (i := 12) (N := some 29) (v := ?_) (a' := ?_) #[true, true, true, true, true, true, true, true, true, true, true, true, true, false, false, false, false, false] rfl rfl (by kernel_rfl) (fun _ _ _ h => h) (Or.inl ⟨(by rfl), ?_⟩) hHeld ?_ ?_
    rotate_left
    ·
     rintro w' ⟨s0, s1, s2, s3⟩
     go_simp
     with_reducible rfl
    rotate_left
    ·
     exact ap_
    refine pure_ (i := 13) (N := some 30) (v := ?_) (a' := ?_) #[true, true, true, true, true, true, true, true, true, true, true, true, true, true, false, false, false, false] rfl rfl (by kernel_rfl) (fun _ _ _ h => h) (Or.inl ⟨(by rfl), ?_⟩) ?_ ?_
    rotate_left
    ·
     intro w'
     go_simp
     with_reducible rfl
    rotate_left
    ·
     exact ap_
    refine pure_ (i := 14) (N := some 31) (v := ?_) (a' := ?_) #[true, true, true, true, true, true, true, true, true, true, true, true, true, true, true, false, false, false] rfl rfl (by kernel_rfl) (fun _ _ _ h => h) (Or.inl ⟨(by rfl), ?_⟩) ?_ ?_
    rotate_left
    ·
     intro w'
     go_simp
     with_reducible rfl
    rotate_left
    ·
     exact ap_
    refine pure_ (i := 15) (N := some 32) (v := ?_) (a' := ?_) #[true, true, true, true, true, true, true, true, true, true, true, true, true, true, true, true, false, false] rfl rfl (by kernel_rfl) (fun _ _ _ h => h) (Or.inl ⟨(by rfl), ?_⟩) ?_ ?_
    rotate_left
    ·
     intro w'
     go_simp
     with_reducible rfl
    rotate_left
    ·
     exact ap_
    refine take_ (i := 16) (N := some 33) (v := ?_) (a' := ?_) #[true, true, true, true, true, true, true, true, true, true, true, true, true, true, true, true, true, false] rfl rfl (by kernel_rfl) (fun _ _ _ h => h) (Or.inl ⟨(by rfl), ?_⟩) hHeld ?_ ?_
    rotate_left
    ·
     rintro w' ⟨s0, s1, s2, s3⟩
     go_simp
     with_reducible rfl
    rotate_left
    ·
     exact ap_
    refine last_ (i := 17) (N := none) #[true, true, true, true, true, true, true, true, true, true, true, true, true, true, true, true, true, true] rfl rfl (by kernel_rfl) (by decide) (fun K hK => ?_)
    rw [if_pos (by rfl)]
    refine wp_store_row 34 _ _ rfl gb (#[.int .i64 x.f0, .int .i64 x.f1]) rfl qz11_ 34 (#[.int .i64 0, .int .i64 0]) ((HI.out.swap.drew).blk0) (by kernel_rfl) rfl (by first | rfl | simp [Value.oneCell']) ?_
    refine hK.out _ _ ?_
    clear hK K
    have HI2 := am_ (((HI.out.swap.drew).put0 (#[.int .i64 x.f0, .int .i64 x.f1])).swap)
    refine done_ (by kernel_rfl) ?_
    try go_wp2
    refine bodyPost_ret (v := .agg #[.int .i64 x.f0, .int .i64 x.f1]) ?hres rfl ?_
    case hres => exact results_cell_row (fn := Try.f123) (p := 2) rfl _ _ gb 34 (#[.int .i64 x.f0, .int .i64 x.f1]) (0, 0) _ (by first | rfl | (simp; done)) HI2.out.swap.blk0 hu34 rfl (by kernel_rfl)
    exact ⟨rfl, ⟨some ad, c0, HI2.out.blk0, HGQ.out, HR0.out⟩, HI2.out.agr.onto HB.out (fun k hk => by obtain rfl : k = g := hk; exact HGE.out), HI2.out.agr.keep⟩
   ·
    rw [if_neg cq] at h; cases h
  ·
   rw [if_neg cp] at h; cases h
 ·
  rw [if_neg cl] at h
  by_cases cs : s0_2.size ≤ 1000000
  ·
   rw [if_pos cs] at h
   simp only [Option.some.injEq, Prod.mk.injEq] at h
   obtain ⟨hm1_, hm2_, rfl, rfl, rfl⟩ := h
   have HST := am_ (show s0_2.size ≤ 2000000 by omega)
   have HKL := am_ (kec_size ([nums_ s0_2, [100, 114, 97, 119], four_ s0_3].flatten))
   generalize hke : kec ([nums_ s0_2, [100, 114, 97, 119], four_ s0_3].flatten) = hs at HKL hm1_ hm2_
   have HKE := am_ hke
   have HKZ := am_ (show hs.size ≤ 2000000 by have := HKL.out; omega)
   obtain ⟨i5, hi5, _, hsz5, _⟩ := info_parts info5
   have HI5 := am_ hi5
   have HZ5 := am_ hsz5
   subst hm1_ hm2_
   have hl0 : s0_0.length = 0 := by omega
   have c1 : decide (0 < (s0_0.length : Int)) = false := decide_eq_false (by omega)
   have c2 : decide (0 < s0_0.length) = false := decide_eq_false cl
   have hd0 : w.cell? ⟨g, 0, none⟩ = some (.slice A0 s0_0.length c0) := (blk_cell hblk 0).trans rfl
   clear hB hblk hge hr0 cl cs hke hi5 hsz5 hl0
   go_enter Try.func123, Try.ntmps123
   go_wp2_with (first | ((with_reducible refine gate_dst (N := 2) rfl ?_); refine box_event ?hg (N := 2) ?hd (cs := #[.int .i64 0, .int .i64 0]) (t := 34) ?hr ?_; (case hd => rfl); (case hg => rfl); (case hr => first | (go_simp; done) | (go_simp; rfl)); intro gb hg w2 hbox hb; have HI_ := am_ ((HI.out).box hg hbox hb); clear HI; have HI := HI_; clear HI_; clear hb hbox hg; clear hd0; have hd0 : w2.cell? ⟨g, 0, none⟩ = some (.slice A0 s0_0.length c0) := (blk_cell HI.out.swap.blk0 0).trans rfl))
   have HI2 := am_ HI.out.swap
   clear HI
   have HI := HI2
   clear HI2 hd0 c1 c2
   refine start_ (n := 16) (S := fun w' => w'.cell? ⟨g, 2, none⟩ = some (.string s0_2) ∧ w'.cell? ⟨g, 3, none⟩ = some (.int .i64 s0_3)) (ds := []) #[false, false, false, false, false, false, false, false, false, false, false, false, false, false, false, false] (by kernel_rfl) rfl rfl ⟨(blk_cell ((HI.out).get 0 rfl) 2).trans rfl, (blk_cell ((HI.out).get 0 rfl) 3).trans rfl⟩ (fun hHeld => ?_)
   refine pure_ (i := 0) (N := some 34) (v := ?_) (a' := ?_) #[true, false, false, false, false, false, false, false, false, false, false, false, false, false, false, false] rfl rfl (by kernel_rfl) (fun _ _ _ h => h) (Or.inl ⟨(by rfl), ?_⟩) ?_ ?_
   rotate_left
   ·
    intro w'
    go_simp
    with_reducible rfl
   rotate_left
   ·
    exact ap_
   refine pure_ (i := 1) (N := some 35) (v := ?_) (a' := ?_) #[true, true, false, false, false, false, false, false, false, false, false, false, false, false, false, false] rfl rfl (by kernel_rfl) (fun _ _ _ h => h) (Or.inl ⟨(by rfl), ?_⟩) ?_ ?_
   rotate_left
   ·
    intro w'
    go_simp
    with_reducible rfl
   rotate_left
   ·
    exact ap_
   refine pure_ (i := 2) (N := some 36) (v := ?_) (a' := ?_) #[true, true, true, false, false, false, false, false, false, false, false, false, false, false, false, false] rfl rfl (by kernel_rfl) (fun _ _ _ h => h) (Or.inl ⟨(by rfl), ?_⟩) ?_ ?_
   rotate_left
   ·
    intro w'
    go_simp
    with_reducible rfl
   rotate_left
   ·
    exact ap_
   refine take_ (i := 3) (N := some 37) (v := ?_) (a' := ?_) #[true, true, true, true, false, false, false, false, false, false, false, false, false, false, false, false] rfl rfl (by kernel_rfl) (fun _ _ _ h => h) (Or.inl ⟨(by rfl), ?_⟩) hHeld ?_ ?_
   rotate_left
   ·
    rintro w' ⟨s0, s1⟩
    go_simp
    with_reducible rfl
   rotate_left
   ·
    exact ap_
   refine pure_ (i := 7) (N := some 41) (v := ?_) (a' := ?_) #[true, true, true, true, false, false, false, true, false, false, false, false, false, false, false, false] rfl rfl (by kernel_rfl) (fun _ _ _ h => h) (Or.inl ⟨(by rfl), ?_⟩) ?_ ?_
   rotate_left
   ·
    intro w'
    go_simp
    with_reducible rfl
   rotate_left
   ·
    exact ap_
   refine pure_ (i := 8) (N := some 42) (v := ?_) (a' := ?_) #[true, true, true, true, false, false, false, true, true, false, false, false, false, false, false, false] rfl rfl (by kernel_rfl) (fun _ _ _ h => h) (Or.inl ⟨(by rfl), ?_⟩) ?_ ?_
   rotate_left
   ·
    intro w'
    go_simp
    with_reducible rfl
   rotate_left
   ·
    exact ap_
   refine pure_ (i := 9) (N := some 43) (v := ?_) (a' := ?_) #[true, true, true, true, false, false, false, true, true, true, false, false, false, false, false, false] rfl rfl (by kernel_rfl) (fun _ _ _ h => h) (Or.inl ⟨(by rfl), ?_⟩) ?_ ?_
   rotate_left
   ·
    intro w'
    go_simp
    with_reducible rfl
   rotate_left
   ·
    exact ap_
   refine take_ (i := 10) (N := some 44) (v := ?_) (a' := ?_) #[true, true, true, true, false, false, false, true, true, true, true, false, false, false, false, false] rfl rfl (by kernel_rfl) (fun _ _ _ h => h) (Or.inl ⟨(by rfl), ?_⟩) hHeld ?_ ?_
   rotate_left
   ·
    rintro w' ⟨s0, s1⟩
    go_simp
    with_reducible rfl
   rotate_left
   ·
    exact ap_
   have HI_ := am_ (HI.out.drew); clear HI; have HI := HI_; clear HI_
   generalize w2.drew = wd0 at HI hHeld ⊢
   refine join_ (σ := Value × Value × Value × Value) 4 #[true, true, true, true, true, true, true, true, true, true, true, true, false, false, false, false] (fun s => [(38, s.1), (39, s.2.1), (40, s.2.2.1), (45, s.2.2.2)]) (fun s w' => Inv w (fun k => k = g) w' [blk g 27 #[.slice A0 s0_0.length c0, .int .i64 s0_1, .string s0_2, .int .i64 s0_3], blk gb 34 #[.int .i64 0, .int .i64 0]] (fun w2 => Piece s.1 (nums_ s0_2) w2 ∧ Piece s.2.2.1 [100, 114, 97, 119] w2 ∧ Piece s.2.2.2 (four_ (s0_3)) w2 ∧ (fun w2 => Kd.C k34 w2 A0 s0_0.length s0_0) w2)) ?_ ?_
   rotate_left
   ·
    intro hJ
    refine three_ (i := 4) (j := 5) (k := 11) (Ni := some 38) (Nj := some 39) (Nk := some 45) #[true, true, true, true, true, false, false, true, true, true, true, false, false, false, false, false] #[true, true, true, true, false, true, false, true, true, true, true, false, false, false, false, false] #[true, true, true, true, false, false, false, true, true, true, true, true, false, false, false, false] rfl rfl rfl rfl rfl rfl (by kernel_rfl) (by decide) (by decide) (by decide) (fun K hK => ?_) (fun K hK => ?_) (fun K hK => ?_)
    ·
     obtain ⟨vconv, wv1, hcv, HI_⟩ := HI.out.conv_ev HST.out
     refine value_ (by rfl) rfl (v := vconv) (w1 := wv1) qz18_ ?_
     clear HI hcv; have HI := am_ HI_; clear HI_
     refine hK.out _ _ ⟨(blk_cell ((HI.out).get 0 rfl) 2).trans rfl, (blk_cell ((HI.out).get 0 rfl) 3).trans rfl⟩ (fun hHeld => ?_)
     clear hK K
     refine norm_ (a' := ?_) ?_ ?_
     rotate_left
     ·
      show Act.put _ (some 38) _ = _
      exact ap_
     refine two_ (i := 5) (j := 11) (Ni := some 39) (Nj := some 45) #[true, true, true, true, true, true, false, true, true, true, true, false, false, false, false, false] #[true, true, true, true, true, false, false, true, true, true, true, true, false, false, false, false] rfl rfl rfl rfl (by kernel_rfl) (by decide) (by decide) (fun K hK => ?_) (fun K hK => ?_)
     ·
      have HI_ := am_ (HI.out.lit_ev #[.int .u8 100, .int .u8 114, .int .u8 97, .int .u8 119] 5); clear HI; have HI := HI_; clear HI_
      refine value_ (by rfl) rfl (v := .slice (some ⟨wv1.heap.size, 0, none⟩) 4 4) (w1 := wv1.alloc (.cells #[.int .u8 100, .int .u8 114, .int .u8 97, .int .u8 119] 5)) qz18_ ?_
      generalize wv1.alloc (.cells #[.int .u8 100, .int .u8 114, .int .u8 97, .int .u8 119] 5) = wv2 at HI ⊢
      generalize wv1.heap.size = gl at HI ⊢
      refine hK.out _ _ ⟨(blk_cell ((HI.out).get 1 rfl) 2).trans rfl, (blk_cell ((HI.out).get 1 rfl) 3).trans rfl⟩ (fun hHeld => ?_)
      clear hK K
      refine norm_ (a' := ?_) ?_ ?_
      rotate_left
      ·
       show Act.put _ (some 39) _ = _
       exact ap_
      refine two_ (i := 6) (j := 11) (Ni := some 40) (Nj := some 45) #[true, true, true, true, true, true, true, true, true, true, true, false, false, false, false, false] #[true, true, true, true, true, true, false, true, true, true, true, true, false, false, false, false] rfl rfl rfl rfl (by kernel_rfl) (by decide) (by decide) (fun K hK => ?_) (fun K hK => ?_)
      ·
       obtain ⟨wv3, hcv, HI_⟩ := HI.out.mark_ev (xs := [100, 114, 97, 119]) (by decide)
       replace hcv : (convert 22 22 (.slice (some ⟨gl, 0, none⟩) 4 4)).run Try.prog wv2 = .ok (.slice (some ⟨gl, 0, none⟩) 4 4) wv3 := hcv
       refine value_ (by rfl) rfl (v := .slice (some ⟨gl, 0, none⟩) 4 4) (w1 := wv3) qz18_ ?_
       clear HI hcv; have HI := am_ HI_; clear HI_
       refine hK.out _ _ ⟨(blk_cell ((HI.out).get 0 rfl) 2).trans rfl, (blk_cell ((HI.out).get 0 rfl) 3).trans rfl⟩ (fun hHeld => ?_)
       clear hK K
       refine norm_ (a' := ?_) ?_ ?_
       rotate_left
       ·
        show Act.put _ (some 40) _ = _
        exact ap_
       refine one_ (i := 11) (N := some 45) #[true, true, true, true, true, true, true, true, true, true, true, true, false, false, false, false] rfl rfl (by kernel_rfl) (by decide) (fun K hK => ?_)
       refine goes_ Try.func88 (by kernel_rfl) rfl #[.slice none 0 0, .int .i64 s0_3] (by rfl) rfl rfl qz13_ ?_
       refine (HI.out.four_ev (s0_3)).mono ?_
       rintro e wv4 ⟨vfour, rfl, HI_⟩
       refine ⟨_, rfl, ?_⟩
       clear HI; have HI := am_ HI_; clear HI_
       refine hK.out _ _ ⟨(blk_cell ((HI.out).get 0 rfl) 2).trans rfl, (blk_cell ((HI.out).get 0 rfl) 3).trans rfl⟩ (fun hHeld => ?_)
       clear hK K
       refine norm_ (a' := ?_) ?_ ?_
       rotate_left
       ·
        show Act.put _ (some 45) _ = _
        exact ap_
       refine norm_ ?_ (hJ (vconv, .slice (some ⟨gl, 0, none⟩) 4 4, .slice (some ⟨gl, 0, none⟩) 4 4, vfour) wv4 (HI.out.weaken (fun _ h => ?_)))
       ·
        simp only [putAll]; simp only [Act.put, List.setIfInBounds_toArray, List.set_cons_zero, List.set_cons_succ, i64_w, i32_w]
        try rfl
       ·
        refine ⟨?_, ?_, ?_, ?_⟩ <;> first | exact h.1 | exact h.2.1 | exact h.2.2.1 | exact h.2.2.2
      ·
       refine goes_ Try.func88 (by kernel_rfl) rfl #[.slice none 0 0, .int .i64 s0_3] (by rfl) rfl rfl qz13_ ?_
       refine (HI.out.four_ev (s0_3)).mono ?_
       rintro e wv3 ⟨vfour, rfl, HI_⟩
       refine ⟨_, rfl, ?_⟩
       clear HI; have HI := am_ HI_; clear HI_
       refine hK.out _ _ ⟨(blk_cell ((HI.out).get 1 rfl) 2).trans rfl, (blk_cell ((HI.out).get 1 rfl) 3).trans rfl⟩ (fun hHeld => ?_)
       clear hK K
       refine norm_ (a' := ?_) ?_ ?_
       rotate_left
       ·
        show Act.put _ (some 45) _ = _
        exact ap_
       refine one_ (i := 6) (N := some 40) #[true, true, true, true, true, true, true, true, true, true, true, true, false, false, false, false] rfl rfl (by kernel_rfl) (by decide) (fun K hK => ?_)
       obtain ⟨wv4, hcv, HI_⟩ := HI.out.mark_ev (xs := [100, 114, 97, 119]) (by decide)
       replace hcv : (convert 22 22 (.slice (some ⟨gl, 0, none⟩) 4 4)).run Try.prog wv3 = .ok (.slice (some ⟨gl, 0, none⟩) 4 4) wv4 := hcv
       refine value_ (by rfl) rfl (v := .slice (some ⟨gl, 0, none⟩) 4 4) (w1 := wv4) qz18_ ?_
       clear HI hcv; have HI := am_ HI_; clear HI_
       refine hK.out _ _ ⟨(blk_cell ((HI.out).get 0 rfl) 2).trans rfl, (blk_cell ((HI.out).get 0 rfl) 3).trans rfl⟩ (fun hHeld => ?_)
       clear hK K
       refine norm_ (a' := ?_) ?_ ?_
       rotate_left
       ·
        show Act.put _ (some 40) _ = _
        exact ap_
       refine norm_ ?_ (hJ (vconv, .slice (some ⟨gl, 0, none⟩) 4 4, .slice (some ⟨gl, 0, none⟩) 4 4, vfour) wv4 (HI.out.weaken (fun _ h => ?_)))
       ·
        simp only [putAll]; simp only [Act.put, List.setIfInBounds_toArray, List.set_cons_zero, List.set_cons_succ, i64_w, i32_w]
        try rfl
       ·
        refine ⟨?_, ?_, ?_, ?_⟩ <;> first | exact h.1 | exact h.2.1 | exact h.2.2.1 | exact h.2.2.2
     ·
      refine goes_ Try.func88 (by kernel_rfl) rfl #[.slice none 0 0, .int .i64 s0_3] (by rfl) rfl rfl qz13_ ?_
      refine (HI.out.four_ev (s0_3)).mono ?_
      rintro e wv2 ⟨vfour, rfl, HI_⟩
      refine ⟨_, rfl, ?_⟩
      clear HI; have HI := am_ HI_; clear HI_
      refine hK.out _ _ ⟨(blk_cell ((HI.out).get 0 rfl) 2).trans rfl, (blk_cell ((HI.out).get 0 rfl) 3).trans rfl⟩ (fun hHeld => ?_)
      clear hK K
      refine norm_ (a' := ?_) ?_ ?_
      rotate_left
      ·
       show Act.put _ (some 45) _ = _
       exact ap_
      refine one_ (i := 5) (N := some 39) #[true, true, true, true, true, true, false, true, true, true, true, true, false, false, false, false] rfl rfl (by kernel_rfl) (by decide) (fun K hK => ?_)
      have HI_ := am_ (HI.out.lit_ev #[.int .u8 100, .int .u8 114, .int .u8 97, .int .u8 119] 5); clear HI; have HI := HI_; clear HI_
      refine value_ (by rfl) rfl (v := .slice (some ⟨wv2.heap.size, 0, none⟩) 4 4) (w1 := wv2.alloc (.cells #[.int .u8 100, .int .u8 114, .int .u8 97, .int .u8 119] 5)) qz18_ ?_
      generalize wv2.alloc (.cells #[.int .u8 100, .int .u8 114, .int .u8 97, .int .u8 119] 5) = wv3 at HI ⊢
      generalize wv2.heap.size = gl at HI ⊢
      refine hK.out _ _ ⟨(blk_cell ((HI.out).get 1 rfl) 2).trans rfl, (blk_cell ((HI.out).get 1 rfl) 3).trans rfl⟩ (fun hHeld => ?_)
      clear hK K
      refine norm_ (a' := ?_) ?_ ?_
      rotate_left
      ·
       show Act.put _ (some 39) _ = _
       exact ap_
      refine one_ (i := 6) (N := some 40) #[true, true, true, true, true, true, true, true, true, true, true, true, false, false, false, false] rfl rfl (by kernel_rfl) (by decide) (fun K hK => ?_)
      obtain ⟨wv4, hcv, HI_⟩ := HI.out.mark_ev (xs := [100, 114, 97, 119]) (by decide)
      replace hcv : (convert 22 22 (.slice (some ⟨gl, 0, none⟩) 4 4)).run Try.prog wv3 = .ok (.slice (some ⟨gl, 0, none⟩) 4 4) wv4 := hcv
      refine value_ (by rfl) rfl (v := .slice (some ⟨gl, 0, none⟩) 4 4) (w1 := wv4) qz18_ ?_
      clear HI hcv; have HI := am_ HI_; clear HI_
      refine hK.out _ _ ⟨(blk_cell ((HI.out).get 0 rfl) 2).trans rfl, (blk_cell ((HI.out).get 0 rfl) 3).trans rfl⟩ (fun hHeld => ?_)
      clear hK K
      refine norm_ (a' := ?_) ?_ ?_
      rotate_left
      ·
       show Act.put _ (some 40) _ = _
       exact ap_
      refine norm_ ?_ (hJ (vconv, .slice (some ⟨gl, 0, none⟩) 4 4, .slice (some ⟨gl, 0, none⟩) 4 4, vfour) wv4 (HI.out.weaken (fun _ h => ?_)))
      ·
       simp only [putAll]; simp only [Act.put, List.setIfInBounds_toArray, List.set_cons_zero, List.set_cons_succ, i64_w, i32_w]
       try rfl
      ·
       refine ⟨?_, ?_, ?_, ?_⟩ <;> first | exact h.1 | exact h.2.1 | exact h.2.2.1 | exact h.2.2.2
    ·
     have HI_ := am_ (HI.out.lit_ev #[.int .u8 100, .int .u8 114, .int .u8 97, .int .u8 119] 5); clear HI; have HI := HI_; clear HI_
     refine value_ (by rfl) rfl (v := .slice (some ⟨wd0.heap.size, 0, none⟩) 4 4) (w1 := wd0.alloc (.cells #[.int .u8 100, .int .u8 114, .int .u8 97, .int .u8 119] 5)) qz18_ ?_
     generalize wd0.alloc (.cells #[.int .u8 100, .int .u8 114, .int .u8 97, .int .u8 119] 5) = wv1 at HI ⊢
     generalize wd0.heap.size = gl at HI ⊢
     refine hK.out _ _ ⟨(blk_cell ((HI.out).get 1 rfl) 2).trans rfl, (blk_cell ((HI.out).get 1 rfl) 3).trans rfl⟩ (fun hHeld => ?_)
     clear hK K
     refine norm_ (a' := ?_) ?_ ?_
     rotate_left
     ·
      show Act.put _ (some 39) _ = _
      exact ap_
     refine three_ (i := 4) (j := 6) (k := 11) (Ni := some 38) (Nj := some 40) (Nk := some 45) #[true, true, true, true, true, true, false, true, true, true, true, false, false, false, false, false] #[true, true, true, true, false, true, true, true, true, true, true, false, false, false, false, false] #[true, true, true, true, false, true, false, true, true, true, true, true, false, false, false, false] rfl rfl rfl rfl rfl rfl (by kernel_rfl) (by decide) (by decide) (by decide) (fun K hK => ?_) (fun K hK => ?_) (fun K hK => ?_)
     ·
      obtain ⟨vconv, wv2, hcv, HI_⟩ := HI.out.conv_ev HST.out
      refine value_ (by rfl) rfl (v := vconv) (w1 := wv2) qz18_ ?_
      clear HI hcv; have HI := am_ HI_; clear HI_
      refine hK.out _ _ ⟨(blk_cell ((HI.out).get 1 rfl) 2).trans rfl, (blk_cell ((HI.out).get 1 rfl) 3).trans rfl⟩ (fun hHeld => ?_)
      clear hK K
      refine norm_ (a' := ?_) ?_ ?_
      rotate_left
      ·
       show Act.put _ (some 38) _ = _
       exact ap_
      refine two_ (i := 6) (j := 11) (Ni := some 40) (Nj := some 45) #[true, true, true, true, true, true, true, true, true, true, true, false, false, false, false, false] #[true, true, true, true, true, true, false, true, true, true, true, true, false, false, false, false] rfl rfl rfl rfl (by kernel_rfl) (by decide) (by decide) (fun K hK => ?_) (fun K hK => ?_)
      ·
       obtain ⟨wv3, hcv, HI_⟩ := HI.out.mark_ev (xs := [100, 114, 97, 119]) (by decide)
       replace hcv : (convert 22 22 (.slice (some ⟨gl, 0, none⟩) 4 4)).run Try.prog wv2 = .ok (.slice (some ⟨gl, 0, none⟩) 4 4) wv3 := hcv
       refine value_ (by rfl) rfl (v := .slice (some ⟨gl, 0, none⟩) 4 4) (w1 := wv3) qz18_ ?_
       clear HI hcv; have HI := am_ HI_; clear HI_
       refine hK.out _ _ ⟨(blk_cell ((HI.out).get 0 rfl) 2).trans rfl, (blk_cell ((HI.out).get 0 rfl) 3).trans rfl⟩ (fun hHeld => ?_)
       clear hK K
       refine norm_ (a' := ?_) ?_ ?_
       rotate_left
       ·
        show Act.put _ (some 40) _ = _
        exact ap_
       refine one_ (i := 11) (N := some 45) #[true, true, true, true, true, true, true, true, true, true, true, true, false, false, false, false] rfl rfl (by kernel_rfl) (by decide) (fun K hK => ?_)
       refine goes_ Try.func88 (by kernel_rfl) rfl #[.slice none 0 0, .int .i64 s0_3] (by rfl) rfl rfl qz13_ ?_
       refine (HI.out.four_ev (s0_3)).mono ?_
       rintro e wv4 ⟨vfour, rfl, HI_⟩
       refine ⟨_, rfl, ?_⟩
       clear HI; have HI := am_ HI_; clear HI_
       refine hK.out _ _ ⟨(blk_cell ((HI.out).get 0 rfl) 2).trans rfl, (blk_cell ((HI.out).get 0 rfl) 3).trans rfl⟩ (fun hHeld => ?_)
       clear hK K
       refine norm_ (a' := ?_) ?_ ?_
       rotate_left
       ·
        show Act.put _ (some 45) _ = _
        exact ap_
       refine norm_ ?_ (hJ (vconv, .slice (some ⟨gl, 0, none⟩) 4 4, .slice (some ⟨gl, 0, none⟩) 4 4, vfour) wv4 (HI.out.weaken (fun _ h => ?_)))
       ·
        simp only [putAll]; simp only [Act.put, List.setIfInBounds_toArray, List.set_cons_zero, List.set_cons_succ, i64_w, i32_w]
        try rfl
       ·
        refine ⟨?_, ?_, ?_, ?_⟩ <;> first | exact h.1 | exact h.2.1 | exact h.2.2.1 | exact h.2.2.2
      ·
       refine goes_ Try.func88 (by kernel_rfl) rfl #[.slice none 0 0, .int .i64 s0_3] (by rfl) rfl rfl qz13_ ?_
       refine (HI.out.four_ev (s0_3)).mono ?_
       rintro e wv3 ⟨vfour, rfl, HI_⟩
       refine ⟨_, rfl, ?_⟩
       clear HI; have HI := am_ HI_; clear HI_
       refine hK.out _ _ ⟨(blk_cell ((HI.out).get 1 rfl) 2).trans rfl, (blk_cell ((HI.out).get 1 rfl) 3).trans rfl⟩ (fun hHeld => ?_)
       clear hK K
       refine norm_ (a' := ?_) ?_ ?_
       rotate_left
       ·
        show Act.put _ (some 45) _ = _
        exact ap_
       refine one_ (i := 6) (N := some 40) #[true, true, true, true, true, true, true, true, true, true, true, true, false, false, false, false] rfl rfl (by kernel_rfl) (by decide) (fun K hK => ?_)
       obtain ⟨wv4, hcv, HI_⟩ := HI.out.mark_ev (xs := [100, 114, 97, 119]) (by decide)
       replace hcv : (convert 22 22 (.slice (some ⟨gl, 0, none⟩) 4 4)).run Try.prog wv3 = .ok (.slice (some ⟨gl, 0, none⟩) 4 4) wv4 := hcv
       refine value_ (by rfl) rfl (v := .slice (some ⟨gl, 0, none⟩) 4 4) (w1 := wv4) qz18_ ?_
       clear HI hcv; have HI := am_ HI_; clear HI_
       refine hK.out _ _ ⟨(blk_cell ((HI.out).get 0 rfl) 2).trans rfl, (blk_cell ((HI.out).get 0 rfl) 3).trans rfl⟩ (fun hHeld => ?_)
       clear hK K
       refine norm_ (a' := ?_) ?_ ?_
       rotate_left
       ·
        show Act.put _ (some 40) _ = _
        exact ap_
       refine norm_ ?_ (hJ (vconv, .slice (some ⟨gl, 0, none⟩) 4 4, .slice (some ⟨gl, 0, none⟩) 4 4, vfour) wv4 (HI.out.weaken (fun _ h => ?_)))
       ·
        simp only [putAll]; simp only [Act.put, List.setIfInBounds_toArray, List.set_cons_zero, List.set_cons_succ, i64_w, i32_w]
        try rfl
       ·
        refine ⟨?_, ?_, ?_, ?_⟩ <;> first | exact h.1 | exact h.2.1 | exact h.2.2.1 | exact h.2.2.2
     ·
      obtain ⟨wv2, hcv, HI_⟩ := HI.out.mark_ev (xs := [100, 114, 97, 119]) (by decide)
      replace hcv : (convert 22 22 (.slice (some ⟨gl, 0, none⟩) 4 4)).run Try.prog wv1 = .ok (.slice (some ⟨gl, 0, none⟩) 4 4) wv2 := hcv
      refine value_ (by rfl) rfl (v := .slice (some ⟨gl, 0, none⟩) 4 4) (w1 := wv2) qz18_ ?_
      clear HI hcv; have HI := am_ HI_; clear HI_
      refine hK.out _ _ ⟨(blk_cell ((HI.out).get 0 rfl) 2).trans rfl, (blk_cell ((HI.out).get 0 rfl) 3).trans rfl⟩ (fun hHeld => ?_)
      clear hK K
      refine norm_ (a' := ?_) ?_ ?_
      rotate_left
      ·
       show Act.put _ (some 40) _ = _
       exact ap_
      refine two_ (i := 4) (j := 11) (Ni := some 38) (Nj := some 45) #[true, true, true, true, true, true, true, true, true, true, true, false, false, false, false, false] #[true, true, true, true, false, true, true, true, true, true, true, true, false, false, false, false] rfl rfl rfl rfl (by kernel_rfl) (by decide) (by decide) (fun K hK => ?_) (fun K hK => ?_)
      ·
       obtain ⟨vconv, wv3, hcv, HI_⟩ := HI.out.conv_ev HST.out
       refine value_ (by rfl) rfl (v := vconv) (w1 := wv3) qz18_ ?_
       clear HI hcv; have HI := am_ HI_; clear HI_
       refine hK.out _ _ ⟨(blk_cell ((HI.out).get 0 rfl) 2).trans rfl, (blk_cell ((HI.out).get 0 rfl) 3).trans rfl⟩ (fun hHeld => ?_)
       clear hK K
       refine norm_ (a' := ?_) ?_ ?_
       rotate_left
       ·
        show Act.put _ (some 38) _ = _
        exact ap_
       refine one_ (i := 11) (N := some 45) #[true, true, true, true, true, true, true, true, true, true, true, true, false, false, false, false] rfl rfl (by kernel_rfl) (by decide) (fun K hK => ?_)
       refine goes_ Try.func88 (by kernel_rfl) rfl #[.slice none 0 0, .int .i64 s0_3] (by rfl) rfl rfl qz13_ ?_
       refine (HI.out.four_ev (s0_3)).mono ?_
       rintro e wv4 ⟨vfour, rfl, HI_⟩
       refine ⟨_, rfl, ?_⟩
       clear HI; have HI := am_ HI_; clear HI_
       refine hK.out _ _ ⟨(blk_cell ((HI.out).get 0 rfl) 2).trans rfl, (blk_cell ((HI.out).get 0 rfl) 3).trans rfl⟩ (fun hHeld => ?_)
       clear hK K
       refine norm_ (a' := ?_) ?_ ?_
       rotate_left
       ·
        show Act.put _ (some 45) _ = _
        exact ap_
       refine norm_ ?_ (hJ (vconv, .slice (some ⟨gl, 0, none⟩) 4 4, .slice (some ⟨gl, 0, none⟩) 4 4, vfour) wv4 (HI.out.weaken (fun _ h => ?_)))
       ·
        simp only [putAll]; simp only [Act.put, List.setIfInBounds_toArray, List.set_cons_zero, List.set_cons_succ, i64_w, i32_w]
        try rfl
       ·
        refine ⟨?_, ?_, ?_, ?_⟩ <;> first | exact h.1 | exact h.2.1 | exact h.2.2.1 | exact h.2.2.2
      ·
       refine goes_ Try.func88 (by kernel_rfl) rfl #[.slice none 0 0, .int .i64 s0_3] (by rfl) rfl rfl qz13_ ?_
       refine (HI.out.four_ev (s0_3)).mono ?_
       rintro e wv3 ⟨vfour, rfl, HI_⟩
       refine ⟨_, rfl, ?_⟩
       clear HI; have HI := am_ HI_; clear HI_
       refine hK.out _ _ ⟨(blk_cell ((HI.out).get 0 rfl) 2).trans rfl, (blk_cell ((HI.out).get 0 rfl) 3).trans rfl⟩ (fun hHeld => ?_)
       clear hK K
       refine norm_ (a' := ?_) ?_ ?_
       rotate_left
       ·
        show Act.put _ (some 45) _ = _
        exact ap_
       refine one_ (i := 4) (N := some 38) #[true, true, true, true, true, true, true, true, true, true, true, true, false, false, false, false] rfl rfl (by kernel_rfl) (by decide) (fun K hK => ?_)
       obtain ⟨vconv, wv4, hcv, HI_⟩ := HI.out.conv_ev HST.out
       refine value_ (by rfl) rfl (v := vconv) (w1 := wv4) qz18_ ?_
       clear HI hcv; have HI := am_ HI_; clear HI_
       refine hK.out _ _ ⟨(blk_cell ((HI.out).get 0 rfl) 2).trans rfl, (blk_cell ((HI.out).get 0 rfl) 3).trans rfl⟩ (fun hHeld => ?_)
       clear hK K
       refine norm_ (a' := ?_) ?_ ?_
       rotate_left
       ·
        show Act.put _ (some 38) _ = _
        exact ap_
       refine norm_ ?_ (hJ (vconv, .slice (some ⟨gl, 0, none⟩) 4 4, .slice (some ⟨gl, 0, none⟩) 4 4, vfour) wv4 (HI.out.weaken (fun _ h => ?_)))
       ·
        simp only [putAll]; simp only [Act.put, List.setIfInBounds_toArray, List.set_cons_zero, List.set_cons_succ, i64_w, i32_w]
        try rfl
       ·
        refine ⟨?_, ?_, ?_, ?_⟩ <;> first | exact h.1 | exact h.2.1 | exact h.2.2.1 | exact h.2.2.2
     ·
      refine goes_ Try.func88 (by kernel_rfl) rfl #[.slice none 0 0, .int .i64 s0_3] (by rfl) rfl rfl qz13_ ?_
      refine (HI.out.four_ev (s0_3)).mono ?_
      rintro e wv2 ⟨vfour, rfl, HI_⟩
      refine ⟨_, rfl, ?_⟩
      clear HI; have HI := am_ HI_; clear HI_
      refine hK.out _ _ ⟨(blk_cell ((HI.out).get 1 rfl) 2).trans rfl, (blk_cell ((HI.out).get 1 rfl) 3).trans rfl⟩ (fun hHeld => ?_)
      clear hK K
      refine norm_ (a' := ?_) ?_ ?_
      rotate_left
      ·
       show Act.put _ (some 45) _ = _
       exact ap_
      refine two_ (i := 4) (j := 6) (Ni := some 38) (Nj := some 40) #[true, true, true, true, true, true, false, true, true, true, true, true, false, false, false, false] #[true, true, true, true, false, true, true, true, true, true, true, true, false, false, false, false] rfl rfl rfl rfl (by kernel_rfl) (by decide) (by decide) (fun K hK => ?_) (fun K hK => ?_)
      ·
       obtain ⟨vconv, wv3, hcv, HI_⟩ := HI.out.conv_ev HST.out
       refine value_ (by rfl) rfl (v := vconv) (w1 := wv3) qz18_ ?_
       clear HI hcv; have HI := am_ HI_; clear HI_
       refine hK.out _ _ ⟨(blk_cell ((HI.out).get 1 rfl) 2).trans rfl, (blk_cell ((HI.out).get 1 rfl) 3).trans rfl⟩ (fun hHeld => ?_)
       clear hK K
       refine norm_ (a' := ?_) ?_ ?_
       rotate_left
       ·
        show Act.put _ (some 38) _ = _
        exact ap_
       refine one_ (i := 6) (N := some 40) #[true, true, true, true, true, true, true, true, true, true, true, true, false, false, false, false] rfl rfl (by kernel_rfl) (by decide) (fun K hK => ?_)
       obtain ⟨wv4, hcv, HI_⟩ := HI.out.mark_ev (xs := [100, 114, 97, 119]) (by decide)
       replace hcv : (convert 22 22 (.slice (some ⟨gl, 0, none⟩) 4 4)).run Try.prog wv3 = .ok (.slice (some ⟨gl, 0, none⟩) 4 4) wv4 := hcv
       refine value_ (by rfl) rfl (v := .slice (some ⟨gl, 0, none⟩) 4 4) (w1 := wv4) qz18_ ?_
       clear HI hcv; have HI := am_ HI_; clear HI_
       refine hK.out _ _ ⟨(blk_cell ((HI.out).get 0 rfl) 2).trans rfl, (blk_cell ((HI.out).get 0 rfl) 3).trans rfl⟩ (fun hHeld => ?_)
       clear hK K
       refine norm_ (a' := ?_) ?_ ?_
       rotate_left
       ·
        show Act.put _ (some 40) _ = _
        exact ap_
       refine norm_ ?_ (hJ (vconv, .slice (some ⟨gl, 0, none⟩) 4 4, .slice (some ⟨gl, 0, none⟩) 4 4, vfour) wv4 (HI.out.weaken (fun _ h => ?_)))
       ·
        simp only [putAll]; simp only [Act.put, List.setIfInBounds_toArray, List.set_cons_zero, List.set_cons_succ, i64_w, i32_w]
        try rfl
       ·
        refine ⟨?_, ?_, ?_, ?_⟩ <;> first | exact h.1 | exact h.2.1 | exact h.2.2.1 | exact h.2.2.2
      ·
       obtain ⟨wv3, hcv, HI_⟩ := HI.out.mark_ev (xs := [100, 114, 97, 119]) (by decide)
       replace hcv : (convert 22 22 (.slice (some ⟨gl, 0, none⟩) 4 4)).run Try.prog wv2 = .ok (.slice (some ⟨gl, 0, none⟩) 4 4) wv3 := hcv
       refine value_ (by rfl) rfl (v := .slice (some ⟨gl, 0, none⟩) 4 4) (w1 := wv3) qz18_ ?_
       clear HI hcv; have HI := am_ HI_; clear HI_
       refine hK.out _ _ ⟨(blk_cell ((HI.out).get 0 rfl) 2).trans rfl, (blk_cell ((HI.out).get 0 rfl) 3).trans rfl⟩ (fun hHeld => ?_)
       clear hK K
       refine norm_ (a' := ?_) ?_ ?_
       rotate_left
       ·
        show Act.put _ (some 40) _ = _
        exact ap_
       refine one_ (i := 4) (N := some 38) #[true, true, true, true, true, true, true, true, true, true, true, true, false, false, false, false] rfl rfl (by kernel_rfl) (by decide) (fun K hK => ?_)
       obtain ⟨vconv, wv4, hcv, HI_⟩ := HI.out.conv_ev HST.out
       refine value_ (by rfl) rfl (v := vconv) (w1 := wv4) qz18_ ?_
       clear HI hcv; have HI := am_ HI_; clear HI_
       refine hK.out _ _ ⟨(blk_cell ((HI.out).get 0 rfl) 2).trans rfl, (blk_cell ((HI.out).get 0 rfl) 3).trans rfl⟩ (fun hHeld => ?_)
       clear hK K
       refine norm_ (a' := ?_) ?_ ?_
       rotate_left
       ·
        show Act.put _ (some 38) _ = _
        exact ap_
       refine norm_ ?_ (hJ (vconv, .slice (some ⟨gl, 0, none⟩) 4 4, .slice (some ⟨gl, 0, none⟩) 4 4, vfour) wv4 (HI.out.weaken (fun _ h => ?_)))
       ·
        simp only [putAll]; simp only [Act.put, List.setIfInBounds_toArray, List.set_cons_zero, List.set_cons_succ, i64_w, i32_w]
        try rfl
       ·
        refine ⟨?_, ?_, ?_, ?_⟩ <;> first | exact h.1 | exact h.2.1 | exact h.2.2.1 | exact h.2.2.2
    ·
     refine goes_ Try.func88 (by kernel_rfl) rfl #[.slice none 0 0, .int .i64 s0_3] (by rfl) rfl rfl qz13_ ?_
     refine (HI.out.four_ev (s0_3)).mono ?_
     rintro e wv1 ⟨vfour, rfl, HI_⟩
     refine ⟨_, rfl, ?_⟩
     clear HI; have HI := am_ HI_; clear HI_
     refine hK.out _ _ ⟨(blk_cell ((HI.out).get 0 rfl) 2).trans rfl, (blk_cell ((HI.out).get 0 rfl) 3).trans rfl⟩ (fun hHeld => ?_)
     clear hK K
     refine norm_ (a' := ?_) ?_ ?_
     rotate_left
     ·
      show Act.put _ (some 45) _ = _
      exact ap_
     refine two_ (i := 4) (j := 5) (Ni := some 38) (Nj := some 39) #[true, true, true, true, true, false, false, true, true, true, true, true, false, false, false, false] #[true, true, true, true, false, true, false, true, true, true, true, true, false, false, false, false] rfl rfl rfl rfl (by kernel_rfl) (by decide) (by decide) (fun K hK => ?_) (fun K hK => ?_)
     ·
      obtain ⟨vconv, wv2, hcv, HI_⟩ := HI.out.conv_ev HST.out
      refine value_ (by rfl) rfl (v := vconv) (w1 := wv2) qz18_ ?_
      clear HI hcv; have HI := am_ HI_; clear HI_
      refine hK.out _ _ ⟨(blk_cell ((HI.out).get 0 rfl) 2).trans rfl, (blk_cell ((HI.out).get 0 rfl) 3).trans rfl⟩ (fun hHeld => ?_)
      clear hK K
      refine norm_ (a' := ?_) ?_ ?_
      rotate_left
      ·
       show Act.put _ (some 38) _ = _
       exact ap_
      refine one_ (i := 5) (N := some 39) #[true, true, true, true, true, true, false, true, true, true, true, true, false, false, false, false] rfl rfl (by kernel_rfl) (by decide) (fun K hK => ?_)
      have HI_ := am_ (HI.out.lit_ev #[.int .u8 100, .int .u8 114, .int .u8 97, .int .u8 119] 5); clear HI; have HI := HI_; clear HI_
      refine value_ (by rfl) rfl (v := .slice (some ⟨wv2.heap.size, 0, none⟩) 4 4) (w1 := wv2.alloc (.cells #[.int .u8 100, .int .u8 114, .int .u8 97, .int .u8 119] 5)) qz18_ ?_
      generalize wv2.alloc (.cells #[.int .u8 100, .int .u8 114, .int .u8 97, .int .u8 119] 5) = wv3 at HI ⊢
      generalize wv2.heap.size = gl at HI ⊢
      refine hK.out _ _ ⟨(blk_cell ((HI.out).get 1 rfl) 2).trans rfl, (blk_cell ((HI.out).get 1 rfl) 3).trans rfl⟩ (fun hHeld => ?_)
      clear hK K
      refine norm_ (a' := ?_) ?_ ?_
      rotate_left
      ·
       show Act.put _ (some 39) _ = _
       exact ap_
      refine one_ (i := 6) (N := some 40) #[true, true, true, true, true, true, true, true, true, true, true, true, false, false, false, false] rfl rfl (by kernel_rfl) (by decide) (fun K hK => ?_)
      obtain ⟨wv4, hcv, HI_⟩ := HI.out.mark_ev (xs := [100, 114, 97, 119]) (by decide)
      replace hcv : (convert 22 22 (.slice (some ⟨gl, 0, none⟩) 4 4)).run Try.prog wv3 = .ok (.slice (some ⟨gl, 0, none⟩) 4 4) wv4 := hcv
      refine value_ (by rfl) rfl (v := .slice (some ⟨gl, 0, none⟩) 4 4) (w1 := wv4) qz18_ ?_
      clear HI hcv; have HI := am_ HI_; clear HI_
      refine hK.out _ _ ⟨(blk_cell ((HI.out).get 0 rfl) 2).trans rfl, (blk_cell ((HI.out).get 0 rfl) 3).trans rfl⟩ (fun hHeld => ?_)
      clear hK K
      refine norm_ (a' := ?_) ?_ ?_
      rotate_left
      ·
       show Act.put _ (some 40) _ = _
       exact ap_
      refine norm_ ?_ (hJ (vconv, .slice (some ⟨gl, 0, none⟩) 4 4, .slice (some ⟨gl, 0, none⟩) 4 4, vfour) wv4 (HI.out.weaken (fun _ h => ?_)))
      ·
       simp only [putAll]; simp only [Act.put, List.setIfInBounds_toArray, List.set_cons_zero, List.set_cons_succ, i64_w, i32_w]
       try rfl
      ·
       refine ⟨?_, ?_, ?_, ?_⟩ <;> first | exact h.1 | exact h.2.1 | exact h.2.2.1 | exact h.2.2.2
     ·
      have HI_ := am_ (HI.out.lit_ev #[.int .u8 100, .int .u8 114, .int .u8 97, .int .u8 119] 5); clear HI; have HI := HI_; clear HI_
      refine value_ (by rfl) rfl (v := .slice (some ⟨wv1.heap.size, 0, none⟩) 4 4) (w1 := wv1.alloc (.cells #[.int .u8 100, .int .u8 114, .int .u8 97, .int .u8 119] 5)) qz18_ ?_
      generalize wv1.alloc (.cells #[.int .u8 100, .int .u8 114, .int .u8 97, .int .u8 119] 5) = wv2 at HI ⊢
      generalize wv1.heap.size = gl at HI ⊢
      refine hK.out _ _ ⟨(blk_cell ((HI.out).get 1 rfl) 2).trans rfl, (blk_cell ((HI.out).get 1 rfl) 3).trans rfl⟩ (fun hHeld => ?_)
      clear hK K
      refine norm_ (a' := ?_) ?_ ?_
      rotate_left
      ·
       show Act.put _ (some 39) _ = _
       exact ap_
      refine two_ (i := 4) (j := 6) (Ni := some 38) (Nj := some 40) #[true, true, true, true, true, true, false, true, true, true, true, true, false, false, false, false] #[true, true, true, true, false, true, true, true, true, true, true, true, false, false, false, false] rfl rfl rfl rfl (by kernel_rfl) (by decide) (by decide) (fun K hK => ?_) (fun K hK => ?_)
      ·
       obtain ⟨vconv, wv3, hcv, HI_⟩ := HI.out.conv_ev HST.out
       refine value_ (by rfl) rfl (v := vconv) (w1 := wv3) qz18_ ?_
       clear HI hcv; have HI := am_ HI_; clear HI_
       refine hK.out _ _ ⟨(blk_cell ((HI.out).get 1 rfl) 2).trans rfl, (blk_cell ((HI.out).get 1 rfl) 3).trans rfl⟩ (fun hHeld => ?_)
       clear hK K
       refine norm_ (a' := ?_) ?_ ?_
       rotate_left
       ·
        show Act.put _ (some 38) _ = _
        exact ap_
       refine one_ (i := 6) (N := some 40) #[true, true, true, true, true, true, true, true, true, true, true, true, false, false, false, false] rfl rfl (by kernel_rfl) (by decide) (fun K hK => ?_)
       obtain ⟨wv4, hcv, HI_⟩ := HI.out.mark_ev (xs := [100, 114, 97, 119]) (by decide)
       replace hcv : (convert 22 22 (.slice (some ⟨gl, 0, none⟩) 4 4)).run Try.prog wv3 = .ok (.slice (some ⟨gl, 0, none⟩) 4 4) wv4 := hcv
       refine value_ (by rfl) rfl (v := .slice (some ⟨gl, 0, none⟩) 4 4) (w1 := wv4) qz18_ ?_
       clear HI hcv; have HI := am_ HI_; clear HI_
       refine hK.out _ _ ⟨(blk_cell ((HI.out).get 0 rfl) 2).trans rfl, (blk_cell ((HI.out).get 0 rfl) 3).trans rfl⟩ (fun hHeld => ?_)
       clear hK K
       refine norm_ (a' := ?_) ?_ ?_
       rotate_left
       ·
        show Act.put _ (some 40) _ = _
        exact ap_
       refine norm_ ?_ (hJ (vconv, .slice (some ⟨gl, 0, none⟩) 4 4, .slice (some ⟨gl, 0, none⟩) 4 4, vfour) wv4 (HI.out.weaken (fun _ h => ?_)))
       ·
        simp only [putAll]; simp only [Act.put, List.setIfInBounds_toArray, List.set_cons_zero, List.set_cons_succ, i64_w, i32_w]
        try rfl
       ·
        refine ⟨?_, ?_, ?_, ?_⟩ <;> first | exact h.1 | exact h.2.1 | exact h.2.2.1 | exact h.2.2.2
      ·
       obtain ⟨wv3, hcv, HI_⟩ := HI.out.mark_ev (xs := [100, 114, 97, 119]) (by decide)
       replace hcv : (convert 22 22 (.slice (some ⟨gl, 0, none⟩) 4 4)).run Try.prog wv2 = .ok (.slice (some ⟨gl, 0, none⟩) 4 4) wv3 := hcv
       refine value_ (by rfl) rfl (v := .slice (some ⟨gl, 0, none⟩) 4 4) (w1 := wv3) qz18_ ?_
       clear HI hcv; have HI := am_ HI_; clear HI_
       refine hK.out _ _ ⟨(blk_cell ((HI.out).get 0 rfl) 2).trans rfl, (blk_cell ((HI.out).get 0 rfl) 3).trans rfl⟩ (fun hHeld => ?_)
       clear hK K
       refine norm_ (a' := ?_) ?_ ?_
       rotate_left
       ·
        show Act.put _ (some 40) _ = _
        exact ap_
       refine one_ (i := 4) (N := some 38) #[true, true, true, true, true, true, true, true, true, true, true, true, false, false, false, false] rfl rfl (by kernel_rfl) (by decide) (fun K hK => ?_)
       obtain ⟨vconv, wv4, hcv, HI_⟩ := HI.out.conv_ev HST.out
       refine value_ (by rfl) rfl (v := vconv) (w1 := wv4) qz18_ ?_
       clear HI hcv; have HI := am_ HI_; clear HI_
       refine hK.out _ _ ⟨(blk_cell ((HI.out).get 0 rfl) 2).trans rfl, (blk_cell ((HI.out).get 0 rfl) 3).trans rfl⟩ (fun hHeld => ?_)
       clear hK K
       refine norm_ (a' := ?_) ?_ ?_
       rotate_left
       ·
        show Act.put _ (some 38) _ = _
        exact ap_
       refine norm_ ?_ (hJ (vconv, .slice (some ⟨gl, 0, none⟩) 4 4, .slice (some ⟨gl, 0, none⟩) 4 4, vfour) wv4 (HI.out.weaken (fun _ h => ?_)))
       ·
        simp only [putAll]; simp only [Act.put, List.setIfInBounds_toArray, List.set_cons_zero, List.set_cons_succ, i64_w, i32_w]
        try rfl
       ·
        refine ⟨?_, ?_, ?_, ?_⟩ <;> first | exact h.1 | exact h.2.1 | exact h.2.2.1 | exact h.2.2.2
   ·
    rintro ⟨v0, v1, v2, v3⟩ wj HI0
    have HI := am_ HI0
    clear HI0
    refine norm_ (a' := ?_) ?_ ?_
    rotate_left
    ·
     simp only [putAll]; simp only [Act.put, List.setIfInBounds_toArray, List.set_cons_zero, List.set_cons_succ, i64_w, i32_w]
     try rfl
    obtain ⟨Aq0, cq0, eq_, _, _⟩ := HI.out.now.1; subst eq_
    obtain ⟨Aq2, cq2, eq_, _, _⟩ := HI.out.now.2.1; subst eq_
    obtain ⟨Aq3, cq3, eq_, _, _⟩ := HI.out.now.2.2.1; subst eq_
    refine one_ (i := 12) (N := some 46) #[true, true, true, true, true, true, true, true, true, true, true, true, true, false, false, false] rfl rfl (by kernel_rfl) (by decide) (fun K hK => ?_)
    refine value_ (by rfl) rfl (v := .slice (some ⟨wj.heap.size, 0, none⟩) 3 3) (w1 := wj.alloc (.cells #[.slice Aq0 (nums_ s0_2).length cq0, .slice Aq2 4 cq2, .slice Aq3 (four_ s0_3).length cq3] 22)) qz18_ ?_
    refine hK.out _ _ ⟨(blk_cell ((HI.out.alloc _).get 0 rfl) 2).trans rfl, (blk_cell ((HI.out.alloc _).get 0 rfl) 3).trans rfl⟩ (fun hHeld => ?_)
    clear hK K
    refine norm_ (a' := ?_) ?_ ?_
    rotate_left
    ·
     show Act.put _ (some 46) _ = _
     exact ap_
    refine one_ (i := 13) (N := some 47) #[true, true, true, true, true, true, true, true, true, true, true, true, true, true, false, false] rfl rfl (by kernel_rfl) (by decide) (fun K hK => ?_)
    refine goes_ Try.func56 (by kernel_rfl) rfl #[.slice (some ⟨wj.heap.size, 0, none⟩) 3 3] (by rfl) rfl rfl qz13_ ?_
    have hp := pieces3 (W := wj) (T := 22) HI.out.now.1 HI.out.now.2.1 HI.out.now.2.2.1
    refine (impl_keccak.walk (some ⟨wj.heap.size, 0, none⟩) 3 [nums_ s0_2, [100, 114, 97, 119], four_ s0_3] _ hp (by have := HST.out; simp [nums_length, four_length]; omega) (by simp)).mono ?_
    rintro e wk ⟨rfl, hb⟩
    rw [HKE.out]
    refine ⟨_, rfl, ?_⟩
    have HI_ := am_ ((HI.out.alloc _).grow hb); clear HI; have HI := HI_; clear HI_
    clear hb hp
    refine hK.out _ _ ⟨(blk_cell ((HI.out).get 0 rfl) 2).trans rfl, (blk_cell ((HI.out).get 0 rfl) 3).trans rfl⟩ (fun hHeld => ?_)
    clear hK K
    refine norm_ (a' := ?_) ?_ ?_
    rotate_left
    ·
     show Act.put _ (some 47) _ = _
     exact ap_
    refine one_ (i := 14) (N := some 48) #[true, true, true, true, true, true, true, true, true, true, true, true, true, true, true, false] rfl rfl (by kernel_rfl) (by decide) (fun K hK => ?_)
    obtain ⟨v48, w48, hcv, HI_⟩ := HI.out.conv_ev HKZ.out
    refine value_ (by rfl) rfl (v := v48) (w1 := w48) qz18_ ?_
    clear HI hcv; have HI := am_ HI_; clear HI_
    refine hK.out _ _ ⟨(blk_cell ((HI.out).get 0 rfl) 2).trans rfl, (blk_cell ((HI.out).get 0 rfl) 3).trans rfl⟩ (fun hHeld => ?_)
    clear hK K
    refine norm_ (a' := ?_) ?_ ?_
    rotate_left
    ·
     show Act.put _ (some 48) _ = _
     exact ap_
    refine pure_ (i := 15) (N := some 3) (v := ?_) (a' := ?_) #[true, true, true, true, true, true, true, true, true, true, true, true, true, true, true, true] rfl rfl (by kernel_rfl) (fun _ _ _ h => h) (Or.inl ⟨(by rfl), ?_⟩) ?_ ?_
    rotate_left
    ·
     intro w'
     go_simp
     with_reducible rfl
    rotate_left
    ·
     exact ap_
    refine done_ (by kernel_rfl) ?_
    obtain ⟨A8, c8, eq_, hc8, hC8⟩ := HI.out.now.1
    subst eq_
    have HI_ := am_ (HI.out.weaken (G := fun w2 => Kd.C (Kd.int .u8) w2 A8 (nums_ hs).length (nums_ hs) ∧ (fun w2 => Kd.C k34 w2 A0 s0_0.length s0_0) w2) (fun w2 h => ⟨by obtain ⟨A, c, e, _, hC⟩ := h.1; injection e with e1 e2 e3; rw [e1]; exact hC, h.2.2.2.2⟩)); clear HI; have HI := HI_; clear HI_
    have hq3 : w48.cell? ⟨g, 3, none⟩ = some (.int .i64 s0_3) := (blk_cell HI.out.blk0 3).trans rfl
    have hf3 := blk_frozen HI.out.blk0 3
    clear hC8 hHeld
    go_wp2
    have HI2 := am_ (HI.out.set0 3 (.int .i64 (wrap64 (s0_3 + 1))))
    clear HI hq3 hf3
    generalize w48.setCell ⟨g, 3, none⟩ (.int .i64 (wrap64 (s0_3 + 1))) = w5 at HI2 ⊢
    have HI := HI2
    clear HI2
    have hbl : (nums_ hs).length = 32 := by rw [nums_length]; exact HKL.out
    obtain ⟨hcut1, hA1, hD1⟩ := print_take_int (P := Try.prog) (k := .u8) 22 5 Try.underlying22 HI5.out HZ5.out A8 c8 (nums_ hs) 8 (by omega) (by omega) hc8
    obtain ⟨A9, hcut2, hA2, hD2⟩ := print_mid_int (P := Try.prog) (k := .u8) 22 5 Try.underlying22 HI5.out HZ5.out A8 c8 (nums_ hs) 8 16 (by omega) (by omega) (by omega) hc8
    have hE1 := am_ (mod8_eq (xs := (nums_ hs).take 8) (by rw [List.length_take]; omega))
    have hE2 := am_ (mod8_eq (xs := ((nums_ hs).take 16).drop 8) (by rw [List.length_drop, List.length_take]; omega))
    rw [show (8 : Int).toNat = 8 from rfl] at hcut1 hA1 hD1
    rw [show (8 : Int).toNat = 8 from rfl, show (16 : Int).toNat = 16 from rfl] at hcut2 hA2 hD2
    have HR1 := am_ (show Kd.C (Kd.int .u8) w5 A8 ((nums_ hs).take 8).length ((nums_ hs).take 8) from Kd.C_of_reads (h1 := fun _ => rfl) (hA1 _ (Kd.reads_of_C HI.out.now.1)))
    have HR2 := am_ (show Kd.C (Kd.int .u8) w5 A9 (((nums_ hs).take 16).drop 8).length (((nums_ hs).take 16).drop 8) from Kd.C_of_reads (h1 := fun _ => rfl) (hA2 _ (Kd.reads_of_C HI.out.now.1)))
    have HD1 := am_ hD1
    have HD2 := am_ hD2
    generalize hm1 : mod8 ((nums_ hs).take 8) = m1 at hE1
    generalize hm2 : mod8 (((nums_ hs).take 16).drop 8) = m2 at hE2
    have HM1 := am_ hm1
    have HM2 := am_ hm2
    clear hm1 hm2
    generalize hx1 : (nums_ hs).take 8 = x1 at hcut1 HR1 HD1 hE1
    generalize hx2 : ((nums_ hs).take 16).drop 8 = x2 at hcut2 HR2 HD2 hE2
    clear hx1 hx2
    clear hA1 hA2 hD1 hD2 hbl
    refine start_ (n := 8) (S := fun w' => True) (ds := [7]) #[false, false, false, false, false, false, false, false] (by kernel_rfl) rfl rfl trivial (fun hHeld => ?_)
    refine pure_ (i := 0) (N := some 56) (v := ?_) (a' := ?_) #[true, false, false, false, false, false, false, false] rfl rfl (by kernel_rfl) (fun _ _ _ h => h) (Or.inl ⟨(by rfl), ?_⟩) ?_ ?_
    rotate_left
    ·
     intro w'
     go_simp
     with_reducible rfl
    rotate_left
    ·
     exact ap_
    refine pure_ (i := 1) (N := some 57) (v := ?_) (a' := ?_) #[true, true, false, false, false, false, false, false] rfl rfl (by kernel_rfl) (fun _ _ _ h => h) (Or.inl ⟨(by rfl), ?_⟩) ?_ ?_
    rotate_left
    ·
     intro w'
     go_simp
     with_reducible rfl
    rotate_left
    ·
     exact ap_
    refine pure_ (i := 3) (N := some 59) (v := ?_) (a' := ?_) #[true, true, false, true, false, false, false, false] rfl rfl (by kernel_rfl) (fun _ _ _ h => h) (Or.inl ⟨(by rfl), ?_⟩) ?_ ?_
    rotate_left
    ·
     intro w'
     go_simp
     with_reducible rfl
    rotate_left
    ·
     exact ap_
    refine pure_ (i := 4) (N := some 60) (v := ?_) (a' := ?_) #[true, true, false, true, true, false, false, false] rfl rfl (by kernel_rfl) (fun _ _ _ h => h) (Or.inl ⟨(by rfl), ?_⟩) ?_ ?_
    rotate_left
    ·
     intro w'
     go_simp
     with_reducible rfl
    rotate_left
    ·
     exact ap_
    refine one_ (i := 2) (N := some 58) #[true, true, true, true, true, false, false, false] rfl rfl (by kernel_rfl) (by decide) (fun K hK => ?_)
    refine goes_ Try.func155 (by kernel_rfl) rfl #[.slice A8 x1.length c8] (by rfl) rfl rfl qz13_ ?_
    with_reducible refine (impl_modulo.calls 20 A8 c8 x1 m1 _ (Kd.C_drew HR1.out) HD1.out hE1.out).mono ?_
    rintro e w58 ⟨rfl, ⟨n1, rfl⟩⟩
    refine ⟨_, rfl, ?_⟩
    refine hK.out _ _ trivial (fun hHeld => ?_)
    clear hK K
    refine norm_ (a' := ?_) ?_ ?_
    rotate_left
    ·
     show Act.put _ (some 58) _ = _
     exact ap_
    refine one_ (i := 5) (N := some 61) #[true, true, true, true, true, true, false, false] rfl rfl (by kernel_rfl) (by decide) (fun K hK => ?_)
    refine goes_ Try.func155 (by kernel_rfl) rfl #[.slice A9 x2.length (c8 - 8)] (by rfl) rfl rfl qz13_ ?_
    with_reducible refine (impl_modulo.calls 20 A9 (c8 - 8) x2 m2 _ (Kd.C_drewN (Kd.C_drew HR2.out) _) HD2.out hE2.out).mono ?_
    rintro e w61 ⟨rfl, ⟨n2, rfl⟩⟩
    refine ⟨_, rfl, ?_⟩
    refine hK.out _ _ trivial (fun hHeld => ?_)
    clear hK K
    refine norm_ (a' := ?_) ?_ ?_
    rotate_left
    ·
     show Act.put _ (some 61) _ = _
     exact ap_
    refine pure_ (i := 6) (N := some 62) (v := ?_) (a' := ?_) #[true, true, true, true, true, true, true, false] rfl rfl (by kernel_rfl) (fun _ _ _ h => h) (Or.inl ⟨(by rfl), ?_⟩) ?_ ?_
    rotate_left
    ·
     intro w'
     go_simp
     with_reducible rfl
    rotate_left
    ·
     exact ap_
    refine last_ (i := 7) (N := none) #[true, true, true, true, true, true, true, true] rfl rfl (by kernel_rfl) (by decide) (fun K hK => ?_)
    rw [if_pos (by rfl)]
    have hG : ((w5.drew.drewN n1).drewN n2).heap[gb]? = some (.cells #[.int .i64 0, .int .i64 0] 34 (0, 0)) := (((HI.out.swap.drew).drewN n1).drewN n2).blk0
    refine wp_store_row 34 _ _ rfl gb (#[.int .i64 m1, .int .i64 m2]) rfl qz11_ 34 (#[.int .i64 0, .int .i64 0]) hG (draw_side m1 m2) (draw_len m1 m2) (draw_one m1 m2) ?_
    refine hK.out _ _ ?_
    clear hK K
    have HI2 := am_ (((((HI.out.swap.drew).drewN n1).drewN n2).put0 (#[.int .i64 m1, .int .i64 m2])).swap)
    refine done_ (by kernel_rfl) ?_
    try go_wp2
    refine bodyPost_ret (v := .agg #[.int .i64 m1, .int .i64 m2]) ?hres rfl ?_
    case hres => exact results_cell_row (fn := Try.f123) (p := 2) rfl _ _ gb 34 (#[.int .i64 m1, .int .i64 m2]) (0, 0) _ (by first | rfl | (simp; done)) HI2.out.swap.blk0 hu34 rfl (by kernel_rfl)
    exact ⟨by rw [HM1.out, HM2.out], ⟨A0, c0, HI2.out.blk0, HGQ.out, HR0.out⟩, HI2.out.agr.onto HB.out (fun k hk => by obtain rfl : k = g := hk; exact HGE.out), HI2.out.agr.keep⟩
  ·
   rw [if_neg cs] at h; cases h

def impl_Source_left.f (l0_0 : List (S34)) (a0_1 : Int) (a0_2 : ByteArray) (a0_3 : Int) : Option (Int) := some (wrap64 (1000000 - (mx a0_1 a0_3)))
set_option maxHeartbeats 8000000 in
set_option maxRecDepth 100000 in
theorem impl_Source_left.calls (A0_0 : Option Addr) (c0_0 : Nat) (l0_0 : List (S34)) (a0_1 : Int) (a0_2 : ByteArray) (a0_3 : Int) (r : Int) (w : World) (hr0_0 : Kd.C k34 w A0_0 l0_0.length l0_0) (hc0_0 : l0_0.length ≤ c0_0) (h : impl_Source_left.f l0_0 a0_1 a0_2 a0_3 = some r) :
  Calls Try.prog 80 #[.agg #[.slice A0_0 l0_0.length c0_0, .int .i64 a0_1, .string a0_2, .int .i64 a0_3]] w fun e w' => e = .returned (.int .i64 r) ∧ Below w.heap.size w w' := by
 have hu27 := Try.underlying27
 have HR0_0 := am_ hr0_0
 have HC0_0 := am_ hc0_0
 clear hr0_0 hc0_0
 have HB := am_ (Below.refl w.heap.size w)
 have H : (some (wrap64 (1000000 - (mx a0_1 a0_3)))) = some r := h
 clear h
 obtain ⟨ji2, hji2⟩ : ∃ j_ : Int, (mx a0_1 a0_3) = j_ := ⟨_, rfl⟩
 replace H : (some (wrap64 (1000000 - (ji2)))) = some r := by first | (rw [hji2] at H; exact H) | (simp only [hji2] at H ⊢; exact H)
 have hji2_ : (if a0_1 < a0_3 then a0_3 else a0_1) = ji2 := hji2
 obtain rfl := Option.some.inj H
 go_enter Try.func80, Try.ntmps80
 go_wp2_with (first | ((with_reducible refine gate_dst (N := 1) rfl ?_); refine box_event ?hg (N := 1) ?hd (cs := #[.slice A0_0 l0_0.length c0_0, .int .i64 a0_1, .string a0_2, .int .i64 a0_3]) (t := 27) ?hr ?_; (case hd => rfl); (case hg => rfl); (case hr => first | (go_simp; done) | (go_simp; rfl)); intro gb101 hg w3 hbox hb; have n0_ := am_ (below_step qz2_ hb); have n1_ := am_ (hbox); have n2_ := am_ ((by rw [hg]; exact (below_size qz2_) : w.heap.size ≤ gb101)); have n3_ := am_ ((by rw [hg]; exact (below_size qz2_) : w.heap.size ≤ gb101)); clear HB; have HB := n0_; have BK101 := n1_; have GW101 := n2_; have GE101 := n3_; clear n0_ n1_ n2_ n3_; clear hb hbox hg; have hcz4_0 : w3.cell? ⟨gb101, 0, none⟩ = some (.slice A0_0 l0_0.length c0_0) := (blk_cell BK101.out 0).trans rfl; have hcz4_1 : w3.cell? ⟨gb101, 1, none⟩ = some (.int .i64 a0_1) := (blk_cell BK101.out 1).trans rfl; have hcz4_2 : w3.cell? ⟨gb101, 2, none⟩ = some (.string a0_2) := (blk_cell BK101.out 2).trans rfl; have hcz4_3 : w3.cell? ⟨gb101, 3, none⟩ = some (.int .i64 a0_3) := (blk_cell BK101.out 3).trans rfl; have hfz4_0 := blk_frozen BK101.out 0; have hfz4_1 := blk_frozen BK101.out 1; have hfz4_2 := blk_frozen BK101.out 2; have hfz4_3 := blk_frozen BK101.out 3))
 go_ret
 exact ⟨(by first | rfl | (simp [errW_none, errW_some] <;> rfl) | (simp only [← hji2]; first | rfl | (simp [errW_none, errW_some] <;> rfl)) | (simp [*, errW_none, errW_some] <;> rfl)), qz15_⟩

def impl_Source_draws.l0 : Nat → List (S34) → Int → Int → List (S34) → Int → ByteArray → Int → Option ((List (S34)) × Int × ByteArray × Int)
 | 0, _, _, _, _, _, _, _ => none
 | k + 1, x5, x7, x8, x1000, x1001, x1002, x1003 => if x8 < x7 then ((impl_Source_draw.f x1000 x1001 x1002 x1003).bind fun bt104 => (if x5.length < 8796093022208 then (impl_Source_draws.l0 k (x5 ++ [(⟨bt104.1, bt104.2.1⟩ : S34)]) x7 (wrap64 (x8 + 1)) x1000 bt104.2.2.1 bt104.2.2.2.1 bt104.2.2.2.2) else (none))) else (some (x5, x1001, x1002, x1003))
def impl_Source_draws.f (k : Nat) (s0_0 : List (S34)) (s0_1 : Int) (s0_2 : ByteArray) (s0_3 : Int) (a1 : Int) : Option ((List (S34)) × Int × ByteArray × Int) := impl_Source_draws.l0 k (([] : List (S34))) a1 0 s0_0 s0_1 s0_2 s0_3
theorem impl_Source_draws.mono_l : ∀ k, (∀ y0 y1 y2 y3 y4 y5 y6, LeO (impl_Source_draws.l0 k y0 y1 y2 y3 y4 y5 y6) (impl_Source_draws.l0 (k + 1) y0 y1 y2 y3 y4 y5 y6))
 | 0 => fun _ _ _ _ _ _ _ r h => by simp [impl_Source_draws.l0] at h
 | k + 1 => by
  have ih0 := impl_Source_draws.mono_l k
  ·
   intro y0 y1 y2 y3 y4 y5 y6
   unfold impl_Source_draws.l0
   repeat' first
   | (with_reducible exact ih0 _ _ _ _ _ _ _)
   | (with_reducible exact LeO.refl _)
   | (with_reducible exact LeO.none _)
   | (with_reducible refine LeO.ite ?_ ?_)
   | (with_reducible refine LeO.bind ?_ (fun _ => ?_))
   | exact ih0 _ _ _ _ _ _ _
   | exact LeO.none _
   | refine LeO.ite ?_ ?_
   | refine LeO.bind ?_ (fun _ => ?_)
theorem impl_Source_draws.mono : ∀ a0 a1 a2 a3 a4 k, LeO (impl_Source_draws.f k a0 a1 a2 a3 a4) (impl_Source_draws.f (k + 1) a0 a1 a2 a3 a4) := by
 intro a0 a1 a2 a3 a4 k
 have ih0 := impl_Source_draws.mono_l k
 unfold impl_Source_draws.f
 repeat' first
   | (with_reducible exact ih0 _ _ _ _ _ _ _)
   | (with_reducible exact LeO.refl _)
   | (with_reducible exact LeO.none _)
   | (with_reducible refine LeO.ite ?_ ?_)
   | (with_reducible refine LeO.bind ?_ (fun _ => ?_))
   | exact ih0 _ _ _ _ _ _ _
   | exact LeO.none _
   | refine LeO.ite ?_ ?_
   | refine LeO.bind ?_ (fun _ => ?_)
set_option maxHeartbeats 8000000 in
set_option maxRecDepth 100000 in
theorem impl_Source_draws.calls (k : Nat) (g : Nat) (s0_0 : List (S34)) (s0_1 : Int) (s0_2 : ByteArray) (s0_3 : Int) (a1 : Int) (r1 : List (S34)) (r2 : Int) (r3 : ByteArray) (r4 : Int) (w0 w : World) (hI : IsS27 w0 w g s0_0 s0_1 s0_2 s0_3) (hB : Below w0.heap.size w0 w) (h : impl_Source_draws.f k s0_0 s0_1 s0_2 s0_3 a1 = some (r1, r2, r3, r4)) :
  Calls Try.prog 89 #[.pointer (some ⟨g, 0, none⟩), .int .i64 a1] w fun e w' => ∃ v0_ : Value, e = .returned (v0_) ∧ Kd.R k34 34 w' w.heap.size (fun _ => True) v0_ r1 ∧ IsS27 w0 w' g s0_0 r2 r3 r4 ∧ Below w0.heap.size w0 w' ∧ KeepBut w w' g none := by
 have HI0 := am_ hI
 have HK := am_ (KeepBut.refl w g none)
 have HL := am_ hB.size
 clear hI
 have HW0 := am_ hB.size
 have HB := am_ hB
 clear hB
 have H : (impl_Source_draws.l0 k (([] : List (S34))) a1 0 s0_0 s0_1 s0_2 s0_3) = some (r1, r2, r3, r4) := h
 clear h
 obtain ⟨y101, hy101⟩ : ∃ y_ : List (S34), y_ = (([] : List (S34))) := ⟨_, rfl⟩
 replace H : (impl_Source_draws.l0 k y101 a1 0 s0_0 s0_1 s0_2 s0_3) = some (r1, r2, r3, r4) := by first | (rw [hy101]; with_reducible exact H) | (have H2_ := (Option.bind_some _ _).symm.trans H; rw [hy101]; with_reducible exact H2_) | (have H2_ := (Option.bind_some _ _).symm.trans H; with_reducible exact H2_) | with_reducible exact H | (rw [hy101]; exact H) | exact H
 have Ny101 := am_ hy101
 clear hy101
 have H' := am_ H
 clear H
 go_enter Try.func89, Try.ntmps89
 go_wp2_with (first | ((with_reducible refine gate_dst (N := 6) rfl ?_); refine Kd.R_lit k34 _ 34 ?hg (N := 6) ?hd (xs := ([] : List (S34))) (inner := []) (ok := fun _ => True) (okp := fun _ => True) ?hr ?hp (fun _ hk => hk) trivial (Below.refl _ _) (Nat.le_refl _) (by simp) ?_; (case hd => rfl); (case hg => rfl); (case hr => first | (go_simp; done) | (go_simp; rfl)); (case hp => exact (Reps.none _ _)); intro v102 w3 ho4 hb hg_ hnew_; clear hg_ hnew_; (first | rw [← Ny101.out] at ho4 | (simp only [Int.reduceToNat] at ho4; rw [← Ny101.out] at ho4)); have n0_ := am_ (Kd.R_lower ho4 (keep_size (w := w) (g := g) (row := none) qz7_)); have n1_ := am_ (IsS27.below qz19_ hb); have n2_ := am_ (KeepBut.trans qz7_ (KeepBut.of_below hb g none) (.inl rfl)); have n3_ := am_ (below_step qz20_ hb); clear HI0; clear HK; clear HB; have HO103 := n0_; have HI0 := n1_; have HK := n2_; have HB := n3_; clear n0_ n1_ n2_ n3_; clear hb ho4))
 go_loopg [5, 8] k (fun kq v5 v8 w' => ∃ (x5_1 : List (S34)) (x8_1 : Int) (x1001_1 : Int) (x1002_1 : ByteArray) (x1003_1 : Int), v8 = .int .i64 x8_1 ∧ Aside0 (impl_Source_draws.l0 kq x5_1 a1 x8_1 s0_0 x1001_1 x1002_1 x1003_1 = some (r1, r2, r3, r4)) ∧ Aside0 (kq ≤ k) ∧ Aside0 (Kd.R k34 34 w' w.heap.size (fun _ => True) v5 x5_1) ∧ Aside0 (IsS27 w0 w' g s0_0 x1001_1 x1002_1 x1003_1) ∧ Aside0 (KeepBut w w' g none) ∧ Aside0 (Below w0.heap.size w0 w'))
 case atStart => exact ⟨(y101), (0), (s0_1), (s0_2), (s0_3), qz0_, H', ⟨Nat.le_refl _⟩, ⟨(by (with_reducible repeat (first | apply Kd.R_alloc | apply Kd.R_drewN | apply Kd.R_drew)); exact HO103.out)⟩, ⟨qz19_⟩, ⟨qz7_⟩, ⟨qz20_⟩⟩
 case round =>
  clear H'
  try clear p2
  obtain ⟨x5_1, x8_1, x1001_1, x1002_1, x1003_1, rfl, HA, HK1, HO_5, HI0, HK, HB⟩ := hrel
  cases gk with
  | zero => exact absurd HA.out (by simp [impl_Source_draws.l0])
  | succ k1 =>
   have H := HA.out
   clear HA
   simp only [impl_Source_draws.l0] at H
   by_cases c5 : x8_1 < a1
   ·
    rw [if_pos c5] at H
    have c5b0 : decide (x8_1 < a1) = true := decide_eq_true c5
    clear c5
    replace H := Option.bind_eq_some_iff.mp H
    obtain ⟨⟨t104, t105, t106, t107, t108⟩, A60, H⟩ := H
    replace H : (if x5_1.length < 8796093022208 then (impl_Source_draws.l0 k1 (x5_1 ++ [(⟨t104, t105⟩ : S34)]) a1 (wrap64 (x8_1 + 1)) s0_0 t106 t107 t108) else (none)) = some (r1, r2, r3, r4) := H
    have A6 := am_ A60
    clear A60
    by_cases c7 : x5_1.length < 8796093022208
    ·
     rw [if_pos c7] at H
     have LMc7 := am_ c7
     clear c7
     obtain ⟨y109, hy109⟩ : ∃ y_ : List (S34), y_ = (x5_1 ++ [(⟨t104, t105⟩ : S34)]) := ⟨_, rfl⟩
     replace H : (impl_Source_draws.l0 k1 y109 a1 (wrap64 (x8_1 + 1)) s0_0 t106 t107 t108) = some (r1, r2, r3, r4) := by first | (rw [hy109]; with_reducible exact H) | (have H2_ := (Option.bind_some _ _).symm.trans H; rw [hy109]; with_reducible exact H2_) | (have H2_ := (Option.bind_some _ _).symm.trans H; with_reducible exact H2_) | with_reducible exact H | (rw [hy109]; exact H) | exact H
     have Ny109 := am_ hy109
     clear hy109
     have H' := am_ H
     clear H
     go_wp2_with (first | ((with_reducible refine gate_callee (f := 123) rfl ?_); refine goesL_ (some 12) rfl rfl Try.func123 (by kernel_rfl) rfl #[.pointer (some ⟨g, 0, none⟩)] rfl qz8_ ?_; (with_reducible refine (impl_Source_draw.calls g s0_0 x1001_1 x1002_1 x1003_1 t104 t105 t106 t107 t108 w0 _ ?side1 ?side2 A6.out).mono ?_); (case side1 => repeat (first | (with_reducible first | exact HI0.out | apply IsS27.alloc | apply IsS27.drewN | apply IsS27.drew | apply IsS27.set_1 | apply IsS27.set_2 | apply IsS27.set_3) | exact HI0.out)); (case side2 => repeat (first | (with_reducible first | exact HB.out | apply below_alloc | apply pw_below_drewN | apply below_drew1 | refine below_set ?_ (IsS27.ge HI0.out)) | exact HB.out)); rintro e w8 ⟨rfl, hi, hb, hk⟩; refine ⟨_, rfl, ?_⟩; have n0_ := am_ (Kd.R_mono (Kd.R_keep (IsS27.apart (show IsS27 w0 _ g s0_0 x1001_1 x1002_1 x1003_1 from by repeat (first | (with_reducible first | exact HI0.out | apply IsS27.alloc | apply IsS27.drewN | apply IsS27.drew | apply IsS27.set_1 | apply IsS27.set_2 | apply IsS27.set_3) | exact HI0.out)) qz10_ (by decide)) hk (fun _ h => h.2)) (fun _ h => h.1)); have n1_ := am_ (KeepBut.trans qz7_ hk (.inl rfl)); have n2_ := am_ (hb); have n3_ := am_ (hi); clear HO_5; clear HK; clear HB; clear HI0; have HO_5 := n0_; have HK := n1_; have HB := n2_; have HI0 := n3_; clear n0_ n1_ n2_ n3_; (try clear hb); (try clear hb2); (try clear hk); (try clear hi)) | ((with_reducible refine gate_builtin (b := .append) (xs := #[.tmp 10, .tmp 13]) rfl ?_); at_builtin; refine Kd.R_append k34 w.heap.size rfl (.tmp 10) (.tmp 13) 24 34 (.agg #[(.int .i64 0), (.int .i64 0)]) 16 rfl Try.underlying24 info34 rfl (by decide) (by omega) u5 x5_1 (⟨t104, t105⟩ : S34) [.int .i64 t104, .int .i64 t105] (fun _ => True) (fun _ => False) rfl rfl ?aP (fun _ hk => hk.elim) ?aF ?aO (Below.refl _ _) ?aS ?aL ?_; (case aP => exact k34_mkM _ _ _ (⟨t104, t105⟩ : S34)); (case aF => exact (fun _ _ => trivial)); (case aO => exact qz10_); (case aS => exact (keep_size (w := w) (g := g) (row := none) qz7_)); (case aL => have := LMc7.out; omega); intro v110 w9 ho hb hg hat; rw [← Ny109.out] at ho; have n0_ := am_ (IsS27.grown qz19_ hg (IsS27.own_ne HI0.out HO_5.out (by decide))); have n1_ := am_ (below_weaken qz20_ HL.out hb); have n2_ := am_ (KeepBut.trans qz7_ (KeepBut.of_grown hg g) (Kd.R_base2 HO_5.out)); have n3_ := am_ (ho); clear HI0; clear HB; clear HK; clear HO_5; have HI0 := n0_; have HB := n1_; have HK := n2_; have HO111 := n3_; clear n0_ n1_ n2_ n3_; clear ho hb hg hat))
     go_roundg k1
     case measure => have := HK1.out; omega
     case rel => exact ⟨(y109), (wrap64 (x8_1 + 1)), (t106), (t107), (t108), qz0_, H', ⟨(by have := HK1.out; omega)⟩, ⟨(by (with_reducible repeat (first | apply Kd.R_alloc | apply Kd.R_drewN | apply Kd.R_drew)); exact HO111.out)⟩, ⟨qz19_⟩, ⟨qz7_⟩, ⟨qz20_⟩⟩
    ·
     rw [if_neg c7] at H
     exact absurd H (by simp)
   ·
    rw [if_neg c5] at H
    have c5b0 : decide (x8_1 < a1) = false := decide_eq_false c5
    clear c5
    simp only [Option.some.injEq, Prod.mk.injEq] at H
    obtain ⟨rfl, rfl, rfl, rfl⟩ := H
    go_wp2
    go_ret
    exact ⟨_, qz4_, qz10_, qz19_, qz20_, qz7_⟩

def d2own : Value → Option Addr
 | .slice A _ _ => A
 | _ => none
theorem Inv.pushRows {w0 w w1 : World} {P : Nat → Prop} {F : World → Prop} {L : List Grp} {α β : Type} {d : Kd α} {e : Nat} {d2 : Kd β} {e2 : Nat} {v v2 : Value} {xs : List α} {ys : List β} {ok ok2 : Nat → Prop} (h : Inv w0 P w L F) (hb : Below w.heap.size w w1) (hR : d.R e w1 w.heap.size ok v xs) (hR2 : d2.R e2 w1 w.heap.size ok2 v2 ys) :
  Inv w0 P w1 (⟨fun k => w.heap.size ≤ k ∧ k < w1.heap.size, fun W => d.R e W w0.heap.size (fun _ => True) v xs ∧ d2.C W (d2own v2) ys.length ys⟩ :: L) F := by
 have h1 : d.R e w1 w.heap.size (fun k => w.heap.size ≤ k ∧ k < w1.heap.size) v xs := Kd.R_mono (Kd.R_bound hR) (fun k hk => ⟨hk.2.1, hk.2.2.1⟩)
 have h2 : d2.R e2 w1 w.heap.size (fun k => w.heap.size ≤ k ∧ k < w1.heap.size) v2 ys := Kd.R_mono (Kd.R_bound hR2) (fun k hk => ⟨hk.2.1, hk.2.2.1⟩)
 refine h.push hb _ (fun k hk => hk) (fun w' hw => ⟨Kd.R_mono (Kd.R_lower (Kd.R_step h1 (fun k hk _ => hw k hk)) h.agr.size) (fun _ _ => trivial), ?_⟩)
 obtain ⟨A, c, e, _, hC⟩ := Kd.R_reads (Kd.R_step h2 (fun k hk _ => hw k hk))
 subst e
 exact hC
theorem Inv.putKeepRow {w0 w w' wb : World} {P : Nat → Prop} {F : World → Prop} {L : List Grp} {g : Nat} {t : TypeId} {cs cs' : Array Value} {α : Type} {d : Kd α} {e : Nat} {v : Value} {xs : List α} {ok : Nat → Prop} (h : Inv w0 P w (blk g t cs :: L) F) (hb : Below wb.heap.size wb w) (hb' : Below wb.heap.size wb w') (hk : KeepBut w w' g none) (hblk : w'.heap[g]? = some (.cells cs' t (0, 0))) (hR : d.R e w' w.heap.size ok v xs) :
  Inv w0 P w' (row d e w0.heap.size v xs (fun k => w.heap.size ≤ k ∧ k < w'.heap.size) :: blk g t cs' :: L) F := by
 have h1 := h.putKeep hb hb' hk hblk
 have hA : Agr w w' (fun k => k = g) := Agr.of_keep hk hb hb'
 have hlt : ∀ c, c ∈ blk g t cs' :: L → ∀ k, c.S k → k < w.heap.size := fun c hc k hk2 => by
  rcases List.mem_cons.1 hc with rfl | hc
  ·
   exact h.lt (blk g t cs) List.mem_cons_self k hk2
  ·
   exact h.lt c (List.mem_cons_of_mem _ hc) k hk2
 have hR2 : d.R e w' w0.heap.size (fun k => w.heap.size ≤ k ∧ k < w'.heap.size) v xs := Kd.R_lower (Kd.R_mono (Kd.R_bound hR) (fun k hk => ⟨hk.2.1, hk.2.2.1⟩)) h.agr.size
 refine ⟨h1.agr, fun c hc k hk2 => ?_, fun c hc k hk2 => ?_, fun c hc w2 hw => ?_, List.Pairwise.cons (fun c hc k hk2 hk3 => absurd (hlt c hc k hk3) (Nat.not_lt.2 hk2.1)) h1.dis, fun w2 hw => h.facts w2 ((hA.mono (fun k hk2 => ⟨blk g t cs, List.mem_cons_self, hk2⟩)).trans hw (fun i hi => ?_))⟩
 ·
  rcases List.mem_cons.1 hc with rfl | hc
  ·
   exact hk2.2
  ·
   exact h1.lt c hc k hk2
 ·
  rcases List.mem_cons.1 hc with rfl | hc
  ·
   exact .inl (Nat.le_trans h.agr.size hk2.1)
  ·
   exact h1.new c hc k hk2
 ·
  rcases List.mem_cons.1 hc with rfl | hc
  ·
   exact Kd.R_step hR2 (fun k hk2 _ => hw k hk2)
  ·
   exact h1.own c hc w2 hw
 ·
  obtain ⟨c, hc, hk2⟩ := hi
  rcases List.mem_cons.1 hc with rfl | hc
  ·
   exact .inr hk2.1
  ·
   rcases List.mem_cons.1 hc with rfl | hc
   ·
    exact .inl ⟨blk g t cs, List.mem_cons_self, hk2⟩
   ·
    exact .inl ⟨c, List.mem_cons_of_mem _ hc, hk2⟩
def impl_TakeSome.f (k : Nat) (l0_0 : List (S34)) (a0_1 : Int) (a0_2 : ByteArray) (a0_3 : Int) (a1 : Int) : Option ((List (S34)) × Int × ByteArray × Int × (List (S34))) :=
 (impl_SourceOK.f l0_0 a0_1 a0_2 a0_3).bind fun t1 => if t1 = true then ((impl_in.f a1 0 100).bind fun t2 => if t2 = true then ((impl_Source_left.f l0_0 a0_1 a0_2 a0_3).bind fun t3 => if a1 > t3 then none else ((impl_Source_copied.f l0_0 a0_1 a0_2 a0_3).bind fun t4 => (impl_Source_draws.f k t4.1 t4.2.1 t4.2.2.1 t4.2.2.2 a1).bind fun t5 => some (t4.1, t5.2.1, t5.2.2.1, t5.2.2.2, t5.1))) else none) else none
theorem impl_TakeSome.mono : ∀ a0 a1 a2 a3 a4 k, LeO (impl_TakeSome.f k a0 a1 a2 a3 a4) (impl_TakeSome.f (k + 1) a0 a1 a2 a3 a4) := by
 intro a0 a1 a2 a3 a4 k
 unfold impl_TakeSome.f
 repeat' first
 | exact impl_Source_draws.mono _ _ _ _ _ _
 | exact LeO.refl _
 | exact LeO.none _
 | refine LeO.ite ?_ ?_
 | refine LeO.bind ?_ (fun _ => ?_)
set_option maxHeartbeats 8000000 in
set_option maxRecDepth 100000 in
theorem impl_TakeSome.calls (k : Nat) (A0_0 : Option Addr) (c0_0 : Nat) (l0_0 : List (S34)) (a0_1 : Int) (a0_2 : ByteArray) (a0_3 : Int) (a1 : Int) (r1 : List (S34)) (r2 : Int) (r3 : ByteArray) (r4 : Int) (r5 : List (S34)) (w : World) (hr0_0 : Kd.C k34 w A0_0 l0_0.length l0_0) (hc0_0 : l0_0.length ≤ c0_0) (h : impl_TakeSome.f k l0_0 a0_1 a0_2 a0_3 a1 = some (r1, r2, r3, r4, r5)) :
  Calls Try.prog 50 #[.agg #[.slice A0_0 l0_0.length c0_0, .int .i64 a0_1, .string a0_2, .int .i64 a0_3], .int .i64 a1] w fun e w' => ∃ v0_ v1_ : Value, e = .returned (.tuple #[.agg #[v0_, .int .i64 r2, .string r3, .int .i64 r4], v1_, .int .i64 0]) ∧ Kd.R k34 34 w' w.heap.size (fun _ => True) v0_ r1 ∧ Kd.R k34 34 w' w.heap.size (fun _ => True) v1_ r5 ∧ Below w.heap.size w w' := by
 have hu27 := Try.underlying27
 have HC0 := am_ hc0_0
 have HI := am_ (Inv.start w (fun w2 => Kd.C k34 w2 A0_0 l0_0.length l0_0) (fun w' hb => Kd.C_below hr0_0 hb))
 clear hr0_0 hc0_0
 unfold impl_TakeSome.f at h
 obtain ⟨t1, hok, h⟩ := Option.bind_eq_some_iff.1 h
 cases t1 with
 | false => cases h
 | true =>
  rw [if_pos rfl] at h
  obtain ⟨t2, hin, h⟩ := Option.bind_eq_some_iff.1 h
  cases t2 with
  | false => cases h
  | true =>
   rw [if_pos rfl] at h
   obtain ⟨t3, hlf, h⟩ := Option.bind_eq_some_iff.1 h
   by_cases cl : a1 > t3
   ·
    rw [if_pos cl] at h; cases h
   ·
    rw [if_neg cl] at h
    obtain ⟨⟨s0, s1, s2, s3⟩, hcp, h⟩ := Option.bind_eq_some_iff.1 h
    obtain ⟨⟨x1, q1, q2, q3⟩, hdr, h⟩ := Option.bind_eq_some_iff.1 h
    simp only [Option.some.injEq, Prod.mk.injEq] at h
    obtain ⟨rfl, rfl, rfl, rfl, rfl⟩ := h
    have HOK := am_ hok
    have HIN := am_ hin
    have HLF := am_ hlf
    have HCP := am_ hcp
    have HDR := am_ (show impl_Source_draws.f k s0 s1 s2 s3 a1 = some (x1, q1, q2, q3) from hdr)
    have c1 : decide (a1 > t3) = false := decide_eq_false cl
    have c2 : decide (t3 < a1) = false := decide_eq_false cl
    clear hok hin hlf hcp hdr cl
    go_enter Try.func50, Try.ntmps50
    go_wp2_with (first | ((with_reducible refine gate_dst (N := 2) rfl ?_); refine box_event ?hg (N := 2) ?hd (cs := #[.slice A0_0 l0_0.length c0_0, .int .i64 a0_1, .string a0_2, .int .i64 a0_3]) (t := 27) ?hr ?_; (case hd => rfl); (case hg => rfl); (case hr => first | (go_simp; done) | (go_simp; rfl)); intro gs hg ws hbox hb; have HI_ := am_ ((HI.out).box hg hbox hb); clear HI; have HI := HI_; clear HI_; clear hb hbox hg) | ((with_reducible refine gate_dst (N := 4) rfl ?_); refine box_event ?hg (N := 4) ?hd (cs := #[.slice none 0 0, .int .i64 0, .string (⟨#[]⟩ : ByteArray), .int .i64 0]) (t := 27) ?hr ?_; (case hd => rfl); (case hg => rfl); (case hr => first | (go_simp; done) | (go_simp; rfl)); intro gr hg wr hbox hb; have HI_ := am_ ((HI.out).box hg hbox hb); clear HI; have HI := HI_; clear HI_; clear hb hbox hg) | ((with_reducible refine gate_dst (N := 10) rfl ?_); go_must (refine wpList_load_row rfl 27 _ rfl gs rfl 27 (#[.slice A0_0 l0_0.length c0_0, .int .i64 a0_1, .string a0_2, .int .i64 a0_3]) (0, 0) _ ((HI.out.swap).blk0) hu27 rfl (by kernel_rfl) ?_)) | (go_at_call 11; (refine (impl_SourceOK.calls A0_0 c0_0 l0_0 a0_1 a0_2 a0_3 true _ HI.out.now HC0.out HOK.out).mono ?_); rintro e w13 ⟨rfl, hb13⟩; have HI_ := am_ (HI.out.grow hb13); clear HI; have HI := HI_; clear HI_; clear hb13) | (go_at_call 44; (refine (impl_in.calls a1 0 100 true _ HIN.out).mono ?_); rintro e w16 ⟨rfl, ⟨n16, rfl⟩⟩; have HI_ := am_ (HI.out.drewN n16); clear HI; have HI := HI_; clear HI_) | ((with_reducible refine gate_dst (N := 21) rfl ?_); go_must (refine wpList_load_row rfl 27 _ rfl gs rfl 27 (#[.slice A0_0 l0_0.length c0_0, .int .i64 a0_1, .string a0_2, .int .i64 a0_3]) (0, 0) _ ((HI.out.swap).blk0) hu27 rfl (by kernel_rfl) ?_)) | (go_at_call 80; (refine (impl_Source_left.calls A0_0 c0_0 l0_0 a0_1 a0_2 a0_3 t3 _ HI.out.now HC0.out HLF.out).mono ?_); rintro e w22 ⟨rfl, hb22⟩; have HI_ := am_ (HI.out.grow hb22); clear HI; have HI := HI_; clear HI_; clear hb22) | ((with_reducible refine gate_dst (N := 26) rfl ?_); go_must (refine wpList_load_row rfl 27 _ rfl gs rfl 27 (#[.slice A0_0 l0_0.length c0_0, .int .i64 a0_1, .string a0_2, .int .i64 a0_3]) (0, 0) _ ((HI.out.swap).blk0) hu27 rfl (by kernel_rfl) ?_)) | (go_at_call 48; (refine (impl_Source_copied.calls A0_0 c0_0 l0_0 a0_1 a0_2 a0_3 s0 s1 s2 s3 _ HI.out.now HC0.out HCP.out).mono ?_); rintro e w27 ⟨v0, rfl, hR27, hb27⟩; obtain ⟨Ao, co, eo⟩ := Kd.R_slice hR27; subst eo; have HI_ := am_ (HI.out.rowPush hb27 hR27); clear HI; have HI := HI_; clear HI_; have HR27 := am_ (Kd.R_reads' hR27).2.2; have HJ := am_ (Inv.start w27 (fun w2 => Kd.C k34 w2 Ao s0.length s0) (fun w' hb => Kd.C_below HR27.out hb)); clear hR27 hb27) | ((with_reducible refine gate_dst (N := 7) rfl ?_); refine box_event ?hg (N := 7) ?hd (cs := #[.slice none 0 0, .int .i64 0, .string (⟨#[]⟩ : ByteArray), .int .i64 0]) (t := 27) ?hr ?_; (case hd => rfl); (case hg => rfl); (case hr => first | (go_simp; done) | (go_simp; rfl)); intro go hg wo hbox hb; have HI_ := am_ ((HI.out).box hg hbox hb); clear HI; have HI := HI_; clear HI_; have HJ_ := am_ (HJ.out.box hg hbox hb); clear HJ; have HJ := HJ_; clear HJ_; clear hb hbox hg) | ((with_reducible refine gate_store (p := 7) (v := (.tmp 27)) (t := 27) rfl ?_); go_must (refine wpList_store_row rfl 27 _ _ rfl go (#[.slice Ao s0.length co, .int .i64 s1, .string s2, .int .i64 s3]) rfl qz11_ 27 (#[.slice none 0 0, .int .i64 0, .string (⟨#[]⟩ : ByteArray), .int .i64 0]) (Inv.blk0 (HI.out)) (by kernel_rfl) (by rfl) (by first | rfl | simp [Value.oneCell']) ?_; have HI_ := am_ (Inv.put0 (HI.out) (#[.slice Ao s0.length co, .int .i64 s1, .string s2, .int .i64 s3])); clear HI; have HI := HI_; clear HI_; have HJ_ := am_ (Inv.put0 (HJ.out) (#[.slice Ao s0.length co, .int .i64 s1, .string s2, .int .i64 s3])); clear HJ; have HJ := HJ_; clear HJ_; generalize World.setRow _ go (#[.slice Ao s0.length co, .int .i64 s1, .string s2, .int .i64 s3]) = w6 at HI HJ ⊢)) | (go_at_call 89; (refine (impl_Source_draws.calls k go s0 s1 s2 s3 a1 x1 q1 q2 q3 {w27 with drawn := codeA Ao co} w6 ⟨Ao, co, HJ.out.blk0, ⟨HJ.out.ge0, rfl⟩, HR27.out⟩ ⟨HJ.out.below.os, HJ.out.below.tape, HJ.out.below.output, HJ.out.below.size, HJ.out.below.block⟩ HDR.out).mono ?_); rintro e wd ⟨vl, rfl, hRl, ⟨Aq_, cq_, hbq, ⟨_, hdq⟩, _⟩, hBq, hkq⟩; obtain ⟨e1, e2⟩ := codeA_inj hdq; subst e1 e2; have HI_ := am_ (Inv.putKeepRow (wb := {w27 with drawn := codeA Ao co}) HI.out ⟨HJ.out.below.os, HJ.out.below.tape, HJ.out.below.output, HJ.out.below.size, HJ.out.below.block⟩ hBq hkq hbq hRl); clear HI; have HI := HI_; clear HI_; clear HJ HDR hbq hdq hBq hkq hRl) | ((with_reducible refine gate_dst (N := 30) rfl ?_); go_must (refine wpList_load_row rfl 27 _ rfl go rfl 27 (#[.slice Ao s0.length co, .int .i64 q1, .string q2, .int .i64 q3]) (0, 0) _ ((HI.out.swap).blk0) hu27 rfl (by kernel_rfl) ?_)) | ((with_reducible refine gate_store (p := 4) (v := (.tmp 30)) (t := 27) rfl ?_); go_must (refine wpList_store_row rfl 27 _ _ rfl gr (#[.slice Ao s0.length co, .int .i64 q1, .string q2, .int .i64 q3]) rfl qz11_ 27 (#[.slice none 0 0, .int .i64 0, .string (⟨#[]⟩ : ByteArray), .int .i64 0]) (Inv.blk0 (HI.out.front3)) (by kernel_rfl) (by rfl) (by first | rfl | simp [Value.oneCell']) ?_; have HI_ := am_ (Inv.put0 (HI.out.front3) (#[.slice Ao s0.length co, .int .i64 q1, .string q2, .int .i64 q3])); clear HI; have HI := HI_; clear HI_; generalize World.setRow _ gr (#[.slice Ao s0.length co, .int .i64 q1, .string q2, .int .i64 q3]) = w9 at HI ⊢)))
    refine bodyPost_ret (results_ctt rfl _ _ gr 27 #[.slice Ao s0.length co, .int .i64 q1, .string q2, .int .i64 q3] (0, 0) _ rfl HI.out.blk0 hu27 rfl (by kernel_rfl)) rfl ?_
    exact ⟨_, _, rfl, Kd.R_mono (HI.out.get 3 rfl) (fun _ _ => trivial), Kd.R_mono (HI.out.get 1 rfl) (fun _ _ => trivial), HI.out.below⟩
theorem elem0 {W : World} {ad : Addr} {xl : List S34} (hC : Kd.C k34 W (some ad) xl.length xl) (hl : 0 < xl.length) : W.cell? ad = some (.int .i64 (rd_T34 xl 0).f0) ∧ W.cell? ⟨ad.block, ad.off + 1, none⟩ = some (.int .i64 (rd_T34 xl 0).f1) := by
 obtain ⟨ad', e, h0, h1⟩ := at_T34 hC 0 (by omega) (by omega)
 injection e with e
 subst e
 have hz : ad.add ((0 : Int).toNat * 2) = ad := by cases ad; rfl
 rw [hz] at h0 h1
 exact ⟨h0, h1⟩
theorem results_cct {P : Program} {fn : Func} {p p' u : Tmp} {ty ty' : TypeId} (h : fn.results = #[.cell p ty, .cell p' ty', .tmp u]) (tmps : Array Value) (w : World) (g g' : Nat) (t t' : TypeId) (cs cs' : Array Value) (fr fr' : Nat × Nat) (d d' : TypeDesc)
  (hp : tmps.getD p undef = .pointer (some ⟨g, 0, none⟩)) (hg : w.heap[g]? = some (.cells cs t fr))
  (hu : P.underlying ty = some d) (hd : (match d with | .struct _ | .array _ _ => true | _ => false) = true) (hi : (P.info? ty).map (·.size) = some cs.size)
  (hp2 : tmps.getD p' undef = .pointer (some ⟨g', 0, none⟩)) (hg2 : w.heap[g']? = some (.cells cs' t' fr'))
  (hu2 : P.underlying ty' = some d') (hd2 : (match d' with | .struct _ | .array _ _ => true | _ => false) = true) (hi2 : (P.info? ty').map (·.size) = some cs'.size) :
  (results fn tmps).run P w = .ok (.tuple #[.agg cs, .agg cs', tmps.getD u undef]) w := by
 have hp' : tmps[p]?.getD undef = .pointer (some ⟨g, 0, none⟩) := by simpa using hp
 have hp2' : tmps[p']?.getD undef = .pointer (some ⟨g', 0, none⟩) := by simpa using hp2
 simp [results, h, hp', hp2', asAddr, run_loadVar_row w g t ty cs fr d hg hu hd hi, run_loadVar_row w g' t' ty' cs' fr' d' hg2 hu2 hd2 hi2]
def impl_TakeOne.f (k : Nat) (l0_0 : List (S34)) (a0_1 : Int) (a0_2 : ByteArray) (a0_3 : Int) : Option ((List (S34)) × Int × ByteArray × Int × Int × Int × Int) :=
 (impl_TakeSome.f k l0_0 a0_1 a0_2 a0_3 1).bind fun t1 => if 0 < t1.2.2.2.2.length then some (t1.1, t1.2.1, t1.2.2.1, t1.2.2.2.1, (rd_T34 t1.2.2.2.2 0).f0, (rd_T34 t1.2.2.2.2 0).f1, 0) else none
theorem impl_TakeOne.mono : ∀ a0 a1 a2 a3 k, LeO (impl_TakeOne.f k a0 a1 a2 a3) (impl_TakeOne.f (k + 1) a0 a1 a2 a3) := by
 intro a0 a1 a2 a3 k
 unfold impl_TakeOne.f
 refine LeO.bind (impl_TakeSome.mono _ _ _ _ _ _) (fun _ => ?_)
 exact LeO.refl _
set_option maxHeartbeats 8000000 in
set_option maxRecDepth 100000 in
theorem impl_TakeOne.calls (k : Nat) (A0_0 : Option Addr) (c0_0 : Nat) (l0_0 : List (S34)) (a0_1 : Int) (a0_2 : ByteArray) (a0_3 : Int) (r1 : List (S34)) (r2 : Int) (r3 : ByteArray) (r4 r5 r6 r7 : Int) (w : World) (hr0_0 : Kd.C k34 w A0_0 l0_0.length l0_0) (hc0_0 : l0_0.length ≤ c0_0) (h : impl_TakeOne.f k l0_0 a0_1 a0_2 a0_3 = some (r1, r2, r3, r4, r5, r6, r7)) :
  Calls Try.prog 13 #[.agg #[.slice A0_0 l0_0.length c0_0, .int .i64 a0_1, .string a0_2, .int .i64 a0_3]] w fun e w' => ∃ v0_ : Value, e = .returned (.tuple #[.agg #[v0_, .int .i64 r2, .string r3, .int .i64 r4], .agg #[.int .i64 r5, .int .i64 r6], .int .i64 r7]) ∧ Kd.R k34 34 w' w.heap.size (fun _ => True) v0_ r1 ∧ Below w.heap.size w w' := by
 have hu27 := Try.underlying27
 have hu34 := Try.underlying34
 have HC0 := am_ hc0_0
 have HI := am_ (Inv.start w (fun w2 => Kd.C k34 w2 A0_0 l0_0.length l0_0) (fun w' hb => Kd.C_below hr0_0 hb))
 clear hr0_0 hc0_0
 unfold impl_TakeOne.f at h
 obtain ⟨⟨x0, x1, x2, x3, xl⟩, hts, h⟩ := Option.bind_eq_some_iff.1 h
 by_cases cl : 0 < xl.length
 ·
  rw [if_pos (show 0 < (x0, x1, x2, x3, xl).2.2.2.2.length from cl)] at h
  simp only [Option.some.injEq, Prod.mk.injEq] at h
  obtain ⟨rfl, rfl, rfl, rfl, hx5, hx6, rfl⟩ := h
  have HTS := am_ hts
  have HXL := am_ cl
  have p6 := eq_true (show (0 : Int) ≤ 0 by omega)
  have q6 := eq_true (show (0 : Int) < (xl.length : Int) by omega)
  have q6n := eq_true cl
  clear hts cl
  go_enter Try.func13, Try.ntmps13
  go_wp2_with (first | ((with_reducible refine gate_dst (N := 1) rfl ?_); refine box_event ?hg (N := 1) ?hd (cs := #[.slice A0_0 l0_0.length c0_0, .int .i64 a0_1, .string a0_2, .int .i64 a0_3]) (t := 27) ?hr ?_; (case hd => rfl); (case hg => rfl); (case hr => first | (go_simp; done) | (go_simp; rfl)); intro gs hg ws hbox hb; have HI_ := am_ ((HI.out).box hg hbox hb); clear HI; have HI := HI_; clear HI_; clear hb hbox hg) | ((with_reducible refine gate_dst (N := 2) rfl ?_); refine box_event ?hg (N := 2) ?hd (cs := #[.slice none 0 0, .int .i64 0, .string (⟨#[]⟩ : ByteArray), .int .i64 0]) (t := 27) ?hr ?_; (case hd => rfl); (case hg => rfl); (case hr => first | (go_simp; done) | (go_simp; rfl)); intro gr hg wr hbox hb; have HI_ := am_ ((HI.out).box hg hbox hb); clear HI; have HI := HI_; clear HI_; clear hb hbox hg) | ((with_reducible refine gate_dst (N := 3) rfl ?_); refine box_event ?hg (N := 3) ?hd (cs := #[.int .i64 0, .int .i64 0]) (t := 34) ?hr ?_; (case hd => rfl); (case hg => rfl); (case hr => first | (go_simp; done) | (go_simp; rfl)); intro ge hg we hbox hb; have HI_ := am_ ((HI.out).box hg hbox hb); clear HI; have HI := HI_; clear HI_; clear hb hbox hg) | ((with_reducible refine gate_dst (N := 9) rfl ?_); go_must (refine wpList_load_row rfl 27 _ rfl gs rfl 27 (#[.slice A0_0 l0_0.length c0_0, .int .i64 a0_1, .string a0_2, .int .i64 a0_3]) (0, 0) _ ((HI.out.front2).blk0) hu27 rfl (by kernel_rfl) ?_)) | (go_at_call 50; (refine (impl_TakeSome.calls k A0_0 c0_0 l0_0 a0_1 a0_2 a0_3 1 x0 x1 x2 x3 xl _ HI.out.now HC0.out HTS.out).mono ?_); rintro e w10 ⟨v0, v1, rfl, hR0, hR1, hb10⟩; obtain ⟨Ao, co, eo⟩ := Kd.R_slice hR0; subst eo; obtain ⟨Al, cl, el⟩ := Kd.R_slice hR1; subst el; have HI_ := am_ (HI.out.pushRows hb10 hR0 hR1); clear HI; have HI := HI_; clear HI_; clear hR0 hR1 hb10) | ((with_reducible refine gate_dst (N := 5) rfl ?_); refine box_event ?hg (N := 5) ?hd (cs := #[.slice none 0 0, .int .i64 0, .string (⟨#[]⟩ : ByteArray), .int .i64 0]) (t := 27) ?hr ?_; (case hd => rfl); (case hg => rfl); (case hr => first | (go_simp; done) | (go_simp; rfl)); intro gx hg wx hbox hb; have HI_ := am_ ((HI.out).box hg hbox hb); clear HI; have HI := HI_; clear HI_; clear hb hbox hg) | ((with_reducible refine gate_store (p := 5) (v := (.tmp 11)) (t := 27) rfl ?_); go_must (refine wpList_store_row rfl 27 _ _ rfl gx (#[.slice Ao x0.length co, .int .i64 x1, .string x2, .int .i64 x3]) rfl qz11_ 27 (#[.slice none 0 0, .int .i64 0, .string (⟨#[]⟩ : ByteArray), .int .i64 0]) (Inv.blk0 (HI.out)) (by kernel_rfl) (by rfl) (by first | rfl | simp [Value.oneCell']) ?_; have HI_ := am_ (Inv.put0 (HI.out) (#[.slice Ao x0.length co, .int .i64 x1, .string x2, .int .i64 x3])); clear HI; have HI := HI_; clear HI_; generalize World.setRow _ gx (#[.slice Ao x0.length co, .int .i64 x1, .string x2, .int .i64 x3]) = w11 at HI ⊢)))
  obtain ⟨ad, eA, hx0, hx1⟩ := at_T34 ((HI.out.get 1 rfl).2) 0 (by omega) (by have := HXL.out; omega)
  have eA : Al = some ad := eA
  subst eA
  have HEL := am_ (fun (W : World) (hC : Kd.C k34 W (some ad) xl.length xl) => elem0 hC HXL.out)
  generalize hx : rd_T34 xl 0 = x at HEL hx5 hx6
  have HEL2 := am_ (fun (W : World) (hC : Kd.C k34 W (some ad) xl.length xl) => (HEL.out W hC).2)
  have HEL1 := am_ (fun (W : World) (hC : Kd.C k34 W (some ad) xl.length xl) => (HEL.out W hC).1)
  clear HEL hx0 hx1 hx
  have HEL := HEL1
  clear HEL1
  subst hx5 hx6
  refine start_ (n := 7) (S := fun w' => w'.cell? ⟨gx, 0, none⟩ = some (.slice Ao x0.length co) ∧ w'.cell? ⟨gx, 1, none⟩ = some (.int .i64 x1) ∧ w'.cell? ⟨gx, 2, none⟩ = some (.string x2) ∧ w'.cell? ⟨gx, 3, none⟩ = some (.int .i64 x3) ∧ w'.cell? ad = some (.int .i64 x.f0) ∧ w'.cell? ⟨ad.block, ad.off + 1, none⟩ = some (.int .i64 x.f1)) (ds := [5]) #[false, false, false, false, false, false, false] (by kernel_rfl) rfl rfl ⟨(blk_cell (HI.out.drew).blk0 0).trans rfl, (blk_cell (HI.out.drew).blk0 1).trans rfl, (blk_cell (HI.out.drew).blk0 2).trans rfl, (blk_cell (HI.out.drew).blk0 3).trans rfl, HEL.out _ (HI.out.drew.get 1 rfl).2, HEL2.out _ (HI.out.drew.get 1 rfl).2⟩ (fun hHeld => ?_)
  have HI_ := am_ (HI.out.drew); clear HI; have HI := HI_; clear HI_
  generalize w11.drew = wd0 at HI hHeld ⊢
  refine take_ (i := 0) (N := some 19) (v := ?_) (a' := ?_) #[true, false, false, false, false, false, false] rfl rfl (by kernel_rfl) (fun _ _ _ h => h) (Or.inl ⟨(by rfl), ?_⟩) hHeld ?_ ?_
  rotate_left
  ·
   rintro w' ⟨s0, s1, s2, s3, s4, s5⟩
   go_simp
   with_reducible rfl
  rotate_left
  ·
   exact ap_
  refine pure_ (i := 1) (N := some 20) (v := ?_) (a' := ?_) #[true, true, false, false, false, false, false] rfl rfl (by kernel_rfl) (fun _ _ _ h => h) (Or.inl ⟨(by rfl), ?_⟩) ?_ ?_
  rotate_left
  ·
   intro w'
   go_simp
   with_reducible rfl
  rotate_left
  ·
   exact ap_
  refine pure_ (i := 2) (N := some 21) (v := ?_) (a' := ?_) #[true, true, true, false, false, false, false] rfl rfl (by kernel_rfl) (fun _ _ _ h => h) (Or.inl ⟨(by rfl), ?_⟩) ?_ ?_
  rotate_left
  ·
   intro w'
   go_simp
   with_reducible rfl
  rotate_left
  ·
   exact ap_
  refine take_ (i := 3) (N := some 22) (v := ?_) (a' := ?_) #[true, true, true, true, false, false, false] rfl rfl (by kernel_rfl) (fun _ _ _ h => h) (Or.inl ⟨(by rfl), ?_⟩) hHeld ?_ ?_
  rotate_left
  ·
   rintro w' ⟨s0, s1, s2, s3, s4, s5⟩
   go_simp
   with_reducible rfl
  rotate_left
  ·
   exact ap_
  refine one_ (i := 4) (N := none) #[true, true, true, true, true, false, false] rfl rfl (by kernel_rfl) (by decide) (fun K hK => ?_)
  rw [if_pos (by rfl)]
  refine wp_store_row 27 _ _ rfl gr (#[.slice Ao x0.length co, .int .i64 x1, .string x2, .int .i64 x3]) rfl qz11_ 27 (#[.slice none 0 0, .int .i64 0, .string (⟨#[]⟩ : ByteArray), .int .i64 0]) (Inv.blk0 (HI.out.front3)) (by kernel_rfl) rfl (by first | rfl | simp [Value.oneCell']) ?_
  have HI_ := am_ ((Inv.put0 (HI.out.front3) (#[.slice Ao x0.length co, .int .i64 x1, .string x2, .int .i64 x3])).swap); clear HI; have HI := HI_; clear HI_
  generalize World.setRow _ gr (#[.slice Ao x0.length co, .int .i64 x1, .string x2, .int .i64 x3]) = w12 at HI ⊢
  refine hK.out _ _ ⟨(blk_cell (HI.out).blk0 0).trans rfl, (blk_cell (HI.out).blk0 1).trans rfl, (blk_cell (HI.out).blk0 2).trans rfl, (blk_cell (HI.out).blk0 3).trans rfl, HEL.out _ (HI.out.get 2 rfl).2, HEL2.out _ (HI.out.get 2 rfl).2⟩ (fun hHeld => ?_)
  clear hK K
  refine last_ (i := 5) (N := none) #[true, true, true, true, true, true, false] rfl rfl (by kernel_rfl) (by decide) (fun K hK => ?_)
  rw [if_pos (by rfl)]
  refine wp_store_row 34 _ _ rfl ge (#[.int .i64 x.f0, .int .i64 x.f1]) rfl qz11_ 34 (#[.int .i64 0, .int .i64 0]) (Inv.blk0 (HI.out.front3)) (draw_side x.f0 x.f1) (draw_len x.f0 x.f1) (draw_one x.f0 x.f1) ?_
  have HI_ := am_ (Inv.put0 (HI.out.front3) (#[.int .i64 x.f0, .int .i64 x.f1])); clear HI; have HI := HI_; clear HI_
  generalize World.setRow _ ge (#[.int .i64 x.f0, .int .i64 x.f1]) = w13 at HI ⊢
  refine hK.out _ _ ?_
  clear hK K
  refine pure_ (i := 6) (N := some 4) (v := ?_) (a' := ?_) #[true, true, true, true, true, true, true] rfl rfl (by kernel_rfl) (fun _ _ _ h => h) (Or.inl ⟨(by rfl), ?_⟩) ?_ ?_
  rotate_left
  ·
   intro w'
   go_simp
   with_reducible rfl
  rotate_left
  ·
   exact ap_
  refine done_ (by kernel_rfl) ?_
  try go_wp2
  refine bodyPost_ret (results_cct rfl _ _ gr ge 27 34 #[.slice Ao x0.length co, .int .i64 x1, .string x2, .int .i64 x3] #[.int .i64 x.f0, .int .i64 x.f1] (0, 0) (0, 0) _ _ rfl (Inv.blk0 HI.out.front2) hu27 rfl (by kernel_rfl) rfl HI.out.blk0 hu34 rfl (draw_side x.f0 x.f1)) rfl ?_
  exact ⟨_, rfl, Kd.R_mono (HI.out.get 3 rfl).1 (fun _ _ => trivial), HI.out.below⟩
 ·
  rw [if_neg (show ¬ 0 < (x0, x1, x2, x3, xl).2.2.2.2.length from cl)] at h; cases h

theorem Inv.sub {w0 w : World} {P : Nat → Prop} {L L' : List Grp} {F : World → Prop} (h : Inv w0 P w L F) (hs : L'.Sublist L) : Inv w0 P w L' F :=
 ⟨h.agr, fun b hb => h.lt b (hs.subset hb), fun b hb => h.new b (hs.subset hb), fun b hb => h.own b (hs.subset hb), h.dis.sublist hs, fun w' hw => h.facts w' (hw.mono (fun k ⟨b, hb, hk⟩ => ⟨b, hs.subset hb, hk⟩))⟩
theorem elem_at {W : World} {ad : Addr} {xl : List S34} {q : Nat} (hC : Kd.C k34 W (some ad) xl.length xl) (hq : q < xl.length) : W.cell? (ad.add (q * 2)) = some (.int .i64 (rd_T34 xl (q : Int)).f0) ∧ W.cell? ⟨(ad.add (q * 2)).block, (ad.add (q * 2)).off + 1, none⟩ = some (.int .i64 (rd_T34 xl (q : Int)).f1) := by
 obtain ⟨ad', e, h0, h1⟩ := at_T34 hC (q : Int) (by omega) (by omega)
 injection e with e
 subst e
 rw [Int.toNat_natCast] at h0 h1
 exact ⟨h0, h1⟩
def laws_FnScript.l0 : Nat → Int → List (S34) → Int → List (S34) → Int → ByteArray → Int → Option Bool
 | 0, _, _, _, _, _, _, _ => none
 | k + 1, n, l, i, s0, s1, s2, s3 => if i < wrap64 (wrap64 (2 * n) + 1) then ((impl_AbsorbText.f s0 s1 s2 s3 (⟨#[116, 101, 120, 116]⟩ : ByteArray)).bind fun a => (impl_TakeOne.f k a.1 a.2.1 a.2.2.1 a.2.2.2.1).bind fun t => if a.2.2.2.2 = 0 ∧ t.2.2.2.2.2.2 = 0 ∧ n ≠ 0 ∧ 0 ≤ Int.tmod i n ∧ Int.tmod i n < (l.length : Int) ∧ t.2.2.2.2.1 = (rd_T34 l (Int.tmod i n)).f0 ∧ t.2.2.2.2.2.1 = (rd_T34 l (Int.tmod i n)).f1 then laws_FnScript.l0 k n l (wrap64 (i + 1)) t.1 t.2.1 t.2.2.1 t.2.2.2.1 else none) else some true
def laws_FnScript.f (k : Nat) (l0 : List Int) (l1 : List Int) : Option Bool := if (l0.length : Int) > 1048576 then some true else if (l1.length : Int) > 1048576 then some true else
 (laws_at.f l1 0 5).bind fun t101 => (spec_ExtsOf.f k l0 (wrap64 (1 + t101))).bind fun l => (impl_NewScript.f k (⟨#[108, 97, 98, 101, 108]⟩ : ByteArray) l).bind fun s => (impl_NewSponge.f (⟨#[108, 97, 98, 101, 108]⟩ : ByteArray)).bind fun p => (impl_SourceOK.f p.1 p.2.1 p.2.2.1 p.2.2.2.1).bind fun ok =>
 if s.2.2.2.2 = 0 ∧ p.2.2.2.2 = 0 ∧ s.2.2.1 = p.2.2.1 ∧ p.1 = [] ∧ ok = true then laws_FnScript.l0 k (wrap64 (1 + t101)) l 0 s.1 s.2.1 s.2.2.1 s.2.2.2.1 else none
set_option maxHeartbeats 8000000 in
set_option maxRecDepth 100000 in
theorem laws_FnScript.calls (k : Nat) (A0 : Option Addr) (c0 : Nat) (l0 : List Int) (A1 : Option Addr) (c1 : Nat) (l1 : List Int) (r : Bool) (w : World) (hr0 : Kd.C (Kd.int .u8) w A0 l0.length l0) (hc0 : l0.length ≤ c0) (hr1 : Kd.C (Kd.int .u8) w A1 l1.length l1) (hc1 : l1.length ≤ c1) (hr_ : r = true) (h : laws_FnScript.f k l0 l1 = some r) :
  Calls Try.prog 3 #[.slice A0 l0.length c0, .slice A1 l1.length c1] w fun e w' => e = .returned (.bool r) ∧ Below w.heap.size w w' := by
 subst hr_
 have hu27 := Try.underlying27
 have hu34 := Try.underlying34
 have HC0 := am_ hc0
 have HC1 := am_ hc1
 have HI := am_ (Inv.start w (fun w2 => Kd.C (Kd.int .u8) w2 A0 l0.length l0 ∧ Kd.C (Kd.int .u8) w2 A1 l1.length l1) (fun w' hb => ⟨Kd.C_below hr0 hb, Kd.C_below hr1 hb⟩))
 clear hr0 hr1 hc0 hc1
 unfold laws_FnScript.f at h
 by_cases e1 : (l0.length : Int) > 1048576
 ·
  have d1 : decide ((l0.length : Int) > 1048576) = true := decide_eq_true e1
  have d2 : decide (1048576 < (l0.length : Int)) = true := decide_eq_true e1
  clear e1 h
  go_enter Try.func3, Try.ntmps3
  go_wp2
  go_ret
  exact ⟨rfl, HI.out.below⟩
 ·
  rw [if_neg e1] at h
  have d1 : decide ((l0.length : Int) > 1048576) = false := decide_eq_false e1
  have d2 : decide (1048576 < (l0.length : Int)) = false := decide_eq_false e1
  clear e1
  by_cases e2 : (l1.length : Int) > 1048576
  ·
   have d3 : decide ((l1.length : Int) > 1048576) = true := decide_eq_true e2
   have d4 : decide (1048576 < (l1.length : Int)) = true := decide_eq_true e2
   clear e2 h
   go_enter Try.func3, Try.ntmps3
   go_wp2
   go_ret
   exact ⟨rfl, HI.out.below⟩
  ·
   rw [if_neg e2] at h
   have d3 : decide ((l1.length : Int) > 1048576) = false := decide_eq_false e2
   have d4 : decide (1048576 < (l1.length : Int)) = false := decide_eq_false e2
   clear e2
   replace h := Option.bind_eq_some_iff.1 h
   obtain ⟨t101, hat, h⟩ := h
   replace h := Option.bind_eq_some_iff.1 h
   obtain ⟨l, hex, h⟩ := h
   replace h := Option.bind_eq_some_iff.1 h
   obtain ⟨⟨s0, s1, s2, s3, s4⟩, hns, h⟩ := h
   replace h := Option.bind_eq_some_iff.1 h
   obtain ⟨⟨p0, p1, p2, p3, p4⟩, hnp, h⟩ := h
   replace h := Option.bind_eq_some_iff.1 h
   obtain ⟨ok, hok, h⟩ := h
   by_cases hc : s4 = 0 ∧ p4 = 0 ∧ s2 = p2 ∧ p0 = [] ∧ ok = true
   ·
    rw [if_pos (show (s0, s1, s2, s3, s4).2.2.2.2 = 0 ∧ (p0, p1, p2, p3, p4).2.2.2.2 = 0 ∧ (s0, s1, s2, s3, s4).2.2.1 = (p0, p1, p2, p3, p4).2.2.1 ∧ (p0, p1, p2, p3, p4).1 = [] ∧ ok = true from hc)] at h
    obtain ⟨rfl, rfl, rfl, rfl, rfl⟩ := hc
    have HAT := am_ hat
    have HEX := am_ hex
    have HNS := am_ hns
    have HNP := am_ hnp
    have HOK := am_ (show impl_SourceOK.f [] p1 s2 p3 = some true from hok)
    have HLO := am_ (show laws_FnScript.l0 k (wrap64 (1 + t101)) l 0 s0 s1 s2 s3 = some true from h)
    clear hat hex hns hnp hok h
    go_enter Try.func3, Try.ntmps3
    go_wp2_with (first | (go_at_call 7; (refine (laws_at.calls A1 c1 l1 0 5 t101 _ HI.out.now.2 HC1.out HAT.out).mono ?_); rintro e w26 ⟨rfl, ⟨n26, rfl⟩⟩; have HI_ := am_ (HI.out.drewN n26); clear HI; have HI := HI_; clear HI_) | (go_at_call 8; (refine (spec_ExtsOf.calls k A0 c0 l0 (wrap64 (1 + t101)) l _ HI.out.now.1 HC0.out HEX.out).mono ?_); rintro e w30 ⟨vl, rfl, hR, hb⟩; obtain ⟨Al, cl, el, hcl, HI_⟩ := HI.out.rowKnow hb hR; subst el; clear HI; have HI := am_ HI_; clear HI_; have HCL := am_ hcl; clear hcl hR hb) | (go_at_call 9; (refine (impl_NewScript.calls k (⟨#[108, 97, 98, 101, 108]⟩ : ByteArray) Al cl l s0 s1 s2 s3 0 _ HI.out.now.1 HCL.out HNS.out).mono ?_); rintro e w33 ⟨vs, rfl, hR, hb⟩; obtain ⟨As, cs, e_⟩ := Kd.R_slice hR; subst e_; have HI_ := am_ (HI.out.rowPush hb hR); clear HI; have HI := HI_; clear HI_; clear hR hb) | ((with_reducible refine gate_dst (N := 7) rfl ?_); refine box_event ?hg (N := 7) ?hd (cs := #[.slice none 0 0, .int .i64 0, .string (⟨#[]⟩ : ByteArray), .int .i64 0]) (t := 27) ?hr ?_; (case hd => rfl); (case hg => rfl); (case hr => first | (go_simp; done) | (go_simp; rfl)); intro g7 hg w7 hbox hb; have HI_ := am_ ((HI.out).box hg hbox hb); clear HI; have HI := HI_; clear HI_; clear hb hbox hg) | ((with_reducible refine gate_store (p := 7) (v := (.tmp 34)) (t := 27) rfl ?_); go_must (refine wpList_store_row rfl 27 _ _ rfl g7 (#[.slice As s0.length cs, .int .i64 s1, .string s2, .int .i64 s3]) rfl qz11_ 27 (#[.slice none 0 0, .int .i64 0, .string (⟨#[]⟩ : ByteArray), .int .i64 0]) (Inv.blk0 (HI.out)) (by kernel_rfl) (by rfl) (by first | rfl | simp [Value.oneCell']) ?_; have HI_ := am_ (Inv.put0 (HI.out) (#[.slice As s0.length cs, .int .i64 s1, .string s2, .int .i64 s3])); clear HI; have HI := HI_; clear HI_; generalize World.setRow _ g7 (#[.slice As s0.length cs, .int .i64 s1, .string s2, .int .i64 s3]) = w8 at HI ⊢)) | (go_at_call 10; (refine (impl_NewSponge.calls (⟨#[108, 97, 98, 101, 108]⟩ : ByteArray) [] p1 s2 p3 0 _ HNP.out).mono ?_); rintro e w37 ⟨vp, rfl, hR, hb⟩; obtain ⟨Ap, cp, e_⟩ := Kd.R_slice hR; subst e_; have HI_ := am_ (HI.out.rowPush hb hR); clear HI; have HI := HI_; clear HI_; clear hR hb) | ((with_reducible refine gate_dst (N := 9) rfl ?_); refine box_event ?hg (N := 9) ?hd (cs := #[.slice none 0 0, .int .i64 0, .string (⟨#[]⟩ : ByteArray), .int .i64 0]) (t := 27) ?hr ?_; (case hd => rfl); (case hg => rfl); (case hr => first | (go_simp; done) | (go_simp; rfl)); intro g9 hg w9 hbox hb; have HI_ := am_ ((HI.out).box hg hbox hb); clear HI; have HI := HI_; clear HI_; clear hb hbox hg) | ((with_reducible refine gate_store (p := 9) (v := (.tmp 38)) (t := 27) rfl ?_); go_must (refine wpList_store_row rfl 27 _ _ rfl g9 (#[.slice Ap 0 cp, .int .i64 p1, .string s2, .int .i64 p3]) rfl qz11_ 27 (#[.slice none 0 0, .int .i64 0, .string (⟨#[]⟩ : ByteArray), .int .i64 0]) (Inv.blk0 (HI.out)) (by kernel_rfl) (by rfl) (by first | rfl | simp [Value.oneCell']) ?_; have HI_ := am_ (Inv.put0 (HI.out) (#[.slice Ap 0 cp, .int .i64 p1, .string s2, .int .i64 p3])); clear HI; have HI := HI_; clear HI_; generalize World.setRow _ g9 (#[.slice Ap 0 cp, .int .i64 p1, .string s2, .int .i64 p3]) = w10 at HI ⊢; have h72 : w10.cell? ⟨g7, 2, none⟩ = some (.string s2) := (blk_cell (HI.out.get 2 rfl) 2).trans rfl; have h92 : w10.cell? ⟨g9, 2, none⟩ = some (.string s2) := (blk_cell HI.out.blk0 2).trans rfl; have h90 : w10.cell? ⟨g9, 0, none⟩ = some (.slice Ap 0 cp) := (blk_cell HI.out.blk0 0).trans rfl; have h91 : w10.cell? ⟨g9, 1, none⟩ = some (.int .i64 p1) := (blk_cell HI.out.blk0 1).trans rfl; have h93 : w10.cell? ⟨g9, 3, none⟩ = some (.int .i64 p3) := (blk_cell HI.out.blk0 3).trans rfl)) | (go_at_call 11; (refine (impl_SourceOK.calls Ap cp [] p1 s2 p3 true _ (Kd.R_reads' (HI.out.get 1 rfl)).2.2 (Kd.R_reads' (HI.out.get 1 rfl)).2.1 HOK.out).mono ?_); rintro e w61 ⟨rfl, hb⟩; have HI_ := am_ (HI.out.grow hb); clear HI; have HI := HI_; clear HI_; clear hb))
    have HI_ := am_ (HI.out.sub (L' := [blk g7 27 #[.slice As s0.length cs, .int .i64 s1, .string s2, .int .i64 s3], row k34 34 w.heap.size (.slice As s0.length cs) s0 _]) (by repeat (first | exact List.Sublist.slnil | apply List.Sublist.cons_cons | apply List.Sublist.cons)))
    clear HI
    have HI := HI_
    clear HI_ HNS HNP HOK d1 d2 d3 d4
    generalize hn_ : wrap64 (1 + t101) = n at HLO ⊢
    clear hn_ HEX HAT
    go_loopg [11] k (fun kq v11 w' => ∃ (i : Int) (s0 : List S34) (s1 : Int) (s2 : ByteArray) (s3 : Int) (As : Option Addr) (cs : Nat) (S : Nat → Prop), v11 = .int .i64 i ∧ Aside0 (laws_FnScript.l0 kq n l i s0 s1 s2 s3 = some true) ∧ Aside0 (Inv w NoB w' [blk g7 27 #[.slice As s0.length cs, .int .i64 s1, .string s2, .int .i64 s3], row k34 34 w.heap.size (.slice As s0.length cs) s0 S] (fun w2 => Kd.C k34 w2 Al l.length l ∧ Kd.C (Kd.int .u8) w2 A0 l0.length l0 ∧ Kd.C (Kd.int .u8) w2 A1 l1.length l1)))
    case atStart => exact ⟨0, s0, s1, s2, s3, As, cs, _, rfl, HLO, HI⟩
    case round =>
     clear HI HLO
     obtain ⟨i, s0, s1, s2, s3, As, cs, S, rfl, HLO, HI⟩ := hrel
     cases gk with
     | zero => exact absurd HLO.out (by simp [laws_FnScript.l0])
     | succ k1 =>
      have h := HLO.out
      rw [laws_FnScript.l0] at h
      clear HLO
      by_cases ci : i < wrap64 (wrap64 (2 * n) + 1)
      ·
       rw [if_pos ci] at h
       have d1 : decide (i < wrap64 (wrap64 (2 * n) + 1)) = true := decide_eq_true ci
       clear ci
       replace h := Option.bind_eq_some_iff.1 h
       obtain ⟨⟨a0, a1, a2, a3, a4⟩, hab, h⟩ := h
       replace h := Option.bind_eq_some_iff.1 h
       obtain ⟨⟨t0, t1, t2, t3, t4, t5, t6⟩, htk, h⟩ := h
       by_cases hc : a4 = 0 ∧ t6 = 0 ∧ n ≠ 0 ∧ 0 ≤ Int.tmod i n ∧ Int.tmod i n < (l.length : Int) ∧ t4 = (rd_T34 l (Int.tmod i n)).f0 ∧ t5 = (rd_T34 l (Int.tmod i n)).f1
       ·
        rw [if_pos (show (a0, a1, a2, a3, a4).2.2.2.2 = 0 ∧ (t0, t1, t2, t3, t4, t5, t6).2.2.2.2.2.2 = 0 ∧ n ≠ 0 ∧ 0 ≤ Int.tmod i n ∧ Int.tmod i n < (l.length : Int) ∧ (t0, t1, t2, t3, t4, t5, t6).2.2.2.2.1 = (rd_T34 l (Int.tmod i n)).f0 ∧ (t0, t1, t2, t3, t4, t5, t6).2.2.2.2.2.1 = (rd_T34 l (Int.tmod i n)).f1 from hc)] at h
        obtain ⟨rfl, rfl, hn0, hq0, hq1, hx0, hx1⟩ := hc
        have d2 : (n == 0) = false := beq_eq_false_iff_ne.mpr hn0
        have d3 : (n != 0) = true := bne_iff_ne.mpr hn0
        obtain ⟨q, hq⟩ : ∃ q : Nat, Int.tmod i n = (q : Int) := ⟨(Int.tmod i n).toNat, (by omega)⟩
        rw [hq] at hx0 hx1
        have hql : q < l.length := by omega
        obtain ⟨ad, eA, _⟩ := at_T34 HI.out.now.1 (q : Int) (by omega) (by omega)
        subst eA
        have HEL := am_ (fun (W : World) (hC : Kd.C k34 W (some ad) l.length l) => elem_at hC hql)
        generalize rd_T34 l (q : Int) = y at HEL hx0 hx1
        subst hx0 hx1
        have HAB := am_ (show impl_AbsorbText.f s0 s1 s2 s3 (⟨#[116, 101, 120, 116]⟩ : ByteArray) = some (a0, a1, a2, a3, 0) from hab)
        have HTK := am_ (show impl_TakeOne.f k1 a0 a1 a2 a3 = some (t0, t1, t2, t3, y.f0, y.f1, 0) from htk)
        have HLO := am_ (show laws_FnScript.l0 k1 n l (wrap64 (i + 1)) t0 t1 t2 t3 = some true from h)
        have p6 := eq_true (show 0 ≤ (q : Int) by omega)
        have q6 := eq_true (show (q : Int) < (l.length : Int) by omega)
        have q6n := eq_true hql
        clear hab htk h hq0 hq1 hql
        go_wp2_with (first | ((with_reducible refine gate_dst (N := 72) rfl ?_); go_must (refine wpList_load_row rfl 27 _ rfl g7 rfl 27 (#[.slice As s0.length cs, .int .i64 s1, .string s2, .int .i64 s3]) (0, 0) _ (HI.out.blk0) hu27 rfl (by kernel_rfl) ?_)) | (go_at_call 12; (refine (impl_AbsorbText.calls As cs s0 s1 s2 s3 (⟨#[116, 101, 120, 116]⟩ : ByteArray) a0 a1 a2 a3 0 _ (Kd.R_reads' (HI.out.get 1 rfl)).2.2 (Kd.R_reads' (HI.out.get 1 rfl)).2.1 HAB.out).mono ?_); rintro e w73 ⟨va, rfl, hR, hb⟩; obtain ⟨Aa, ca, e_⟩ := Kd.R_slice hR; subst e_; have HI_ := am_ (HI.out.rowPush hb hR); clear HI; have HI := HI_; clear HI_; clear hR hb) | ((with_reducible refine gate_dst (N := 12) rfl ?_); refine box_event ?hg (N := 12) ?hd (cs := #[.slice none 0 0, .int .i64 0, .string (⟨#[]⟩ : ByteArray), .int .i64 0]) (t := 27) ?hr ?_; (case hd => rfl); (case hg => rfl); (case hr => first | (go_simp; done) | (go_simp; rfl)); intro g12 hg w12 hbox hb; have HI_ := am_ ((HI.out).box hg hbox hb); clear HI; have HI := HI_; clear HI_; clear hb hbox hg) | ((with_reducible refine gate_store (p := 12) (v := (.tmp 74)) (t := 27) rfl ?_); go_must (refine wpList_store_row rfl 27 _ _ rfl g12 (#[.slice Aa a0.length ca, .int .i64 a1, .string a2, .int .i64 a3]) rfl qz11_ 27 (#[.slice none 0 0, .int .i64 0, .string (⟨#[]⟩ : ByteArray), .int .i64 0]) (Inv.blk0 (HI.out)) (by kernel_rfl) (by rfl) (by first | rfl | simp [Value.oneCell']) ?_; have HI_ := am_ (Inv.put0 (HI.out) (#[.slice Aa a0.length ca, .int .i64 a1, .string a2, .int .i64 a3])); clear HI; have HI := HI_; clear HI_; generalize World.setRow _ g12 (#[.slice Aa a0.length ca, .int .i64 a1, .string a2, .int .i64 a3]) = w13 at HI ⊢)) | ((with_reducible refine gate_dst (N := 77) rfl ?_); go_must (refine wpList_load_row rfl 27 _ rfl g12 rfl 27 (#[.slice Aa a0.length ca, .int .i64 a1, .string a2, .int .i64 a3]) (0, 0) _ (HI.out.blk0) hu27 rfl (by kernel_rfl) ?_)) | (go_at_call 13; (refine (impl_TakeOne.calls k1 Aa ca a0 a1 a2 a3 t0 t1 t2 t3 y.f0 y.f1 0 _ (Kd.R_reads' (HI.out.get 1 rfl)).2.2 (Kd.R_reads' (HI.out.get 1 rfl)).2.1 HTK.out).mono ?_); rintro e w78 ⟨vt, rfl, hR, hb⟩; obtain ⟨At, ct, e_⟩ := Kd.R_slice hR; subst e_; have HI_ := am_ (HI.out.rowPush hb hR); clear HI; have HI := HI_; clear HI_; clear hR hb) | ((with_reducible refine gate_dst (N := 14) rfl ?_); refine box_event ?hg (N := 14) ?hd (cs := #[.slice none 0 0, .int .i64 0, .string (⟨#[]⟩ : ByteArray), .int .i64 0]) (t := 27) ?hr ?_; (case hd => rfl); (case hg => rfl); (case hr => first | (go_simp; done) | (go_simp; rfl)); intro g14 hg w14 hbox hb; have HI_ := am_ ((HI.out).box hg hbox hb); clear HI; have HI := HI_; clear HI_; clear hb hbox hg) | ((with_reducible refine gate_dst (N := 15) rfl ?_); refine box_event ?hg (N := 15) ?hd (cs := #[.int .i64 0, .int .i64 0]) (t := 34) ?hr ?_; (case hd => rfl); (case hg => rfl); (case hr => first | (go_simp; done) | (go_simp; rfl)); intro g15 hg w15 hbox hb; have HI_ := am_ ((HI.out).box hg hbox hb); clear HI; have HI := HI_; clear HI_; clear hb hbox hg) | ((with_reducible refine gate_store (p := 14) (v := (.tmp 79)) (t := 27) rfl ?_); go_must (refine wpList_store_row rfl 27 _ _ rfl g14 (#[.slice At t0.length ct, .int .i64 t1, .string t2, .int .i64 t3]) rfl qz11_ 27 (#[.slice none 0 0, .int .i64 0, .string (⟨#[]⟩ : ByteArray), .int .i64 0]) (Inv.blk0 (HI.out.swap)) (by kernel_rfl) (by rfl) (by first | rfl | simp [Value.oneCell']) ?_; have HI_ := am_ (Inv.put0 (HI.out.swap) (#[.slice At t0.length ct, .int .i64 t1, .string t2, .int .i64 t3])); clear HI; have HI := HI_; clear HI_; generalize World.setRow _ g14 (#[.slice At t0.length ct, .int .i64 t1, .string t2, .int .i64 t3]) = w16 at HI ⊢)) | ((with_reducible refine gate_store (p := 15) (v := (.tmp 80)) (t := 34) rfl ?_); go_must (refine wpList_store_row rfl 34 _ _ rfl g15 (#[.int .i64 y.f0, .int .i64 y.f1]) rfl (by first | rfl | (go_simp; done) | (go_simp; rfl)) 34 (#[.int .i64 0, .int .i64 0]) (Inv.blk0 (HI.out.swap)) (draw_side y.f0 y.f1) (draw_len y.f0 y.f1) (draw_one y.f0 y.f1) ?_; have HI_ := am_ (Inv.put0 (HI.out.swap) (#[.int .i64 y.f0, .int .i64 y.f1])); clear HI; have HI := HI_; clear HI_; generalize World.setRow _ g15 (#[.int .i64 y.f0, .int .i64 y.f1]) = w17 at HI ⊢; have hy0 : w17.cell? ⟨g15, 0, none⟩ = some (.int .i64 y.f0) := (blk_cell HI.out.blk0 0).trans rfl; have hy1 : w17.cell? ⟨g15, 1, none⟩ = some (.int .i64 y.f1) := (blk_cell HI.out.blk0 1).trans rfl; have hz0 := (HEL.out _ HI.out.now.1).1; have hz1 := (HEL.out _ HI.out.now.1).2)))
        go_quiet (fail)
        have HI_ := am_ ((HI.out.drewN nq).sub (L' := [blk g14 27 #[.slice At t0.length ct, .int .i64 t1, .string t2, .int .i64 t3], row k34 34 w.heap.size (.slice At t0.length ct) t0 _, blk g7 27 #[.slice As s0.length cs, .int .i64 s1, .string s2, .int .i64 s3]]) (by repeat (first | exact List.Sublist.slnil | apply List.Sublist.cons_cons | apply List.Sublist.cons)))
        clear HI
        have HI := HI_
        clear HI_ hy0 hy1 hz0 hz1
        go_wp2_with (first | ((with_reducible refine gate_dst (N := 98) rfl ?_); go_must (refine wpList_load_row rfl 27 _ rfl g14 rfl 27 (#[.slice At t0.length ct, .int .i64 t1, .string t2, .int .i64 t3]) (0, 0) _ (HI.out.blk0) hu27 rfl (by kernel_rfl) ?_)) | ((with_reducible refine gate_store (p := 7) (v := (.tmp 98)) (t := 27) rfl ?_); go_must (refine wpList_store_row rfl 27 _ _ rfl g7 (#[.slice At t0.length ct, .int .i64 t1, .string t2, .int .i64 t3]) rfl qz11_ 27 (#[.slice As s0.length cs, .int .i64 s1, .string s2, .int .i64 s3]) (Inv.blk0 (HI.out.front2)) (by kernel_rfl) (by rfl) (by first | rfl | simp [Value.oneCell']) ?_; have HI_ := am_ (Inv.put0 (HI.out.front2) (#[.slice At t0.length ct, .int .i64 t1, .string t2, .int .i64 t3])); clear HI; have HI := HI_; clear HI_; generalize World.setRow _ g7 (#[.slice At t0.length ct, .int .i64 t1, .string t2, .int .i64 t3]) = w19 at HI ⊢)))
        go_roundg k1
        case measure => omega
        case rel => exact ⟨wrap64 (i + 1), t0, t1, t2, t3, At, ct, _, rfl, HLO, ⟨HI.out.sub (by repeat (first | exact List.Sublist.slnil | apply List.Sublist.cons_cons | apply List.Sublist.cons))⟩⟩
       ·
        rw [if_neg (show ¬ ((a0, a1, a2, a3, a4).2.2.2.2 = 0 ∧ (t0, t1, t2, t3, t4, t5, t6).2.2.2.2.2.2 = 0 ∧ n ≠ 0 ∧ 0 ≤ Int.tmod i n ∧ Int.tmod i n < (l.length : Int) ∧ (t0, t1, t2, t3, t4, t5, t6).2.2.2.2.1 = (rd_T34 l (Int.tmod i n)).f0 ∧ (t0, t1, t2, t3, t4, t5, t6).2.2.2.2.2.1 = (rd_T34 l (Int.tmod i n)).f1) from hc)] at h
        cases h
      ·
       have d1 : decide (i < wrap64 (wrap64 (2 * n) + 1)) = false := decide_eq_false ci
       clear ci h
       go_wp2
       go_ret
       exact ⟨rfl, HI.out.below⟩
   ·
    rw [if_neg (show ¬ ((s0, s1, s2, s3, s4).2.2.2.2 = 0 ∧ (p0, p1, p2, p3, p4).2.2.2.2 = 0 ∧ (s0, s1, s2, s3, s4).2.2.1 = (p0, p1, p2, p3, p4).2.2.1 ∧ (p0, p1, p2, p3, p4).1 = [] ∧ ok = true) from hc)] at h
    cases h

end Go.Proofs.Ytgookagndlfehaa.PT
end
section
/- Arguments that are read as data have the kinds' own form: for each kind, compositionally. Own text, for every seat (Ytgookagndlfehaa: the seat's name). -/
namespace Go.Proofs.YtgookagndlfehaaO
open Go.RowKit Go.ChangeShapes Go.WideShapes Go.ChangeAt Go.Proofs.YtgookagndlfehaaW.PrintWords
def Opens {α : Type} {H : Type} (enc : TypeId × Value → H) (P : Program) (w : World) (T : TypeId) (d : Kd α) (good : α → Prop) : Prop :=
 ∀ (fuel : Nat) (cs : List Value) (x : DataW H × List MemPlace), DataW.trod enc P w 0 (fun _ => true) true fuel T cs = some x → ∃ a, d.K w a cs ∧ good a
def OpensSeq {α : Type} {H : Type} (enc : TypeId × Value → H) (P : Program) (w : World) (fs : List (TypeId × Nat)) (d : Kd α) (good : α → Prop) : Prop :=
 ∀ (fuel : Nat) (cs : List Value), cs.length = (fs.map (·.2)).sum → (∀ (j : Nat) (T n : Nat), fs[j]? = some (T, n) → ∃ x, DataW.trod enc P w 0 (fun _ => true) true fuel T ((cs.drop ((fs.take j).map (·.2)).sum).take n) = some x) → ∃ a, d.K w a cs ∧ good a

section
variable {H : Type} {enc : TypeId × Value → H} {P : Program} {w : World}

def IntGood (k : IntKind) (a : Int) : Prop := (Lit.int k a).wf = true
def StrGood (a : ByteArray) : Prop := a.size ≤ 9223372036854775807
def ListGood {α : Type} (g : α → Prop) (l : List α) : Prop := l.length ≤ 9223372036854775807 ∧ ∀ x ∈ l, g x

theorem opens_int {T : TypeId} {k : IntKind} (ht : P.underlying T = some (.int k)) : Opens enc P w T (Kd.int k) (IntGood k) := by
 intro fuel cs x h
 obtain ⟨n, rfl, _, hw⟩ := DataW.trod_int ht h
 exact ⟨n, rfl, hw⟩
theorem opens_bool {T : TypeId} (ht : P.underlying T = some .bool) : Opens enc P w T Kd.bool (fun _ => True) := by
 intro fuel cs x h
 obtain ⟨n, rfl, _⟩ := DataW.trod_bool ht h
 exact ⟨n, rfl, trivial⟩
theorem opens_string {T : TypeId} (ht : P.underlying T = some .string) : Opens enc P w T Kd.string StrGood := by
 intro fuel cs x h
 obtain ⟨s, rfl, _, hs⟩ := DataW.trod_string ht h
 exact ⟨s, rfl, (by unfold StrGood; unfold maxLen at hs; omega)⟩

theorem choose_list {α : Type} {n : Nat} {p : Nat → α → Prop} (h : ∀ i, i < n → ∃ a, p i a) : ∃ l : List α, l.length = n ∧ ∀ i a, l[i]? = some a → p i a := by
 induction n with
 | zero => exact ⟨[], rfl, fun i a hi => by simp at hi⟩
 | succ n ih =>
  obtain ⟨l, hl, hp⟩ := ih (fun i hi => h i (by omega))
  obtain ⟨a, ha⟩ := h n (by omega)
  refine ⟨l ++ [a], (by simp [hl]), fun i b hi => ?_⟩
  rcases Nat.lt_or_ge i l.length with hlt | hge
  ·
   rw [List.getElem?_append_left hlt] at hi
   exact hp i b hi
  ·
   rw [List.getElem?_append_right hge] at hi
   have : i - l.length = 0 := by
    rcases Nat.eq_zero_or_pos (i - l.length) with h0 | h0
    ·
     exact h0
    ·
     rw [List.getElem?_eq_none (by simp; omega)] at hi; simp at hi
   rw [this] at hi
   simp at hi
   subst hi
   have : i = n := by omega
   rw [this]
   exact ha

theorem opens_slice {α : Type} {d : Kd α} {good : α → Prop} {T e : TypeId} (ht : P.underlying T = some (.slice e)) (hc : P.cellsOf e = d.sz) (ho : Opens enc P w e d good) : Opens enc P w T (Kd.slice e d) (ListGood good) := by
 intro fuel cs x h
 rcases Deep.open_slice ht h with ⟨rfl, _⟩ | ⟨a, len, cap, m, n, D, Pl, rfl, _, hl, hm, hmm, _, hx⟩
 ·
  exact ⟨[], ⟨none, 0, rfl, Nat.le_refl _, ⟨rfl, (by simp), fun h0 => by simp at h0⟩⟩, ⟨(by simp), fun x hx => by simp at hx⟩⟩
 ·
  have hle : len ≤ m := by rw [hmm]; split <;> omega
  have hex : ∀ i, i < len → ∃ b : α, (∃ c, c.length = d.sz ∧ d.K w b c ∧ ∀ j u, c[j]? = some u → w.cell? (a.add (i * d.sz + j)) = some u) ∧ good b := by
   intro i hi
   obtain ⟨cs', h1, h2⟩ := hx i (by omega)
   obtain ⟨b, hK, hg⟩ := ho _ _ _ h2
   obtain ⟨_, hlen, hcell⟩ := World.cells?_some h1
   refine ⟨b, ⟨cs', (by rw [hlen, hc]), hK, fun j u hu => ?_⟩, hg⟩
   have hj : j < P.cellsOf e := by
    rw [← hlen]
    exact (List.getElem?_eq_some_iff.1 hu).1
   rw [← Deep.add_add, ← hc, hcell j hj, hu]
  obtain ⟨l, hll, hp⟩ := choose_list hex
  unfold maxLen at hm
  refine ⟨l, ⟨some a, cap, by rw [hll], by omega, ⟨rfl, by omega, fun _ => ⟨a, rfl, fun j p hj => (hp j p hj).1⟩⟩⟩, ⟨(by omega), fun x hx => ?_⟩⟩
  obtain ⟨i, hi, rfl⟩ := List.getElem_of_mem hx
  exact (hp i _ (List.getElem?_eq_getElem hi)).2

theorem opensSeq_one {α : Type} {d : Kd α} {good : α → Prop} {T n : Nat} (ho : Opens enc P w T d good) : OpensSeq enc P w [(T, n)] d good := by
 intro fuel cs hlen h
 obtain ⟨x, hx⟩ := h 0 T n rfl
 simp at hlen
 simp [List.take_of_length_le (Nat.le_of_eq hlen)] at hx
 exact ho _ _ _ hx
theorem opensSeq_cons {α β : Type} {d : Kd α} {good : α → Prop} {d2 : Kd β} {good2 : β → Prop} {T n : Nat} {fs : List (TypeId × Nat)} (ho : Opens enc P w T d good) (hs : OpensSeq enc P w fs d2 good2) :
  OpensSeq enc P w ((T, n) :: fs) (Kd.pair d d2) (fun x => good x.1 ∧ good2 x.2) := by
 intro fuel cs hlen h
 obtain ⟨x, hx⟩ := h 0 T n rfl
 simp at hx
 obtain ⟨a, hK, hg⟩ := ho _ _ _ hx
 simp only [List.map_cons, List.sum_cons] at hlen
 obtain ⟨b, hK2, hg2⟩ := hs fuel (cs.drop n) (by rw [List.length_drop, hlen]; omega) (fun j T' n' hj => by
  obtain ⟨y, hy⟩ := h (j + 1) T' n' (by simpa using hj)
  refine ⟨y, ?_⟩
  simp only [List.take_succ_cons, List.map_cons, List.sum_cons] at hy
  rw [List.drop_drop]
  exact hy)
 exact ⟨(a, b), ⟨cs.take n, cs.drop n, (List.take_append_drop n cs).symm, hK, hK2⟩, hg, hg2⟩
theorem opens_struct {α β : Type} {d : Kd α} {good : α → Prop} {T : TypeId} {fs : Array Field} {l : List (TypeId × Nat)} (f : β → α) (g : α → β) (hfg : ∀ a, f (g a) = a) (ht : P.underlying T = some (.struct fs))
  (hl : l.length = fs.size) (hf : ∀ (j : Nat) (T' n : Nat), l[j]? = some (T', n) → ∃ fd, fs[j]? = some fd ∧ fd.type = T' ∧ P.cellsOf T' = n ∧ fd.offset = ((l.take j).map (·.2)).sum) (hc : P.cellsOf T = (l.map (·.2)).sum)
  (hs : OpensSeq enc P w l d good) : Opens enc P w T (Kd.iso d f) (fun x => good (f x)) := by
 intro fuel cs x h
 obtain ⟨xs, n, _, _, hlen, hxl, hx⟩ := DataW.trod_struct ht h
 obtain ⟨a, hK, hg⟩ := hs n cs (by rw [hlen, hc]) (fun j T' n' hj => by
  obtain ⟨fd, h1, h2, h3, h4⟩ := hf j T' n' hj
  have h5 := hx j fd h1
  have hj2 : j < xs.length := by
   have := (List.getElem?_eq_some_iff.1 hj).1
   omega
  rw [List.getElem?_eq_getElem hj2, h2, h3, h4] at h5
  exact ⟨_, h5⟩)
 refine ⟨g a, ?_, ?_⟩
 ·
  show d.K w (f (g a)) cs
  rw [hfg]; exact hK
 ·
  show good (f (g a))
  rw [hfg]; exact hg
end
end Go.Proofs.YtgookagndlfehaaO
end
section
namespace Go.Proofs.Ytgookagndlfehaa.fnScript
open Go.RowKit Go.ChangeShapes Go.WideShapes Go.ChangeAt Go.Proofs.YtgookagndlfehaaO Go.Proofs.Ytgookagndlfehaa.PT Go.Proofs.YtgookagndlfehaaW.PrintWords Go.Proofs.YtgookagndlfehaaW.PrintLast
set_option linter.unusedVariables false
theorem opensT5 {H : Type} {enc : TypeId × Value → H} {w : World} : Opens enc Try.prog w 5 (Kd.int .u8) (IntGood .u8) := opens_int Try.underlying5
theorem opensT22 {H : Type} {enc : TypeId × Value → H} {w : World} : Opens enc Try.prog w 22 (Kd.slice 5 (Kd.int .u8)) (ListGood (IntGood .u8)) := opens_slice Try.underlying22 (by kernel_rfl) opensT5
def Pure : Prop := ∀ (x0 : List Int) (x1 : List Int), (ListGood (IntGood .u8)) x0 → (ListGood (IntGood .u8)) x1 → ∃ k, laws_FnScript.f k x0 x1 = some true
end Go.Proofs.Ytgookagndlfehaa.fnScript
end
section
/- The field and the greater field, over whole numbers: what the printed functions of chapters 2 and 3 come to. -/
namespace Go.Proofs.Ytgookagndlfehaa.PT
open Go.RowKit Go.Proofs.YtgookagndlfehaaW.PrintWords Go.Proofs.YtgookagndlfehaaW.PrintLast Go.Proofs.YtgookagndlfehaaW.PrintMore
set_option linter.unusedVariables false
set_option linter.unusedSimpArgs false

abbrev E := S34
instance : DecidableEq S34 := fun x y => decidable_of_iff (x.f0 = y.f0 ∧ x.f1 = y.f1) ⟨fun h => by cases x; cases y; simp_all, fun h => by rw [h]; exact ⟨rfl, rfl⟩⟩
theorem w64 {n : Int} (h0 : -9223372036854775808 ≤ n) (h1 : n ≤ 9223372036854775807) : wrap64 n = n := by unfold wrap64; omega
theorem tmod_nn {a b : Int} (h : 0 ≤ a) : Int.tmod a b = a % b := Int.tmod_eq_emod_of_nonneg h
theorem tdiv_nn {a b : Int} (h : 0 ≤ a) : Int.tdiv a b = a / b := Int.tdiv_eq_ediv_of_nonneg h

def inF (a : Int) : Prop := 0 ≤ a ∧ a ≤ 2130706432
instance (a : Int) : Decidable (inF a) := by unfold inF; infer_instance
theorem inF_0 : inF 0 := by decide
structure okE (x : E) : Prop where
 a : inF x.f0
 b : inF x.f1
end Go.Proofs.Ytgookagndlfehaa.PT
end
section
/- What the printed functions of the field and of the greater field answer: the same sums and products on both sides. -/
namespace Go.Proofs.Ytgookagndlfehaa.PT
open Go.RowKit Go.Proofs.YtgookagndlfehaaW.PrintWords Go.Proofs.YtgookagndlfehaaW.PrintLast Go.Proofs.YtgookagndlfehaaW.PrintMore
set_option linter.unusedVariables false
set_option linter.unusedSimpArgs false

theorem impl_in_eq (a b c : Int) : impl_in.f a b c = some (decide (b ≤ a ∧ a ≤ c)) := by
 unfold impl_in.f; by_cases h : b ≤ a <;> simp [h]
theorem impl_FieldOK_eq (a : Int) : impl_FieldOK.f a = some (decide (inF a)) := by
 unfold impl_FieldOK.f; rw [impl_in_eq]; rfl
def okB (x : E) : Bool := decide (inF x.f0) && decide (inF x.f1)
theorem okB_iff (x : E) : okB x = true ↔ okE x := by
 unfold okB; rw [Bool.and_eq_true, decide_eq_true_eq, decide_eq_true_eq]; exact ⟨fun h => ⟨h.1, h.2⟩, fun h => ⟨h.a, h.b⟩⟩
theorem impl_ExtOK_eq (a b : Int) : impl_ExtOK.f a b = some (okB ⟨a, b⟩) := by
 unfold impl_ExtOK.f okB; rw [impl_FieldOK_eq, impl_FieldOK_eq]
 by_cases h : inF a <;> simp [h]
def okL (l : List E) : Prop := ∀ x ∈ l, okE x
def okLB (l : List E) : Bool := l.all okB
theorem okLB_iff (l : List E) : okLB l = true ↔ okL l := by
 unfold okLB okL; rw [List.all_eq_true]; exact ⟨fun h x hx => (okB_iff x).1 (h x hx), fun h x hx => (okB_iff x).2 (h x hx)⟩
theorem impl_are_eq (l : List E) : impl_are_Ext_ExtOK.f l = some (okLB l) := by
 unfold impl_are_Ext_ExtOK.f okLB
 congr 2; funext x; unfold impl_are_Ext_ExtOK.p; rw [impl_ExtOK_eq]; rfl
end Go.Proofs.Ytgookagndlfehaa.PT
end
section
/- The laws' own helpers: elements copied, compared, marked; and powers of two. -/
namespace Go.Proofs.Ytgookagndlfehaa.PT
open Go.RowKit Go.Proofs.YtgookagndlfehaaW.PrintWords Go.Proofs.YtgookagndlfehaaW.PrintLast Go.Proofs.YtgookagndlfehaaW.PrintMore
set_option linter.unusedVariables false
set_option linter.unusedSimpArgs false

theorem getD_at {α : Type} {l : List α} {z : α} {i : Nat} (h : i < l.length) : l.getD i z = l[i] := by
 rw [List.getD_eq_getElem?_getD, List.getElem?_eq_getElem h]; rfl
def marked : Nat → Int → List E
 | 0, _ => []
 | n + 1, k => ⟨k, k + 1⟩ :: marked n (k + 2)
end Go.Proofs.Ytgookagndlfehaa.PT
end
section
/- Steps that several laws share: same answers compared, lists turned in place. -/
namespace Go.Proofs.Ytgookagndlfehaa.PT
open Go.RowKit Go.Proofs.YtgookagndlfehaaW.PrintWords Go.Proofs.YtgookagndlfehaaW.PrintLast Go.Proofs.YtgookagndlfehaaW.PrintMore
set_option linter.unusedVariables false
set_option linter.unusedSimpArgs false
theorem bS {α β : Type} (a : α) (f : α → Option β) : (some a).bind f = f a := Eq.trans (Eq.refl _) (Option.bind_some a f)
theorem okL_app {l m : List E} (h : okL l) (h2 : okL m) : okL (l ++ m) := by
 intro y hy
 rcases List.mem_append.mp hy with h1 | h1
 ·
  exact h y h1
 ·
  exact h2 y h1
theorem okL_one {x : E} (hx : okE x) : okL [x] := by intro y hy; rw [List.mem_singleton.mp hy]; exact hx
theorem okL_nil : okL [] := by intro y hy; cases hy
end Go.Proofs.Ytgookagndlfehaa.PT
end
section
/- The equality weight, at a point and as a table: both sides walk the same numbers. -/
namespace Go.Proofs.Ytgookagndlfehaa.PT
open Go.RowKit Go.Proofs.YtgookagndlfehaaW.PrintWords Go.Proofs.YtgookagndlfehaaW.PrintLast Go.Proofs.YtgookagndlfehaaW.PrintMore
set_option linter.unusedVariables false
set_option linter.unusedSimpArgs false
end Go.Proofs.Ytgookagndlfehaa.PT
end
section
/- Tables turned in place, folded, and read at a point: both sides walk the same numbers. -/
namespace Go.Proofs.Ytgookagndlfehaa.PT
open Go.RowKit Go.Proofs.YtgookagndlfehaaW.PrintWords Go.Proofs.YtgookagndlfehaaW.PrintLast Go.Proofs.YtgookagndlfehaaW.PrintMore
set_option linter.unusedVariables false
set_option linter.unusedSimpArgs false
end Go.Proofs.Ytgookagndlfehaa.PT
end
section
/- Powers, inverses and the line: what the printed functions of chapter 2 come to. -/
namespace Go.Proofs.Ytgookagndlfehaa.PT
open Go.RowKit Go.Proofs.YtgookagndlfehaaW.PrintWords Go.Proofs.YtgookagndlfehaaW.PrintLast Go.Proofs.YtgookagndlfehaaW.PrintMore
set_option linter.unusedVariables false
set_option linter.unusedSimpArgs false
end Go.Proofs.Ytgookagndlfehaa.PT
end
section
/- What is drawn from bytes: the numbers and elements that the laws draw are of the field. -/
namespace Go.Proofs.Ytgookagndlfehaa.PT
open Go.RowKit Go.Proofs.YtgookagndlfehaaW.PrintWords Go.Proofs.YtgookagndlfehaaW.PrintLast Go.Proofs.YtgookagndlfehaaW.PrintMore
set_option linter.unusedVariables false
set_option linter.unusedSimpArgs false
def bytesL (l : List Int) : Prop := ∀ x ∈ l, 0 ≤ x ∧ x ≤ 255
theorem bytesL_rd {l : List Int} (h : bytesL l) {i : Int} (h0 : 0 ≤ i) (h1 : i < l.length) : 0 ≤ rd l i ∧ rd l i ≤ 255 := by
 show 0 ≤ l.getD i.toNat 0 ∧ l.getD i.toNat 0 ≤ 255
 rw [getD_at (show i.toNat < l.length by omega)]
 exact h _ (List.getElem_mem _)
def stOK (p s : Int) (b : Int) : Prop := 0 ≤ p ∧ p ≤ b ∧ 0 ≤ s ∧ s < 2147483648
theorem byte_ok {l : List Int} (h : bytesL l) {p s b : Int} (hs : stOK p s b) (hb : b ≤ 1000000000) : ∃ v s', spec_l00Src_byte.f l p s = some (v, p + 1, s') ∧ 0 ≤ v ∧ v ≤ 255 ∧ stOK (p + 1) s' (b + 1) := by
 obtain ⟨h0, h1, h2, h3⟩ := hs
 unfold spec_l00Src_byte.f
 rw [if_pos (by omega)]
 by_cases h4 : p < (l.length : Int)
 ·
  have hr := bytesL_rd h h0 h4
  rw [if_pos h4, if_pos hr]
  exact ⟨_, _, rfl, hr.1, hr.2, (by unfold stOK; omega)⟩
 ·
  rw [if_neg h4]
  by_cases h5 : 2999 < p
  ·
   rw [if_pos h5]; exact ⟨_, _, rfl, (by omega), (by omega), (by unfold stOK; omega)⟩
  ·
   rw [if_neg h5]
   refine ⟨_, _, rfl, (by omega), (by omega), ?_⟩
   unfold stOK spec_l00Src_byte.next; omega
theorem next_ok {l : List Int} (h : bytesL l) {p s b a : Int} (hs : stOK p s b) (hb : b ≤ 1000000000) (ha : 2 ≤ a) (ha2 : a ≤ 256) : ∃ v s', spec_l00Src_next.f l p s a = some (v, p + 1, s') ∧ 0 ≤ v ∧ v < a ∧ v ≤ 255 ∧ stOK (p + 1) s' (b + 1) := by
 obtain ⟨v, s', e, h0, h1, h2⟩ := byte_ok h hs hb
 unfold spec_l00Src_next.f
 rw [if_neg (by omega), if_pos ha2, e]
 simp only [bS]
 rw [if_neg (by omega), tmod_nn h0]
 have hm : v % a ≤ v := by
  rcases Int.lt_or_le v a with h | h
  ·
   rw [Int.emod_eq_of_lt h0 h]; exact Int.le_refl _
  ·
   have := Int.emod_lt_of_pos v (show 0 < a by omega); omega
 exact ⟨_, _, rfl, Int.emod_nonneg _ (by omega), Int.emod_lt_of_pos _ (by omega), (by omega), h2⟩
theorem chance_ok {l : List Int} (h : bytesL l) {p s b : Int} (hs : stOK p s b) (hb : b ≤ 1000000000) : ∃ v s', spec_l00Src_chance.f l p s 4 = some (v, p + 1, s') ∧ stOK (p + 1) s' (b + 1) := by
 obtain ⟨v, s', e, _, _, _, h2⟩ := next_ok h hs hb (a := 4) (by omega) (by omega)
 unfold spec_l00Src_chance.f
 rw [e]
 exact ⟨_, _, rfl, h2⟩
theorem field_l0 {l : List Int} (h : bytesL l) (d : Nat) : ∀ (k i : Nat) (v p s b : Int), i + d = 5 → d < k → inF v → stOK p s b → b + d ≤ 1000000000 →
  ∃ v' p' s', spec_l00Src_field.l0 k v i l p s = some (v', p', s') ∧ inF v' ∧ stOK p' s' (b + d) := by
 induction d with
 | zero =>
  intro k i v p s b hi hk hv hs hb
  obtain ⟨k, rfl⟩ : ∃ m, k = m + 1 := ⟨k - 1, (by omega)⟩
  simp only [spec_l00Src_field.l0]
  rw [if_neg (by omega)]
  exact ⟨_, _, _, rfl, hv, (by unfold stOK at *; omega)⟩
 | succ d ih =>
  intro k i v p s b hi hk hv hs hb
  obtain ⟨k, rfl⟩ : ∃ m, k = m + 1 := ⟨k - 1, (by omega)⟩
  obtain ⟨u, s', e, h0, h1, h2, h3⟩ := next_ok h hs (by omega) (a := 256) (by omega) (by omega)
  simp only [spec_l00Src_field.l0]
  rw [if_pos (by omega), e]
  simp only [bS]
  unfold inF at hv
  rw [w64 (n := v * 256) (by omega) (by omega), w64 (n := v * 256 + u) (by omega) (by omega), tmod_nn (by omega), w64 (by omega) (by omega), show (i : Int) + 1 = ((i + 1 : Nat) : Int) by omega]
  obtain ⟨v', p', s'', e2, hv', hs'⟩ := ih k (i + 1) ((v * 256 + u) % 2130706433) (p + 1) s' (b + 1) (by omega) (by omega) (by unfold inF; omega) h3 (by omega)
  exact ⟨v', p', s'', e2, hv', (by unfold stOK at *; omega)⟩
theorem field_ok {l : List Int} (h : bytesL l) {p s b : Int} (hs : stOK p s b) (hb : b ≤ 900000000) {k : Nat} (hk : 10 < k) : ∃ v p' s', spec_l00Src_field.f k l p s = some (v, p', s') ∧ inF v ∧ stOK p' s' (b + 10) := by
 obtain ⟨u, s1, e1, h0, h1, _, h2⟩ := next_ok h hs (by omega) (a := 5) (by omega) (by omega)
 unfold spec_l00Src_field.f
 rw [e1]
 simp only [bS]
 by_cases hu : u = 0
 ·
  obtain ⟨v, s2, e2, h3, h4, _, h5⟩ := next_ok h h2 (by omega) (a := 4) (by omega) (by omega)
  rw [if_pos hu, e2]
  simp only [bS]
  exact ⟨_, _, _, rfl, (by unfold inF; omega), (by unfold stOK at *; omega)⟩
 ·
  rw [if_neg hu]
  by_cases hu1 : u = 1
  ·
   obtain ⟨v, s2, e2, h3, h4, _, h5⟩ := next_ok h h2 (by omega) (a := 3) (by omega) (by omega)
   rw [if_pos hu1, e2]
   simp only [bS]
   rw [w64 (by omega) (by omega)]
   exact ⟨_, _, _, rfl, (by unfold inF; omega), (by unfold stOK at *; omega)⟩
  ·
   rw [if_neg hu1]
   obtain ⟨v', p', s', e2, hv, h5⟩ := field_l0 h 5 k 0 0 (p + 1) s1 (b + 1) (by omega) (by omega) inF_0 h2 (by omega)
   rw [Int.natCast_zero] at e2
   exact ⟨v', p', s', e2, hv, (by unfold stOK at *; omega)⟩
theorem ext_ok {l : List Int} (h : bytesL l) {p s b : Int} (hs : stOK p s b) (hb : b ≤ 800000000) {k : Nat} (hk : 10 < k) : ∃ (x : E) (p' s' : Int), spec_l00Src_ext.f k l p s = some (x.f0, x.f1, p', s') ∧ okE x ∧ stOK p' s' (b + 30) := by
 obtain ⟨c, s1, e1, h1⟩ := chance_ok h hs (by omega)
 obtain ⟨u, p2, s2, e2, hu, h2⟩ := field_ok h h1 (by omega) hk
 unfold spec_l00Src_ext.f
 rw [e1]
 simp only [bS]
 by_cases hc : c = true
 ·
  rw [if_pos hc, e2]
  simp only [bS]
  exact ⟨⟨u, 0⟩, p2, s2, rfl, ⟨hu, inF_0⟩, by unfold stOK at *; omega⟩
 ·
  obtain ⟨v, p3, s3, e3, hv, h3⟩ := field_ok h h2 (by omega) hk
  rw [if_neg hc, e2]
  simp only [bS]
  rw [e3]
  simp only [bS]
  exact ⟨⟨u, v⟩, p3, s3, rfl, ⟨hu, hv⟩, by unfold stOK at *; omega⟩
theorem source_ok (l : List Int) : ∃ s, spec_l00Source.f l = some (l, 0, s) ∧ stOK 0 s 0 := by
 unfold spec_l00Source.f
 exact ⟨_, rfl, (by unfold stOK; omega)⟩
theorem exts_l0 {l : List Int} (h : bytesL l) (n : Nat) (hn : n ≤ 4096) (d : Nat) : ∀ (i : Nat) (a : List E) (p s b : Int), i + d = n → a.length = i → okL a → stOK p s b → b ≤ 30 * i →
  ∃ q : List E, (okL q ∧ q.length = n) ∧ ∀ k, d + 10 < k → ∃ p' s', spec_l00Src_exts.l0 k (n : Int) a i l p s = some (q, p', s') := by
 induction d with
 | zero =>
  intro i a p s b hi ha hoa hs hb
  refine ⟨a, ⟨hoa, (by omega)⟩, fun k hk => ?_⟩
  obtain ⟨k, rfl⟩ : ∃ m, k = m + 1 := ⟨k - 1, (by omega)⟩
  simp only [spec_l00Src_exts.l0]
  rw [if_neg (by omega)]; exact ⟨_, _, rfl⟩
 | succ d ih =>
  intro i a p s b hi ha hoa hs hb
  obtain ⟨x, p', s', e, hx, hs'⟩ := ext_ok h hs (by omega) (k := 11) (by omega)
  obtain ⟨q, hq, hk2⟩ := ih (i + 1) (a ++ [x]) p' s' (b + 30) (by omega) (by simp; omega) (okL_app hoa (okL_one hx)) hs' (by omega)
  refine ⟨q, hq, fun k hk => ?_⟩
  obtain ⟨k, rfl⟩ : ∃ m, k = m + 1 := ⟨k - 1, (by omega)⟩
  have e' : spec_l00Src_ext.f k l p s = some (x.f0, x.f1, p', s') := by
   obtain ⟨x2, p2, s2, e2, _, _⟩ := ext_ok h hs (by omega) (k := k) (by omega)
   have hm : ∀ m, spec_l00Src_ext.f 11 l p s = some (x.f0, x.f1, p', s') → spec_l00Src_ext.f (11 + m) l p s = some (x.f0, x.f1, p', s') := by
    intro m h11
    induction m with
    | zero => exact h11
    | succ m ihm =>
     exact spec_l00Src_ext.mono l p s (11 + m) _ ihm
   obtain ⟨m, rfl⟩ : ∃ m, k = 11 + m := ⟨k - 11, (by omega)⟩
   exact hm m e
  simp only [spec_l00Src_exts.l0]
  rw [if_pos (by omega), e']
  simp only [bS]
  rw [if_pos (by omega), w64 (by omega) (by omega), show (i : Int) + 1 = ((i + 1 : Nat) : Int) by omega]
  exact hk2 k (by omega)
theorem ExtsOf_ok {l : List Int} (h : bytesL l) (n : Nat) (hn : n ≤ 4096) : ∃ q : List E, (okL q ∧ q.length = n) ∧ ∀ k, n + 20 < k → spec_ExtsOf.f k l (n : Int) = some q := by
 obtain ⟨s, e, hs⟩ := source_ok l
 obtain ⟨q, hq, hk2⟩ := exts_l0 h n hn n 0 [] 0 s 0 (by omega) rfl okL_nil hs (by omega)
 refine ⟨q, hq, fun k hk => ?_⟩
 obtain ⟨p', s', e2⟩ := hk2 k (by omega)
 unfold spec_ExtsOf.f spec_l00Src_exts.f
 rw [e]
 simp only [bS]
 rw [Int.natCast_zero] at e2
 rw [e2]
 simp only [bS]
theorem at_ok {l : List Int} (h : bytesL l) (hl : l.length ≤ 1048576) {a n : Int} (ha : 0 ≤ a) (ha2 : a ≤ 10) (hn : 0 ≤ n) (hn2 : n ≤ 1000000) : ∃ t, laws_at.f l a n = some t ∧ 0 ≤ t ∧ (t < n ∨ t = 0) := by
 unfold laws_at.f
 by_cases h1 : n ≤ 1
 ·
  rw [if_pos h1]; exact ⟨0, rfl, (by omega), (by omega)⟩
 ·
  rw [if_neg h1]
  by_cases h2 : (l.length : Int) = 0
  ·
   rw [if_pos h2, if_neg (by omega), w64 (by omega) (by omega), tmod_nn (by omega)]
   exact ⟨_, rfl, Int.emod_nonneg _ (by omega), Or.inl (Int.emod_lt_of_pos _ (by omega))⟩
  ·
   have hp : 0 < (l.length : Int) := by omega
   have m0 := Int.emod_nonneg a (show (l.length : Int) ≠ 0 by omega)
   have m1 := Int.emod_lt_of_pos a hp
   have m2 := Int.emod_nonneg (a + 1) (show (l.length : Int) ≠ 0 by omega)
   have m3 := Int.emod_lt_of_pos (a + 1) hp
   have r1 := bytesL_rd h m0 m1
   have r2 := bytesL_rd h m2 m3
   have d0 : 0 ≤ a / (l.length : Int) := Int.ediv_nonneg ha (by omega)
   have d1 : a / (l.length : Int) ≤ a := Int.ediv_le_self _ ha
   rw [if_neg h2, tmod_nn ha, w64 (n := a + 1) (by omega) (by omega), tmod_nn (by omega), tdiv_nn ha, if_pos m0, if_pos m1, if_pos m2, if_pos m3, if_neg (by omega),
    w64 (n := rd l (a % (l.length : Int))) (by omega) (by omega), w64 (n := rd l (a % (l.length : Int)) * 31) (by omega) (by omega), w64 (n := rd l ((a + 1) % (l.length : Int))) (by omega) (by omega),
    w64 (n := _ + rd l ((a + 1) % (l.length : Int))) (by omega) (by omega), w64 (n := a / (l.length : Int)) (by omega) (by omega), w64 (n := _ + a / (l.length : Int)) (by omega) (by omega), tmod_nn (by omega)]
   exact ⟨_, rfl, Int.emod_nonneg _ (by omega), Or.inl (Int.emod_lt_of_pos _ (by omega))⟩
end Go.Proofs.Ytgookagndlfehaa.PT
end
section
/- A script's draws are just what it says, round and round, whatever is taken in. -/
namespace Go.Proofs.Ytgookagndlfehaa.fnScript
open Go.Proofs.Ytgookagndlfehaa.PT Go.RowKit Go.Proofs.YtgookagndlfehaaO Go.Proofs.YtgookagndlfehaaW.PrintWords Go.Proofs.YtgookagndlfehaaW.PrintLast Go.Proofs.YtgookagndlfehaaW.PrintMore
set_option linter.unusedVariables false
set_option linter.unusedSimpArgs false
theorem bytes_of {l : List Int} (h : ListGood (IntGood .u8) l) : bytesL l := by
 intro x hx
 have e := h.2 x hx
 have e2 : (Lit.int .u8 x).wf = true := e
 simp only [Lit.wf, IntKind.min, IntKind.max, IntKind.signed, IntKind.bits] at e2
 simp at e2
 omega
theorem clone_yes {l : List E} (h : l.length ≤ 64) : impl_Ext_45.f l = some l := by
 unfold impl_Ext_45.f
 rw [if_pos (by omega)]
theorem SourceOK_yes {l : List E} {i c : Int} {t : ByteArray} (hl : l.length ≤ 64) (ho : okL l) (hs : t.size = 32) (h0 : 0 ≤ i) (h1 : i ≤ 1000000) (h2 : 0 ≤ c) (h3 : c ≤ 1000000) : impl_SourceOK.f l i t c = some true := by
 unfold impl_SourceOK.f impl_isHash.f
 rw [if_pos (show (l.length : Int) ≤ 64 by omega), impl_are_eq, (okLB_iff _).2 ho, hs, impl_in_eq, impl_in_eq, decide_eq_true (show (0 ≤ i ∧ i ≤ 1000000) from ⟨h0, h1⟩), decide_eq_true (show (0 ≤ c ∧ c ≤ 1000000) from ⟨h2, h3⟩)]
 simp only [bS, if_true]
 rfl
theorem absorb_yes {l : List E} {i c : Int} {t x : ByteArray} (hl : l.length ≤ 64) (ho : okL l) (hs : t.size = 32) (h0 : 0 ≤ i) (h1 : i ≤ 1000000) (h2 : 0 ≤ c) (h3 : c ≤ 1000000) (hx : x.size ≤ 1000) :
  ∃ t', t'.size = 32 ∧ impl_AbsorbText.f l i t c x = some (l, i, t', 0, 0) := by
 refine ⟨kec ([nums_ t, [97, 98, 115, 111, 114, 98], four_ ((nums_ x).length : Int), nums_ x].flatten), kec_size _, ?_⟩
 unfold impl_AbsorbText.f impl_Source_copied.f impl_Source_absorb.f
 rw [if_neg (by omega), SourceOK_yes hl ho hs h0 h1 h2 h3, clone_yes hl]
 simp only [bS, if_true]
 rw [if_pos (by omega), if_pos (by rw [PT.nums_length]; omega)]
 simp only [bS]
theorem draw_yes {l : List E} {i c : Int} {t : ByteArray} (hp : 0 < l.length) (hl : l.length ≤ 64) (h0 : 0 ≤ i) (h1 : i ≤ 1000) :
  impl_Source_draw.f l i t c = some ((rd_T34 l (i % (l.length : Int))).f0, (rd_T34 l (i % (l.length : Int))).f1, i + 1, t, c) := by
 have e : dpl i (l.length : Int) = i % (l.length : Int) := by
  unfold dpl
  rw [w64 (n := i + 1) (by omega) (by omega), w64 (by omega) (by omega), show i + 1 - 1 = i by omega, tmod_nn h0]
 unfold impl_Source_draw.f
 rw [if_pos hp, e, if_pos (Int.emod_nonneg _ (by omega)), if_pos (Int.emod_lt_of_pos _ (by omega)), w64 (by omega) (by omega)]
theorem take_yes {l : List E} {i : Int} {t : ByteArray} (hp : 0 < l.length) (hl : l.length ≤ 64) (ho : okL l) (hs : t.size = 32) (h0 : 0 ≤ i) (h1 : i ≤ 1000) (k : Nat) :
  impl_TakeOne.f (k + 2) l i t 0 = some (l, i + 1, t, 0, (rd_T34 l (i % (l.length : Int))).f0, (rd_T34 l (i % (l.length : Int))).f1, 0) := by
 have e : impl_Source_left.f l i t 0 = some (1000000 - i) := by
  unfold impl_Source_left.f mx
  by_cases h : i < 0
  ·
   omega
  ·
   rw [if_neg h, w64 (by omega) (by omega)]
 have ed : impl_Source_draws.f (k + 2) l i t 0 1 = some ([⟨(rd_T34 l (i % (l.length : Int))).f0, (rd_T34 l (i % (l.length : Int))).f1⟩], i + 1, t, 0) := by
  unfold impl_Source_draws.f
  rw [impl_Source_draws.l0, if_pos (by omega), draw_yes hp hl h0 h1]
  simp only [bS]
  rw [if_pos (by simp), show wrap64 ((0 : Int) + 1) = 1 by decide +kernel, impl_Source_draws.l0, if_neg (by omega)]
  rfl
 unfold impl_TakeOne.f impl_TakeSome.f impl_Source_copied.f
 rw [SourceOK_yes hl ho hs h0 (by omega) (by omega) (by omega), impl_in_eq, decide_eq_true (show ((0 : Int) ≤ 1 ∧ (1 : Int) ≤ 100) by omega), e, clone_yes hl]
 simp only [bS, if_true]
 rw [if_neg (by omega), ed]
 simp only [bS]
 rw [if_pos (by simp)]
 rfl
theorem loop {l : List E} (hp : 0 < l.length) (hl : l.length ≤ 6) (ho : okL l) (d : Nat) : ∀ (i k : Nat) (t : ByteArray), i + d = 2 * l.length + 1 → d + 3 < k → t.size = 32 →
  laws_FnScript.l0 k (l.length : Int) l (i : Int) l (i : Int) t 0 = some true := by
 have hb : wrap64 ((wrap64 (2 * (l.length : Int))) + 1) = 2 * (l.length : Int) + 1 := by
  rw [w64 (n := 2 * (l.length : Int)) (by omega) (by omega), w64 (by omega) (by omega)]
 induction d with
 | zero =>
  intro i k t hi hk ht
  obtain ⟨k, rfl⟩ : ∃ m, k = m + 1 := ⟨k - 1, (by omega)⟩
  rw [laws_FnScript.l0, hb, if_neg (by omega)]
 | succ d ih =>
  intro i k t hi hk ht
  obtain ⟨k, rfl⟩ : ∃ m, k = m + 3 := ⟨k - 3, (by omega)⟩
  obtain ⟨t', ht', ea⟩ := absorb_yes (l := l) (i := (i : Int)) (c := 0) (t := t) (x := (⟨#[116, 101, 120, 116]⟩ : ByteArray)) (by omega) ho ht (by omega) (by omega) (by omega) (by omega) (by decide)
  have m0 := Int.emod_nonneg (i : Int) (show (l.length : Int) ≠ 0 by omega)
  have m1 := Int.emod_lt_of_pos (i : Int) (show 0 < (l.length : Int) by omega)
  have et : Int.tmod (i : Int) (l.length : Int) = (i : Int) % (l.length : Int) := tmod_nn (by omega)
  rw [laws_FnScript.l0, hb, if_pos (by omega), ea]
  simp only [bS]
  rw [take_yes hp (by omega) ho ht' (by omega) (by omega), et]
  simp only [bS]
  rw [if_pos ⟨trivial, trivial, (by omega), m0, m1, trivial, trivial⟩]
  rw [w64 (by omega) (by omega), show (i : Int) + 1 = ((i + 1 : Nat) : Int) by omega]
  exact ih (i + 1) (k + 2) t' (by omega) (by omega) ht'
theorem pureFnScript : Pure := by
 intro x y hx hy
 have hbx := bytes_of hx
 have hby := bytes_of hy
 refine ⟨2000 + 1 + 1 + 1 + 1, ?_⟩
 generalize hK : 2000 = K
 unfold laws_FnScript.f
 by_cases h1 : (x.length : Int) > 1048576
 ·
  rw [if_pos h1]
 rw [if_neg h1]
 by_cases h2 : (y.length : Int) > 1048576
 ·
  rw [if_pos h2]
 rw [if_neg h2]
 obtain ⟨nn, en, hn0, hn1⟩ := at_ok hby (by omega) (a := 0) (n := 5) (by omega) (by omega) (by omega) (by omega)
 obtain ⟨n, rfl⟩ := Int.eq_ofNat_of_zero_le hn0
 obtain ⟨l, ⟨ho, hll⟩, el⟩ := ExtsOf_ok hbx (n + 1) (by omega)
 have hsz : ((⟨#[108, 97, 98, 101, 108]⟩ : ByteArray).size : Int) = 5 := by decide
 have est : ∃ st, st.size = 32 ∧ impl_newState.f (⟨#[108, 97, 98, 101, 108]⟩ : ByteArray) = some st := by
  refine ⟨kec (nums_ ((⟨#[115, 111, 117, 114, 99, 101]⟩ : ByteArray) ++ (⟨#[108, 97, 98, 101, 108]⟩ : ByteArray))), kec_size _, ?_⟩
  unfold impl_newState.f impl_hashOf.f
  rw [if_pos (by decide), if_pos (by rw [ByteArray.size_append]; decide)]
  simp only [bS]
 obtain ⟨st, hst, est⟩ := est
 have e5 : impl_NewScript.f (K + 1 + 1 + 1 + 1) (⟨#[108, 97, 98, 101, 108]⟩ : ByteArray) l = some (l, 0, st, 0, 0) := by
  unfold impl_NewScript.f impl_isLong.f
  rw [hsz, decide_eq_false (by omega)]
  simp only [bS, Bool.false_eq_true, if_false]
  rw [decide_eq_false (by omega)]
  simp only [impl_NewScript.j0, Bool.false_eq_true, if_false]
  rw [impl_are_eq, (okLB_iff _).2 ho]
  simp only [bS, if_true]
  rw [hsz, if_neg (by omega), impl_in_eq, decide_eq_true (by omega)]
  simp only [bS, impl_NewScript.j1, Bool.not_true, Bool.false_eq_true, if_false]
  rw [clone_yes (by omega), est]
  simp only [bS]
 have e6 : impl_NewSponge.f (⟨#[108, 97, 98, 101, 108]⟩ : ByteArray) = some ([], 0, st, 0, 0) := by
  unfold impl_NewSponge.f impl_isLong.f
  rw [hsz, decide_eq_false (by omega)]
  simp only [bS, Bool.false_eq_true, if_false]
  rw [if_neg (by omega), est]
  simp only [bS]
 rw [en]
 simp only [bS]
 rw [w64 (by omega) (by omega), show 1 + (n : Int) = ((n + 1 : Nat) : Int) by omega, el _ (by omega)]
 simp only [bS]
 rw [e5]
 simp only [bS]
 rw [e6]
 simp only [bS]
 rw [SourceOK_yes (l := []) (by decide) okL_nil hst (by omega) (by omega) (by omega) (by omega)]
 simp only [bS]
 rw [if_pos ⟨trivial, trivial, trivial, trivial, trivial⟩]
 have e := loop (l := l) (by omega) (by omega) ho (2 * l.length + 1) 0 (K + 1 + 1 + 1 + 1) st (by omega) (by omega) hst
 rw [hll] at e
 exact e
end Go.Proofs.Ytgookagndlfehaa.fnScript
end
