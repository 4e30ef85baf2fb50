/- Part 1 of the proof of FnExactCommitTable: what functions compute, shown step by step, and what that says (the claim's last text states the law). -/
import Derived.Test.YtgookagndlfehaaProg
import Derived.Test.YtgookagndlfehaaVMore
import Derived.Test.YtgookagndlfehaaVWords
import Derived.Test.YtgookagndlfehaaVLast
import Derived.Test.YtgookagndlfehaaVTab
import Derived.Test.YtgookagndlfehaaVFour
import Derived.Test.YtgookagndlfehaaVQPut
import Derived.Test.YtgookagndlfehaaVApart
import Derived.Test.YtgookagndlfehaaVArr
import Derived.Test.YtgookagndlfehaaVZeros
import Derived.Test.YtgookagndlfehaaVFoot
import Derived.Test.YtgookagndlfehaaVKept
import Derived.Test.YtgookagndlfehaaVShare
import Derived.Test.YtgookagndlfehaaVN
import Derived.Test.YtgookagndlfehaaVRepsOne
import Derived.Test.YtgookagndlfehaaVInv
import Derived.Test.YtgookagndlfehaaVNEv
import Derived.Test.YtgookagndlfehaaRows
import Derived.JoinedOf
import Derived.WalkKit
import Derived.ProofKit
import Derived.Below
import Derived.Deep.Draws
import Derived.Deep.AppendLies
import Derived.Maps.AppendAt
import Derived.OwnWalk
import Derived.Laws.BytesArg
import Derived.Laws.MakeOwn
import Derived.Laws.OwnMore
import Derived.Deep.OwnRows
import Derived.Tactics
import Derived.Lib.ConvBytes
import Derived.Laws.Slices
import Derived.KernelRfl
import Derived.RowKit3
import Derived.Deep.LoopGhost
import Derived.Deep.QuietTactic
import Derived.BigQuiet
import Derived.WideLaws
import Derived.Deep.DeepCutAuto
import Derived.Deep.CutBlock
import Derived.Deep.RegionHeld3
import Derived.Laws.Rows
import Derived.Lib.AppendStr
import Derived.ArgAppend
import Derived.Laws.IdiomCopy
import Derived.OrdersHeld
import Derived.Laws.BitsLemmas
import Derived.RowKit
import Derived.Deep.DeepMust
import Derived.Laws.CopyOwn
import Derived.Lib.BufferMore
import Derived.Lib.SliceRun
import Derived.Shelf.Small.Bits
import Derived.Shelf.Strconv.Itoa0
import Derived.OpenShut
import Derived.ShutString
import Derived.ChangeOld
import Derived.SizedLaws
import Derived.Deep.Slices
import Derived.ChangeArms
import Derived.Test.YtgookagndlfehaaZFnExactCommitTable0
section
/- l03Permute: a state permuted. -/
namespace Go.Proofs.Ytgookagndlfehaa.PT
open Go.RowKit Go.Proofs.YtgookagndlfehaaW.PrintWords Go.Proofs.YtgookagndlfehaaW.PrintLast Go.Proofs.YtgookagndlfehaaW.PrintMore
set_option linter.unusedVariables false
set_option linter.unusedSimpArgs false
theorem turn_some {x k : Int} (h0 : 0 ≤ k) (h1 : k ≤ 64) : ∃ r, spec_l03Turn.f x k = some r := by
 unfold spec_l03Turn.f
 by_cases h : k = 0
 ·
  exact ⟨_, if_pos h⟩
 ·
  rw [if_neg h, if_pos h0, if_pos (by rw [IntKind.wrap_u64]; omega)]
  exact ⟨_, rfl⟩
def turn (x k : Int) : Int := (spec_l03Turn.f x k).getD 0
theorem turn_eq {x k : Int} (h0 : 0 ≤ k) (h1 : k ≤ 64) : spec_l03Turn.f x k = some (turn x k) := by
 obtain ⟨r, h⟩ := turn_some (x := x) h0 h1
 unfold turn
 rw [h]
 rfl
def cpl (x : Int) : Int := Go.bits .xor .u64 IntKind.u64.max x
def bnd (x y : Int) : Int := Go.bits .and .u64 x y
def cS (a : List Int) (x : Nat) (c : List Int) : List Int := c.set x (xr (xr (xr (xr (a.getD x 0) (a.getD (x + 5) 0)) (a.getD (x + 10) 0)) (a.getD (x + 15) 0)) (a.getD (x + 20) 0))
def tS (c : List Int) (i : Nat) (a : List Int) : List Int := a.set i (xr (a.getD i 0) (xr (c.getD ((i + 4) % 5) 0) (turn (c.getD ((i + 1) % 5) 0) 1)))
def bS1 (a : List Int) (x y : Nat) (b : List Int) : List Int := b.set (y + 5 * ((2 * x + 3 * y) % 5)) (turn (a.getD (x + 5 * y) 0) (shifts_.getD (x + 5 * y) 0))
def bRw (a : List Int) (x : Nat) (b : List Int) : List Int := iter (bS1 a x) 5 0 b
def hS1 (b : List Int) (x y : Nat) (a : List Int) : List Int := a.set (x + 5 * y) (xr (b.getD (x + 5 * y) 0) (bnd (cpl (b.getD ((x + 1) % 5 + 5 * y) 0)) (b.getD ((x + 2) % 5 + 5 * y) 0)))
def hS (b : List Int) (x : Nat) (a : List Int) : List Int := iter (hS1 b x) 5 0 a
def c_ (a : List Int) : List Int := iter (cS a) 5 0 z5
def t_ (a : List Int) : List Int := iter (tS (c_ a)) 25 0 a
def b_ (a : List Int) : List Int := iter (bRw a) 5 0 z25
def h_ (b a : List Int) : List Int := iter (hS b) 5 0 a
def roundS (r : Nat) (a : List Int) : List Int := roundEnd r (h_ (b_ (t_ a)) (t_ a))
def permS (a : List Int) : List Int := iter roundS 24 0 a
theorem cS_length (a : List Int) (j : Nat) (x : List Int) : (cS a j x).length = x.length := by simp [cS]
theorem tS_length (a : List Int) (j : Nat) (x : List Int) : (tS a j x).length = x.length := by simp [tS]
theorem bS1_length (a : List Int) (i j : Nat) (x : List Int) : (bS1 a i j x).length = x.length := by simp [bS1]
theorem bRw_length (a : List Int) (j : Nat) (x : List Int) : (bRw a j x).length = x.length := iter_length (bS1_length a j) 5 0 x
theorem hS1_length (a : List Int) (i j : Nat) (x : List Int) : (hS1 a i j x).length = x.length := by simp [hS1]
theorem hS_length (a : List Int) (j : Nat) (x : List Int) : (hS a j x).length = x.length := iter_length (hS1_length a j) 5 0 x
theorem c_length (a : List Int) : (c_ a).length = 5 := iter_length (cS_length a) 5 0 z5
theorem t_length (a : List Int) : (t_ a).length = a.length := iter_length (tS_length _) 25 0 a
theorem b_length (a : List Int) : (b_ a).length = 25 := iter_length (bRw_length a) 5 0 z25
theorem h_length (b a : List Int) : (h_ b a).length = a.length := iter_length (hS_length b) 5 0 a
theorem roundS_length (r : Nat) (a : List Int) : (roundS r a).length = a.length := by unfold roundS roundEnd; rw [List.length_set, h_length, t_length]
theorem permS_length (a : List Int) : (permS a).length = a.length := iter_length roundS_length 24 0 a
theorem wr_ {n : Int} {p : Nat} (h : n = (p : Int)) (hp : p < 1000) : wrap64 n = (p : Int) := by rw [h]; unfold wrap64; omega
theorem mv1' {i : Nat} (h : i < 25) : wrap64 ((i : Int) + 4) = (i : Int) + 4 := by unfold wrap64; omega
theorem mv3' {i : Nat} (h : i < 25) : wrap64 ((i : Int) + 1) = (i : Int) + 1 := by unfold wrap64; omega
theorem mv2' {i p : Nat} (h : i < 25) (hp : (i + 4) % 5 = p) : Int.tmod ((i : Int) + 4) 5 = (p : Int) := by rw [Int.tmod_eq_emod_of_nonneg (by omega)]; omega
theorem mv4' {i p : Nat} (h : i < 25) (hp : (i + 1) % 5 = p) : Int.tmod ((i : Int) + 1) 5 = (p : Int) := by rw [Int.tmod_eq_emod_of_nonneg (by omega)]; omega
theorem ix1_ : ∀ x y : Fin 5, wrap64 ((y.val : Int) + wrap64 (5 * Int.tmod (wrap64 (wrap64 (2 * (x.val : Int)) + wrap64 (3 * (y.val : Int)))) 5)) = ((y.val + 5 * ((2 * x.val + 3 * y.val) % 5) : Nat) : Int) ∧ y.val + 5 * ((2 * x.val + 3 * y.val) % 5) < 25 := by decide +kernel
theorem ix1 {x y d : Nat} (hx : x < 5) (hy : y < 5) (hd : y + 5 * ((2 * x + 3 * y) % 5) = d) : wrap64 ((y : Int) + wrap64 (5 * Int.tmod (wrap64 (wrap64 (2 * (x : Int)) + wrap64 (3 * (y : Int)))) 5)) = (d : Int) ∧ d < 25 := by rw [← hd]; exact ix1_ ⟨x, hx⟩ ⟨y, hy⟩
theorem ix2_ : ∀ x y : Fin 5, wrap64 ((x.val : Int) + wrap64 (5 * (y.val : Int))) = ((x.val + 5 * y.val : Nat) : Int) ∧ x.val + 5 * y.val < 25 := by decide +kernel
theorem ix2 {x y d : Nat} (hx : x < 5) (hy : y < 5) (hd : x + 5 * y = d) : wrap64 ((x : Int) + wrap64 (5 * (y : Int))) = (d : Int) ∧ d < 25 := by rw [← hd]; exact ix2_ ⟨x, hx⟩ ⟨y, hy⟩
theorem ix3_ : ∀ x y : Fin 5, (wrap64 (Int.tmod (wrap64 ((x.val : Int) + 1)) 5 + wrap64 (5 * (y.val : Int))) = (((x.val + 1) % 5 + 5 * y.val : Nat) : Int) ∧ (x.val + 1) % 5 + 5 * y.val < 25) ∧ (wrap64 (Int.tmod (wrap64 ((x.val : Int) + 2)) 5 + wrap64 (5 * (y.val : Int))) = (((x.val + 2) % 5 + 5 * y.val : Nat) : Int) ∧ (x.val + 2) % 5 + 5 * y.val < 25) := by decide +kernel
theorem ix3 {x y d e : Nat} (hx : x < 5) (hy : y < 5) (hd : (x + 1) % 5 + 5 * y = d) (he : (x + 2) % 5 + 5 * y = e) : (wrap64 (Int.tmod (wrap64 ((x : Int) + 1)) 5 + wrap64 (5 * (y : Int))) = (d : Int) ∧ d < 25) ∧ (wrap64 (Int.tmod (wrap64 ((x : Int) + 2)) 5 + wrap64 (5 * (y : Int))) = (e : Int) ∧ e < 25) := by rw [← hd, ← he]; exact ix3_ ⟨x, hx⟩ ⟨y, hy⟩
theorem sh_ : ∀ i : Fin 25, 0 ≤ shifts_.getD i.val 0 ∧ shifts_.getD i.val 0 ≤ 64 := by decide +kernel
theorem sh {i : Nat} (h : i < 25) : 0 ≤ shifts_.getD i 0 ∧ shifts_.getD i 0 ≤ 64 := sh_ ⟨i, h⟩
set_option maxHeartbeats 8000000 in
set_option maxRecDepth 100000 in
theorem spec_l03Rounds.calls (w : World) :
  Calls Try.prog 160 #[] w fun e w' => e = .returned (.agg (uarr .u64 consts_)) ∧ Below w.heap.size w w' := by
 have HI := am_ (Inv.start w (fun _ => True) (fun _ _ => trivial))
 have hu157 := Try.underlying157
 go_enter Try.func160, Try.ntmps160
 go_wp2_with (first | ((with_reducible refine gate_dst (N := 0) rfl ?_); refine box_event ?hg (N := 0) ?hd (cs := uarr .u64 z24) (t := 157) ?hr ?_; (case hd => rfl); (case hg => rfl); (case hr => first | (go_simp; done) | (go_simp; rfl)); intro g0 hg w0_ hbox hb; have HI_ := am_ ((HI.out).box hg hbox hb); clear HI; have HI := HI_; clear HI_; clear hb hbox hg) | ((with_reducible refine gate_store (p := 0) (v := .tmp 1) (t := 157) rfl ?_); go_must (refine wpList_store_row rfl 157 _ _ rfl g0 (uarr .u64 consts_) rfl qz7_ 157 (uarr .u64 z24) (Inv.blk0 (HI.out)) (by kernel_rfl) (by rfl) (uarr_one _ _) ?_; have HI_ := am_ (Inv.put0 (HI.out) (uarr .u64 consts_)); clear HI; have HI := HI_; clear HI_; generalize World.setRow _ g0 (uarr .u64 consts_) = w1_ at HI ⊢)))
 refine bodyPost_ret (v := .agg (uarr .u64 consts_)) ?hres rfl ?_
 case hres => exact results_cell_row (fn := Try.f160) (p := 0) rfl _ _ g0 157 (uarr .u64 consts_) (0, 0) _ (by first | rfl | (simp; done)) HI.out.blk0 hu157 rfl (by kernel_rfl)
 exact ⟨rfl, HI.out.below⟩
set_option maxHeartbeats 8000000 in
set_option maxRecDepth 100000 in
theorem spec_l03Shifts.calls (w : World) :
  Calls Try.prog 161 #[] w fun e w' => e = .returned (.agg (uarr .u64 shifts_)) ∧ Below w.heap.size w w' := by
 have HI := am_ (Inv.start w (fun _ => True) (fun _ _ => trivial))
 have hu168 := Try.underlying168
 go_enter Try.func161, Try.ntmps161
 go_wp2_with (first | ((with_reducible refine gate_dst (N := 0) rfl ?_); refine box_event ?hg (N := 0) ?hd (cs := uarr .u64 z25) (t := 168) ?hr ?_; (case hd => rfl); (case hg => rfl); (case hr => first | (go_simp; done) | (go_simp; rfl)); intro g0 hg w0_ hbox hb; have HI_ := am_ ((HI.out).box hg hbox hb); clear HI; have HI := HI_; clear HI_; clear hb hbox hg) | ((with_reducible refine gate_store (p := 0) (v := .tmp 1) (t := 168) rfl ?_); go_must (refine wpList_store_row rfl 168 _ _ rfl g0 (uarr .u64 shifts_) rfl qz7_ 168 (uarr .u64 z25) (Inv.blk0 (HI.out)) (by kernel_rfl) (by rfl) (uarr_one _ _) ?_; have HI_ := am_ (Inv.put0 (HI.out) (uarr .u64 shifts_)); clear HI; have HI := HI_; clear HI_; generalize World.setRow _ g0 (uarr .u64 shifts_) = w1_ at HI ⊢)))
 refine bodyPost_ret (v := .agg (uarr .u64 shifts_)) ?hres rfl ?_
 case hres => exact results_cell_row (fn := Try.f161) (p := 0) rfl _ _ g0 168 (uarr .u64 shifts_) (0, 0) _ (by first | rfl | (simp; done)) HI.out.blk0 hu168 rfl (by kernel_rfl)
 exact ⟨rfl, HI.out.below⟩
set_option maxHeartbeats 8000000 in
set_option maxRecDepth 100000 in
theorem spec_l03Permute.calls (a0 : List Int) (w : World) (hlen : a0.length = 25) :
  Calls Try.prog 129 #[.agg (uarr .u64 a0)] w fun e w' => e = .returned (.agg (uarr .u64 (permS a0))) ∧ Below w.heap.size w w' := by
 have HL := am_ hlen
 have hu133 := Try.underlying133
 have HTT := am_ (show iter roundS 24 0 a0 = permS a0 from rfl)
 have HTL := am_ (show (permS a0).length = 25 from (permS_length a0).trans hlen)
 generalize permS a0 = tt at HTT HTL
 have HI := am_ (Inv.start w (fun _ => True) (fun _ _ => trivial))
 clear hlen
 go_enter Try.func129, Try.ntmps129
 go_wp2_with (first | ((with_reducible refine gate_dst (N := 1) rfl ?_); refine box_event ?hg (N := 1) ?hd (cs := uarr .u64 a0) (t := 133) ?hr ?_; (case hd => rfl); (case hg => rfl); (case hr => first | (go_simp; done) | (go_simp; rfl)); intro g1 hg w1 hbox hb; have HI_ := am_ ((HI.out).box hg hbox hb); clear HI; have HI := HI_; clear HI_; clear hb hbox hg) | ((with_reducible refine gate_dst (N := 2) rfl ?_); refine box_event ?hg (N := 2) ?hd (cs := uarr .u64 z25) (t := 133) ?hr ?_; (case hd => rfl); (case hg => rfl); (case hr => first | (go_simp; done) | (go_simp; rfl)); intro g2 hg w2 hbox hb; have HI_ := am_ ((HI.out).box hg hbox hb); clear HI; have HI := HI_; clear HI_; clear hb hbox hg) | (go_at_call 160; refine (spec_l03Rounds.calls _).mono ?_; rintro e w14 ⟨rfl, hb⟩; have HI_ := am_ (HI.out.grow hb); clear HI; have HI := HI_; clear HI_; clear hb) | ((with_reducible refine gate_dst (N := 3) rfl ?_); refine box_event ?hg (N := 3) ?hd (cs := uarr .u64 z24) (t := 157) ?hr ?_; (case hd => rfl); (case hg => rfl); (case hr => first | (go_simp; done) | (go_simp; rfl)); intro g3 hg w3 hbox hb; have HI_ := am_ ((HI.out).box hg hbox hb); clear HI; have HI := HI_; clear HI_; clear hb hbox hg) | ((with_reducible refine gate_store (p := 3) (v := .tmp 14) (t := 157) rfl ?_); go_must (refine wpList_store_row rfl 157 _ _ rfl g3 (uarr .u64 consts_) rfl qz7_ 157 (uarr .u64 z24) (Inv.blk0 (HI.out)) (by kernel_rfl) (by rfl) (uarr_one _ _) ?_; have HI_ := am_ (Inv.put0 (HI.out) (uarr .u64 consts_)); clear HI; have HI := HI_; clear HI_; generalize World.setRow _ g3 (uarr .u64 consts_) = w4 at HI ⊢)) | (go_at_call 161; refine (spec_l03Shifts.calls _).mono ?_; rintro e w15 ⟨rfl, hb⟩; have HI_ := am_ (HI.out.grow hb); clear HI; have HI := HI_; clear HI_; clear hb) | ((with_reducible refine gate_dst (N := 4) rfl ?_); refine box_event ?hg (N := 4) ?hd (cs := uarr .u64 z25) (t := 168) ?hr ?_; (case hd => rfl); (case hg => rfl); (case hr => first | (go_simp; done) | (go_simp; rfl)); intro g4 hg w5 hbox hb; have HI_ := am_ ((HI.out).box hg hbox hb); clear HI; have HI := HI_; clear HI_; clear hb hbox hg) | ((with_reducible refine gate_store (p := 4) (v := .tmp 15) (t := 168) rfl ?_); go_must (refine wpList_store_row rfl 168 _ _ rfl g4 (uarr .u64 shifts_) rfl qz7_ 168 (uarr .u64 z25) (Inv.blk0 (HI.out)) (by kernel_rfl) (by rfl) (uarr_one _ _) ?_; have HI_ := am_ (Inv.put0 (HI.out) (uarr .u64 shifts_)); clear HI; have HI := HI_; clear HI_; generalize World.setRow _ g4 (uarr .u64 shifts_) = w6 at HI ⊢)))
 go_loopg [5] 24 (fun kq v5 w' => ∃ (r : Nat) (a : List Int), v5 = .int .i64 r ∧ Aside0 (r + kq = 24) ∧ Aside0 (iter roundS kq r a = tt) ∧ Aside0 (a.length = 25) ∧ Aside0 (Inv w NoB w' [blk g1 133 (uarr .u64 a), blk g4 168 (uarr .u64 shifts_), blk g3 157 (uarr .u64 consts_), blk g2 133 (uarr .u64 z25)] (fun _ => True)))
 case atStart => exact ⟨0, a0, rfl, ⟨(by omega)⟩, HTT, HL, ⟨HI.out.front3⟩⟩
 case round =>
  clear HTT HL HI
  obtain ⟨r, a, rfl, HJ, HR, HL, HI⟩ := hrel
  cases gk with
  | zero =>
   have hj := HJ.out
   have c1 : decide ((r : Int) < 24) = false := decide_eq_false (by omega)
   have c2 : decide (r < 24) = false := decide_eq_false (by omega)
   have hi : a = tt := HR.out
   subst hi
   have hl := HL.out
   clear HR hj
   go_wp2_with (first | ((with_reducible refine gate_dst (N := 148) rfl ?_); go_must (refine wpList_load_row rfl 133 _ rfl g1 rfl 133 (uarr .u64 a) (0, 0) _ (HI.out.blk0) hu133 rfl (by rw [uarr_size, hl]; kernel_rfl) ?_)) | ((with_reducible refine gate_store (p := 2) (v := .tmp 148) (t := 133) rfl ?_); go_must (refine wpList_store_row rfl 133 _ _ rfl g2 (uarr .u64 a) rfl qz7_ 133 (uarr .u64 z25) (Inv.blk0 (HI.out.front3)) (by rw [uarr_size, hl]; kernel_rfl) (by rw [uarr_size, uarr_size, hl]; rfl) (uarr_one _ _) ?_; have HI_ := am_ (Inv.put0 (HI.out.front3) (uarr .u64 a)); clear HI; have HI := HI_; clear HI_; generalize World.setRow _ g2 (uarr .u64 a) = w150 at HI ⊢)))
   simp only [Act.put, List.setIfInBounds_toArray, List.set_cons_zero, List.set_cons_succ]
   refine bodyPost_ret (v := .agg (uarr .u64 a)) ?hres rfl ?_
   case hres => exact results_cell_row (fn := Try.f129) (p := 2) rfl _ _ g2 133 (uarr .u64 a) (0, 0) _ (by first | rfl | (simp; done)) HI.out.blk0 hu133 rfl (by rw [uarr_size, hl]; kernel_rfl)
   exact ⟨rfl, HI.out.below⟩
  | succ k1 =>
   have hj := HJ.out
   have c1 : decide ((r : Int) < 24) = true := decide_eq_true (by omega)
   have c2 : decide (r < 24) = true := decide_eq_true (by omega)
   have HR2 := am_ (show iter roundS k1 (r + 1) (roundS r a) = tt from HR.out)
   clear HR hj
   go_wp2_with (first | ((with_reducible refine gate_dst (N := 6) rfl ?_); refine box_event ?hg (N := 6) ?hd (cs := uarr .u64 z5) (t := 158) ?hr ?_; (case hd => rfl); (case hg => rfl); (case hr => first | (go_simp; done) | (go_simp; rfl)); intro g6 hg w7 hbox hb; have HI_ := am_ ((HI.out).box hg hbox hb); clear HI; have HI := HI_; clear HI_; clear hb hbox hg) | ((with_reducible refine gate_store (p := 6) (v := .tmp 20) (t := 158) rfl ?_); go_must (refine wpList_store_row rfl 158 _ _ rfl g6 (uarr .u64 z5) rfl qz7_ 158 (uarr .u64 z5) (Inv.blk0 (HI.out)) (by kernel_rfl) (by rfl) (uarr_one _ _) ?_; have HI_ := am_ (Inv.put0 (HI.out) (uarr .u64 z5)); clear HI; have HI := HI_; clear HI_; generalize World.setRow _ g6 (uarr .u64 z5) = w8 at HI ⊢)))
   clear c1 c2
   have HCD := am_ (show iter (cS a) 5 0 z5 = c_ a from rfl)
   have HCL := am_ (c_length a)
   generalize hC : c_ a = C at HCD HCL
   have HC := am_ hC
   clear hC
   go_loopg [7] 5 (fun kq v7 w' => ∃ (i : Nat) (c : List Int), v7 = .int .i64 i ∧ Aside0 (i + kq = 5) ∧ Aside0 (iter (cS a) kq i c = C) ∧ Aside0 (c.length = 5) ∧ Aside0 (Inv w NoB w' [blk g6 158 (uarr .u64 c), blk g1 133 (uarr .u64 a), blk g4 168 (uarr .u64 shifts_), blk g3 157 (uarr .u64 consts_), blk g2 133 (uarr .u64 z25)] (fun _ => True)))
   case atStart => exact ⟨0, z5, rfl, ⟨(by omega)⟩, HCD, ⟨rfl⟩, HI⟩
   case round =>
    clear HCD HI
    obtain ⟨i, c, rfl, HJ1, HR1, HL1, HI⟩ := hrel
    cases gk with
    | zero =>
     have hj := HJ1.out
     have c1 : decide ((i : Int) < 5) = false := decide_eq_false (by omega)
     have c2 : decide (i < 5) = false := decide_eq_false (by omega)
     have hi : c = C := HR1.out
     subst hi
     clear HR1 hj HJ1
     go_wp2
     clear c1 c2
     have HTD := am_ (show iter (tS c) 25 0 a = t_ a by unfold t_; rw [HC.out])
     have HTL2 := am_ ((t_length a).trans HL.out)
     generalize hT : t_ a = T at HTD HTL2
     have HT := am_ hT
     clear hT
     have HI2 := am_ HI.out.swap
     clear HI
     have HI := HI2
     clear HI2
     go_loopg [8] 25 (fun kq v8 w' => ∃ (i : Nat) (t : List Int), v8 = .int .i64 i ∧ Aside0 (i + kq = 25) ∧ Aside0 (iter (tS c) kq i t = T) ∧ Aside0 (t.length = 25) ∧ Aside0 (Inv w NoB w' [blk g1 133 (uarr .u64 t), blk g6 158 (uarr .u64 c), blk g4 168 (uarr .u64 shifts_), blk g3 157 (uarr .u64 consts_), blk g2 133 (uarr .u64 z25)] (fun _ => True)))
     case atStart => exact ⟨0, a, rfl, ⟨(by omega)⟩, HTD, HL, HI⟩
     case round =>
      clear HTD HI
      obtain ⟨i, t, rfl, HJ1, HR1, HAL, HI⟩ := hrel
      cases gk with
      | zero =>
       have hj := HJ1.out
       have c1 : decide ((i : Int) < 25) = false := decide_eq_false (by omega)
       have c2 : decide (i < 25) = false := decide_eq_false (by omega)
       have hi : t = T := HR1.out
       subst hi
       clear HR1 hj HJ1 HAL
       have HI2 := am_ HI.out.swap.drop
       clear HI
       have HI := HI2
       clear HI2
       go_wp2_with (first | ((with_reducible refine gate_dst (N := 9) rfl ?_); refine box_event ?hg (N := 9) ?hd (cs := uarr .u64 z25) (t := 133) ?hr ?_; (case hd => rfl); (case hg => rfl); (case hr => first | (go_simp; done) | (go_simp; rfl)); intro g9 hg w9 hbox hb; have HI_ := am_ ((HI.out).box hg hbox hb); clear HI; have HI := HI_; clear HI_; clear hb hbox hg) | ((with_reducible refine gate_store (p := 9) (v := .tmp 71) (t := 133) rfl ?_); go_must (refine wpList_store_row rfl 133 _ _ rfl g9 (uarr .u64 z25) rfl qz7_ 133 (uarr .u64 z25) (Inv.blk0 (HI.out)) (by kernel_rfl) (by rfl) (uarr_one _ _) ?_; have HI_ := am_ (Inv.put0 (HI.out) (uarr .u64 z25)); clear HI; have HI := HI_; clear HI_; generalize World.setRow _ g9 (uarr .u64 z25) = w10 at HI ⊢)))
       clear c1 c2
       have HBD := am_ (show iter (bRw t) 5 0 z25 = b_ t from rfl)
       have HBL := am_ (b_length t)
       generalize hB : b_ t = B at HBD HBL
       have HB := am_ hB
       clear hB
       go_loopg [10] 5 (fun kq v10 w' => ∃ (x : Nat) (b : List Int), v10 = .int .i64 x ∧ Aside0 (x + kq = 5) ∧ Aside0 (iter (bRw t) kq x b = B) ∧ Aside0 (b.length = 25) ∧ Aside0 (Inv w NoB w' [blk g9 133 (uarr .u64 b), blk g1 133 (uarr .u64 t), blk g4 168 (uarr .u64 shifts_), blk g3 157 (uarr .u64 consts_), blk g2 133 (uarr .u64 z25)] (fun _ => True)))
       case atStart => exact ⟨0, z25, rfl, ⟨(by omega)⟩, HBD, ⟨rfl⟩, HI⟩
       case round =>
        clear HBD HI
        obtain ⟨x, b, rfl, HJ1, HR1, HBL2, HI⟩ := hrel
        cases gk with
        | zero =>
         have hj := HJ1.out
         have c1 : decide ((x : Int) < 5) = false := decide_eq_false (by omega)
         have c2 : decide (x < 5) = false := decide_eq_false (by omega)
         have hi : b = B := HR1.out
         subst hi
         clear HR1 hj HJ1 HBL2
         go_wp2
         clear c1 c2
         have HZD := am_ (show iter (hS b) 5 0 t = h_ b t from rfl)
         generalize hZ : h_ b t = Z at HZD
         have HZ := am_ hZ
         clear hZ
         have HI2 := am_ HI.out.swap
         clear HI
         have HI := HI2
         clear HI2
         go_loopg [12] 5 (fun kq v12 w' => ∃ (x : Nat) (z : List Int), v12 = .int .i64 x ∧ Aside0 (x + kq = 5) ∧ Aside0 (iter (hS b) kq x z = Z) ∧ Aside0 (z.length = 25) ∧ Aside0 (Inv w NoB w' [blk g1 133 (uarr .u64 z), blk g9 133 (uarr .u64 b), blk g4 168 (uarr .u64 shifts_), blk g3 157 (uarr .u64 consts_), blk g2 133 (uarr .u64 z25)] (fun _ => True)))
         case atStart => exact ⟨0, t, rfl, ⟨(by omega)⟩, HZD, HTL2, HI⟩
         case round =>
          clear HZD HI
          obtain ⟨x, z, rfl, HJ1, HR1, HAL, HI⟩ := hrel
          cases gk with
          | zero =>
           have hj := HJ1.out
           have c1 : decide ((x : Int) < 5) = false := decide_eq_false (by omega)
           have c2 : decide (x < 5) = false := decide_eq_false (by omega)
           have hi : z = Z := HR1.out
           subst hi
           clear HR1 hj HJ1
           go_wp2
           clear c1 c2
           have hl := HAL.out
           have hs0 := row_cell HI.out.blk0 (i := 0) (by omega)
           have hf0 := blk_frozen HI.out.blk0 0
           have hr24 : r < 24 := by have := HJ.out; omega
           have h3 : wr.heap[g3]? = _ := HI.out.get 3 rfl
           have hs1 : wr.cell? ⟨g3, r, none⟩ = some (.int .u64 (consts_.getD r 0)) := row_cell h3 (i := r) hr24
           clear h3
           have hh := HR2.out
           rw [show roundS r a = z.set 0 (xr (z.getD 0 0) (consts_.getD r 0)) by unfold roundS; rw [HT.out, HB.out, HZ.out]; rfl] at hh
           generalize z.getD 0 0 = A at hs0 hh
           generalize consts_.getD r 0 = D at hs1 hh
           have HR3 := am_ hh
           have HL3 := am_ (show (z.set 0 (xr A D)).length = 25 by rw [List.length_set]; exact hl)
           have cr : ((r : Int) < 24) = True := eq_true (by omega)
           have cn : (r < 24) = True := eq_true hr24
           clear hh hl HR2 HAL hr24
           refine start_ (n := 8) (S := fun w' => w'.cell? ⟨g1, 0, none⟩ = some (.int .u64 A) ∧ w'.cell? ⟨g3, r, none⟩ = some (.int .u64 D)) (ds := [7]) #[false, false, false, false, false, false, false, false] (by kernel_rfl) rfl rfl ⟨hs0, hs1⟩ (fun hHeld => ?_)
           refine pure_ (i := 0) (N := some 141) (v := ?_) (a' := ?_) #[true, false, false, false, false, false, false, false] rfl rfl (by kernel_rfl) (fun _ _ _ h => h) (Or.inl ⟨(by rfl), ?_⟩) ?_ ?_
           rotate_left
           ·
            intro w'
            go_simp
            with_reducible rfl
           rotate_left
           ·
            exact ap_
           refine take_ (i := 1) (N := some 142) (v := ?_) (a' := ?_) #[true, true, false, false, false, false, false, false] rfl rfl (by kernel_rfl) (fun _ _ _ h => h) (Or.inl ⟨(by rfl), ?_⟩) hHeld ?_ ?_
           rotate_left
           ·
            rintro w' ⟨s0, s1⟩
            go_simp
            with_reducible rfl
           rotate_left
           ·
            exact ap_
           refine pure_ (i := 2) (N := some 143) (v := ?_) (a' := ?_) #[true, true, true, false, false, false, false, false] rfl rfl (by kernel_rfl) (fun _ _ _ h => h) (Or.inl ⟨(by rfl), ?_⟩) ?_ ?_
           rotate_left
           ·
            intro w'
            go_simp
            with_reducible rfl
           rotate_left
           ·
            exact ap_
           refine pure_ (i := 3) (N := some 144) (v := ?_) (a' := ?_) #[true, true, true, true, false, false, false, false] rfl rfl (by kernel_rfl) (fun _ _ _ h => h) (Or.inl ⟨(by rfl), ?_⟩) ?_ ?_
           rotate_left
           ·
            intro w'
            go_simp
            with_reducible rfl
           rotate_left
           ·
            exact ap_
           refine take_ (i := 4) (N := some 145) (v := ?_) (a' := ?_) #[true, true, true, true, true, false, false, false] rfl rfl (by kernel_rfl) (fun _ _ _ h => h) (Or.inl ⟨(by rfl), ?_⟩) hHeld ?_ ?_
           rotate_left
           ·
            rintro w' ⟨s0, s1⟩
            go_simp
            with_reducible rfl
           rotate_left
           ·
            exact ap_
           refine pure_ (i := 5) (N := some 146) (v := ?_) (a' := ?_) #[true, true, true, true, true, true, false, false] rfl rfl (by kernel_rfl) (fun _ _ _ h => h) (Or.inl ⟨(by rfl), ?_⟩) ?_ ?_
           rotate_left
           ·
            intro w'
            go_simp
            with_reducible rfl
           rotate_left
           ·
            exact ap_
           refine pure_ (i := 6) (N := some 147) (v := ?_) (a' := ?_) #[true, true, true, true, true, true, true, false] rfl rfl (by kernel_rfl) (fun _ _ _ h => h) (Or.inl ⟨(by rfl), ?_⟩) ?_ ?_
           rotate_left
           ·
            intro w'
            go_simp
            with_reducible rfl
           rotate_left
           ·
            exact ap_
           refine last_ (i := 7) (N := none) #[true, true, true, true, true, true, true, true] rfl rfl (by kernel_rfl) (by decide) (fun K hK => ?_)
           refine skip_ (w1 := ?_) (by rfl) rfl ?_ ?_
           rotate_left
           ·
            go_simp
            rfl
           refine hK.out _ _ ?_
           clear hK K
           refine done_ (by kernel_rfl) ?_
           have HI2 := am_ ((HI.out.set0 0 (.int .u64 (xr A D))).swap.drop)
           rw [uarr_put] at HI2
           clear HI hs0 hs1 hf0
           try go_wp2
           go_roundg k1
           case measure => omega
           case rel => exact ⟨r + 1, _, by have := HJ.out; rw [w64_ (by omega) (by omega)]; rfl, ⟨(by have := HJ.out; omega)⟩, HR3, HL3, ⟨(by (with_reducible repeat (first | refine Inv.drewN ?_ _ | refine Inv.drew ?_)); exact HI2.out)⟩⟩
          | succ k2 =>
           have hj := HJ1.out
           have c1 : decide ((x : Int) < 5) = true := decide_eq_true (by omega)
           have c2 : decide (x < 5) = true := decide_eq_true (by omega)
           have HR2i := am_ (show iter (hS b) k2 (x + 1) (hS b x z) = Z from HR1.out)
           have HYD := am_ (show iter (hS1 b x) 5 0 z = hS b x z from rfl)
           have HYL := am_ ((hS_length b x z).trans HAL.out)
           generalize hS b x z = Y at HR2i HYD HYL
           clear HR1 hj
           go_wp2
           clear c1 c2
           go_loopg [13] 5 (fun kq v13 w' => ∃ (y : Nat) (z : List Int), v13 = .int .i64 y ∧ Aside0 (y + kq = 5) ∧ Aside0 (iter (hS1 b x) kq y z = Y) ∧ Aside0 (z.length = 25) ∧ Aside0 (Inv w NoB w' [blk g1 133 (uarr .u64 z), blk g9 133 (uarr .u64 b), blk g4 168 (uarr .u64 shifts_), blk g3 157 (uarr .u64 consts_), blk g2 133 (uarr .u64 z25)] (fun _ => True)))
           case atStart => exact ⟨0, z, rfl, ⟨(by omega)⟩, HYD, HAL, HI⟩
           case round =>
            clear HYD HAL HI z
            obtain ⟨y, z, rfl, HJ2, HR3, HAL, HI⟩ := hrel
            cases gk with
            | zero =>
             have hj := HJ2.out
             have c1 : decide ((y : Int) < 5) = false := decide_eq_false (by omega)
             have c2 : decide (y < 5) = false := decide_eq_false (by omega)
             have hi : z = Y := HR3.out
             subst hi
             clear HR3 hj HJ2
             try go_wp2
             clear c1 c2
             go_roundg k2
             case measure => omega
             case rel => exact ⟨x + 1, _, by have := HJ1.out; rw [w64_ (by omega) (by omega)]; rfl, ⟨(by have := HJ1.out; omega)⟩, HR2i, HAL, HI⟩
            | succ k3 =>
             have hj := HJ2.out
             have c1 : decide ((y : Int) < 5) = true := decide_eq_true (by omega)
             have c2 : decide (y < 5) = true := decide_eq_true (by omega)
             have hi := HR3.out
             rw [iter_succ] at hi
             unfold hS1 at hi
             have hj5 : y < 5 := by omega
             have hx5 : x < 5 := by have := HJ1.out; omega
             have hl := HAL.out
             have hb9 := HBL.out
             have h9 : wr.heap[g9]? = _ := HI.out.get 1 rfl
             generalize hp : x + 5 * y = p at hi
             generalize hq : (x + 1) % 5 + 5 * y = q at hi
             generalize hs : (x + 2) % 5 + 5 * y = s at hi
             obtain ⟨f1, b1⟩ := ix2 hx5 hj5 hp
             obtain ⟨⟨f2, b2⟩, ⟨f3, b3⟩⟩ := ix3 hx5 hj5 hq hs
             have HL2 := am_ (show ∀ v, (z.set p v).length = 25 from fun v => by rw [List.length_set]; exact hl)
             clear hp hq hs hj5 hx5 hj
             have hs0 := row_cell h9 (i := p) (by rw [hb9]; exact b1)
             have hs1 := row_cell h9 (i := q) (by rw [hb9]; exact b2)
             have hs2 := row_cell h9 (i := s) (by rw [hb9]; exact b3)
             have hsp := row_cell HI.out.blk0 (i := p) (by rw [hl]; exact b1)
             have hfs := blk_frozen HI.out.blk0 p
             clear h9 HR3 hl hb9 HAL
             generalize b.getD p 0 = A at hs0 hi
             generalize b.getD q 0 = U at hs1 hi
             generalize b.getD s 0 = V at hs2 hi
             have HR4 := am_ hi
             have hun : ∀ W, (Op.unary .xor (.int .u64 U)).run Try.prog W = .ok (.int .u64 (cpl U)) W := fun W => rfl
             clear hi
             have e1 := lt25 b1
             have e2 := lt25 b2
             have e3 := lt25 b3
             replace b1 := eq_true b1
             replace b2 := eq_true b2
             replace b3 := eq_true b3
             go_wp2
             refine start_ (n := 31) (S := fun w' => w'.cell? ⟨g9, p, none⟩ = some (.int .u64 A) ∧ w'.cell? ⟨g9, q, none⟩ = some (.int .u64 U) ∧ w'.cell? ⟨g9, s, none⟩ = some (.int .u64 V)) (ds := [30]) #[false, false, false, false, false, false, false, false, false, false, false, false, false, false, false, false, false, false, false, false, false, false, false, false, false, false, false, false, false, false, false] (by kernel_rfl) rfl rfl ⟨hs0, hs1, hs2⟩ (fun hHeld => ?_)
             refine pure_ (i := 0) (N := some 111) (v := ?_) (a' := ?_) #[true, false, false, false, false, false, false, false, false, false, false, false, false, false, false, false, false, false, false, false, false, false, false, false, false, false, false, false, false, false, false] rfl rfl (by kernel_rfl) (fun _ _ _ h => h) (Or.inl ⟨(by rfl), ?_⟩) ?_ ?_
             rotate_left
             ·
              intro w'
              go_simp
              with_reducible rfl
             rotate_left
             ·
              exact ap_
             refine pure_ (i := 1) (N := some 112) (v := ?_) (a' := ?_) #[true, true, false, false, false, false, false, false, false, false, false, false, false, false, false, false, false, false, false, false, false, false, false, false, false, false, false, false, false, false, false] rfl rfl (by kernel_rfl) (fun _ _ _ h => h) (Or.inl ⟨(by rfl), ?_⟩) ?_ ?_
             rotate_left
             ·
              intro w'
              go_simp
              with_reducible rfl
             rotate_left
             ·
              exact ap_
             refine pure_ (i := 2) (N := some 113) (v := ?_) (a' := ?_) #[true, true, true, false, false, false, false, false, false, false, false, false, false, false, false, false, false, false, false, false, false, false, false, false, false, false, false, false, false, false, false] rfl rfl (by kernel_rfl) (fun _ _ _ h => h) (Or.inl ⟨(by rfl), ?_⟩) ?_ ?_
             rotate_left
             ·
              intro w'
              go_simp
              with_reducible rfl
             rotate_left
             ·
              exact ap_
             refine pure_ (i := 3) (N := some 114) (v := ?_) (a' := ?_) #[true, true, true, true, false, false, false, false, false, false, false, false, false, false, false, false, false, false, false, false, false, false, false, false, false, false, false, false, false, false, false] rfl rfl (by kernel_rfl) (fun _ _ _ h => h) (Or.inl ⟨(by rfl), ?_⟩) ?_ ?_
             rotate_left
             ·
              intro w'
              go_simp
              with_reducible rfl
             rotate_left
             ·
              exact ap_
             refine pure_ (i := 4) (N := some 115) (v := ?_) (a' := ?_) #[true, true, true, true, true, false, false, false, false, false, false, false, false, false, false, false, false, false, false, false, false, false, false, false, false, false, false, false, false, false, false] rfl rfl (by kernel_rfl) (fun _ _ _ h => h) (Or.inl ⟨(by rfl), ?_⟩) ?_ ?_
             rotate_left
             ·
              intro w'
              go_simp
              with_reducible rfl
             rotate_left
             ·
              exact ap_
             refine pure_ (i := 5) (N := some 116) (v := ?_) (a' := ?_) #[true, true, true, true, true, true, false, false, false, false, false, false, false, false, false, false, false, false, false, false, false, false, false, false, false, false, false, false, false, false, false] rfl rfl (by kernel_rfl) (fun _ _ _ h => h) (Or.inl ⟨(by rfl), ?_⟩) ?_ ?_
             rotate_left
             ·
              intro w'
              go_simp
              with_reducible rfl
             rotate_left
             ·
              exact ap_
             refine pure_ (i := 6) (N := some 117) (v := ?_) (a' := ?_) #[true, true, true, true, true, true, true, false, false, false, false, false, false, false, false, false, false, false, false, false, false, false, false, false, false, false, false, false, false, false, false] rfl rfl (by kernel_rfl) (fun _ _ _ h => h) (Or.inl ⟨(by rfl), ?_⟩) ?_ ?_
             rotate_left
             ·
              intro w'
              go_simp
              with_reducible rfl
             rotate_left
             ·
              exact ap_
             refine pure_ (i := 7) (N := some 118) (v := ?_) (a' := ?_) #[true, true, true, true, true, true, true, true, false, false, false, false, false, false, false, false, false, false, false, false, false, false, false, false, false, false, false, false, false, false, false] rfl rfl (by kernel_rfl) (fun _ _ _ h => h) (Or.inl ⟨(by rfl), ?_⟩) ?_ ?_
             rotate_left
             ·
              intro w'
              go_simp
              with_reducible rfl
             rotate_left
             ·
              exact ap_
             refine pure_ (i := 8) (N := some 119) (v := ?_) (a' := ?_) #[true, true, true, true, true, true, true, true, true, false, false, false, false, false, false, false, false, false, false, false, false, false, false, false, false, false, false, false, false, false, false] rfl rfl (by kernel_rfl) (fun _ _ _ h => h) (Or.inl ⟨(by rfl), ?_⟩) ?_ ?_
             rotate_left
             ·
              intro w'
              go_simp
              with_reducible rfl
             rotate_left
             ·
              exact ap_
             refine take_ (i := 9) (N := some 120) (v := ?_) (a' := ?_) #[true, true, true, true, true, true, true, true, true, true, false, false, false, false, false, false, false, false, false, false, false, false, false, false, false, false, false, false, false, false, false] rfl rfl (by kernel_rfl) (fun _ _ _ h => h) (Or.inl ⟨(by rfl), ?_⟩) hHeld ?_ ?_
             rotate_left
             ·
              rintro w' ⟨s0, s1, s2⟩
              go_simp
              with_reducible rfl
             rotate_left
             ·
              exact ap_
             refine pure_ (i := 10) (N := some 121) (v := ?_) (a' := ?_) #[true, true, true, true, true, true, true, true, true, true, true, false, false, false, false, false, false, false, false, false, false, false, false, false, false, false, false, false, false, false, false] rfl rfl (by kernel_rfl) (fun _ _ _ h => h) (Or.inl ⟨(by rfl), ?_⟩) ?_ ?_
             rotate_left
             ·
              intro w'
              go_simp
              with_reducible rfl
             rotate_left
             ·
              exact ap_
             refine pure_ (i := 11) (N := some 122) (v := ?_) (a' := ?_) #[true, true, true, true, true, true, true, true, true, true, true, true, false, false, false, false, false, false, false, false, false, false, false, false, false, false, false, false, false, false, false] rfl rfl (by kernel_rfl) (fun _ _ _ h => h) (Or.inl ⟨(by rfl), ?_⟩) ?_ ?_
             rotate_left
             ·
              intro w'
              go_simp
              with_reducible rfl
             rotate_left
             ·
              exact ap_
             refine pure_ (i := 12) (N := some 123) (v := ?_) (a' := ?_) #[true, true, true, true, true, true, true, true, true, true, true, true, true, false, false, false, false, false, false, false, false, false, false, false, false, false, false, false, false, false, false] rfl rfl (by kernel_rfl) (fun _ _ _ h => h) (Or.inl ⟨(by rfl), ?_⟩) ?_ ?_
             rotate_left
             ·
              intro w'
              go_simp
              with_reducible rfl
             rotate_left
             ·
              exact ap_
             refine pure_ (i := 13) (N := some 124) (v := ?_) (a' := ?_) #[true, true, true, true, true, true, true, true, true, true, true, true, true, true, false, false, false, false, false, false, false, false, false, false, false, false, false, false, false, false, false] rfl rfl (by kernel_rfl) (fun _ _ _ h => h) (Or.inl ⟨(by rfl), ?_⟩) ?_ ?_
             rotate_left
             ·
              intro w'
              go_simp
              with_reducible rfl
             rotate_left
             ·
              exact ap_
             refine pure_ (i := 14) (N := some 125) (v := ?_) (a' := ?_) #[true, true, true, true, true, true, true, true, true, true, true, true, true, true, true, false, false, false, false, false, false, false, false, false, false, false, false, false, false, false, false] rfl rfl (by kernel_rfl) (fun _ _ _ h => h) (Or.inl ⟨(by rfl), ?_⟩) ?_ ?_
             rotate_left
             ·
              intro w'
              go_simp
              with_reducible rfl
             rotate_left
             ·
              exact ap_
             refine pure_ (i := 15) (N := some 126) (v := ?_) (a' := ?_) #[true, true, true, true, true, true, true, true, true, true, true, true, true, true, true, true, false, false, false, false, false, false, false, false, false, false, false, false, false, false, false] rfl rfl (by kernel_rfl) (fun _ _ _ h => h) (Or.inl ⟨(by rfl), ?_⟩) ?_ ?_
             rotate_left
             ·
              intro w'
              go_simp
              with_reducible rfl
             rotate_left
             ·
              exact ap_
             refine pure_ (i := 16) (N := some 127) (v := ?_) (a' := ?_) #[true, true, true, true, true, true, true, true, true, true, true, true, true, true, true, true, true, false, false, false, false, false, false, false, false, false, false, false, false, false, false] rfl rfl (by kernel_rfl) (fun _ _ _ h => h) (Or.inl ⟨(by rfl), ?_⟩) ?_ ?_
             rotate_left
             ·
              intro w'
              go_simp
              with_reducible rfl
             rotate_left
             ·
              exact ap_
             refine take_ (i := 17) (N := some 128) (v := ?_) (a' := ?_) #[true, true, true, true, true, true, true, true, true, true, true, true, true, true, true, true, true, true, false, false, false, false, false, false, false, false, false, false, false, false, false] rfl rfl (by kernel_rfl) (fun _ _ _ h => h) (Or.inl ⟨(by rfl), ?_⟩) hHeld ?_ ?_
             rotate_left
             ·
              rintro w' ⟨s0, s1, s2⟩
              go_simp
              with_reducible rfl
             rotate_left
             ·
              exact ap_
             refine pure_ (i := 18) (N := some 129) (v := ?_) (a' := ?_) #[true, true, true, true, true, true, true, true, true, true, true, true, true, true, true, true, true, true, true, false, false, false, false, false, false, false, false, false, false, false, false] rfl rfl (by kernel_rfl) (fun _ _ _ h => h) (Or.inl ⟨(by rfl), ?_⟩) ?_ ?_
             rotate_left
             ·
              intro w'
              go_simp
              with_reducible rfl
             rotate_left
             ·
              exact ap_
             refine pure_ (i := 19) (N := some 130) (v := ?_) (a' := ?_) #[true, true, true, true, true, true, true, true, true, true, true, true, true, true, true, true, true, true, true, true, false, false, false, false, false, false, false, false, false, false, false] rfl rfl (by kernel_rfl) (fun _ _ _ h => h) (Or.inl ⟨(by rfl), ?_⟩) ?_ ?_
             rotate_left
             ·
              intro w'
              go_simp
              with_reducible rfl
             rotate_left
             ·
              exact ap_
             refine pure_ (i := 20) (N := some 131) (v := ?_) (a' := ?_) #[true, true, true, true, true, true, true, true, true, true, true, true, true, true, true, true, true, true, true, true, true, false, false, false, false, false, false, false, false, false, false] rfl rfl (by kernel_rfl) (fun _ _ _ h => h) (Or.inl ⟨(by rfl), ?_⟩) ?_ ?_
             rotate_left
             ·
              intro w'
              go_simp
              with_reducible rfl
             rotate_left
             ·
              exact ap_
             refine pure_ (i := 21) (N := some 132) (v := ?_) (a' := ?_) #[true, true, true, true, true, true, true, true, true, true, true, true, true, true, true, true, true, true, true, true, true, true, false, false, false, false, false, false, false, false, false] rfl rfl (by kernel_rfl) (fun _ _ _ h => h) (Or.inl ⟨(by rfl), ?_⟩) ?_ ?_
             rotate_left
             ·
              intro w'
              go_simp
              with_reducible rfl
             rotate_left
             ·
              exact ap_
             refine pure_ (i := 22) (N := some 133) (v := ?_) (a' := ?_) #[true, true, true, true, true, true, true, true, true, true, true, true, true, true, true, true, true, true, true, true, true, true, true, false, false, false, false, false, false, false, false] rfl rfl (by kernel_rfl) (fun _ _ _ h => h) (Or.inl ⟨(by rfl), ?_⟩) ?_ ?_
             rotate_left
             ·
              intro w'
              go_simp
              with_reducible rfl
             rotate_left
             ·
              exact ap_
             refine pure_ (i := 23) (N := some 134) (v := ?_) (a' := ?_) #[true, true, true, true, true, true, true, true, true, true, true, true, true, true, true, true, true, true, true, true, true, true, true, true, false, false, false, false, false, false, false] rfl rfl (by kernel_rfl) (fun _ _ _ h => h) (Or.inl ⟨(by rfl), ?_⟩) ?_ ?_
             rotate_left
             ·
              intro w'
              go_simp
              with_reducible rfl
             rotate_left
             ·
              exact ap_
             refine pure_ (i := 24) (N := some 135) (v := ?_) (a' := ?_) #[true, true, true, true, true, true, true, true, true, true, true, true, true, true, true, true, true, true, true, true, true, true, true, true, true, false, false, false, false, false, false] rfl rfl (by kernel_rfl) (fun _ _ _ h => h) (Or.inl ⟨(by rfl), ?_⟩) ?_ ?_
             rotate_left
             ·
              intro w'
              go_simp
              with_reducible rfl
             rotate_left
             ·
              exact ap_
             refine pure_ (i := 25) (N := some 136) (v := ?_) (a' := ?_) #[true, true, true, true, true, true, true, true, true, true, true, true, true, true, true, true, true, true, true, true, true, true, true, true, true, true, false, false, false, false, false] rfl rfl (by kernel_rfl) (fun _ _ _ h => h) (Or.inl ⟨(by rfl), ?_⟩) ?_ ?_
             rotate_left
             ·
              intro w'
              go_simp
              with_reducible rfl
             rotate_left
             ·
              exact ap_
             refine take_ (i := 26) (N := some 137) (v := ?_) (a' := ?_) #[true, true, true, true, true, true, true, true, true, true, true, true, true, true, true, true, true, true, true, true, true, true, true, true, true, true, true, false, false, false, false] rfl rfl (by kernel_rfl) (fun _ _ _ h => h) (Or.inl ⟨(by rfl), ?_⟩) hHeld ?_ ?_
             rotate_left
             ·
              rintro w' ⟨s0, s1, s2⟩
              go_simp
              with_reducible rfl
             rotate_left
             ·
              exact ap_
             refine pure_ (i := 27) (N := some 138) (v := ?_) (a' := ?_) #[true, true, true, true, true, true, true, true, true, true, true, true, true, true, true, true, true, true, true, true, true, true, true, true, true, true, true, true, false, false, false] rfl rfl (by kernel_rfl) (fun _ _ _ h => h) (Or.inl ⟨(by rfl), ?_⟩) ?_ ?_
             rotate_left
             ·
              intro w'
              go_simp
              with_reducible rfl
             rotate_left
             ·
              exact ap_
             refine pure_ (i := 28) (N := some 139) (v := ?_) (a' := ?_) #[true, true, true, true, true, true, true, true, true, true, true, true, true, true, true, true, true, true, true, true, true, true, true, true, true, true, true, true, true, false, false] rfl rfl (by kernel_rfl) (fun _ _ _ h => h) (Or.inl ⟨(by rfl), ?_⟩) ?_ ?_
             rotate_left
             ·
              intro w'
              go_simp
              with_reducible rfl
             rotate_left
             ·
              exact ap_
             refine pure_ (i := 29) (N := some 140) (v := ?_) (a' := ?_) #[true, true, true, true, true, true, true, true, true, true, true, true, true, true, true, true, true, true, true, true, true, true, true, true, true, true, true, true, true, true, false] rfl rfl (by kernel_rfl) (fun _ _ _ h => h) (Or.inl ⟨(by rfl), ?_⟩) ?_ ?_
             rotate_left
             ·
              intro w'
              go_simp
              with_reducible rfl
             rotate_left
             ·
              exact ap_
             refine last_ (i := 30) (N := none) #[true, true, true, true, true, true, true, true, true, true, true, true, true, true, true, true, true, true, true, true, true, true, true, true, true, true, true, true, true, true, true] rfl rfl (by kernel_rfl) (by decide) (fun K hK => ?_)
             refine skip_ (w1 := ?_) (by rfl) rfl ?_ ?_
             rotate_left
             ·
              go_simp
              rfl
             refine hK.out _ _ ?_
             clear hK K
             refine done_ (by kernel_rfl) ?_
             clear f1 f2 f3 e1 e2 e3 b1 b2 b3 hun
             have HI2 := am_ (HI.out.set0 p (.int .u64 (xr A (bnd (cpl U) V))))
             rw [uarr_put] at HI2
             clear HI hs0 hs1 hs2 hsp hfs
             try go_wp2
             go_roundg k3
             case measure => omega
             case rel => exact ⟨y + 1, _, by have := HJ2.out; rw [w64_ (by omega) (by omega)]; rfl, ⟨(by have := HJ2.out; omega)⟩, HR4, ⟨HL2.out _⟩, ⟨(by (with_reducible repeat (first | refine Inv.drewN ?_ _ | refine Inv.drew ?_)); exact HI2.out)⟩⟩
        | succ k2 =>
         have hj := HJ1.out
         have c1 : decide ((x : Int) < 5) = true := decide_eq_true (by omega)
         have c2 : decide (x < 5) = true := decide_eq_true (by omega)
         have HR2i := am_ (show iter (bRw t) k2 (x + 1) (bRw t x b) = B from HR1.out)
         have HYD := am_ (show iter (bS1 t x) 5 0 b = bRw t x b from rfl)
         have HYL := am_ ((bRw_length t x b).trans HBL2.out)
         generalize bRw t x b = Y at HR2i HYD HYL
         clear HR1 hj
         go_wp2
         clear c1 c2
         go_loopg [11] 5 (fun kq v11 w' => ∃ (y : Nat) (b : List Int), v11 = .int .i64 y ∧ Aside0 (y + kq = 5) ∧ Aside0 (iter (bS1 t x) kq y b = Y) ∧ Aside0 (b.length = 25) ∧ Aside0 (Inv w NoB w' [blk g9 133 (uarr .u64 b), blk g1 133 (uarr .u64 t), blk g4 168 (uarr .u64 shifts_), blk g3 157 (uarr .u64 consts_), blk g2 133 (uarr .u64 z25)] (fun _ => True)))
         case atStart => exact ⟨0, b, rfl, ⟨(by omega)⟩, HYD, HBL2, HI⟩
         case round =>
          clear HYD HBL2 HI b
          obtain ⟨y, b, rfl, HJ2, HR3, HBL, HI⟩ := hrel
          cases gk with
          | zero =>
           have hj := HJ2.out
           have c1 : decide ((y : Int) < 5) = false := decide_eq_false (by omega)
           have c2 : decide (y < 5) = false := decide_eq_false (by omega)
           have hi : b = Y := HR3.out
           subst hi
           clear HR3 hj HJ2
           try go_wp2
           clear c1 c2
           go_roundg k2
           case measure => omega
           case rel => exact ⟨x + 1, _, by have := HJ1.out; rw [w64_ (by omega) (by omega)]; rfl, ⟨(by have := HJ1.out; omega)⟩, HR2i, HBL, HI⟩
          | succ k3 =>
           have hj := HJ2.out
           have c1 : decide ((y : Int) < 5) = true := decide_eq_true (by omega)
           have c2 : decide (y < 5) = true := decide_eq_true (by omega)
           have hi := HR3.out
           rw [iter_succ] at hi
           unfold bS1 at hi
           have hj5 : y < 5 := by omega
           have hx5 : x < 5 := by have := HJ1.out; omega
           have hl := HBL.out
           have hla := HTL2.out
           have h1 : wr.heap[g1]? = _ := HI.out.get 1 rfl
           have h4 : wr.heap[g4]? = _ := HI.out.get 2 rfl
           generalize hp : x + 5 * y = p at hi
           generalize hd : y + 5 * ((2 * x + 3 * y) % 5) = d at hi
           obtain ⟨f1, b1⟩ := ix2 hx5 hj5 hp
           obtain ⟨f2, b2⟩ := ix1 hx5 hj5 hd
           have HL2 := am_ (show ∀ v, (b.set d v).length = 25 from fun v => by rw [List.length_set]; exact hl)
           clear hp hd hj5 hx5 hj
           have hs0 := row_cell h1 (i := p) (by rw [hla]; exact b1)
           have hs1 : wr.cell? ⟨g4, p, none⟩ = some (.int .u64 (shifts_.getD p 0)) := row_cell h4 (i := p) b1
           have HSH := am_ (sh b1)
           have hsd := row_cell HI.out.blk0 (i := d) (by rw [hl]; exact b2)
           have hfs := blk_frozen HI.out.blk0 d
           clear h1 h4 HR3 hl hla HBL
           generalize t.getD p 0 = A at hs0 hi
           generalize shifts_.getD p 0 = D at hs1 hi HSH
           have HR4 := am_ hi
           clear hi
           have e1 := lt25 b1
           have e2 := lt25 b2
           replace b1 := eq_true b1
           replace b2 := eq_true b2
           go_wp2
           refine start_ (n := 24) (S := fun w' => w'.cell? ⟨g1, p, none⟩ = some (.int .u64 A) ∧ w'.cell? ⟨g4, p, none⟩ = some (.int .u64 D)) (ds := [23]) #[false, false, false, false, false, false, false, false, false, false, false, false, false, false, false, false, false, false, false, false, false, false, false, false] (by kernel_rfl) rfl rfl ⟨hs0, hs1⟩ (fun hHeld => ?_)
           refine pure_ (i := 0) (N := some 80) (v := ?_) (a' := ?_) #[true, false, false, false, false, false, false, false, false, false, false, false, false, false, false, false, false, false, false, false, false, false, false, false] rfl rfl (by kernel_rfl) (fun _ _ _ h => h) (Or.inl ⟨(by rfl), ?_⟩) ?_ ?_
           rotate_left
           ·
            intro w'
            go_simp
            with_reducible rfl
           rotate_left
           ·
            exact ap_
           refine pure_ (i := 1) (N := some 81) (v := ?_) (a' := ?_) #[true, true, false, false, false, false, false, false, false, false, false, false, false, false, false, false, false, false, false, false, false, false, false, false] rfl rfl (by kernel_rfl) (fun _ _ _ h => h) (Or.inl ⟨(by rfl), ?_⟩) ?_ ?_
           rotate_left
           ·
            intro w'
            go_simp
            with_reducible rfl
           rotate_left
           ·
            exact ap_
           refine pure_ (i := 2) (N := some 82) (v := ?_) (a' := ?_) #[true, true, true, false, false, false, false, false, false, false, false, false, false, false, false, false, false, false, false, false, false, false, false, false] rfl rfl (by kernel_rfl) (fun _ _ _ h => h) (Or.inl ⟨(by rfl), ?_⟩) ?_ ?_
           rotate_left
           ·
            intro w'
            go_simp
            with_reducible rfl
           rotate_left
           ·
            exact ap_
           refine pure_ (i := 3) (N := some 83) (v := ?_) (a' := ?_) #[true, true, true, true, false, false, false, false, false, false, false, false, false, false, false, false, false, false, false, false, false, false, false, false] rfl rfl (by kernel_rfl) (fun _ _ _ h => h) (Or.inl ⟨(by rfl), ?_⟩) ?_ ?_
           rotate_left
           ·
            intro w'
            go_simp
            with_reducible rfl
           rotate_left
           ·
            exact ap_
           refine pure_ (i := 4) (N := some 84) (v := ?_) (a' := ?_) #[true, true, true, true, true, false, false, false, false, false, false, false, false, false, false, false, false, false, false, false, false, false, false, false] rfl rfl (by kernel_rfl) (fun _ _ _ h => h) (Or.inl ⟨(by rfl), ?_⟩) ?_ ?_
           rotate_left
           ·
            intro w'
            go_simp
            with_reducible rfl
           rotate_left
           ·
            exact ap_
           refine pure_ (i := 5) (N := some 85) (v := ?_) (a' := ?_) #[true, true, true, true, true, true, false, false, false, false, false, false, false, false, false, false, false, false, false, false, false, false, false, false] rfl rfl (by kernel_rfl) (fun _ _ _ h => h) (Or.inl ⟨(by rfl), ?_⟩) ?_ ?_
           rotate_left
           ·
            intro w'
            go_simp
            with_reducible rfl
           rotate_left
           ·
            exact ap_
           refine pure_ (i := 6) (N := some 86) (v := ?_) (a' := ?_) #[true, true, true, true, true, true, true, false, false, false, false, false, false, false, false, false, false, false, false, false, false, false, false, false] rfl rfl (by kernel_rfl) (fun _ _ _ h => h) (Or.inl ⟨(by rfl), ?_⟩) ?_ ?_
           rotate_left
           ·
            intro w'
            go_simp
            with_reducible rfl
           rotate_left
           ·
            exact ap_
           refine pure_ (i := 7) (N := some 87) (v := ?_) (a' := ?_) #[true, true, true, true, true, true, true, true, false, false, false, false, false, false, false, false, false, false, false, false, false, false, false, false] rfl rfl (by kernel_rfl) (fun _ _ _ h => h) (Or.inl ⟨(by rfl), ?_⟩) ?_ ?_
           rotate_left
           ·
            intro w'
            go_simp
            with_reducible rfl
           rotate_left
           ·
            exact ap_
           refine pure_ (i := 8) (N := some 88) (v := ?_) (a' := ?_) #[true, true, true, true, true, true, true, true, true, false, false, false, false, false, false, false, false, false, false, false, false, false, false, false] rfl rfl (by kernel_rfl) (fun _ _ _ h => h) (Or.inl ⟨(by rfl), ?_⟩) ?_ ?_
           rotate_left
           ·
            intro w'
            go_simp
            with_reducible rfl
           rotate_left
           ·
            exact ap_
           refine pure_ (i := 9) (N := some 89) (v := ?_) (a' := ?_) #[true, true, true, true, true, true, true, true, true, true, false, false, false, false, false, false, false, false, false, false, false, false, false, false] rfl rfl (by kernel_rfl) (fun _ _ _ h => h) (Or.inl ⟨(by rfl), ?_⟩) ?_ ?_
           rotate_left
           ·
            intro w'
            go_simp
            with_reducible rfl
           rotate_left
           ·
            exact ap_
           refine pure_ (i := 10) (N := some 90) (v := ?_) (a' := ?_) #[true, true, true, true, true, true, true, true, true, true, true, false, false, false, false, false, false, false, false, false, false, false, false, false] rfl rfl (by kernel_rfl) (fun _ _ _ h => h) (Or.inl ⟨(by rfl), ?_⟩) ?_ ?_
           rotate_left
           ·
            intro w'
            go_simp
            with_reducible rfl
           rotate_left
           ·
            exact ap_
           refine pure_ (i := 11) (N := some 91) (v := ?_) (a' := ?_) #[true, true, true, true, true, true, true, true, true, true, true, true, false, false, false, false, false, false, false, false, false, false, false, false] rfl rfl (by kernel_rfl) (fun _ _ _ h => h) (Or.inl ⟨(by rfl), ?_⟩) ?_ ?_
           rotate_left
           ·
            intro w'
            go_simp
            with_reducible rfl
           rotate_left
           ·
            exact ap_
           refine pure_ (i := 12) (N := some 92) (v := ?_) (a' := ?_) #[true, true, true, true, true, true, true, true, true, true, true, true, true, false, false, false, false, false, false, false, false, false, false, false] rfl rfl (by kernel_rfl) (fun _ _ _ h => h) (Or.inl ⟨(by rfl), ?_⟩) ?_ ?_
           rotate_left
           ·
            intro w'
            go_simp
            with_reducible rfl
           rotate_left
           ·
            exact ap_
           refine pure_ (i := 13) (N := some 93) (v := ?_) (a' := ?_) #[true, true, true, true, true, true, true, true, true, true, true, true, true, true, false, false, false, false, false, false, false, false, false, false] rfl rfl (by kernel_rfl) (fun _ _ _ h => h) (Or.inl ⟨(by rfl), ?_⟩) ?_ ?_
           rotate_left
           ·
            intro w'
            go_simp
            with_reducible rfl
           rotate_left
           ·
            exact ap_
           refine take_ (i := 14) (N := some 94) (v := ?_) (a' := ?_) #[true, true, true, true, true, true, true, true, true, true, true, true, true, true, true, false, false, false, false, false, false, false, false, false] rfl rfl (by kernel_rfl) (fun _ _ _ h => h) (Or.inl ⟨(by rfl), ?_⟩) hHeld ?_ ?_
           rotate_left
           ·
            rintro w' ⟨s0, s1⟩
            go_simp
            with_reducible rfl
           rotate_left
           ·
            exact ap_
           refine pure_ (i := 15) (N := some 95) (v := ?_) (a' := ?_) #[true, true, true, true, true, true, true, true, true, true, true, true, true, true, true, true, false, false, false, false, false, false, false, false] rfl rfl (by kernel_rfl) (fun _ _ _ h => h) (Or.inl ⟨(by rfl), ?_⟩) ?_ ?_
           rotate_left
           ·
            intro w'
            go_simp
            with_reducible rfl
           rotate_left
           ·
            exact ap_
           refine pure_ (i := 16) (N := some 96) (v := ?_) (a' := ?_) #[true, true, true, true, true, true, true, true, true, true, true, true, true, true, true, true, true, false, false, false, false, false, false, false] rfl rfl (by kernel_rfl) (fun _ _ _ h => h) (Or.inl ⟨(by rfl), ?_⟩) ?_ ?_
           rotate_left
           ·
            intro w'
            go_simp
            with_reducible rfl
           rotate_left
           ·
            exact ap_
           refine pure_ (i := 17) (N := some 97) (v := ?_) (a' := ?_) #[true, true, true, true, true, true, true, true, true, true, true, true, true, true, true, true, true, true, false, false, false, false, false, false] rfl rfl (by kernel_rfl) (fun _ _ _ h => h) (Or.inl ⟨(by rfl), ?_⟩) ?_ ?_
           rotate_left
           ·
            intro w'
            go_simp
            with_reducible rfl
           rotate_left
           ·
            exact ap_
           refine pure_ (i := 18) (N := some 98) (v := ?_) (a' := ?_) #[true, true, true, true, true, true, true, true, true, true, true, true, true, true, true, true, true, true, true, false, false, false, false, false] rfl rfl (by kernel_rfl) (fun _ _ _ h => h) (Or.inl ⟨(by rfl), ?_⟩) ?_ ?_
           rotate_left
           ·
            intro w'
            go_simp
            with_reducible rfl
           rotate_left
           ·
            exact ap_
           refine pure_ (i := 19) (N := some 99) (v := ?_) (a' := ?_) #[true, true, true, true, true, true, true, true, true, true, true, true, true, true, true, true, true, true, true, true, false, false, false, false] rfl rfl (by kernel_rfl) (fun _ _ _ h => h) (Or.inl ⟨(by rfl), ?_⟩) ?_ ?_
           rotate_left
           ·
            intro w'
            go_simp
            with_reducible rfl
           rotate_left
           ·
            exact ap_
           refine take_ (i := 20) (N := some 100) (v := ?_) (a' := ?_) #[true, true, true, true, true, true, true, true, true, true, true, true, true, true, true, true, true, true, true, true, true, false, false, false] rfl rfl (by kernel_rfl) (fun _ _ _ h => h) (Or.inl ⟨(by rfl), ?_⟩) hHeld ?_ ?_
           rotate_left
           ·
            rintro w' ⟨s0, s1⟩
            go_simp
            with_reducible rfl
           rotate_left
           ·
            exact ap_
           refine one_ (i := 21) (N := some 101) #[true, true, true, true, true, true, true, true, true, true, true, true, true, true, true, true, true, true, true, true, true, true, false, false] rfl rfl (by kernel_rfl) (by decide) (fun K hK => ?_)
           refine goes_ Try.func162 (by kernel_rfl) rfl #[.int .u64 A, .int .u64 D] (by rfl) rfl rfl (by (try simp only [List.map_toArray, List.map_cons, List.map_nil]); first | done | rfl) ?_
           with_reducible refine (spec_l03Turn.calls A D (turn A D) _ (turn_eq HSH.out.1 HSH.out.2)).mono ?_
           rintro e w12 ⟨rfl, ⟨m1, rfl⟩⟩
           refine ⟨_, rfl, ?_⟩
           refine hK.out _ _ ⟨hs0, hs1⟩ (fun hHeld => ?_)
           clear hK K
           refine norm_ (a' := ?_) ?_ ?_
           rotate_left
           ·
            show Act.put _ (some 101) _ = _
            exact ap_
           refine pure_ (i := 22) (N := some 102) (v := ?_) (a' := ?_) #[true, true, true, true, true, true, true, true, true, true, true, true, true, true, true, true, true, true, true, true, true, true, true, false] rfl rfl (by kernel_rfl) (fun _ _ _ h => h) (Or.inl ⟨(by rfl), ?_⟩) ?_ ?_
           rotate_left
           ·
            intro w'
            go_simp
            with_reducible rfl
           rotate_left
           ·
            exact ap_
           refine last_ (i := 23) (N := none) #[true, true, true, true, true, true, true, true, true, true, true, true, true, true, true, true, true, true, true, true, true, true, true, true] rfl rfl (by kernel_rfl) (by decide) (fun K hK => ?_)
           refine skip_ (w1 := ?_) (by rfl) rfl ?_ ?_
           rotate_left
           ·
            go_simp
            rfl
           refine hK.out _ _ ?_
           clear hK K
           refine done_ (by kernel_rfl) ?_
           clear f1 f2 e1 e2 b1 b2
           have HI2 := am_ (fun n => by have h := (HI.out.drewN n).set0 d (.int .u64 (turn A D)); rw [uarr_put] at h; exact h)
           clear HI hs0 hs1 hsd hfs
           try go_wp2
           go_roundg k3
           case measure => omega
           case rel => exact ⟨y + 1, _, by have := HJ2.out; rw [w64_ (by omega) (by omega)]; rfl, ⟨(by have := HJ2.out; omega)⟩, HR4, ⟨HL2.out _⟩, ⟨(by (with_reducible repeat (first | refine Inv.drewN ?_ _ | refine Inv.drew ?_)); exact HI2.out _)⟩⟩
      | succ k2 =>
       have hj := HJ1.out
       have c1 : decide ((i : Int) < 25) = true := decide_eq_true (by omega)
       have c2 : decide (i < 25) = true := decide_eq_true (by omega)
       have hi := HR1.out
       rw [iter_succ] at hi
       unfold tS at hi
       have hi25 : i < 25 := by omega
       have hl := HAL.out
       have hcl := HCL.out
       have h6 : wr.heap[g6]? = _ := HI.out.get 1 rfl
       have f3 := mv3' hi25
       generalize hp : (i + 4) % 5 = p at hi
       have f2 := mv2' hi25 hp
       have hp5 := mv5 hp
       clear hp
       generalize hq : (i + 1) % 5 = q at hi
       have f4 := mv4' hi25 hq
       have hq5 := mv5 hq
       clear hq
       have HL2 := am_ (show ∀ v, (t.set i v).length = 25 from fun v => by rw [List.length_set]; exact hl)
       have hs0 := row_cell HI.out.blk0 (i := i) (by omega)
       have hfs := blk_frozen HI.out.blk0 i
       have hs1 := row_cell h6 (i := p) (by omega)
       have hs2 := row_cell h6 (i := q) (by omega)
       clear h6 HR1 hj hl hcl HAL
       have f1 := mv1' hi25
       have ci : ((i : Int) < 25) = True := eq_true (by omega)
       have cn : (i < 25) = True := eq_true hi25
       have pp := lt5 hp5
       have pq := lt5 hq5
       have pn := eq_true hp5
       have qn := eq_true hq5
       generalize t.getD i 0 = A at hs0 hi
       generalize c.getD p 0 = U at hs1 hi
       generalize c.getD q 0 = V at hs2 hi
       have HR3 := am_ hi
       clear hi hi25 hp5 hq5
       go_wp2
       refine start_ (n := 18) (S := fun w' => w'.cell? ⟨g1, i, none⟩ = some (.int .u64 A) ∧ w'.cell? ⟨g6, p, none⟩ = some (.int .u64 U) ∧ w'.cell? ⟨g6, q, none⟩ = some (.int .u64 V)) (ds := [17]) #[false, false, false, false, false, false, false, false, false, false, false, false, false, false, false, false, false, false] (by kernel_rfl) rfl rfl ⟨hs0, hs1, hs2⟩ (fun hHeld => ?_)
       refine pure_ (i := 0) (N := some 54) (v := ?_) (a' := ?_) #[true, false, false, false, false, false, false, false, false, false, false, false, false, false, false, false, false, false] rfl rfl (by kernel_rfl) (fun _ _ _ h => h) (Or.inl ⟨(by rfl), ?_⟩) ?_ ?_
       rotate_left
       ·
        intro w'
        go_simp
        with_reducible rfl
       rotate_left
       ·
        exact ap_
       refine pure_ (i := 1) (N := some 55) (v := ?_) (a' := ?_) #[true, true, false, false, false, false, false, false, false, false, false, false, false, false, false, false, false, false] rfl rfl (by kernel_rfl) (fun _ _ _ h => h) (Or.inl ⟨(by rfl), ?_⟩) ?_ ?_
       rotate_left
       ·
        intro w'
        go_simp
        with_reducible rfl
       rotate_left
       ·
        exact ap_
       refine take_ (i := 2) (N := some 56) (v := ?_) (a' := ?_) #[true, true, true, false, false, false, false, false, false, false, false, false, false, false, false, false, false, false] rfl rfl (by kernel_rfl) (fun _ _ _ h => h) (Or.inl ⟨(by rfl), ?_⟩) hHeld ?_ ?_
       rotate_left
       ·
        rintro w' ⟨s0, s1, s2⟩
        go_simp
        with_reducible rfl
       rotate_left
       ·
        exact ap_
       refine pure_ (i := 3) (N := some 57) (v := ?_) (a' := ?_) #[true, true, true, true, false, false, false, false, false, false, false, false, false, false, false, false, false, false] rfl rfl (by kernel_rfl) (fun _ _ _ h => h) (Or.inl ⟨(by rfl), ?_⟩) ?_ ?_
       rotate_left
       ·
        intro w'
        go_simp
        with_reducible rfl
       rotate_left
       ·
        exact ap_
       refine pure_ (i := 4) (N := some 58) (v := ?_) (a' := ?_) #[true, true, true, true, true, false, false, false, false, false, false, false, false, false, false, false, false, false] rfl rfl (by kernel_rfl) (fun _ _ _ h => h) (Or.inl ⟨(by rfl), ?_⟩) ?_ ?_
       rotate_left
       ·
        intro w'
        go_simp
        with_reducible rfl
       rotate_left
       ·
        exact ap_
       refine pure_ (i := 5) (N := some 59) (v := ?_) (a' := ?_) #[true, true, true, true, true, true, false, false, false, false, false, false, false, false, false, false, false, false] rfl rfl (by kernel_rfl) (fun _ _ _ h => h) (Or.inl ⟨(by rfl), ?_⟩) ?_ ?_
       rotate_left
       ·
        intro w'
        go_simp
        with_reducible rfl
       rotate_left
       ·
        exact ap_
       refine pure_ (i := 6) (N := some 60) (v := ?_) (a' := ?_) #[true, true, true, true, true, true, true, false, false, false, false, false, false, false, false, false, false, false] rfl rfl (by kernel_rfl) (fun _ _ _ h => h) (Or.inl ⟨(by rfl), ?_⟩) ?_ ?_
       rotate_left
       ·
        intro w'
        go_simp
        with_reducible rfl
       rotate_left
       ·
        exact ap_
       refine take_ (i := 7) (N := some 61) (v := ?_) (a' := ?_) #[true, true, true, true, true, true, true, true, false, false, false, false, false, false, false, false, false, false] rfl rfl (by kernel_rfl) (fun _ _ _ h => h) (Or.inl ⟨(by rfl), ?_⟩) hHeld ?_ ?_
       rotate_left
       ·
        rintro w' ⟨s0, s1, s2⟩
        go_simp
        with_reducible rfl
       rotate_left
       ·
        exact ap_
       refine pure_ (i := 8) (N := some 62) (v := ?_) (a' := ?_) #[true, true, true, true, true, true, true, true, true, false, false, false, false, false, false, false, false, false] rfl rfl (by kernel_rfl) (fun _ _ _ h => h) (Or.inl ⟨(by rfl), ?_⟩) ?_ ?_
       rotate_left
       ·
        intro w'
        go_simp
        with_reducible rfl
       rotate_left
       ·
        exact ap_
       refine pure_ (i := 9) (N := some 63) (v := ?_) (a' := ?_) #[true, true, true, true, true, true, true, true, true, true, false, false, false, false, false, false, false, false] rfl rfl (by kernel_rfl) (fun _ _ _ h => h) (Or.inl ⟨(by rfl), ?_⟩) ?_ ?_
       rotate_left
       ·
        intro w'
        go_simp
        with_reducible rfl
       rotate_left
       ·
        exact ap_
       refine pure_ (i := 10) (N := some 64) (v := ?_) (a' := ?_) #[true, true, true, true, true, true, true, true, true, true, true, false, false, false, false, false, false, false] rfl rfl (by kernel_rfl) (fun _ _ _ h => h) (Or.inl ⟨(by rfl), ?_⟩) ?_ ?_
       rotate_left
       ·
        intro w'
        go_simp
        with_reducible rfl
       rotate_left
       ·
        exact ap_
       refine pure_ (i := 11) (N := some 65) (v := ?_) (a' := ?_) #[true, true, true, true, true, true, true, true, true, true, true, true, false, false, false, false, false, false] rfl rfl (by kernel_rfl) (fun _ _ _ h => h) (Or.inl ⟨(by rfl), ?_⟩) ?_ ?_
       rotate_left
       ·
        intro w'
        go_simp
        with_reducible rfl
       rotate_left
       ·
        exact ap_
       refine take_ (i := 12) (N := some 66) (v := ?_) (a' := ?_) #[true, true, true, true, true, true, true, true, true, true, true, true, true, false, false, false, false, false] rfl rfl (by kernel_rfl) (fun _ _ _ h => h) (Or.inl ⟨(by rfl), ?_⟩) hHeld ?_ ?_
       rotate_left
       ·
        rintro w' ⟨s0, s1, s2⟩
        go_simp
        with_reducible rfl
       rotate_left
       ·
        exact ap_
       refine one_ (i := 13) (N := some 67) #[true, true, true, true, true, true, true, true, true, true, true, true, true, true, false, false, false, false] rfl rfl (by kernel_rfl) (by decide) (fun K hK => ?_)
       refine goes_ Try.func162 (by kernel_rfl) rfl #[.int .u64 V, .int .u64 1] (by rfl) rfl rfl (by (try simp only [List.map_toArray, List.map_cons, List.map_nil]); first | done | rfl) ?_
       with_reducible refine (spec_l03Turn.calls V 1 (turn V 1) _ (turn_eq (by decide) (by decide))).mono ?_
       rintro e w12 ⟨rfl, ⟨m1, rfl⟩⟩
       refine ⟨_, rfl, ?_⟩
       refine hK.out _ _ ⟨hs0, hs1, hs2⟩ (fun hHeld => ?_)
       clear hK K
       refine norm_ (a' := ?_) ?_ ?_
       rotate_left
       ·
        show Act.put _ (some 67) _ = _
        exact ap_
       refine pure_ (i := 14) (N := some 68) (v := ?_) (a' := ?_) #[true, true, true, true, true, true, true, true, true, true, true, true, true, true, true, false, false, false] rfl rfl (by kernel_rfl) (fun _ _ _ h => h) (Or.inl ⟨(by rfl), ?_⟩) ?_ ?_
       rotate_left
       ·
        intro w'
        go_simp
        with_reducible rfl
       rotate_left
       ·
        exact ap_
       refine pure_ (i := 15) (N := some 69) (v := ?_) (a' := ?_) #[true, true, true, true, true, true, true, true, true, true, true, true, true, true, true, true, false, false] rfl rfl (by kernel_rfl) (fun _ _ _ h => h) (Or.inl ⟨(by rfl), ?_⟩) ?_ ?_
       rotate_left
       ·
        intro w'
        go_simp
        with_reducible rfl
       rotate_left
       ·
        exact ap_
       refine pure_ (i := 16) (N := some 70) (v := ?_) (a' := ?_) #[true, true, true, true, true, true, true, true, true, true, true, true, true, true, true, true, true, false] rfl rfl (by kernel_rfl) (fun _ _ _ h => h) (Or.inl ⟨(by rfl), ?_⟩) ?_ ?_
       rotate_left
       ·
        intro w'
        go_simp
        with_reducible rfl
       rotate_left
       ·
        exact ap_
       refine last_ (i := 17) (N := none) #[true, true, true, true, true, true, true, true, true, true, true, true, true, true, true, true, true, true] rfl rfl (by kernel_rfl) (by decide) (fun K hK => ?_)
       refine skip_ (w1 := ?_) (by rfl) rfl ?_ ?_
       rotate_left
       ·
        go_simp
        rfl
       refine hK.out _ _ ?_
       clear hK K
       refine done_ (by kernel_rfl) ?_
       clear f1 f2 f3 f4 pp pq pn qn
       have HI2 := am_ (fun n => by have h := (HI.out.drewN n).set0 i (.int .u64 (xr A (xr U (turn V 1)))); rw [uarr_put] at h; exact h)
       clear HI hs0 hs1 hs2 hfs
       try go_wp2
       go_roundg k2
       case measure => omega
       case rel => exact ⟨i + 1, _, by have := HJ1.out; rw [w64_ (by omega) (by omega)]; rfl, ⟨(by have := HJ1.out; omega)⟩, HR3, ⟨HL2.out _⟩, ⟨(by (with_reducible repeat (first | refine Inv.drewN ?_ _ | refine Inv.drew ?_)); exact HI2.out _)⟩⟩
    | succ k2 =>
     have hj := HJ1.out
     have c1 : decide ((i : Int) < 5) = true := decide_eq_true (by omega)
     have c2 : decide (i < 5) = true := decide_eq_true (by omega)
     have hi := HR1.out
     rw [iter_succ] at hi
     unfold cS at hi
     have hi5 : i < 5 := by omega
     have hl := HL.out
     have hl1 := HL1.out
     have h1 : wr.heap[g1]? = _ := HI.out.get 1 rfl
     have HL2 := am_ (show ∀ v, (c.set i v).length = 5 from fun v => by rw [List.length_set]; exact hl1)
     have hs0 := row_cell h1 (i := i) (by omega)
     have hs1 := row_cell h1 (i := i + 5) (by omega)
     have hs2 := row_cell h1 (i := i + 10) (by omega)
     have hs3 := row_cell h1 (i := i + 15) (by omega)
     have hs4 := row_cell h1 (i := i + 20) (by omega)
     have hs6 := row_cell HI.out.blk0 (i := i) (by omega)
     have hfs := blk_frozen HI.out.blk0 i
     clear h1 HR1 hj hl hl1
     have ci : ((i : Int) < 5) = True := eq_true (by omega)
     have cn : (i < 5) = True := eq_true (by omega)
     have di : ((i : Int) < 25) = True := eq_true (by omega)
     have dn : (i < 25) = True := eq_true (by omega)
     have f1 := wr_ (n := (i : Int) + 5) (p := i + 5) (by omega) (by omega)
     have f2 := wr_ (n := (i : Int) + 10) (p := i + 10) (by omega) (by omega)
     have f3 := wr_ (n := (i : Int) + 15) (p := i + 15) (by omega) (by omega)
     have f4 := wr_ (n := (i : Int) + 20) (p := i + 20) (by omega) (by omega)
     have b1 : i + 5 < 25 := by omega
     have b2 : i + 10 < 25 := by omega
     have b3 : i + 15 < 25 := by omega
     have b4 : i + 20 < 25 := by omega
     generalize a.getD i 0 = A0 at hs0 hi
     generalize a.getD (i + 5) 0 = A1 at hs1 hi
     generalize a.getD (i + 10) 0 = A2 at hs2 hi
     generalize a.getD (i + 15) 0 = A3 at hs3 hi
     generalize a.getD (i + 20) 0 = A4 at hs4 hi
     have HR3 := am_ hi
     clear hi hi5
     generalize i + 5 = p1 at f1 b1 hs1
     generalize i + 10 = p2 at f2 b2 hs2
     generalize i + 15 = p3 at f3 b3 hs3
     generalize i + 20 = p4 at f4 b4 hs4
     have e1 := lt25 b1
     have e2 := lt25 b2
     have e3 := lt25 b3
     have e4 := lt25 b4
     replace b1 := eq_true b1
     replace b2 := eq_true b2
     replace b3 := eq_true b3
     replace b4 := eq_true b4
     go_wp2
     refine start_ (n := 26) (S := fun w' => w'.cell? ⟨g1, i, none⟩ = some (.int .u64 A0) ∧ w'.cell? ⟨g1, p1, none⟩ = some (.int .u64 A1) ∧ w'.cell? ⟨g1, p2, none⟩ = some (.int .u64 A2) ∧ w'.cell? ⟨g1, p3, none⟩ = some (.int .u64 A3) ∧ w'.cell? ⟨g1, p4, none⟩ = some (.int .u64 A4)) (ds := [25]) #[false, false, false, false, false, false, false, false, false, false, false, false, false, false, false, false, false, false, false, false, false, false, false, false, false, false] (by kernel_rfl) rfl rfl ⟨hs0, hs1, hs2, hs3, hs4⟩ (fun hHeld => ?_)
     refine pure_ (i := 0) (N := some 25) (v := ?_) (a' := ?_) #[true, false, false, false, false, false, false, false, false, false, false, false, false, false, false, false, false, false, false, false, false, false, false, false, false, false] rfl rfl (by kernel_rfl) (fun _ _ _ h => h) (Or.inl ⟨(by rfl), ?_⟩) ?_ ?_
     rotate_left
     ·
      intro w'
      go_simp
      with_reducible rfl
     rotate_left
     ·
      exact ap_
     refine pure_ (i := 1) (N := some 26) (v := ?_) (a' := ?_) #[true, true, false, false, false, false, false, false, false, false, false, false, false, false, false, false, false, false, false, false, false, false, false, false, false, false] rfl rfl (by kernel_rfl) (fun _ _ _ h => h) (Or.inl ⟨(by rfl), ?_⟩) ?_ ?_
     rotate_left
     ·
      intro w'
      go_simp
      with_reducible rfl
     rotate_left
     ·
      exact ap_
     refine pure_ (i := 2) (N := some 27) (v := ?_) (a' := ?_) #[true, true, true, false, false, false, false, false, false, false, false, false, false, false, false, false, false, false, false, false, false, false, false, false, false, false] rfl rfl (by kernel_rfl) (fun _ _ _ h => h) (Or.inl ⟨(by rfl), ?_⟩) ?_ ?_
     rotate_left
     ·
      intro w'
      go_simp
      with_reducible rfl
     rotate_left
     ·
      exact ap_
     refine take_ (i := 3) (N := some 28) (v := ?_) (a' := ?_) #[true, true, true, true, false, false, false, false, false, false, false, false, false, false, false, false, false, false, false, false, false, false, false, false, false, false] rfl rfl (by kernel_rfl) (fun _ _ _ h => h) (Or.inl ⟨(by rfl), ?_⟩) hHeld ?_ ?_
     rotate_left
     ·
      rintro w' ⟨s0, s1, s2, s3, s4⟩
      go_simp
      with_reducible rfl
     rotate_left
     ·
      exact ap_
     refine pure_ (i := 4) (N := some 29) (v := ?_) (a' := ?_) #[true, true, true, true, true, false, false, false, false, false, false, false, false, false, false, false, false, false, false, false, false, false, false, false, false, false] rfl rfl (by kernel_rfl) (fun _ _ _ h => h) (Or.inl ⟨(by rfl), ?_⟩) ?_ ?_
     rotate_left
     ·
      intro w'
      go_simp
      with_reducible rfl
     rotate_left
     ·
      exact ap_
     refine pure_ (i := 5) (N := some 30) (v := ?_) (a' := ?_) #[true, true, true, true, true, true, false, false, false, false, false, false, false, false, false, false, false, false, false, false, false, false, false, false, false, false] rfl rfl (by kernel_rfl) (fun _ _ _ h => h) (Or.inl ⟨(by rfl), ?_⟩) ?_ ?_
     rotate_left
     ·
      intro w'
      go_simp
      with_reducible rfl
     rotate_left
     ·
      exact ap_
     refine pure_ (i := 6) (N := some 31) (v := ?_) (a' := ?_) #[true, true, true, true, true, true, true, false, false, false, false, false, false, false, false, false, false, false, false, false, false, false, false, false, false, false] rfl rfl (by kernel_rfl) (fun _ _ _ h => h) (Or.inl ⟨(by rfl), ?_⟩) ?_ ?_
     rotate_left
     ·
      intro w'
      go_simp
      with_reducible rfl
     rotate_left
     ·
      exact ap_
     refine take_ (i := 7) (N := some 32) (v := ?_) (a' := ?_) #[true, true, true, true, true, true, true, true, false, false, false, false, false, false, false, false, false, false, false, false, false, false, false, false, false, false] rfl rfl (by kernel_rfl) (fun _ _ _ h => h) (Or.inl ⟨(by rfl), ?_⟩) hHeld ?_ ?_
     rotate_left
     ·
      rintro w' ⟨s0, s1, s2, s3, s4⟩
      go_simp
      with_reducible rfl
     rotate_left
     ·
      exact ap_
     refine pure_ (i := 8) (N := some 33) (v := ?_) (a' := ?_) #[true, true, true, true, true, true, true, true, true, false, false, false, false, false, false, false, false, false, false, false, false, false, false, false, false, false] rfl rfl (by kernel_rfl) (fun _ _ _ h => h) (Or.inl ⟨(by rfl), ?_⟩) ?_ ?_
     rotate_left
     ·
      intro w'
      go_simp
      with_reducible rfl
     rotate_left
     ·
      exact ap_
     refine pure_ (i := 9) (N := some 34) (v := ?_) (a' := ?_) #[true, true, true, true, true, true, true, true, true, true, false, false, false, false, false, false, false, false, false, false, false, false, false, false, false, false] rfl rfl (by kernel_rfl) (fun _ _ _ h => h) (Or.inl ⟨(by rfl), ?_⟩) ?_ ?_
     rotate_left
     ·
      intro w'
      go_simp
      with_reducible rfl
     rotate_left
     ·
      exact ap_
     refine pure_ (i := 10) (N := some 35) (v := ?_) (a' := ?_) #[true, true, true, true, true, true, true, true, true, true, true, false, false, false, false, false, false, false, false, false, false, false, false, false, false, false] rfl rfl (by kernel_rfl) (fun _ _ _ h => h) (Or.inl ⟨(by rfl), ?_⟩) ?_ ?_
     rotate_left
     ·
      intro w'
      go_simp
      with_reducible rfl
     rotate_left
     ·
      exact ap_
     refine pure_ (i := 11) (N := some 36) (v := ?_) (a' := ?_) #[true, true, true, true, true, true, true, true, true, true, true, true, false, false, false, false, false, false, false, false, false, false, false, false, false, false] rfl rfl (by kernel_rfl) (fun _ _ _ h => h) (Or.inl ⟨(by rfl), ?_⟩) ?_ ?_
     rotate_left
     ·
      intro w'
      go_simp
      with_reducible rfl
     rotate_left
     ·
      exact ap_
     refine take_ (i := 12) (N := some 37) (v := ?_) (a' := ?_) #[true, true, true, true, true, true, true, true, true, true, true, true, true, false, false, false, false, false, false, false, false, false, false, false, false, false] rfl rfl (by kernel_rfl) (fun _ _ _ h => h) (Or.inl ⟨(by rfl), ?_⟩) hHeld ?_ ?_
     rotate_left
     ·
      rintro w' ⟨s0, s1, s2, s3, s4⟩
      go_simp
      with_reducible rfl
     rotate_left
     ·
      exact ap_
     refine pure_ (i := 13) (N := some 38) (v := ?_) (a' := ?_) #[true, true, true, true, true, true, true, true, true, true, true, true, true, true, false, false, false, false, false, false, false, false, false, false, false, false] rfl rfl (by kernel_rfl) (fun _ _ _ h => h) (Or.inl ⟨(by rfl), ?_⟩) ?_ ?_
     rotate_left
     ·
      intro w'
      go_simp
      with_reducible rfl
     rotate_left
     ·
      exact ap_
     refine pure_ (i := 14) (N := some 39) (v := ?_) (a' := ?_) #[true, true, true, true, true, true, true, true, true, true, true, true, true, true, true, false, false, false, false, false, false, false, false, false, false, false] rfl rfl (by kernel_rfl) (fun _ _ _ h => h) (Or.inl ⟨(by rfl), ?_⟩) ?_ ?_
     rotate_left
     ·
      intro w'
      go_simp
      with_reducible rfl
     rotate_left
     ·
      exact ap_
     refine pure_ (i := 15) (N := some 40) (v := ?_) (a' := ?_) #[true, true, true, true, true, true, true, true, true, true, true, true, true, true, true, true, false, false, false, false, false, false, false, false, false, false] rfl rfl (by kernel_rfl) (fun _ _ _ h => h) (Or.inl ⟨(by rfl), ?_⟩) ?_ ?_
     rotate_left
     ·
      intro w'
      go_simp
      with_reducible rfl
     rotate_left
     ·
      exact ap_
     refine pure_ (i := 16) (N := some 41) (v := ?_) (a' := ?_) #[true, true, true, true, true, true, true, true, true, true, true, true, true, true, true, true, true, false, false, false, false, false, false, false, false, false] rfl rfl (by kernel_rfl) (fun _ _ _ h => h) (Or.inl ⟨(by rfl), ?_⟩) ?_ ?_
     rotate_left
     ·
      intro w'
      go_simp
      with_reducible rfl
     rotate_left
     ·
      exact ap_
     refine take_ (i := 17) (N := some 42) (v := ?_) (a' := ?_) #[true, true, true, true, true, true, true, true, true, true, true, true, true, true, true, true, true, true, false, false, false, false, false, false, false, false] rfl rfl (by kernel_rfl) (fun _ _ _ h => h) (Or.inl ⟨(by rfl), ?_⟩) hHeld ?_ ?_
     rotate_left
     ·
      rintro w' ⟨s0, s1, s2, s3, s4⟩
      go_simp
      with_reducible rfl
     rotate_left
     ·
      exact ap_
     refine pure_ (i := 18) (N := some 43) (v := ?_) (a' := ?_) #[true, true, true, true, true, true, true, true, true, true, true, true, true, true, true, true, true, true, true, false, false, false, false, false, false, false] rfl rfl (by kernel_rfl) (fun _ _ _ h => h) (Or.inl ⟨(by rfl), ?_⟩) ?_ ?_
     rotate_left
     ·
      intro w'
      go_simp
      with_reducible rfl
     rotate_left
     ·
      exact ap_
     refine pure_ (i := 19) (N := some 44) (v := ?_) (a' := ?_) #[true, true, true, true, true, true, true, true, true, true, true, true, true, true, true, true, true, true, true, true, false, false, false, false, false, false] rfl rfl (by kernel_rfl) (fun _ _ _ h => h) (Or.inl ⟨(by rfl), ?_⟩) ?_ ?_
     rotate_left
     ·
      intro w'
      go_simp
      with_reducible rfl
     rotate_left
     ·
      exact ap_
     refine pure_ (i := 20) (N := some 45) (v := ?_) (a' := ?_) #[true, true, true, true, true, true, true, true, true, true, true, true, true, true, true, true, true, true, true, true, true, false, false, false, false, false] rfl rfl (by kernel_rfl) (fun _ _ _ h => h) (Or.inl ⟨(by rfl), ?_⟩) ?_ ?_
     rotate_left
     ·
      intro w'
      go_simp
      with_reducible rfl
     rotate_left
     ·
      exact ap_
     refine pure_ (i := 21) (N := some 46) (v := ?_) (a' := ?_) #[true, true, true, true, true, true, true, true, true, true, true, true, true, true, true, true, true, true, true, true, true, true, false, false, false, false] rfl rfl (by kernel_rfl) (fun _ _ _ h => h) (Or.inl ⟨(by rfl), ?_⟩) ?_ ?_
     rotate_left
     ·
      intro w'
      go_simp
      with_reducible rfl
     rotate_left
     ·
      exact ap_
     refine take_ (i := 22) (N := some 47) (v := ?_) (a' := ?_) #[true, true, true, true, true, true, true, true, true, true, true, true, true, true, true, true, true, true, true, true, true, true, true, false, false, false] rfl rfl (by kernel_rfl) (fun _ _ _ h => h) (Or.inl ⟨(by rfl), ?_⟩) hHeld ?_ ?_
     rotate_left
     ·
      rintro w' ⟨s0, s1, s2, s3, s4⟩
      go_simp
      with_reducible rfl
     rotate_left
     ·
      exact ap_
     refine pure_ (i := 23) (N := some 48) (v := ?_) (a' := ?_) #[true, true, true, true, true, true, true, true, true, true, true, true, true, true, true, true, true, true, true, true, true, true, true, true, false, false] rfl rfl (by kernel_rfl) (fun _ _ _ h => h) (Or.inl ⟨(by rfl), ?_⟩) ?_ ?_
     rotate_left
     ·
      intro w'
      go_simp
      with_reducible rfl
     rotate_left
     ·
      exact ap_
     refine pure_ (i := 24) (N := some 49) (v := ?_) (a' := ?_) #[true, true, true, true, true, true, true, true, true, true, true, true, true, true, true, true, true, true, true, true, true, true, true, true, true, false] rfl rfl (by kernel_rfl) (fun _ _ _ h => h) (Or.inl ⟨(by rfl), ?_⟩) ?_ ?_
     rotate_left
     ·
      intro w'
      go_simp
      with_reducible rfl
     rotate_left
     ·
      exact ap_
     refine last_ (i := 25) (N := none) #[true, true, true, true, true, true, true, true, true, true, true, true, true, true, true, true, true, true, true, true, true, true, true, true, true, true] rfl rfl (by kernel_rfl) (by decide) (fun K hK => ?_)
     refine skip_ (w1 := ?_) (by rfl) rfl ?_ ?_
     rotate_left
     ·
      go_simp
      rfl
     refine hK.out _ _ ?_
     clear hK K
     refine done_ (by kernel_rfl) ?_
     clear f1 f2 f3 f4 e1 e2 e3 e4 b1 b2 b3 b4
     have HI2 := am_ ((HI.out.set0 i (.int .u64 (xr (xr (xr (xr A0 A1) A2) A3) A4))).drew)
     rw [uarr_put] at HI2
     clear HI hs0 hs1 hs2 hs3 hs4 hs6 hfs
     try go_wp2
     go_roundg k2
     case measure => omega
     case rel => exact ⟨i + 1, _, by have := HJ1.out; rw [w64_ (by omega) (by omega)]; rfl, ⟨(by have := HJ1.out; omega)⟩, HR3, ⟨HL2.out _⟩, HI2⟩
end Go.Proofs.Ytgookagndlfehaa.PT
end
section
/- l03Hash: the reference's hash of a text. -/
namespace Go.Proofs.Ytgookagndlfehaa.PT
open Go.RowKit Go.Proofs.YtgookagndlfehaaW.PrintWords Go.Proofs.YtgookagndlfehaaW.PrintLast Go.Proofs.YtgookagndlfehaaW.PrintMore
set_option linter.unusedVariables false
set_option linter.unusedSimpArgs false
def spongeS : Nat → List Int → List Int → List Int
 | 0, _, s => s
 | k + 1, ys, s => spongeS k (ys.drop 136) (permS (xors (lanes_ (ys.take 136)) s))
def kecS (xs : List Int) : ByteArray := strOfNums ((text_ (spongeS ((padded xs).length / 136) (mark (padded xs)) z25)).take 32)
def Byt (xs : List Int) : Prop := ∀ x, x ∈ xs → 0 ≤ x ∧ x < 256
theorem nums_byt (t : ByteArray) : Byt (nums_ t) := by
 intro x hx
 unfold nums_ at hx
 obtain ⟨b, _, rfl⟩ := List.mem_map.1 hx
 have := b.toNat_lt
 omega
theorem nums_str {xs : List Int} (h : Byt xs) : nums_ (strOfNums xs) = xs := by
 unfold nums_
 rw [strOfNums_data, List.map_map]
 refine (List.map_congr_left (fun x hx => ?_)).trans (List.map_id xs)
 obtain ⟨h0, h1⟩ := h x hx
 simp only [Function.comp, id]
 rw [UInt8.toNat_ofNat']
 omega
theorem or128_byt : ∀ b : Fin 256, 0 ≤ Go.bits .or .u8 (b.val : Int) 128 ∧ Go.bits .or .u8 (b.val : Int) 128 < 256 := by decide +kernel
theorem padded_byt {xs : List Int} (h : Byt xs) : Byt (padded xs) := by
 intro x hx
 unfold padded at hx
 rcases List.mem_append.1 hx with hx | hx
 ·
  rcases List.mem_append.1 hx with hx | hx
  ·
   exact h x hx
  ·
   simp at hx; omega
 ·
  have := (List.mem_replicate.1 hx).2; omega
theorem mark_byt {ys : List Int} (h : Byt ys) (hn : 0 < ys.length) : Byt (mark ys) := by
 intro x hx
 unfold mark at hx
 rcases List.mem_or_eq_of_mem_set hx with hx | hx
 ·
  exact h x hx
 ·
  have h2 := h (rdOf 0 ys ((ys.length - 1 : Nat) : Int)) (by unfold rdOf; simp [List.getD, show ys.length - 1 < ys.length by omega])
  have h3 := or128_byt ⟨(rdOf 0 ys ((ys.length - 1 : Nat) : Int)).toNat, (by omega)⟩
  simp only [Int.toNat_of_nonneg h2.1] at h3
  rw [hx]
  exact h3
theorem byt_mid {xs : List Int} (h : Byt xs) (a b : Nat) : Byt ((xs.take b).drop a) := fun x hx => h x (List.mem_of_mem_take (List.mem_of_mem_drop hx))
theorem mark_length (ys : List Int) : (mark ys).length = ys.length := by unfold mark; rw [List.length_set]
set_option maxHeartbeats 8000000 in
set_option maxRecDepth 100000 in
theorem spec_l03Hash.calls0 (t : ByteArray) (w : World) (ht : t.size ≤ 2000000) :
  Calls Try.prog 92 #[.string t] w fun e w' => e = .returned (.string (kecS (nums_ t))) ∧ Below w.heap.size w w' := by
 have HLEN := am_ (show (nums_ t).length ≤ 2000000 by rw [nums_length]; exact ht)
 have hu133 := Try.underlying133
 have HKS := am_ (show strOfNums ((text_ (spongeS ((padded (nums_ t)).length / 136) (mark (padded (nums_ t))) z25)).take 32) = kecS (nums_ t) from rfl)
 generalize kecS (nums_ t) = ks at HKS ⊢
 have HBY := am_ (nums_byt t)
 obtain ⟨i5, hi5, _, hsz5, _⟩ := info_parts info5
 have HI5 := am_ hi5
 have HZ5 := am_ hsz5
 have HRT := am_ (RowT.bytes w t ht)
 have hcv := Go.Lib.run_convert_string_bytes w 9 22 5 t Try.underlying9 Try.underlying22 Try.underlying5
 have HBW := am_ (bytes_below w t)
 generalize Go.Lib.bytesWorld w 5 t = wb at HRT hcv HBW
 have HI := am_ ((Inv.start w (fun _ => True) (fun _ _ => trivial)).pushT HBW.out HRT.out)
 generalize nums_ t = xs at HLEN HKS HBY HRT HI
 generalize Value.slice (some ⟨w.heap.size, 0, none⟩) t.size (grownCap w t.size 0 5) = vb at HRT hcv HI
 clear hi5 hsz5 ht HRT HBW
 go_enter Try.func92, Try.ntmps92
 go_wp2_with (first | ((with_reducible refine gate_builtin (b := .append) (xs := #[.tmp 9, .tmp 10]) rfl ?_); at_builtin; refine wpT_append (base := w.heap.size) rfl (.tmp 9) (.tmp 10) rfl _ _ (1) rfl rfl (Inv.rowT0 HI.out) ?aL HI.out.agr.size ?_; (case aL => have := HLEN.out; omega); intro v11 w11 hR hg hat; have HI_ := am_ (HI.out.stepT hg hR hat); clear HI; have HI := HI_; clear HI_; clear hR hg hat))
 clear hcv
 generalize hpd : padded xs = pd at HKS
 have HPD := am_ hpd
 have HM := am_ (show pd.length % 136 = 0 ∧ pd.length ≤ 4000200 ∧ 1 ≤ pd.length by rw [← hpd]; exact ⟨(padded_length (by have := HLEN.out; omega)).1, (padded_length (by have := HLEN.out; omega)).2, (by unfold padded; simp; omega)⟩)
 have HPB := am_ (show Byt pd by rw [← hpd]; exact padded_byt HBY.out)
 unfold padded at hpd
 have HP0 := am_ hpd
 clear hpd
 go_loopg [3] (padN (xs.length + 1)) (fun kq v3 w' => ∃ (o : List Int), Aside0 (o ++ List.replicate kq 0 = pd) ∧ Aside0 (kq < 136) ∧ Aside0 (Inv w NoB w' [rowT w.heap.size v3 o] (fun _ => True)))
 case atStart => exact ⟨xs ++ [1], HP0, ⟨Nat.mod_lt _ (by decide)⟩, HI⟩
 case round =>
  clear HI HP0
  obtain ⟨o, HR, HQ, HI⟩ := hrel
  have hle := congrArg List.length HR.out
  rw [List.length_append, List.length_replicate] at hle
  have hm := HM.out
  have hq := HQ.out
  cases gk with
  | zero =>
   have hi : o = pd := by have h := HR.out; rw [List.replicate_zero, List.append_nil] at h; exact h
   subst hi
   obtain ⟨hm1, hm2, hm3⟩ := hm
   have m2 : (o.length : Int) % 136 = 0 := by omega
   obtain ⟨go, co, cur, fz, rfl, _, _, _, hco, _⟩ := id HI.out.rowT0
   obtain ⟨n1, hn1⟩ : ∃ n1 : Nat, o.length - 1 = n1 := ⟨_, rfl⟩
   have e10 : wrap64 ((o.length : Int) - 1) = (n1 : Int) := by unfold wrap64; omega
   have q10 : ((n1 : Int) < (o.length : Int)) = True := eq_true (by omega)
   have q10n : (n1 < o.length) = True := eq_true (by omega)
   obtain ⟨hx10, hf10⟩ := HI.out.rowT0.cell (g := go) rfl (j := n1) (by omega)
   have hmk : mark o = o.set n1 (Go.bits .or .u8 (o.getD n1 0) 128) := by unfold mark rdOf; rw [hn1, Int.toNat_natCast]
   have HML := am_ (mark_length o)
   have HMB := am_ (mark_byt HPB.out (show 0 < o.length by omega))
   have HI2 := am_ (Inv.freeze (HI.out.stepT (w1 := wr.setCell ⟨go, n1, none⟩ (.int .u8 (Go.bits .or .u8 (o.getD n1 0) 128))) ⟨rfl, rfl, rfl, by simp [World.setCell], fun k _ hne => Below.heap_setCell wr ⟨go, n1, none⟩ _ k (fun he => hne (by simp [Value.ownBlock, he]))⟩ (HI.out.rowT0.set (g := go) rfl (i := n1) (by omega) _) (.inl rfl)))
   rw [← hmk] at HI2
   generalize mark o = mk at HKS HML HMB HI2
   generalize o.getD n1 0 = b at hx10 HI2
   have HI3 := am_ (HI2.out.weaken (G := fun w' => (Kd.int .u8).C w' (some ⟨go, 0, none⟩) mk.length mk ∧ True) (fun w' h => by obtain ⟨A, c, e, _, hC⟩ := RowT.reads h.1; injection e with e1 e2 e3; rw [e1]; exact ⟨hC, trivial⟩))
   have HCC := am_ (show mk.length ≤ co by rw [HML.out]; exact hco)
   have HOL := am_ (show o.length % 136 = 0 ∧ o.length ≤ 4000200 from ⟨hm1, hm2⟩)
   clear HR HQ hle hm1 hm2 hm3 hq hmk HI HI2 hn1 hco
   have HI := HI3
   clear HI3
   go_wp2_with (first | ((with_reducible refine gate_store (t := 5) (p := 26) (v := .tmp 25) rfl ?_); (refine store_event (t := 5) (p := 26) (v := .tmp 25) (w1 := wr.setCell ⟨go, n1, none⟩ (.int .u8 (Go.bits .or .u8 b 128))) rfl rfl rfl ?hr ?_); (case hr => first | (go_simp; done) | (go_simp; rfl)); (intro w13 hw); rw [← hw] at HI; clear hw) | ((with_reducible refine gate_dst (N := 4) rfl ?_); refine box_event ?hg (N := 4) ?hd (cs := uarr .u64 z25) (t := 133) ?hr ?_; (case hd => rfl); (case hg => rfl); (case hr => first | (go_simp; done) | (go_simp; rfl)); intro g4 hg w14 hbox hb; have HI_ := am_ ((HI.out).box hg hbox hb); clear HI; have HI := HI_; clear HI_; clear hb hbox hg) | ((with_reducible refine gate_store (p := 4) (v := .tmp 27) (t := 133) rfl ?_); go_must (refine wpList_store_row rfl 133 _ _ rfl g4 (uarr .u64 z25) rfl qz7_ 133 (uarr .u64 z25) (Inv.blk0 (HI.out)) (by kernel_rfl) (by rfl) (uarr_one _ _) ?_; have HI_ := am_ (Inv.put0 (HI.out) (uarr .u64 z25)); clear HI; have HI := HI_; clear HI_; generalize World.setRow _ g4 (uarr .u64 z25) = w15 at HI ⊢)))
   clear m2 e10 q10 q10n hx10 hf10
   rw [← HML.out] at HKS HOL
   generalize hA : (some ⟨go, 0, none⟩ : Option Addr) = A at HI ⊢
   clear hA
   rw [← HML.out]
   have HTT := am_ (show spongeS (mk.length / 136) (mk.drop 0) z25 = spongeS (mk.length / 136) mk z25 from rfl)
   generalize spongeS (mk.length / 136) mk z25 = tt at HKS HTT
   go_loopg [5] (mk.length / 136) (fun kq v5 w' => ∃ (q : Nat) (s : List Int), v5 = .int .i64 q ∧ Aside0 (q + 136 * kq = mk.length) ∧ Aside0 (spongeS kq (mk.drop q) s = tt) ∧ Aside0 (s.length = 25) ∧ Aside0 (Inv w NoB w' [blk g4 133 (uarr .u64 s)] (fun w => (Kd.int .u8).C w A mk.length mk ∧ True)))
   case atStart => exact ⟨0, z25, rfl, ⟨(by have := HOL.out; omega)⟩, HTT, ⟨rfl⟩, HI⟩
   case round =>
    clear HI HTT
    obtain ⟨q, s, rfl, HJ, HR, HSL, HI⟩ := hrel
    have hj := HJ.out
    cases gk with
    | zero =>
     have c1 : decide ((q : Int) < (mk.length : Int)) = false := decide_eq_false (by omega)
     have c2 : decide (q < mk.length) = false := decide_eq_false (by omega)
     have hi : s = tt := HR.out
     subst hi
     have hl := HSL.out
     clear HR hj
     go_wp2_with (first | ((with_reducible refine gate_dst (N := 55) rfl ?_); go_must (refine wpList_load_row rfl 133 _ rfl g4 rfl 133 (uarr .u64 s) (0, 0) _ (HI.out.blk0) hu133 rfl (by rw [uarr_size, hl]; kernel_rfl) ?_)) | (go_at_call 130; (refine (spec_l03Text.calls s 32 _ hl (by decide)).mono ?_); rintro e w56 ⟨rfl, hb⟩; have HI_ := am_ (HI.out.grow hb); clear HI; have HI := HI_; clear HI_; clear hb))
     go_ret
     refine ⟨?_, HI.out.below⟩
     rw [← HKS.out]
     rfl
    | succ k1 =>
     have c1 : decide ((q : Int) < (mk.length : Int)) = true := decide_eq_true (by omega)
     have c2 : decide (q < mk.length) = true := decide_eq_true (by omega)
     have hml : mk.length ≤ 4000200 := HOL.out.2
     have e37 : wrap64 ((q : Int) + 136) = (q : Int) + 136 := by unfold wrap64; omega
     obtain ⟨A2, hcut, hC2, hc2⟩ := print_mid_int (P := Try.prog) (k := .u8) 22 5 Try.underlying22 HI5.out HZ5.out A co mk (q : Int) ((q : Int) + 136) (by omega) (by omega) (by omega) HCC.out
     have hC3 := Kd.C_of_reads (h1 := fun _ => rfl) (hC2 _ (Kd.reads_of_C HI.out.now.1))
     have hmid : (mk.take ((q : Int) + 136).toNat).drop (q : Int).toNat = (mk.drop q).take 136 := by
      rw [show ((q : Int) + 136).toNat = q + 136 by omega, Int.toNat_natCast, List.drop_take]
      congr 1
      omega
     have hpl : ((mk.drop q).take 136).length = 136 := by rw [List.length_take, List.length_drop]; omega
     rw [hmid] at hcut hC3
     have HPC := am_ (nums_str (show Byt ((mk.drop q).take 136) from fun x hx => HMB.out x (List.mem_of_mem_drop (List.mem_of_mem_take hx))))
     have hd2 : (mk.drop q).drop 136 = mk.drop (q + 136) := by rw [List.drop_drop]
     have HR2 := am_ (show spongeS k1 (mk.drop (q + 136)) (permS (xors (lanes_ ((mk.drop q).take 136)) s)) = tt by rw [← hd2]; exact HR.out)
     generalize (mk.drop q).take 136 = pc at hcut hC3 hpl HPC HR2
     have hcv := fun c => Kd.C_string (P := Try.prog) (src := 22) (dst := 9) (c := c) Try.underlying22 Try.underlying5 Try.underlying9 hC3
     have HPS := am_ (show (strOfNums pc).size ≤ 200 by rw [strOfNums_size, hpl]; decide)
     clear hC2 hc2 hC3 hmid hpl hd2 HR hj hml
     have hcv1 := hcv (co - q)
     clear hcv
     go_wp2_with (first | (go_at_call 128; (refine (spec_l03Lanes.calls (strOfNums pc) _ HPS.out).mono ?_); rintro e w40 ⟨rfl, hb⟩; have HI_ := am_ (HI.out.grow hb); clear HI; have HI := HI_; clear HI_; clear hb) | ((with_reducible refine gate_dst (N := 6) rfl ?_); refine box_event ?hg (N := 6) ?hd (cs := uarr .u64 z25) (t := 133) ?hr ?_; (case hd => rfl); (case hg => rfl); (case hr => first | (go_simp; done) | (go_simp; rfl)); intro g6 hg w41 hbox hb; have HI_ := am_ ((HI.out).box hg hbox hb); clear HI; have HI := HI_; clear HI_; clear hb hbox hg) | ((with_reducible refine gate_store (p := 6) (v := .tmp 40) (t := 133) rfl ?_); go_must (refine wpList_store_row rfl 133 _ _ rfl g6 (uarr .u64 (lanes_ (nums_ (strOfNums pc)))) rfl qz7_ 133 (uarr .u64 z25) (Inv.blk0 (HI.out)) (by rw [uarr_size, lanes_length]; kernel_rfl) (by rw [uarr_size, uarr_size, lanes_length]; rfl) (uarr_one _ _) ?_; have HI_ := am_ (Inv.put0 (HI.out) (uarr .u64 (lanes_ (nums_ (strOfNums pc))))); clear HI; have HI := HI_; clear HI_; generalize World.setRow _ g6 (uarr .u64 (lanes_ (nums_ (strOfNums pc)))) = w42 at HI ⊢)))
     clear hcut hcv1 e37 c1 c2
     rw [HPC.out] at HI ⊢
     have HLL := am_ (lanes_length pc)
     generalize lanes_ pc = l at HI HR2 HLL ⊢
     have HXL := am_ ((xors_length l s).trans HSL.out)
     have HXD := am_ (show iter (xorInto l) 25 0 s = xors l s from rfl)
     generalize xors l s = X at HR2 HXL HXD
     have HI2 := am_ HI.out.swap
     clear HI
     have HI := HI2
     clear HI2
     go_loopg [7] 25 (fun kq v7 w' => ∃ (i : Nat) (s : List Int), v7 = .int .i64 i ∧ Aside0 (i + kq = 25) ∧ Aside0 (iter (xorInto l) kq i s = X) ∧ Aside0 (s.length = 25) ∧ Aside0 (Inv w NoB w' [blk g4 133 (uarr .u64 s), blk g6 133 (uarr .u64 l)] (fun w => (Kd.int .u8).C w A mk.length mk ∧ True)))
     case atStart => exact ⟨0, s, rfl, ⟨(by omega)⟩, HXD, HSL, HI⟩
     case round =>
      clear HXD HSL HI s
      obtain ⟨i, s, rfl, HJ1, HR1, HSL, HI⟩ := hrel
      cases gk with
      | zero =>
       have hj := HJ1.out
       have c1 : decide ((i : Int) < 25) = false := decide_eq_false (by omega)
       have c2 : decide (i < 25) = false := decide_eq_false (by omega)
       have hi : s = X := HR1.out
       subst hi
       have hl := HSL.out
       have hpl := permS_length s
       rw [hl] at hpl
       clear HR1 hj HJ1
       go_wp2_with (first | ((with_reducible refine gate_dst (N := 53) rfl ?_); go_must (refine wpList_load_row rfl 133 _ rfl g4 rfl 133 (uarr .u64 s) (0, 0) _ (HI.out.blk0) hu133 rfl (by rw [uarr_size, hl]; kernel_rfl) ?_)) | (go_at_call 129; (refine (spec_l03Permute.calls s _ hl).mono ?_); rintro e w54 ⟨rfl, hb⟩; have HI_ := am_ (HI.out.grow hb); clear HI; have HI := HI_; clear HI_; clear hb) | ((with_reducible refine gate_store (p := 4) (v := .tmp 54) (t := 133) rfl ?_); go_must (refine wpList_store_row rfl 133 _ _ rfl g4 (uarr .u64 (permS s)) rfl qz7_ 133 (uarr .u64 s) (Inv.blk0 (HI.out)) (by rw [uarr_size, hpl]; kernel_rfl) (by rw [uarr_size, uarr_size, hpl, hl]) (uarr_one _ _) ?_; have HI_ := am_ (Inv.put0 (HI.out) (uarr .u64 (permS s))); clear HI; have HI := HI_; clear HI_; generalize World.setRow _ g4 (uarr .u64 (permS s)) = w55 at HI ⊢)))
       clear c1 c2 hl
       have HI2 := am_ HI.out.swap.drop
       have e33 : wrap64 ((q : Int) + 136) = (q : Int) + 136 := by have := HJ.out; have := HOL.out.2; unfold wrap64; omega
       try go_wp2
       go_roundg k1
       case measure => omega
       case rel => exact ⟨q + 136, permS s, by first | rfl | (rw [e33]; rfl) | go_num, ⟨(by have := HJ.out; omega)⟩, HR2, ⟨hpl⟩, HI2⟩
      | succ k2 =>
       have hj := HJ1.out
       have c1 : decide ((i : Int) < 25) = true := decide_eq_true (by omega)
       have c2 : decide (i < 25) = true := decide_eq_true (by omega)
       have hi := HR1.out
       rw [iter_succ] at hi
       unfold xorInto at hi
       have hl := HSL.out
       have hll := HLL.out
       have h6 : wr.heap[g6]? = _ := HI.out.get 1 rfl
       have HL2 := am_ (show ∀ v, (s.set i v).length = 25 from fun v => by rw [List.length_set]; exact hl)
       have hs0 := row_cell HI.out.blk0 (i := i) (by omega)
       have hs1 := row_cell h6 (i := i) (by omega)
       have hfs := blk_frozen HI.out.blk0 i
       have ci : ((i : Int) < 25) = True := eq_true (by omega)
       have cn : (i < 25) = True := eq_true (by omega)
       generalize s.getD i 0 = A0 at hs0 hi
       generalize l.getD i 0 = A1 at hs1 hi
       have HR3 := am_ hi
       clear hi hl hll h6 HR1 hj
       go_wp2
       refine start_ (n := 9) (S := fun w' => w'.cell? ⟨g4, i, none⟩ = some (.int .u64 A0) ∧ w'.cell? ⟨g6, i, none⟩ = some (.int .u64 A1)) (ds := [8]) #[false, false, false, false, false, false, false, false, false] (by kernel_rfl) rfl rfl ⟨hs0, hs1⟩ (fun hHeld => ?_)
       refine pure_ (i := 0) (N := some 45) (v := ?_) (a' := ?_) #[true, false, false, false, false, false, false, false, false] rfl rfl (by kernel_rfl) (fun _ _ _ h => h) (Or.inl ⟨(by rfl), ?_⟩) ?_ ?_
       rotate_left
       ·
        intro w'
        go_simp
        with_reducible rfl
       rotate_left
       ·
        exact ap_
       refine pure_ (i := 1) (N := some 46) (v := ?_) (a' := ?_) #[true, true, false, false, false, false, false, false, false] rfl rfl (by kernel_rfl) (fun _ _ _ h => h) (Or.inl ⟨(by rfl), ?_⟩) ?_ ?_
       rotate_left
       ·
        intro w'
        go_simp
        with_reducible rfl
       rotate_left
       ·
        exact ap_
       refine take_ (i := 2) (N := some 47) (v := ?_) (a' := ?_) #[true, true, true, false, false, false, false, false, false] rfl rfl (by kernel_rfl) (fun _ _ _ h => h) (Or.inl ⟨(by rfl), ?_⟩) hHeld ?_ ?_
       rotate_left
       ·
        rintro w' ⟨s0, s1⟩
        go_simp
        with_reducible rfl
       rotate_left
       ·
        exact ap_
       refine pure_ (i := 3) (N := some 48) (v := ?_) (a' := ?_) #[true, true, true, true, false, false, false, false, false] rfl rfl (by kernel_rfl) (fun _ _ _ h => h) (Or.inl ⟨(by rfl), ?_⟩) ?_ ?_
       rotate_left
       ·
        intro w'
        go_simp
        with_reducible rfl
       rotate_left
       ·
        exact ap_
       refine pure_ (i := 4) (N := some 49) (v := ?_) (a' := ?_) #[true, true, true, true, true, false, false, false, false] rfl rfl (by kernel_rfl) (fun _ _ _ h => h) (Or.inl ⟨(by rfl), ?_⟩) ?_ ?_
       rotate_left
       ·
        intro w'
        go_simp
        with_reducible rfl
       rotate_left
       ·
        exact ap_
       refine take_ (i := 5) (N := some 50) (v := ?_) (a' := ?_) #[true, true, true, true, true, true, false, false, false] rfl rfl (by kernel_rfl) (fun _ _ _ h => h) (Or.inl ⟨(by rfl), ?_⟩) hHeld ?_ ?_
       rotate_left
       ·
        rintro w' ⟨s0, s1⟩
        go_simp
        with_reducible rfl
       rotate_left
       ·
        exact ap_
       refine pure_ (i := 6) (N := some 51) (v := ?_) (a' := ?_) #[true, true, true, true, true, true, true, false, false] rfl rfl (by kernel_rfl) (fun _ _ _ h => h) (Or.inl ⟨(by rfl), ?_⟩) ?_ ?_
       rotate_left
       ·
        intro w'
        go_simp
        with_reducible rfl
       rotate_left
       ·
        exact ap_
       refine pure_ (i := 7) (N := some 52) (v := ?_) (a' := ?_) #[true, true, true, true, true, true, true, true, false] rfl rfl (by kernel_rfl) (fun _ _ _ h => h) (Or.inl ⟨(by rfl), ?_⟩) ?_ ?_
       rotate_left
       ·
        intro w'
        go_simp
        with_reducible rfl
       rotate_left
       ·
        exact ap_
       refine last_ (i := 8) (N := none) #[true, true, true, true, true, true, true, true, true] rfl rfl (by kernel_rfl) (by decide) (fun K hK => ?_)
       refine skip_ (w1 := ?_) (by rfl) rfl ?_ ?_
       rotate_left
       ·
        go_simp
        rfl
       refine hK.out _ _ ?_
       clear hK K
       refine done_ (by kernel_rfl) ?_
       have HI2 := am_ (HI.out.set0 i (.int .u64 (xr A0 A1)))
       rw [uarr_put] at HI2
       clear HI hs0 hs1 hfs
       try go_wp2
       go_roundg k2
       case measure => omega
       case rel => exact ⟨i + 1, _, by have := HJ1.out; rw [w64_ (by omega) (by omega)]; rfl, ⟨(by have := HJ1.out; omega)⟩, HR3, ⟨HL2.out _⟩, ⟨(by (with_reducible repeat (first | refine Inv.drewN ?_ _ | refine Inv.drew ?_)); exact HI2.out)⟩⟩
  | succ k1 =>
   have m2 : ((o.length : Int) % 136 == 0) = false := beq_eq_false_iff_ne.mpr (by omega)
   have m3 : ((o.length : Int) % 136 != 0) = true := bne_iff_ne.mpr (by omega)
   have HR2 := am_ (show (o ++ [0]) ++ List.replicate k1 0 = pd by rw [← HR.out, List.append_assoc]; congr 1)
   obtain ⟨A3, c3, rfl, hc3, _⟩ := HI.out.rowT0.reads
   have HOL := am_ (show o.length ≤ 4000200 by omega)
   clear hle hm HR
   go_wp2_with (first | ((with_reducible refine gate_builtin (b := .append) (xs := #[.tmp 16, .tmp 17]) rfl ?_); at_builtin; refine wpT_append (base := w.heap.size) rfl (.tmp 16) (.tmp 17) rfl _ _ (0) rfl rfl (Inv.rowT0 HI.out) ?aL HI.out.agr.size ?_; (case aL => have := HOL.out; omega); intro v18 w18 hR hg hat; have HI_ := am_ (HI.out.stepT hg hR hat); clear HI; have HI := HI_; clear HI_; clear hR hg hat))
   go_roundg k1
   case measure => omega
   case rel => exact ⟨o ++ [0], HR2, ⟨(by omega)⟩, HI⟩
end Go.Proofs.Ytgookagndlfehaa.PT
end
section
/- The two hashes are one: the reference's permutation is the program's. -/
namespace Go.Proofs.Ytgookagndlfehaa.PT
open Go.RowKit Go.Proofs.YtgookagndlfehaaW.PrintWords Go.Proofs.YtgookagndlfehaaW.PrintLast Go.Proofs.YtgookagndlfehaaW.PrintMore
set_option linter.unusedVariables false
set_option linter.unusedSimpArgs false
def In64 (x : Int) : Prop := 0 ≤ x ∧ x < 18446744073709551616
def U64 (l : List Int) : Prop := ∀ x, x ∈ l → In64 x
theorem bits_in (op : BinOp) (x y : Int) : In64 (Go.bits op .u64 x y) := by
 unfold Go.bits In64
 simp only [IntKind.wrap_u64]
 omega
theorem of_in {x : Int} (h : In64 x) : ((BitVec.ofInt 64 x).toNat : Int) = x := by
 obtain ⟨h0, h1⟩ := h
 rw [BitVec.toNat_ofInt]
 have : x % ((2 ^ 64 : Nat) : Int) = x := Int.emod_eq_of_lt h0 (by simpa using h1)
 rw [this]
 exact Int.toNat_of_nonneg h0
theorem wrap_in {x : Int} (h : In64 x) : IntKind.u64.wrap x = x := by
 obtain ⟨h0, h1⟩ := h
 rw [IntKind.wrap_u64]
 omega
theorem bv_in (b : BitVec 64) : In64 (b.toNat : Int) := by
 have := b.isLt
 unfold In64
 omega
theorem ofInt_wrap (b : BitVec 64) : BitVec.ofInt 64 (IntKind.u64.wrap (b.toNat : Int)) = b := by
 rw [wrap_in (bv_in b)]
 apply BitVec.eq_of_toNat_eq
 have h := of_in (bv_in b)
 exact Int.ofNat_inj.1 h
theorem xr0 {x : Int} (h : In64 x) : xr 0 x = x := by
 unfold xr Go.bits
 show IntKind.u64.wrap (((BitVec.ofInt 64 0 ^^^ BitVec.ofInt 64 x).toNat : Nat) : Int) = x
 rw [show BitVec.ofInt 64 0 = 0#64 from rfl, BitVec.zero_xor, of_in h, wrap_in h]
theorem or0 {x : Int} (h : In64 x) : Go.bits .or .u64 x 0 = x := by
 unfold Go.bits
 show IntKind.u64.wrap (((BitVec.ofInt 64 x ||| BitVec.ofInt 64 0).toNat : Nat) : Int) = x
 rw [show BitVec.ofInt 64 0 = 0#64 from rfl, BitVec.or_zero, of_in h, wrap_in h]
theorem an_eq (x y : Int) : bnd (cpl y) x = an x y := by
 unfold bnd cpl an Go.bits
 show IntKind.u64.wrap (((BitVec.ofInt 64 (IntKind.u64.wrap (((BitVec.ofInt 64 IntKind.u64.max ^^^ BitVec.ofInt 64 y).toNat : Nat) : Int)) &&& BitVec.ofInt 64 x).toNat : Nat) : Int) = IntKind.u64.wrap (((BitVec.ofInt 64 x &&& ~~~ BitVec.ofInt 64 y).toNat : Nat) : Int)
 rw [ofInt_wrap, show BitVec.ofInt 64 IntKind.u64.max = BitVec.allOnes 64 from by decide, BitVec.allOnes_xor, BitVec.and_comm]
theorem xr_in (x y : Int) : In64 (xr x y) := bits_in _ _ _
theorem k63 : ∀ k : Fin 64, Go.bits .and .u64 (IntKind.u64.wrap (k.val : Int)) 63 = (k.val : Int) ∧ 0 ≤ IntKind.u64.wrap (64 - (k.val : Int)) := by decide +kernel
theorem turn_in {x k : Int} (h : In64 x) (h0 : 0 ≤ k) (h1 : k ≤ 64) : In64 (turn x k) := by
 unfold turn spec_l03Turn.f
 by_cases hk : k = 0
 ·
  rw [if_pos hk]; exact h
 ·
  rw [if_neg hk, if_pos h0, if_pos (by rw [IntKind.wrap_u64]; omega), Option.getD_some]
  exact bits_in _ _ _
theorem rot_turn {x : Int} (h : In64 x) (k : Nat) (hk : k < 64) : rot x (k : Int) = turn x (k : Int) := by
 obtain ⟨h1, h2⟩ := k63 ⟨k, hk⟩
 simp only at h1 h2
 unfold rot bits_RotateLeft64.f turn spec_l03Turn.f
 rw [h1, if_pos (by omega), if_pos h2]
 by_cases h0 : (k : Int) = 0
 ·
  rw [if_pos h0, h0]
  have e1 : shl .u64 x 0 = x := by
   show IntKind.u64.wrap (x * 2 ^ (min (0 : Int).toNat 64)) = x
   rw [show min (0 : Int).toNat 64 = 0 from rfl, Int.pow_zero, Int.mul_one, wrap_in h]
  have e2 : shr .u64 x (IntKind.u64.wrap (64 - 0)) = 0 := by
   obtain ⟨a, b⟩ := h
   show x / 2 ^ (min (IntKind.u64.wrap (64 - 0)).toNat 64) = 0
   rw [show min (IntKind.u64.wrap (64 - 0)).toNat 64 = 64 by decide]
   exact Int.ediv_eq_zero_of_lt a (by simpa using b)
  rw [e1, e2]
  exact or0 h
 ·
  rw [if_neg h0]
theorem U64.set {l : List Int} (h : U64 l) {v : Int} (hv : In64 v) (i : Nat) : U64 (l.set i v) := fun x hx => by
 rcases List.mem_or_eq_of_mem_set hx with hx | rfl
 ·
  exact h x hx
 ·
  exact hv
theorem U64.get {l : List Int} (h : U64 l) (i : Nat) : In64 (l.getD i 0) := by
 rw [List.getD]
 cases hi : l[i]? with
 | none => exact ⟨(by simp), (by simp)⟩
 | some v => exact h v (List.mem_of_getElem? hi)
theorem U64.iter {f : Nat → List Int → List Int} (hf : ∀ i x, U64 x → U64 (f i x)) : ∀ k j x, U64 x → U64 (iter f k j x)
 | 0, _, _, h => h
 | k + 1, j, x, h => U64.iter hf k (j + 1) _ (hf j x h)
theorem iter_congr {f g : Nat → List Int → List Int} {n : Nat} (h : ∀ i x, i < n → f i x = g i x) : ∀ k j x, j + k ≤ n → iter f k j x = iter g k j x
 | 0, _, _, _ => rfl
 | k + 1, j, x, hj => by rw [iter_succ, iter_succ, h j x (by omega)]; exact iter_congr h k (j + 1) _ (by omega)
theorem z25_in : U64 z25 := fun x hx => by simp [z25] at hx; subst hx; exact ⟨(by decide), (by decide)⟩
theorem z5_in : U64 z5 := fun x hx => by simp [z5] at hx; subst hx; exact ⟨(by decide), (by decide)⟩
theorem lanes_in (xs : List Int) : U64 (lanes_ xs) := U64.iter (fun i x h => h.set (bits_in _ _ _) _) _ _ _ z25_in
theorem xors_in (l : List Int) {s : List Int} (h : U64 s) : U64 (xors l s) := U64.iter (fun i x h => h.set (xr_in _ _) _) _ _ _ h
theorem sh64 : ∀ i : Fin 25, ∃ k : Fin 64, shifts_.getD i.val 0 = (k.val : Int) := by decide +kernel
theorem sh64' (i : Nat) : ∃ k : Nat, k < 64 ∧ shifts_.getD i 0 = (k : Int) := by
 by_cases h : i < 25
 ·
  obtain ⟨k, hk⟩ := sh64 ⟨i, h⟩
  exact ⟨k.val, k.isLt, hk⟩
 ·
  exact ⟨0, (by decide), (by rw [List.getD, List.getElem?_eq_none (by simp [shifts_]; omega)]; rfl)⟩
theorem c_in {a : List Int} (h : U64 a) : U64 (c_ a) := U64.iter (fun i x h => h.set (xr_in _ _) _) _ _ _ z5_in
theorem t_in {a : List Int} (h : U64 a) : U64 (t_ a) := U64.iter (fun i x h => h.set (xr_in _ _) _) _ _ _ h
theorem turn_sh_in {x : Int} (h : In64 x) (i : Nat) : In64 (turn x (shifts_.getD i 0)) := by
 obtain ⟨k, hk, e⟩ := sh64' i
 rw [e]
 exact turn_in h (by omega) (by omega)
theorem b_in {a : List Int} (h : U64 a) : U64 (b_ a) := U64.iter (fun i x hx => U64.iter (fun j y hy => hy.set (turn_sh_in (h.get _) _) _) _ _ _ hx) _ _ _ z25_in
theorem h_in (b : List Int) {a : List Int} (h : U64 a) : U64 (h_ b a) := U64.iter (fun i x hx => U64.iter (fun j y hy => hy.set (xr_in _ _) _) _ _ _ hx) _ _ _ h
theorem roundS_in {a : List Int} (h : U64 a) (r : Nat) : U64 (roundS r a) := by
 unfold roundS roundEnd
 exact U64.set (h_in _ (t_in h)) (xr_in _ _) _
theorem list25 {a : List Int} (h : a.length = 25) : ∃ a0 a1 a2 a3 a4 a5 a6 a7 a8 a9 a10 a11 a12 a13 a14 a15 a16 a17 a18 a19 a20 a21 a22 a23 a24, a = [a0, a1, a2, a3, a4, a5, a6, a7, a8, a9, a10, a11, a12, a13, a14, a15, a16, a17, a18, a19, a20, a21, a22, a23, a24] := by
 match a, h with
 | [a0, a1, a2, a3, a4, a5, a6, a7, a8, a9, a10, a11, a12, a13, a14, a15, a16, a17, a18, a19, a20, a21, a22, a23, a24], _ => exact ⟨_, _, _, _, _, _, _, _, _, _, _, _, _, _, _, _, _, _, _, _, _, _, _, _, _, rfl⟩
theorem list5 {a : List Int} (h : a.length = 5) : ∃ a0 a1 a2 a3 a4, a = [a0, a1, a2, a3, a4] := by
 match a, h with
 | [a0, a1, a2, a3, a4], _ => exact ⟨_, _, _, _, _, rfl⟩
theorem c_rfl (a0 a1 a2 a3 a4 a5 a6 a7 a8 a9 a10 a11 a12 a13 a14 a15 a16 a17 a18 a19 a20 a21 a22 a23 a24 : Int) : [xr (xr (xr (xr a0 a5) a10) a15) a20, xr (xr (xr (xr a1 a6) a11) a16) a21, xr (xr (xr (xr a2 a7) a12) a17) a22, xr (xr (xr (xr a3 a8) a13) a18) a23, xr (xr (xr (xr a4 a9) a14) a19) a24] = c_ [a0, a1, a2, a3, a4, a5, a6, a7, a8, a9, a10, a11, a12, a13, a14, a15, a16, a17, a18, a19, a20, a21, a22, a23, a24] := by kernel_rfl
theorem sums_c {a : List Int} (h : a.length = 25) (hu : U64 a) : sums_ a = c_ a := by
 obtain ⟨a0, a1, a2, a3, a4, a5, a6, a7, a8, a9, a10, a11, a12, a13, a14, a15, a16, a17, a18, a19, a20, a21, a22, a23, a24, rfl⟩ := list25 h
 have e0 := xr0 (hu a0 (by simp))
 have e1 := xr0 (hu a1 (by simp))
 have e2 := xr0 (hu a2 (by simp))
 have e3 := xr0 (hu a3 (by simp))
 have e4 := xr0 (hu a4 (by simp))
 have h1 : sums_ [a0, a1, a2, a3, a4, a5, a6, a7, a8, a9, a10, a11, a12, a13, a14, a15, a16, a17, a18, a19, a20, a21, a22, a23, a24] = [xr (xr (xr (xr (xr 0 a0) a5) a10) a15) a20, xr (xr (xr (xr (xr 0 a1) a6) a11) a16) a21, xr (xr (xr (xr (xr 0 a2) a7) a12) a17) a22, xr (xr (xr (xr (xr 0 a3) a8) a13) a18) a23, xr (xr (xr (xr (xr 0 a4) a9) a14) a19) a24] := by kernel_rfl
 rw [h1, e0, e1, e2, e3, e4]
 exact c_rfl a0 a1 a2 a3 a4 a5 a6 a7 a8 a9 a10 a11 a12 a13 a14 a15 a16 a17 a18 a19 a20 a21 a22 a23 a24
def movT (ls s : List Int) (i : Nat) (m : List Int) : List Int := m.set (i / 5 + 5 * ((2 * (i % 5) + 3 * (i / 5)) % 5)) (turn (xr (ls.getD i 0) (xr (s.getD ((i % 5 + 4) % 5) 0) (turn (s.getD ((i % 5 + 1) % 5) 0) 1))) (shifts_.getD i 0))
theorem mov_T (a : List Int) {s : List Int} (hs : U64 s) (i : Nat) (m : List Int) : movStep a s i m = movT a s i m := by
 unfold movStep movT
 obtain ⟨k, hk, e⟩ := sh64' i
 have h1 : rot (s.getD ((i % 5 + 1) % 5) 0) 1 = turn (s.getD ((i % 5 + 1) % 5) 0) 1 := rot_turn (hs.get _) 1 (by decide)
 rw [e, h1, rot_turn (xr_in _ _) k hk]
theorem mv_gen (T X : Int → Int → Int) (a0 a1 a2 a3 a4 a5 a6 a7 a8 a9 a10 a11 a12 a13 a14 a15 a16 a17 a18 a19 a20 a21 a22 a23 a24 c0 c1 c2 c3 c4 : Int) : iter (fun i m => m.set (i / 5 + 5 * ((2 * (i % 5) + 3 * (i / 5)) % 5)) (T (X ([a0, a1, a2, a3, a4, a5, a6, a7, a8, a9, a10, a11, a12, a13, a14, a15, a16, a17, a18, a19, a20, a21, a22, a23, a24].getD i 0) (X ([c0, c1, c2, c3, c4].getD ((i % 5 + 4) % 5) 0) (T ([c0, c1, c2, c3, c4].getD ((i % 5 + 1) % 5) 0) 1))) (shifts_.getD i 0))) 25 0 z25
  = iter (fun x b => iter (fun y b => b.set (y + 5 * ((2 * x + 3 * y) % 5)) (T ((iter (fun i a => a.set i (X (a.getD i 0) (X ([c0, c1, c2, c3, c4].getD ((i + 4) % 5) 0) (T ([c0, c1, c2, c3, c4].getD ((i + 1) % 5) 0) 1)))) 25 0 [a0, a1, a2, a3, a4, a5, a6, a7, a8, a9, a10, a11, a12, a13, a14, a15, a16, a17, a18, a19, a20, a21, a22, a23, a24]).getD (x + 5 * y) 0) (shifts_.getD (x + 5 * y) 0))) 5 0 b) 5 0 z25 := by kernel_rfl
theorem moved_b {a : List Int} (h : a.length = 25) {c : List Int} (hc : c_ a = c) (hu : U64 c) : moved_ a c = b_ (t_ a) := by
 have e : moved_ a c = iter (movT a c) 25 0 z25 := iter_congr (n := 25) (fun i x _ => mov_T a hu i x) 25 0 z25 (by decide)
 have ht : t_ a = iter (tS c) 25 0 a := by unfold t_; rw [hc]
 have hcl : c.length = 5 := by rw [← hc]; exact c_length a
 rw [e, ht]
 clear hc e ht hu
 obtain ⟨a0, a1, a2, a3, a4, a5, a6, a7, a8, a9, a10, a11, a12, a13, a14, a15, a16, a17, a18, a19, a20, a21, a22, a23, a24, rfl⟩ := list25 h
 obtain ⟨c0, c1, c2, c3, c4, rfl⟩ := list5 hcl
 exact mv_gen turn xr a0 a1 a2 a3 a4 a5 a6 a7 a8 a9 a10 a11 a12 a13 a14 a15 a16 a17 a18 a19 a20 a21 a22 a23 a24 c0 c1 c2 c3 c4
def newT (m : List Int) (i : Nat) (l : List Int) : List Int := l.set i (xr (m.getD i 0) (bnd (cpl (m.getD (i - i % 5 + (i % 5 + 1) % 5) 0)) (m.getD (i - i % 5 + (i % 5 + 2) % 5) 0)))
theorem nw_rfl (b0 b1 b2 b3 b4 b5 b6 b7 b8 b9 b10 b11 b12 b13 b14 b15 b16 b17 b18 b19 b20 b21 b22 b23 b24 a0 a1 a2 a3 a4 a5 a6 a7 a8 a9 a10 a11 a12 a13 a14 a15 a16 a17 a18 a19 a20 a21 a22 a23 a24 d0 d1 d2 d3 d4 d5 d6 d7 d8 d9 d10 d11 d12 d13 d14 d15 d16 d17 d18 d19 d20 d21 d22 d23 d24 : Int) : iter (newT [b0, b1, b2, b3, b4, b5, b6, b7, b8, b9, b10, b11, b12, b13, b14, b15, b16, b17, b18, b19, b20, b21, b22, b23, b24]) 25 0 [a0, a1, a2, a3, a4, a5, a6, a7, a8, a9, a10, a11, a12, a13, a14, a15, a16, a17, a18, a19, a20, a21, a22, a23, a24] = h_ [b0, b1, b2, b3, b4, b5, b6, b7, b8, b9, b10, b11, b12, b13, b14, b15, b16, b17, b18, b19, b20, b21, b22, b23, b24] [d0, d1, d2, d3, d4, d5, d6, d7, d8, d9, d10, d11, d12, d13, d14, d15, d16, d17, d18, d19, d20, d21, d22, d23, d24] := by kernel_rfl
theorem new_h {b a : List Int} (hb : b.length = 25) (ha : a.length = 25) {a' : List Int} (ha' : a'.length = 25) : new_ b a = h_ b a' := by
 have e : new_ b a = iter (newT b) 25 0 a := iter_congr (n := 25) (fun i x _ => by unfold newStep newT; rw [an_eq]) 25 0 a (by decide)
 rw [e]
 obtain ⟨a0, a1, a2, a3, a4, a5, a6, a7, a8, a9, a10, a11, a12, a13, a14, a15, a16, a17, a18, a19, a20, a21, a22, a23, a24, rfl⟩ := list25 ha
 obtain ⟨c0, c1, c2, c3, c4, c5, c6, c7, c8, c9, c10, c11, c12, c13, c14, c15, c16, c17, c18, c19, c20, c21, c22, c23, c24, rfl⟩ := list25 ha'
 obtain ⟨b0, b1, b2, b3, b4, b5, b6, b7, b8, b9, b10, b11, b12, b13, b14, b15, b16, b17, b18, b19, b20, b21, b22, b23, b24, rfl⟩ := list25 hb
 exact nw_rfl b0 b1 b2 b3 b4 b5 b6 b7 b8 b9 b10 b11 b12 b13 b14 b15 b16 b17 b18 b19 b20 b21 b22 b23 b24 a0 a1 a2 a3 a4 a5 a6 a7 a8 a9 a10 a11 a12 a13 a14 a15 a16 a17 a18 a19 a20 a21 a22 a23 a24 c0 c1 c2 c3 c4 c5 c6 c7 c8 c9 c10 c11 c12 c13 c14 c15 c16 c17 c18 c19 c20 c21 c22 c23 c24
theorem round_eq {a : List Int} (h : a.length = 25) (hu : U64 a) (r : Nat) : roundS r a = roundStep r a := by
 unfold roundS roundStep
 rw [sums_c h hu, moved_b h rfl (c_in hu), new_h (b_length _) h ((t_length a).trans h)]
theorem perm_eq : ∀ k r a, a.length = 25 → U64 a → iter roundS k r a = iter roundStep k r a
 | 0, _, a, _, _ => show a = a from rfl
 | k + 1, r, a, h, hu => by
  have e := perm_eq k (r + 1) (roundS r a) ((roundS_length r a).trans h) (roundS_in hu r)
  exact (iter_succ roundS k r a).trans (e.trans ((congrArg (iter roundStep k (r + 1)) (round_eq h hu r)).trans (iter_succ roundStep k r a).symm))
theorem permS_perm {a : List Int} (h : a.length = 25) (hu : U64 a) : permS a = perm a := perm_eq 24 0 a h hu
theorem permS_in {a : List Int} (hu : U64 a) : U64 (permS a) := U64.iter (fun i x hx => roundS_in hx i) 24 0 a hu
theorem sponge_eq : ∀ k ys s, s.length = 25 → U64 s → spongeS k ys s = sponge k ys s
 | 0, _, _, _, _ => rfl
 | k + 1, ys, s, h, hu => by
  have h1 := (xors_length (lanes_ (ys.take 136)) s).trans h
  have h2 := xors_in (lanes_ (ys.take 136)) hu
  show spongeS k (ys.drop 136) (permS (xors (lanes_ (ys.take 136)) s)) = sponge k (ys.drop 136) (perm (xors (lanes_ (ys.take 136)) s))
  exact (sponge_eq k (ys.drop 136) (permS (xors (lanes_ (ys.take 136)) s)) ((permS_length _).trans h1) (permS_in h2)).trans (congrArg (sponge k (ys.drop 136)) (permS_perm h1 h2))
theorem kecS_kec (xs : List Int) : kecS xs = kec xs := by
 unfold kecS kec
 rw [sponge_eq _ _ _ rfl z25_in]
def spec_l03Hash.f (a0 : ByteArray) : Option ByteArray := if a0.size ≤ 2000000 then some (kec (nums_ a0)) else none
theorem spec_l03Hash.calls (a0 : ByteArray) (r : ByteArray) (w : World) (h : spec_l03Hash.f a0 = some r) :
  Calls Try.prog 92 #[.string a0] w fun e w' => e = .returned (.string r) ∧ Below w.heap.size w w' := by
 unfold spec_l03Hash.f at h
 by_cases c : a0.size ≤ 2000000
 ·
  rw [if_pos c] at h
  obtain rfl := Option.some.inj h
  rw [← kecS_kec]
  exact spec_l03Hash.calls0 a0 w c
 ·
  rw [if_neg c] at h; cases h
def spec_l04Leaf.f (a0 : ByteArray) : Option (ByteArray) := if 1 + a0.size ≤ 9223372036854775807 then ((spec_l03Hash.f ((⟨#[0]⟩ : ByteArray) ++ a0)).bind fun t101 => (some t101)) else (none)
set_option maxHeartbeats 8000000 in
set_option maxRecDepth 100000 in
theorem spec_l04Leaf.calls (a0 : ByteArray) (r : ByteArray) (w : World) (h : spec_l04Leaf.f a0 = some r) :
  Calls Try.prog 133 #[.string a0] w fun e w' => e = .returned (.string r) ∧ Below w.heap.size w w' := by
 have HB := am_ (Below.refl w.heap.size w)
 have H : (if 1 + a0.size ≤ 9223372036854775807 then ((spec_l03Hash.f ((⟨#[0]⟩ : ByteArray) ++ a0)).bind fun t101 => (some t101)) else (none)) = some r := h
 clear h
 by_cases c2 : 1 + a0.size ≤ 9223372036854775807
 ·
  rw [if_pos c2] at H
  have c2b0 := eq_true c2
  have c2b1 : decide (1 + a0.size ≤ 9223372036854775807) = true := decide_eq_true c2
  try have c2b2 : (9223372036854775807 < 1 + a0.size) = False := eq_false (Nat.not_lt.2 c2)
  replace H := Option.bind_eq_some_iff.mp H
  obtain ⟨t101, A30, H⟩ := H
  replace H : (some t101) = some r := H
  have A3 := am_ A30
  clear A30
  obtain rfl := Option.some.inj H
  go_enter Try.func133, Try.ntmps133
  go_wp2_with (first | ((with_reducible refine gate_callee (f := 92) rfl ?_); refine goesL_ (some 5) rfl rfl Try.func92 (by kernel_rfl) rfl #[.string ((⟨#[0]⟩ : ByteArray) ++ a0)] rfl qz2_ ?_; (with_reducible refine (spec_l03Hash.calls ((⟨#[0]⟩ : ByteArray) ++ a0) t101 _ A3.out).mono ?_); rintro e w4 ⟨rfl, hb⟩; refine ⟨_, rfl, ?_⟩; have n0_ := am_ (below_step qz3_ hb); clear HB; have HB := n0_; clear n0_; (try clear hb); (try clear hb2); (try clear hk); (try clear hi)))
  go_ret
  exact ⟨qz4_, qz3_⟩
 ·
  rw [if_neg c2] at H
  exact absurd H (by simp)

end Go.Proofs.Ytgookagndlfehaa.PT
end
section
namespace Go.Proofs.Ytgookagndlfehaa.PT
open Go.RowKit Go.Proofs.YtgookagndlfehaaW.PrintWords Go.Proofs.YtgookagndlfehaaW.PrintLast Go.Proofs.YtgookagndlfehaaW.PrintMore
attribute [local go_sem] max2_int min2_int max_two min_two max_three min_three max_four min_four   -- for this text's walks alone
set_option linter.unusedVariables false
set_option linter.unusedSimpArgs false
def spec_l04Node.f (a0 : ByteArray) (a1 : ByteArray) : Option (ByteArray) := if 1 + a0.size ≤ 9223372036854775807 then (if ((⟨#[1]⟩ : ByteArray) ++ a0).size + a1.size ≤ 9223372036854775807 then ((spec_l03Hash.f (((⟨#[1]⟩ : ByteArray) ++ a0) ++ a1)).bind fun t101 => (some t101)) else (none)) else (none)
set_option maxHeartbeats 8000000 in
set_option maxRecDepth 100000 in
theorem spec_l04Node.calls (a0 : ByteArray) (a1 : ByteArray) (r : ByteArray) (w : World) (h : spec_l04Node.f a0 a1 = some r) :
  Calls Try.prog 134 #[.string a0, .string a1] w fun e w' => e = .returned (.string r) ∧ Below w.heap.size w w' := by
 have HB := am_ (Below.refl w.heap.size w)
 have H : (if 1 + a0.size ≤ 9223372036854775807 then (if ((⟨#[1]⟩ : ByteArray) ++ a0).size + a1.size ≤ 9223372036854775807 then ((spec_l03Hash.f (((⟨#[1]⟩ : ByteArray) ++ a0) ++ a1)).bind fun t101 => (some t101)) else (none)) else (none)) = some r := h
 clear h
 by_cases c3 : 1 + a0.size ≤ 9223372036854775807
 ·
  rw [if_pos c3] at H
  have c3b0 := eq_true c3
  have c3b1 : decide (1 + a0.size ≤ 9223372036854775807) = true := decide_eq_true c3
  try have c3b2 : (9223372036854775807 < 1 + a0.size) = False := eq_false (Nat.not_lt.2 c3)
  by_cases c4 : ((⟨#[1]⟩ : ByteArray) ++ a0).size + a1.size ≤ 9223372036854775807
  ·
   rw [if_pos c4] at H
   have c4b0 := eq_true c4
   have c4b1 : decide (((⟨#[1]⟩ : ByteArray) ++ a0).size + a1.size ≤ 9223372036854775807) = true := decide_eq_true c4
   try have c4b2 : (9223372036854775807 < ((⟨#[1]⟩ : ByteArray) ++ a0).size + a1.size) = False := eq_false (Nat.not_lt.2 c4)
   try have c4b3 : (9223372036854775807 < 1 + a0.size + a1.size) = False := eq_false (Nat.not_lt.2 (by have h_ := c4; simp only [ByteArray.size_append] at h_; exact h_))
   replace H := Option.bind_eq_some_iff.mp H
   obtain ⟨t101, A50, H⟩ := H
   replace H : (some t101) = some r := H
   have A5 := am_ A50
   clear A50
   obtain rfl := Option.some.inj H
   go_enter Try.func134, Try.ntmps134
   go_wp2_with (first | ((with_reducible refine gate_callee (f := 92) rfl ?_); refine goesL_ (some 9) rfl rfl Try.func92 (by kernel_rfl) rfl #[.string (((⟨#[1]⟩ : ByteArray) ++ a0) ++ a1)] rfl qz2_ ?_; (with_reducible refine (spec_l03Hash.calls (((⟨#[1]⟩ : ByteArray) ++ a0) ++ a1) t101 _ A5.out).mono ?_); rintro e w6 ⟨rfl, hb⟩; refine ⟨_, rfl, ?_⟩; have n0_ := am_ (below_step qz3_ hb); clear HB; have HB := n0_; clear n0_; (try clear hb); (try clear hb2); (try clear hk); (try clear hi)))
   go_ret
   exact ⟨qz4_, qz3_⟩
  ·
   rw [if_neg c4] at H
   exact absurd H (by simp)
 ·
  rw [if_neg c3] at H
  exact absurd H (by simp)

end Go.Proofs.Ytgookagndlfehaa.PT
end
section
/- Own parts of memory: what later texts need besides. -/
namespace Go.Proofs.Ytgookagndlfehaa.PT
open Go.RowKit Go.Proofs.YtgookagndlfehaaW.PrintWords Go.Proofs.YtgookagndlfehaaW.PrintLast Go.Proofs.YtgookagndlfehaaW.PrintMore
set_option linter.unusedVariables false
set_option linter.unusedSimpArgs false
namespace Inv
variable {w0 w w1 : World} {P : Nat → Prop} {L : List Grp} {F : World → Prop}
theorem kept0 {α : Type} {d : Kd α} {e b : Nat} {v v1 : Value} {xs ys : List α} {S ok : Nat → Prop} (h : Inv w0 NoB w (row d e b v xs S :: L) F) (hB : Below w0.heap.size w0 w1) (hk : Kept w w1 S) (hR : d.R e w1 b ok v1 ys) (hok : ∀ k, ok k → S k ∨ w.heap.size ≤ k) :
  Inv w0 NoB w1 (row d e b v1 ys (fun k => (S k ∨ w.heap.size ≤ k) ∧ k < w1.heap.size) :: L) F := by
 have hR2 : d.R e w1 b (fun k => (S k ∨ w.heap.size ≤ k) ∧ k < w1.heap.size) v1 ys := Kd.R_mono (Kd.R_bound hR) (fun k hk => ⟨hok k hk.1, hk.2.2.1⟩)
 have hb := h.below
 exact h.step ⟨hB.os.trans hb.os.symm, hB.tape.trans hb.tape.symm, hB.output.trans hb.output.symm, hk.1, fun k hlt hn => hk.2 k hlt hn⟩ _ (fun k hk => hk) (fun w' hw => Kd.R_step hR2 (fun k hk _ => hw k hk))
end Inv
end Go.Proofs.Ytgookagndlfehaa.PT
end
section
/- A row of rows that are held elsewhere, too: the rows' values, and what the rows hold, apart. -/
namespace Go.Proofs.Ytgookagndlfehaa.PT
open Go.RowKit Go.Proofs.YtgookagndlfehaaW.PrintWords Go.Proofs.YtgookagndlfehaaW.PrintLast Go.Proofs.YtgookagndlfehaaW.PrintMore
set_option linter.unusedVariables false
set_option linter.unusedSimpArgs false
abbrev Desc := Option Addr × Nat × Nat
abbrev Desc.v (x : Desc) : Value := .slice x.1 x.2.1 x.2.2
def kv : Kd Desc := Kd.scalar Desc.v (fun _ => rfl)
def inners {α : Type} (d : Kd α) (e b : Nat) (ps : List (Desc × List α)) (S : Nat → Prop) : Grp := ⟨S, fun w => (∀ p, p ∈ ps → d.R e w b S p.1.v p.2) ∧ ps.Pairwise (fun p q => ∀ k, p.1.v.ownBlock = some k → q.1.v.ownBlock ≠ some k)⟩
namespace Inv
variable {w0 w w1 : World} {P : Nat → Prop} {L : List Grp} {F : World → Prop}
theorem merge {a b c : Grp} (h : Inv w0 P w (a :: b :: L) F) (hS : ∀ k, c.S k ↔ (a.S k ∨ b.S k)) (hA : ∀ w', a.A w' → b.A w' → c.A w') : Inv w0 P w (c :: L) F := by
 have hd := List.pairwise_cons.1 h.dis
 have hd2 := List.pairwise_cons.1 hd.2
 refine ⟨h.agr, fun x hx k hk => ?_, fun x hx k hk => ?_, fun x hx w' hw => ?_, List.Pairwise.cons (fun x hx k hk hk2 => ?_) hd2.2, fun w' hw => h.facts w' (hw.mono ?_)⟩
 ·
  rcases List.mem_cons.1 hx with rfl | hx
  ·
   rcases (hS k).1 hk with hk | hk
   ·
    exact h.lt _ List.mem_cons_self k hk
   ·
    exact h.lt _ (List.mem_cons_of_mem _ List.mem_cons_self) k hk
  ·
   exact h.lt x (List.mem_cons_of_mem _ (List.mem_cons_of_mem _ hx)) k hk
 ·
  rcases List.mem_cons.1 hx with rfl | hx
  ·
   rcases (hS k).1 hk with hk | hk
   ·
    exact h.new _ List.mem_cons_self k hk
   ·
    exact h.new _ (List.mem_cons_of_mem _ List.mem_cons_self) k hk
  ·
   exact h.new x (List.mem_cons_of_mem _ (List.mem_cons_of_mem _ hx)) k hk
 ·
  rcases List.mem_cons.1 hx with rfl | hx
  ·
   exact hA w' (h.own _ List.mem_cons_self w' (fun k hk => hw k ((hS k).2 (.inl hk)))) (h.own _ (List.mem_cons_of_mem _ List.mem_cons_self) w' (fun k hk => hw k ((hS k).2 (.inr hk))))
  ·
   exact h.own x (List.mem_cons_of_mem _ (List.mem_cons_of_mem _ hx)) w' hw
 ·
  rcases (hS k).1 hk with hk | hk
  ·
   exact hd.1 x (List.mem_cons_of_mem _ hx) k hk hk2
  ·
   exact hd2.1 x hx k hk hk2
 ·
  rintro k ⟨x, hx, hk⟩
  rcases List.mem_cons.1 hx with rfl | hx
  ·
   rcases (hS k).1 hk with hk | hk
   ·
    exact ⟨a, List.mem_cons_self, hk⟩
   ·
    exact ⟨b, List.mem_cons_of_mem _ List.mem_cons_self, hk⟩
  ·
   exact ⟨x, List.mem_cons_of_mem _ (List.mem_cons_of_mem _ hx), hk⟩
section
variable {α : Type} {d : Kd α} {e b e' : Nat} {ps : List (Desc × List α)} {S S2 : Nat → Prop} {xs : List α} {v : Value}
theorem noInners (d : Kd α) (e b : Nat) (h : Inv w0 P w L F) : Inv w0 P w (inners d e b [] (fun _ => False) :: L) F :=
 h.push (Below.refl _ _) _ (fun _ h => h.elim) (fun _ _ => by refine ⟨?_, List.Pairwise.nil⟩; intro p hp; cases hp)
theorem takeIn {x : Desc} (h : Inv w0 P w (row d e b x.v xs S :: inners d e b ps S2 :: L) F) : Inv w0 P w (inners d e b (ps ++ [(x, xs)]) (fun k => S k ∨ S2 k) :: L) F := by
 have hd := (List.pairwise_cons.1 h.dis).1 _ List.mem_cons_self
 refine h.merge (fun k => Iff.rfl) (fun w' ha hb => ⟨fun p hp => ?_, List.pairwise_append.2 ⟨hb.2, List.pairwise_singleton _ _, fun p hp q hq k hk hk2 => ?_⟩⟩)
 ·
  rcases List.mem_append.1 hp with hp | hp
  ·
   exact Kd.R_mono (hb.1 p hp) (fun k hk => .inr hk)
  ·
   obtain rfl := List.mem_singleton.1 hp
   exact Kd.R_mono ha (fun k hk => .inl hk)
 ·
  obtain rfl := List.mem_singleton.1 hq
  exact hd k (ha.1 k hk2) ((hb.1 p hp).1 k hk)
theorem rowForm (h : Inv w0 P w (row d e b v xs S :: L) F) : ∃ x : Desc, v = x.v ∧ x.2.1 = xs.length ∧ xs.length ≤ x.2.2 := by
 obtain ⟨A, c, rfl, hc, _⟩ := Kd.R_reads h.row0
 exact ⟨(A, xs.length, c), rfl, rfl, hc⟩
theorem slices (h : Inv w0 P w (row kv e' b v (ps.map Prod.fst) S :: inners d e b ps S2 :: L) F) : (Kd.slice e d).R e' w b (fun _ => True) v (ps.map Prod.snd) := by
 have hd := (List.pairwise_cons.1 h.dis).1 _ List.mem_cons_self
 have hin := h.get 1 rfl
 obtain ⟨h0, inner, ho, hr⟩ := h.row0
 refine ⟨fun _ _ => trivial, inner, ?_, ?_, fun j xs hj => ?_⟩
 ·
  rw [List.length_map] at ho ⊢; exact ho
 ·
  have := hr.1; rw [List.length_map] at this ⊢; exact this
 ·
  rw [List.getElem?_map] at hj
  cases hp : ps[j]? with
  | none => rw [hp] at hj; cases hj
  | some p =>
   rw [hp] at hj
   obtain rfl : p.2 = xs := by simpa using hj
   have h1 := hr.2 j p.1 (by rw [List.getElem?_map, hp]; rfl)
   exact ⟨p.1.v, h1, Kd.R_mono (hin.1 p (List.mem_of_getElem? hp)) (fun k hk => ⟨trivial, fun e => hd k (h0 k e.symm) hk⟩)⟩
theorem own_index {β : Type} (key : β → Option Nat) : ∀ ps : List β, ps.Pairwise (fun p q => ∀ k, key p = some k → key q ≠ some k) → ∃ f : Nat → Nat, ∀ j p, ps[j]? = some p → ∀ k, key p = some k → f k = j
 | [], _ => ⟨fun _ => 0, fun j p h => by simp at h⟩
 | p :: ps, h => by
  obtain ⟨f, hf⟩ := own_index key ps (List.pairwise_cons.1 h).2
  refine ⟨fun k => if key p = some k then 0 else f k + 1, fun j q hj k hk => ?_⟩
  cases j with
  | zero =>
   obtain rfl : p = q := by simpa using hj
   exact if_pos hk
  | succ j =>
   have hq : ps[j]? = some q := by simpa using hj
   show (if key p = some k then 0 else f k + 1) = j + 1
   rw [if_neg (fun hp => (List.pairwise_cons.1 h).1 q (List.mem_of_getElem? hq) k hp hk), hf j q hq k hk]
theorem slicesS {ps : List (Desc × List ByteArray)} (h : Inv w0 P w (row kv e' b v (ps.map Prod.fst) S :: inners Kd.string e b ps S2 :: L) F) : Kd.S (Kd.slice e Kd.string) e' w b (fun _ => True) v (ps.map Prod.snd) := by
 have hd := (List.pairwise_cons.1 h.dis).1 _ List.mem_cons_self
 have hin := h.get 1 rfl
 obtain ⟨f, hf⟩ := own_index (fun p : Desc × List ByteArray => p.1.v.ownBlock) ps hin.2
 obtain ⟨h0, inner, ho, hr⟩ := h.row0
 refine ⟨f, fun _ _ => trivial, inner, ?_, ?_, fun j x hj => ?_⟩
 ·
  rw [List.length_zipIdx, List.length_map]; rw [List.length_map] at ho; exact ho
 ·
  have := hr.1; rw [List.length_zipIdx, List.length_map]; rw [List.length_map] at this; exact this
 ·
  rw [List.getElem?_zipIdx, List.getElem?_map] at hj
  cases hp : ps[j]? with
  | none => rw [hp] at hj; cases hj
  | some p =>
   rw [hp] at hj
   obtain rfl : (p.2, 0 + j) = x := by simpa using hj
   have h1 := hr.2 j p.1 (by rw [List.getElem?_map, hp]; rfl)
   have h2 := hin.1 p (List.mem_of_getElem? hp)
   exact ⟨p.1.v, h1, Kd.R_mono (Kd.R_tight rfl h2) (fun k hk => ⟨⟨trivial, fun e => hd k (h0 k e.symm) (h2.1 k hk.symm)⟩, by rw [Nat.zero_add]; exact hf j p hp k hk.symm⟩)⟩
theorem reads (h : Inv w0 P w L F) {A : Option Addr} {n c : Nat} (i : Nat) (hi : L[i]? = some (inners d e b ps S)) (hm : ((A, n, c), xs) ∈ ps) : d.C w A xs.length xs := (Kd.R_reads' ((h.get i hi).1 _ hm)).2.2
end
end Inv
def hl (t : ByteArray) : ByteArray := kec (nums_ ((⟨#[0]⟩ : ByteArray) ++ t))
def hn (a b : ByteArray) : ByteArray := kec (nums_ (((⟨#[1]⟩ : ByteArray) ++ a) ++ b))
theorem kec_len (xs : List Int) : (kec xs).size = 32 := by
 unfold kec
 rw [strOfNums_size, List.length_take, text_length]
 rfl
def pairs : List ByteArray → List ByteArray
 | a :: b :: l => hn a b :: pairs l
 | _ => []
theorem pairs_length : ∀ l : List ByteArray, (pairs l).length = l.length / 2
 | [] => rfl
 | [_] => by simp [pairs]
 | a :: b :: l => by rw [pairs, List.length_cons, pairs_length l, List.length_cons, List.length_cons]; omega
theorem pairs_get : ∀ (l : List ByteArray) (j : Nat), 2 * j + 1 < l.length → (pairs l)[j]? = some (hn (rdOf ByteArray.empty l ((2 * j : Nat) : Int)) (rdOf ByteArray.empty l ((2 * j + 1 : Nat) : Int)))
 | [], j, h => by simp at h
 | [_], j, h => by simp at h
 | a :: b :: l, 0, h => rfl
 | a :: b :: l, j + 1, h => by
  have := pairs_get l j (by simp at h; omega)
  rw [pairs, List.getElem?_cons_succ, this]
  rfl
theorem pairs_take (l : List ByteArray) (j : Nat) (h : 2 * j + 1 < l.length) : (pairs l).take (j + 1) = (pairs l).take j ++ [hn (rdOf ByteArray.empty l ((2 * j : Nat) : Int)) (rdOf ByteArray.empty l ((2 * j + 1 : Nat) : Int))] := by
 rw [List.take_add_one, pairs_get l j h]
 rfl
theorem pairs_size : ∀ l : List ByteArray, ∀ t, t ∈ pairs l → t.size = 32
 | [], t, h => by cases h
 | [_], t, h => by cases h
 | a :: b :: l, t, h => by
  rcases List.mem_cons.1 h with rfl | h
  ·
   exact kec_len _
  ·
   exact pairs_size l t h
def rise : Nat → List ByteArray → Option (List (List ByteArray))
 | 0, _ => none
 | k + 1, l => if l.length ≤ 1 then some [] else if l.length % 2 = 0 then (rise k (pairs l)).map (pairs l :: ·) else none
def levels_ (l : List ByteArray) : Option (List (List ByteArray)) := if l.length ≤ 4096 ∧ l.all (fun t => decide (t.size ≤ 1000)) = true then (rise 20 (l.map hl)).map (l.map hl :: ·) else none
theorem size_of_all {l : List ByteArray} (h : l.all (fun t => decide (t.size ≤ 1000)) = true) : ∀ t ∈ l, t.size ≤ 1000 := fun t ht => of_decide_eq_true (List.all_eq_true.1 h t ht)
theorem map_take {l : List ByteArray} (j : Nat) (h : j < l.length) : (l.take (j + 1)).map hl = (l.take j).map hl ++ [hl (rdOf ByteArray.empty l (j : Int))] := by
 rw [List.take_succ_eq_append_getElem h, List.map_append]
 have : rdOf ByteArray.empty l (j : Int) = l[j] := by show l.getD (j : Int).toNat ByteArray.empty = l[j]; rw [Int.toNat_natCast]; simp [List.getD, h]
 rw [this]
 rfl
theorem rd_mem {l : List ByteArray} {i : Nat} (h : i < l.length) : rdOf ByteArray.empty l (i : Int) ∈ l := by
 have : rdOf ByteArray.empty l (i : Int) = l[i] := by show l.getD (i : Int).toNat ByteArray.empty = l[i]; rw [Int.toNat_natCast]; simp [List.getD, h]
 rw [this]
 exact List.getElem_mem h
theorem lv_infoS : (Try.prog.info? 98).map (fun i => (i.zero, i.size, i.bytes)) = some (some (.slice none 0 0), 1, 24) := by kernel_rfl
theorem str_two {W : World} {ad : Addr} {l : List ByteArray} {i : Int} (hC : Kd.C Kd.string W (some ad) l.length l) (h0 : 0 ≤ i) (h1 : i < (l.length : Int)) : W.cell? (ad.add i.toNat) = some (.string (rdOf ByteArray.empty l i)) := by
 obtain ⟨a1, e1, h2⟩ := Kd.at_string hC i h0 h1
 injection e1 with e1
 subst e1
 exact h2
theorem leaf_eq {a : ByteArray} (h : a.size ≤ 1000) : spec_l04Leaf.f a = some (hl a) := by
 unfold spec_l04Leaf.f spec_l03Hash.f hl
 have e : ((⟨#[0]⟩ : ByteArray) ++ a).size = 1 + a.size := by rw [ByteArray.size_append]; rfl
 rw [if_pos (by omega), if_pos (by omega)]
 rfl
theorem node_eq {a b : ByteArray} (ha : a.size = 32) (hb : b.size = 32) : spec_l04Node.f a b = some (hn a b) := by
 unfold spec_l04Node.f spec_l03Hash.f hn
 have e : ((⟨#[1]⟩ : ByteArray) ++ a).size = 1 + a.size := by rw [ByteArray.size_append]; rfl
 have e2 : (((⟨#[1]⟩ : ByteArray) ++ a) ++ b).size = 1 + a.size + b.size := by rw [ByteArray.size_append, e]
 rw [if_pos (by omega), if_pos (by omega), if_pos (by omega)]
 rfl
def spec_l04Levels.f (l0 : List ByteArray) : Option (List (List ByteArray)) := levels_ l0
set_option maxHeartbeats 8000000 in
set_option maxRecDepth 100000 in
theorem spec_l04Levels.calls (A0 : Option Addr) (c0 : Nat) (l0 : List ByteArray) (r : List (List ByteArray)) (w : World) (hr0 : Kd.C Kd.string w A0 l0.length l0) (hc0 : l0.length ≤ c0) (h : spec_l04Levels.f l0 = some r) :
  Calls Try.prog 104 #[.slice A0 l0.length c0] w fun e w' => ∃ v0_ : Value, e = .returned v0_ ∧ Kd.S (Kd.slice 9 Kd.string) 98 w' w.heap.size (fun _ => True) v0_ r ∧ Below w.heap.size w w' := by
 have HI := am_ (Inv.start w (fun w2 => Kd.C Kd.string w2 A0 l0.length l0) (fun w' hb => Kd.C_below hr0 hb))
 unfold spec_l04Levels.f levels_ at h
 by_cases cs : l0.length ≤ 4096 ∧ l0.all (fun t => decide (t.size ≤ 1000)) = true
 ·
  rw [if_pos cs] at h
  obtain ⟨rest0, hri, hre⟩ := Option.map_eq_some_iff.1 h
  generalize r = res at hre ⊢
  have HRI := am_ hri
  have HRE := am_ (show [l0.map hl] ++ rest0 = res from hre)
  have HSZ := am_ (size_of_all cs.2)
  have HLL0 := am_ cs.1
  have HM32 := am_ (show ∀ t ∈ l0.map hl, t.size = 32 from fun t ht => by obtain ⟨x, _, rfl⟩ := List.mem_map.1 ht; exact kec_len _)
  clear hr0 hc0 h hri hre cs
  go_enter Try.func104, Try.ntmps104
  go_wp2_with (first | ((with_reducible refine gate_dst (N := 8) rfl ?_); refine Kd.R_lit Kd.string (w0 := _) _ 9 ?hg (N := 8) ?hd (xs := ([] : List ByteArray)) (inner := []) (ok := fun _ => True) (okp := fun _ => True) ?hr ?hp (fun _ hk => hk) trivial (Below.refl _ _) (Nat.le_refl _) (by simp) ?_; (case hd => rfl); (case hg => rfl); (case hr => first | (go_simp; done) | (go_simp; rfl)); (case hp => exact (Reps.none _ _)); intro v8 w8 hR hb hg hat; have HI_ := am_ ((HI.out).rowPush hb hR); clear HI; have HI := HI_; clear HI_; clear hR hb hg hat))
  go_loopg [3, 4] l0.length (fun kq v3 v4 w' => ∃ (j : Nat) (S : Nat → Prop), v4 = .int .i64 j ∧ Aside0 (j + kq = l0.length) ∧ Aside0 (Inv w NoB w' [row Kd.string 9 w.heap.size v3 ((l0.take j).map hl) S] (fun w2 => Kd.C Kd.string w2 A0 l0.length l0)))
  case atStart => exact ⟨0, _, rfl, ⟨(by omega)⟩, HI⟩
  case round =>
   clear HI
   obtain ⟨j, S, rfl, HJ, HI⟩ := hrel
   have hj := HJ.out
   cases gk with
   | succ k1 =>
    have c1 : decide ((j : Int) < (l0.length : Int)) = true := decide_eq_true (by omega)
    have c2 : decide (j < l0.length) = true := decide_eq_true (by omega)
    have q5n : j < l0.length := by omega
    have p5 : 0 ≤ (j : Int) := by omega
    have q5 : (j : Int) < (l0.length : Int) := by omega
    obtain ⟨ad, eA, hx0⟩ := Kd.at_string HI.out.now (j : Int) p5 q5
    rw [Int.toNat_natCast] at hx0
    have HMT := am_ (map_take j q5n)
    have HAS := am_ (HSZ.out _ (rd_mem q5n))
    generalize rdOf ByteArray.empty l0 (j : Int) = a at hx0 HMT HAS
    have HWJ := am_ (show wrap64 ((j : Int) + 1) = (j : Int) + 1 by have := HLL0.out; unfold wrap64; omega)
    have HJ4 := am_ (show j + 1 + k1 = l0.length by omega)
    have HLE := am_ (show j ≤ 4096 by have := HLL0.out; omega)
    subst eA
    have p6 := eq_true p5
    have q6 := eq_true q5
    have q6n := eq_true q5n
    clear hj p5 q5 q5n
    go_wp2_with (first | (go_at_call 133; (refine (spec_l04Leaf.calls a (hl a) _ (leaf_eq HAS.out)).mono ?_); rintro e w20 ⟨rfl, hb⟩; have HI_ := am_ (HI.out.grow hb); clear HI; have HI := HI_; clear HI_; clear hb) | ((with_reducible refine gate_builtin (b := .append) (xs := #[.tmp 15, .tmp 21]) rfl ?_); at_builtin; refine Kd.R_append Kd.string (w0 := _) w.heap.size rfl (.tmp 15) (.tmp 21) 98 9 ((.string ⟨#[]⟩)) 16 rfl Try.underlying98 info9 rfl (by decide) (by omega) _ ((l0.take j).map hl) (hl a) [.string (hl a)] _ (fun _ => False) rfl rfl ?aP (fun _ hk => hk.elim) ?aF (Inv.row0W (HI.out)) (Below.refl _ _) (HI.out).agr.size ?aL ?_; (case aP => exact rfl); (case aF => exact (fun _ hk => .inr hk)); (case aL => rw [List.length_map, List.length_take]; have := HLE.out; omega); intro v22 w22 hR hb hg hat; have HI_ := am_ ((HI.out).grown0 hb hR (fun _ hk _ => hk) hg); clear HI; have HI := HI_; clear HI_; clear hR hb hg hat))
    go_roundg k1
    case measure => omega
    case rel => exact ⟨j + 1, _, by first | rfl | (rw [HWJ.out]; rfl), HJ4, ⟨(by rw [HMT.out]; exact HI.out)⟩⟩
   | zero =>
    obtain rfl : j = l0.length := by omega
    have c1 : decide ((l0.length : Int) < (l0.length : Int)) = false := decide_eq_false (by omega)
    have c2 : decide (l0.length < l0.length) = false := decide_eq_false (by omega)
    clear hj HJ
    have HI_ := HI.out
    rw [List.take_length] at HI_
    clear HI
    have HI := am_ HI_
    clear HI_
    have HI_ := HI
    clear HI
    have HI := HI_
    clear HI_
    obtain ⟨A1, c1_, eq_, hc1, _⟩ := Kd.R_reads HI.out.row0
    subst eq_
    have HI_ := am_ (Inv.takeIn (x := (A1, (l0.map hl).length, c1_)) (HI.out.noInners Kd.string 9 w.heap.size).swap)
    clear HI hc1
    have HI := HI_
    clear HI_
    go_wp2_with (first | ((with_reducible refine gate_dst (N := 24) rfl ?_); refine Kd.R_lit kv (w0 := _) _ 98 ?hg (N := 24) ?hd (xs := ([(A1, (l0.map hl).length, c1_)] : List Desc)) (inner := [.slice A1 (l0.map hl).length c1_]) (ok := fun _ => True) (okp := fun _ => True) ?hr ?hp (fun _ hk => hk) trivial (Below.refl _ _) (Nat.le_refl _) (by simp) ?_; (case hd => rfl); (case hg => rfl); (case hr => first | (go_simp; done) | (go_simp; rfl)); (case hp => exact (Reps.one (show Kd.M kv _ _ _ ((A1, (l0.map hl).length, c1_)) [.slice A1 (l0.map hl).length c1_] from rfl) (Reps.none _ _))); intro v24 w24 hR hb hg hat; obtain ⟨A24, c24, e24⟩ := Kd.R_slice hR; subst e24; have HI_ := am_ (HI.out.rowPush hb hR); clear HI; have HI := HI_; clear HI_; clear hR hb hg hat))
    go_loopg [3, 5] 20 (fun kq v3 v5 w' => ∃ (A : Option Addr) (c : Nat) (lv : List ByteArray) (ps : List (Desc × List ByteArray)) (rest : List (List ByteArray)) (So Si : Nat → Prop) (Ao : Option Addr) (no co : Nat), v3 = .slice A lv.length c ∧ v5 = .slice Ao no co ∧ Aside0 (rise kq lv = some rest) ∧ Aside0 (ps.map Prod.snd ++ rest = res) ∧ Aside0 (((A, lv.length, c), lv) ∈ ps) ∧ Aside0 ((∀ t ∈ lv, t.size = 32) ∧ lv.length ≤ 4096 ∧ ps.length + kq = 21) ∧ Aside0 (Inv w NoB w' [row kv 98 w.heap.size (.slice Ao no co) (ps.map Prod.fst) So, inners Kd.string 9 w.heap.size ps Si] (fun w2 => Kd.C Kd.string w2 A0 l0.length l0)))
    case atStart => exact ⟨A1, c1_, l0.map hl, [((A1, (l0.map hl).length, c1_), l0.map hl)], rest0, _, _, A24, _, c24, by first | rfl | rw [List.length_map], rfl, HRI, HRE, ⟨List.mem_singleton.2 rfl⟩, ⟨HM32.out, (by rw [List.length_map]; exact HLL0.out), rfl⟩, HI⟩
    case round =>
     clear HI
     obtain ⟨A, c, lv, ps, rest, So, Si, Ao, no, co, rfl, rfl, HRK, HPS, HMEM, HLV, HI⟩ := hrel
     cases gk with
     | zero => exact absurd HRK.out (by simp [rise])
     | succ k1 =>
      by_cases ce : lv.length ≤ 1
      ·
       have hr := HRK.out
       rw [rise, if_pos ce] at hr
       obtain rfl := Option.some.inj hr
       have c1 : decide ((lv.length : Int) > 1) = false := decide_eq_false (by omega)
       have c2 : decide (1 < lv.length) = false := decide_eq_false (by omega)
       have c3 : decide (1 < (lv.length : Int)) = false := decide_eq_false (by omega)
       clear hr ce HRK
       go_wp2
       go_ret
       exact ⟨_, rfl, (by have h := HI.out.slicesS; rw [← HPS.out, List.append_nil]; exact h), HI.out.below⟩
      ·
       have hr := HRK.out
       rw [rise, if_neg ce] at hr
       by_cases cm : lv.length % 2 = 0
       ·
        rw [if_pos cm] at hr
        obtain ⟨rest', hr', er⟩ := Option.map_eq_some_iff.1 hr
        subst er
        have c1 : decide ((lv.length : Int) > 1) = true := decide_eq_true (by omega)
        have c2 : decide (1 < lv.length) = true := decide_eq_true (by omega)
        have c3 : decide (1 < (lv.length : Int)) = true := decide_eq_true (by omega)
        have HRK2 := am_ hr'
        have HCM := am_ cm
        clear hr hr' HRK ce cm
        go_wp2_with (first | ((with_reducible refine gate_dst (N := 28) rfl ?_); refine Kd.R_lit Kd.string (w0 := _) _ 9 ?hg (N := 28) ?hd (xs := ([] : List ByteArray)) (inner := []) (ok := fun _ => True) (okp := fun _ => True) ?hr ?hp (fun _ hk => hk) trivial (Below.refl _ _) (Nat.le_refl _) (by simp) ?_; (case hd => rfl); (case hg => rfl); (case hr => first | (go_simp; done) | (go_simp; rfl)); (case hp => exact (Reps.none _ _)); intro v28 w28 hR hb hg hat; have HI_ := am_ ((HI.out).rowPush hb hR); clear HI; have HI := HI_; clear HI_; clear hR hb hg hat))
        clear c1 c2 c3
        go_loopg [6, 7] (lv.length / 2) (fun kq v6 v7 w' => ∃ (i : Int) (j : Nat) (Sn : Nat → Prop), v7 = .int .i64 i ∧ Aside0 (i = ((2 * j : Nat) : Int)) ∧ Aside0 (j + kq = lv.length / 2) ∧ Aside0 (Inv w NoB w' [row Kd.string 9 w.heap.size v6 ((pairs lv).take j) Sn, row kv 98 w.heap.size (.slice Ao no co) (ps.map Prod.fst) So, inners Kd.string 9 w.heap.size ps Si] (fun w2 => Kd.C Kd.string w2 A0 l0.length l0)))
        case atStart => exact ⟨0, 0, _, rfl, ⟨rfl⟩, ⟨(by omega)⟩, HI⟩
        case round =>
         clear HI
         obtain ⟨i, j, Sn, rfl, HIJ, HJ, HI⟩ := hrel
         have hj := HJ.out
         have hij := HIJ.out
         have hcm := HCM.out
         cases gk with
         | zero =>
          have c1 : decide (i < (lv.length : Int)) = false := decide_eq_false (by omega)
          have HI_ := HI.out
          rw [List.take_of_length_le (show (pairs lv).length ≤ j by rw [pairs_length]; omega)] at HI_
          clear HI
          have HI := am_ HI_
          clear HI_
          obtain ⟨An, cn, eq_, hcn, _⟩ := Kd.R_reads HI.out.row0
          subst eq_
          have HLP := am_ (show ps.length ≤ 21 by have := HLV.out.2.2; omega)
          clear hj hcm hcn HJ hij
          go_wp2_with (first | ((with_reducible refine gate_builtin (b := .append) (xs := #[.tmp 49, .tmp 51]) rfl ?_); at_builtin; refine Kd.R_append kv (w0 := _) w.heap.size rfl (.tmp 49) (.tmp 51) 102 98 (.slice none 0 0) 24 rfl Try.underlying102 lv_infoS rfl (by decide) (by omega) _ (ps.map Prod.fst) (An, (pairs lv).length, cn) [.slice An (pairs lv).length cn] _ (fun _ => False) rfl rfl ?aP (fun _ hk => hk.elim) ?aF (Inv.row0W HI.out.swap) (Below.refl _ _) HI.out.agr.size ?aL ?_; (case aP => exact rfl); (case aF => exact (fun _ hk => .inr hk)); (case aL => have := HLP.out; simp; omega); intro v52 w52 hR hb hg hat; obtain ⟨A52, c52, e52⟩ := Kd.R_slice hR; subst e52; have HI_ := am_ ((Inv.takeIn (x := (An, (pairs lv).length, cn)) (HI.out.swap.grown0 hb hR (fun _ hk _ => hk) hg).swap.swap1).swap); clear HI; have HI := HI_; clear HI_; clear hR hb hg hat))
          go_roundg k1
          case measure => omega
          case rel => exact ⟨An, cn, pairs lv, ps ++ [((An, (pairs lv).length, cn), pairs lv)], rest', _, _, A52, _, c52, rfl, rfl, HRK2, ⟨(by rw [List.map_append, List.append_assoc]; exact HPS.out)⟩, ⟨List.mem_append_right _ (List.mem_singleton.2 rfl)⟩, ⟨pairs_size lv, (by rw [pairs_length]; have := HLV.out.2.1; omega), (by rw [List.length_append, List.length_singleton]; have := HLV.out.2.2; omega)⟩, ⟨(by have h := HI.out; rw [List.length_append, List.length_map] at h; rw [List.map_append]; exact h)⟩⟩
         | succ k2 =>
          have c1 : decide (i < (lv.length : Int)) = true := decide_eq_true (by omega)
          have hl1 : 2 * j + 1 < lv.length := by omega
          have hbd := HLV.out.2.1
          obtain ⟨i2, hi2⟩ : ∃ i2 : Int, i2 = ((2 * j + 1 : Nat) : Int) := ⟨_, rfl⟩
          have p5 : 0 ≤ i := by omega
          have q5 : i < (lv.length : Int) := by omega
          have p7 : 0 ≤ i2 := by omega
          have q7 : i2 < (lv.length : Int) := by omega
          obtain ⟨ad, eA, _⟩ := Kd.at_string (HI.out.reads 2 rfl HMEM.out) i p5 q5
          subst eA
          have HX := am_ (fun (W : World) (hC : Kd.C Kd.string W (some ad) lv.length lv) => And.intro (str_two hC p5 q5) (str_two hC p7 q7))
          have HPT := am_ (show (pairs lv).take (j + 1) = (pairs lv).take j ++ [hn (rdOf ByteArray.empty lv i) (rdOf ByteArray.empty lv i2)] by rw [hij, hi2]; exact pairs_take lv j hl1)
          have HAS := am_ (HLV.out.1 _ (show rdOf ByteArray.empty lv i ∈ lv by rw [hij]; exact rd_mem (show 2 * j < lv.length by omega)))
          have HBS := am_ (HLV.out.1 _ (show rdOf ByteArray.empty lv i2 ∈ lv by rw [hi2]; exact rd_mem hl1))
          generalize rdOf ByteArray.empty lv i = a at HX HPT HAS
          generalize rdOf ByteArray.empty lv i2 = b at HX HPT HBS
          have HLL := am_ (show j ≤ 4096 by omega)
          have hwi : wrap64 (i + 1) = i2 := by unfold wrap64; omega
          have HWJ := am_ (show wrap64 (i + 2) = ((2 * (j + 1) : Nat) : Int) by unfold wrap64; omega)
          have HJ2 := am_ (show j + 1 + k2 = lv.length / 2 by omega)
          have p6 := eq_true p5
          have q6 := eq_true q5
          have p8 := eq_true p7
          have q8 := eq_true q7
          clear hj hcm hij hi2 p5 q5 p7 q7 hl1 hbd
          go_wp2
          refine start_ (n := 14) (S := fun w' => w'.cell? (ad.add i.toNat) = some (.string a) ∧ w'.cell? (ad.add i2.toNat) = some (.string b)) (ds := []) #[false, false, false, false, false, false, false, false, false, false, false, false, false, false] (by kernel_rfl) rfl rfl (HX.out _ (HI.out.drew.reads 2 rfl HMEM.out)) (fun hHeld => ?_)
          have HI_ := am_ (HI.out.drew); clear HI; have HI := HI_; clear HI_
          generalize World.drew _ = wd0 at HI hHeld ⊢
          refine pure_ (i := 0) (N := some 35) (v := ?_) (a' := ?_) #[true, false, false, false, false, false, false, false, false, false, false, false, false, false] rfl rfl (by kernel_rfl) (fun _ _ _ h => h) (Or.inl ⟨(by rfl), ?_⟩) ?_ ?_
          rotate_left
          ·
           intro w'
           go_simp
           with_reducible rfl
          rotate_left
          ·
           exact ap_
          refine pure_ (i := 1) (N := some 36) (v := ?_) (a' := ?_) #[true, true, false, false, false, false, false, false, false, false, false, false, false, false] rfl rfl (by kernel_rfl) (fun _ _ _ h => h) (Or.inl ⟨(by rfl), ?_⟩) ?_ ?_
          rotate_left
          ·
           intro w'
           go_simp
           with_reducible rfl
          rotate_left
          ·
           exact ap_
          refine pure_ (i := 2) (N := some 37) (v := ?_) (a' := ?_) #[true, true, true, false, false, false, false, false, false, false, false, false, false, false] rfl rfl (by kernel_rfl) (fun _ _ _ h => h) (Or.inl ⟨(by rfl), ?_⟩) ?_ ?_
          rotate_left
          ·
           intro w'
           go_simp
           with_reducible rfl
          rotate_left
          ·
           exact ap_
          refine pure_ (i := 3) (N := some 38) (v := ?_) (a' := ?_) #[true, true, true, true, false, false, false, false, false, false, false, false, false, false] rfl rfl (by kernel_rfl) (fun _ _ _ h => h) (Or.inl ⟨(by rfl), ?_⟩) ?_ ?_
          rotate_left
          ·
           intro w'
           go_simp
           with_reducible rfl
          rotate_left
          ·
           exact ap_
          refine take_ (i := 4) (N := some 39) (v := ?_) (a' := ?_) #[true, true, true, true, true, false, false, false, false, false, false, false, false, false] rfl rfl (by kernel_rfl) (fun _ _ _ h => h) (Or.inl ⟨(by rfl), ?_⟩) hHeld ?_ ?_
          rotate_left
          ·
           rintro w' ⟨s0, s1⟩
           go_simp
           with_reducible rfl
          rotate_left
          ·
           exact ap_
          refine pure_ (i := 5) (N := some 40) (v := ?_) (a' := ?_) #[true, true, true, true, true, true, false, false, false, false, false, false, false, false] rfl rfl (by kernel_rfl) (fun _ _ _ h => h) (Or.inl ⟨(by rfl), ?_⟩) ?_ ?_
          rotate_left
          ·
           intro w'
           go_simp
           with_reducible rfl
          rotate_left
          ·
           exact ap_
          refine pure_ (i := 6) (N := some 41) (v := ?_) (a' := ?_) #[true, true, true, true, true, true, true, false, false, false, false, false, false, false] rfl rfl (by kernel_rfl) (fun _ _ _ h => h) (Or.inl ⟨(by rfl), ?_⟩) ?_ ?_
          rotate_left
          ·
           intro w'
           go_simp
           with_reducible rfl
          rotate_left
          ·
           exact ap_
          refine pure_ (i := 7) (N := some 42) (v := ?_) (a' := ?_) #[true, true, true, true, true, true, true, true, false, false, false, false, false, false] rfl rfl (by kernel_rfl) (fun _ _ _ h => h) (Or.inl ⟨(by rfl), ?_⟩) ?_ ?_
          rotate_left
          ·
           intro w'
           go_simp
           with_reducible rfl
          rotate_left
          ·
           exact ap_
          refine pure_ (i := 8) (N := some 43) (v := ?_) (a' := ?_) #[true, true, true, true, true, true, true, true, true, false, false, false, false, false] rfl rfl (by kernel_rfl) (fun _ _ _ h => h) (Or.inl ⟨(by rfl), ?_⟩) ?_ ?_
          rotate_left
          ·
           intro w'
           go_simp
           with_reducible rfl
          rotate_left
          ·
           exact ap_
          refine take_ (i := 9) (N := some 44) (v := ?_) (a' := ?_) #[true, true, true, true, true, true, true, true, true, true, false, false, false, false] rfl rfl (by kernel_rfl) (fun _ _ _ h => h) (Or.inl ⟨(by rfl), ?_⟩) hHeld ?_ ?_
          rotate_left
          ·
           rintro w' ⟨s0, s1⟩
           go_simp
           with_reducible rfl
          rotate_left
          ·
           exact ap_
          refine one_ (i := 10) (N := some 45) #[true, true, true, true, true, true, true, true, true, true, true, false, false, false] rfl rfl (by kernel_rfl) (by decide) (fun K hK => ?_)
          refine goes_ Try.func134 (by kernel_rfl) rfl #[.string a, .string b] (by rfl) rfl rfl (by (try simp only [List.map_toArray, List.map_cons, List.map_nil]); first | done | rfl) ?_
          with_reducible refine (spec_l04Node.calls a b (hn a b) _ (node_eq HAS.out HBS.out)).mono ?_
          rintro e w45 ⟨rfl, hb⟩
          have HI_ := am_ (HI.out.grow hb); clear HI; have HI := HI_; clear HI_
          clear hb
          refine ⟨_, rfl, ?_⟩
          refine hK.out _ _ (HX.out _ (HI.out.reads 2 rfl HMEM.out)) (fun hHeld => ?_)
          clear hK K
          refine norm_ (a' := ?_) ?_ ?_
          rotate_left
          ·
           show Act.put _ (some 45) _ = _
           exact ap_
          refine one_ (i := 11) (N := some 46) #[true, true, true, true, true, true, true, true, true, true, true, true, false, false] rfl rfl (by kernel_rfl) (by decide) (fun K hK => ?_)
          refine value_ (w1 := ?_) (v := ?_) (by rfl) rfl ?_ ?_
          rotate_left 2
          ·
           go_simp
           constructor
           ·
            rfl
           ·
            rfl
          refine hK.out _ _ (HX.out _ ((HI.out.alloc _).reads 2 rfl HMEM.out)) (fun hHeld => ?_)
          clear hK K
          refine norm_ (a' := ?_) ?_ ?_
          rotate_left
          ·
           show Act.put _ (some 46) _ = _
           exact ap_
          refine one_ (i := 12) (N := some 47) #[true, true, true, true, true, true, true, true, true, true, true, true, true, false] rfl rfl (by kernel_rfl) (by decide) (fun K hK => ?_)
          refine Kd.R_append_step Kd.string (w0 := _) w.heap.size (by rfl) (.tmp 35) (.tmp 46) 98 9 (.string ⟨#[]⟩) 16 rfl Try.underlying98 info9 rfl (by decide) (by omega) _ ((pairs lv).take j) (hn a b) [.string (hn a b)] _ (fun _ => False) rfl rfl ?aP (fun _ hk => hk.elim) ?aF (Inv.row0W HI.out) (Below.refl _ _) HI.out.agr.size ?aL ?_
          (case aP => exact rfl)
          (case aF => exact (fun _ hk => .inr hk))
          (case aL => have := HLL.out; simp; omega)
          intro v47 w47 hR hb hg hat
          have HI_ := am_ (HI.out.grown0 hb hR (fun _ hk _ => hk) hg); clear HI; have HI := HI_; clear HI_
          clear hR hb hg hat
          refine hK.out _ _ (HX.out _ (HI.out.reads 2 rfl HMEM.out)) (fun hHeld => ?_)
          clear hK K
          refine norm_ (a' := ?_) ?_ ?_
          rotate_left
          ·
           show Act.put _ (some 47) _ = _
           exact ap_
          refine pure_ (i := 13) (N := some 6) (v := ?_) (a' := ?_) #[true, true, true, true, true, true, true, true, true, true, true, true, true, true] rfl rfl (by kernel_rfl) (fun _ _ _ h => h) (Or.inl ⟨(by rfl), ?_⟩) ?_ ?_
          rotate_left
          ·
           intro w'
           go_simp
           with_reducible rfl
          rotate_left
          ·
           exact ap_
          refine done_ (by kernel_rfl) ?_
          try go_wp2
          go_roundg k2
          case measure => omega
          case rel => exact ⟨_, j + 1, _, rfl, HWJ, HJ2, ⟨(by rw [HPT.out]; exact HI.out)⟩⟩
       ·
        rw [if_neg cm] at hr; cases hr
 ·
  rw [if_neg cs] at h; cases h

def spec_l04Root.f (l0 : List ByteArray) : Option (ByteArray) := (spec_l04Levels.f l0).bind fun t101 => (if 0 ≤ (wrap64 ((t101.length : Int) - 1)) then (if (wrap64 ((t101.length : Int) - 1)) < (t101.length : Int) then (if 0 < ((rd_L9 t101 (wrap64 ((t101.length : Int) - 1))).length : Int) then (some (rdOf ByteArray.empty (rd_L9 t101 (wrap64 ((t101.length : Int) - 1))) 0)) else (none)) else (none)) else (none))
set_option maxHeartbeats 8000000 in
set_option maxRecDepth 100000 in
theorem spec_l04Root.calls (A0 : Option Addr) (c0 : Nat) (l0 : List ByteArray) (r : ByteArray) (w : World) (hr0 : Kd.C Kd.string w A0 l0.length l0) (hc0 : l0.length ≤ c0) (h : spec_l04Root.f l0 = some r) :
  Calls Try.prog 62 #[.slice A0 l0.length c0] w fun e w' => e = .returned (.string r) ∧ Below w.heap.size w w' := by
 have HR0 := am_ hr0
 have HC0 := am_ hc0
 clear hr0 hc0
 have HB := am_ (Below.refl w.heap.size w)
 have H : ((spec_l04Levels.f l0).bind fun t101 => (if 0 ≤ (wrap64 ((t101.length : Int) - 1)) then (if (wrap64 ((t101.length : Int) - 1)) < (t101.length : Int) then (if 0 < ((rd_L9 t101 (wrap64 ((t101.length : Int) - 1))).length : Int) then (some (rdOf ByteArray.empty (rd_L9 t101 (wrap64 ((t101.length : Int) - 1))) 0)) else (none)) else (none)) else (none))) = some r := h
 clear h
 replace H := Option.bind_eq_some_iff.mp H
 obtain ⟨t101, A20, H⟩ := H
 replace H : (if 0 ≤ (wrap64 ((t101.length : Int) - 1)) then (if (wrap64 ((t101.length : Int) - 1)) < (t101.length : Int) then (if 0 < ((rd_L9 t101 (wrap64 ((t101.length : Int) - 1))).length : Int) then (some (rdOf ByteArray.empty (rd_L9 t101 (wrap64 ((t101.length : Int) - 1))) 0)) else (none)) else (none)) else (none)) = some r := H
 have A2 := am_ A20
 clear A20
 obtain ⟨ji3, hji3⟩ : ∃ j_ : Int, (wrap64 ((t101.length : Int) - 1)) = j_ := ⟨_, rfl⟩
 replace H : (if 0 ≤ (ji3) then (if (ji3) < (t101.length : Int) then (if 0 < ((rd_L9 t101 (ji3)).length : Int) then (some (rdOf ByteArray.empty (rd_L9 t101 (ji3)) 0)) else (none)) else (none)) else (none)) = some r := by first | (rw [hji3] at H; exact H) | (simp only [hji3] at H ⊢; exact H)
 (try rw [hji3] at A2)
 have hji3w : (IntKind.i64.wrap ((t101.length : Int) - 1)) = ji3 := (i64_w _).trans hji3
 by_cases c4 : 0 ≤ (ji3)
 ·
  rw [if_pos c4] at H
  have c4b0 : decide (0 ≤ (ji3)) = true := decide_eq_true c4
  clear c4
  by_cases c5 : (ji3) < (t101.length : Int)
  ·
   rw [if_pos c5] at H
   have c5b0 : decide ((ji3) < (t101.length : Int)) = true := decide_eq_true c5
   clear c5
   by_cases c6 : 0 < ((rd_L9 t101 (ji3)).length : Int)
   ·
    rw [if_pos c6] at H
    have c6b0 : decide (0 < ((rd_L9 t101 (ji3)).length : Int)) = true := decide_eq_true c6
    have c6b1 : decide (0 < (rd_L9 t101 (ji3)).length) = true := decide_eq_true (by omega)
    clear c6
    obtain rfl := Option.some.inj H
    go_enter Try.func62, Try.ntmps62
    go_wp2_with (first | ((with_reducible refine gate_callee (f := 104) rfl ?_); refine goesL_ (some 5) rfl rfl Try.func104 (by kernel_rfl) rfl #[.slice A0 l0.length c0] rfl qz2_ ?_; (with_reducible refine (spec_l04Levels.calls _ _ l0 t101 _ ?side1 ?side2 A2.out).mono ?_); (case side1 => exact qc_ HR0.out); (case side2 => exact HC0.out); rintro e w7 ⟨v102, rfl, ho0, hb⟩; refine ⟨_, rfl, ?_⟩; have n0_ := am_ (Kd.S_lower ho0 (below_size qz3_)); have n1_ := am_ (below_step qz3_ hb); clear HB; have HO103 := n0_; have HB := n1_; clear n0_ n1_; (try clear hb); (try clear hb2); (try clear hk); (try clear hi); (try clear ho0); obtain ⟨Ao8, co8, eo8⟩ := Kd.S_slice HO103.out; subst eo8; have p104 : 0 ≤ ((ji3) : Int) := of_decide_eq_true qz6_; have q104 : (ji3) < (t101.length : Int) := of_decide_eq_true qz6_; obtain ⟨ad104, A104_0, c104_0, e104, hx104_0, hl104_0, hi104_0⟩ := at_L9 (Kd.S_reads' HO103.out).2.2 (ji3) p104 q104; cases e104; obtain ⟨ce104, hce104, hMe104, hcc104⟩ := Kd.S_get HO103.out [] (ji3) p104 (by first | exact q104 | exact of_decide_eq_true qz6_ | (have e_ := (Kd.S_reads' HO103.out).1; omega)); obtain ⟨ve104_0, rfl, ge104_0⟩ := hMe104; have hv104_0 := hcc104 0 _ rfl; rw [Nat.add_zero, show ((Kd.slice 9 Kd.string)).sz = 1 from rfl, Nat.mul_one] at hv104_0; replace hv104_0 := Option.some.inj (hv104_0.symm.trans hx104_0); rw [hv104_0] at ge104_0; have HL104_0 := am_ (show Kd.R Kd.string 9 _ _ _ _ (rd_L9 t101 (ji3)) from ge104_0); clear hv104_0 ge104_0; clear hcc104 hce104; have HR104_0 := am_ hi104_0; have HC104_0 := am_ hl104_0; clear hi104_0 hl104_0; replace p104 := eq_true p104; replace q104 := eq_true q104; have p105 : 0 ≤ (0 : Int) := (by omega); have q105 : 0 < ((rd_L9 t101 (ji3)).length : Int) := of_decide_eq_true qz6_; obtain ⟨ad105, e105, hx105_0⟩ := Kd.at_string (by repeat (first | (with_reducible exact HR104_0.out) | (with_reducible refine Kd.C_alloc ?_ _) | (with_reducible refine Kd.C_drewN ?_ _) | (with_reducible refine Kd.C_drew ?_) | exact HR104_0.out)) 0 p105 q105; cases e105; have qi105 : (0 < (rd_L9 t101 (ji3)).length) = True := eq_true (by omega); (try rw [show ((0 : Int)).toNat = 0 from rfl] at hx105_0); (try rw [Addr.add_zero'] at hx105_0); replace p105 := eq_true p105; replace q105 := eq_true q105))
    go_ret
    exact ⟨(by first | rfl | (simp [errW_none, errW_some] <;> rfl) | (simp only [← hji3]; first | rfl | (simp [errW_none, errW_some] <;> rfl)) | (simp [*, errW_none, errW_some] <;> rfl)), qz3_⟩
   ·
    rw [if_neg c6] at H
    exact absurd H (by simp)
  ·
   rw [if_neg c5] at H
   exact absurd H (by simp)
 ·
  rw [if_neg c4] at H
  exact absurd H (by simp)

def spec_l02Number.l0 : Nat → Int → List Int → Int → Option (List Int)
 | 0, _, _, _ => none
 | k + 1, x0, x5, x6 => if x6 ≥ 0 then (if 0 ≤ (IntKind.u64.wrap (wrap64 (8 * x6))) then (if x5.length < 140737488355328 then (spec_l02Number.l0 k x0 (x5 ++ [(shr .i64 x0 (IntKind.u64.wrap (wrap64 (8 * x6)))) % 256]) (wrap64 (x6 - 1))) else (none)) else (none)) else (some x5)
def spec_l02Number.f (k : Nat) (a0 : Int) (a1 : Int) : Option (List Int) := spec_l02Number.l0 k a0 (([] : List Int)) (wrap64 (a1 - 1))
theorem spec_l02Number.mono_l : ∀ k, (∀ y0 y1 y2, LeO (spec_l02Number.l0 k y0 y1 y2) (spec_l02Number.l0 (k + 1) y0 y1 y2))
 | 0 => fun _ _ _ r h => by simp [spec_l02Number.l0] at h
 | k + 1 => by
  have ih0 := spec_l02Number.mono_l k
  ·
   intro y0 y1 y2
   unfold spec_l02Number.l0
   repeat' first
   | (with_reducible exact ih0 _ _ _)
   | (with_reducible exact LeO.refl _)
   | (with_reducible exact LeO.none _)
   | (with_reducible refine LeO.ite ?_ ?_)
   | (with_reducible refine LeO.bind ?_ (fun _ => ?_))
   | exact ih0 _ _ _
   | exact LeO.none _
   | refine LeO.ite ?_ ?_
   | refine LeO.bind ?_ (fun _ => ?_)
theorem spec_l02Number.mono : ∀ a0 a1 k, LeO (spec_l02Number.f k a0 a1) (spec_l02Number.f (k + 1) a0 a1) := by
 intro a0 a1 k
 have ih0 := spec_l02Number.mono_l k
 unfold spec_l02Number.f
 repeat' first
   | (with_reducible exact ih0 _ _ _)
   | (with_reducible exact LeO.refl _)
   | (with_reducible exact LeO.none _)
   | (with_reducible refine LeO.ite ?_ ?_)
   | (with_reducible refine LeO.bind ?_ (fun _ => ?_))
   | exact ih0 _ _ _
   | exact LeO.none _
   | refine LeO.ite ?_ ?_
   | refine LeO.bind ?_ (fun _ => ?_)
set_option maxHeartbeats 8000000 in
set_option maxRecDepth 100000 in
theorem spec_l02Number.calls (k : Nat) (a0 : Int) (a1 : Int) (r : List Int) (w : World) (h : spec_l02Number.f k a0 a1 = some r) :
  Calls Try.prog 91 #[.int .i64 a0, .int .i64 a1] w fun e w' => ∃ v0_ : Value, e = .returned (v0_) ∧ Kd.R (Kd.int .u8) 5 w' w.heap.size (fun _ => True) v0_ r ∧ Below w.heap.size w w' := by
 have HB := am_ (Below.refl w.heap.size w)
 have H : (spec_l02Number.l0 k a0 (([] : List Int)) (wrap64 (a1 - 1))) = some r := h
 clear h
 obtain ⟨y101, hy101⟩ : ∃ y_ : List Int, y_ = (([] : List Int)) := ⟨_, rfl⟩
 replace H : (spec_l02Number.l0 k a0 y101 (wrap64 (a1 - 1))) = some r := by first | (rw [hy101]; with_reducible exact H) | (have H2_ := (Option.bind_some _ _).symm.trans H; rw [hy101]; with_reducible exact H2_) | (have H2_ := (Option.bind_some _ _).symm.trans H; with_reducible exact H2_) | with_reducible exact H | (rw [hy101]; exact H) | exact H
 have Ny101 := am_ hy101
 clear hy101
 have H' := am_ H
 clear H
 go_enter Try.func91, Try.ntmps91
 go_wp2_with (first | ((with_reducible refine gate_dst (N := 7) rfl ?_); refine Kd.R_lit (Kd.int .u8) _ 5 ?hg (N := 7) ?hd (xs := ([] : List Int)) (inner := []) (ok := fun _ => True) (okp := fun _ => True) ?hr ?hp (fun _ hk => hk) trivial (Below.refl _ _) (Nat.le_refl _) (by simp) ?_; (case hd => rfl); (case hg => rfl); (case hr => first | (go_simp; done) | (go_simp; rfl)); (case hp => exact (Reps.none _ _)); intro v102 w3 ho4 hb hg_ hnew_; clear hg_ hnew_; (first | rw [← Ny101.out] at ho4 | (simp only [Int.reduceToNat] at ho4; rw [← Ny101.out] at ho4)); have n0_ := am_ (Kd.R_lower ho4 (below_size qz3_)); have n1_ := am_ (below_step qz3_ hb); clear HB; have HO103 := n0_; have HB := n1_; clear n0_ n1_; clear hb ho4))
 go_loopg [5, 6] k (fun kq v5 v6 w' => ∃ (x5_1 : List Int) (x6_1 : Int), v6 = .int .i64 x6_1 ∧ Aside0 (spec_l02Number.l0 kq a0 x5_1 x6_1 = some r) ∧ Aside0 (kq ≤ k) ∧ Aside0 (Kd.R (Kd.int .u8) 5 w' w.heap.size (fun _ => True) v5 x5_1) ∧ Aside0 (Below w.heap.size w w'))
 case atStart => exact ⟨(y101), (wrap64 (a1 - 1)), qz0_, H', ⟨Nat.le_refl _⟩, ⟨qz10_⟩, ⟨qz3_⟩⟩
 case round =>
  clear H'
  try clear p2
  obtain ⟨x5_1, x6_1, rfl, HA, HK1, HO_5, HB⟩ := hrel
  cases gk with
  | zero => exact absurd HA.out (by simp [spec_l02Number.l0])
  | succ k1 =>
   have H := HA.out
   clear HA
   simp only [spec_l02Number.l0] at H
   by_cases c5 : x6_1 ≥ 0
   ·
    rw [if_pos c5] at H
    have c5b0 : decide (0 ≤ x6_1) = true := decide_eq_true c5
    clear c5
    obtain ⟨ji6, hji6⟩ : ∃ j_ : Int, (IntKind.u64.wrap (wrap64 (8 * x6_1))) = j_ := ⟨_, rfl⟩
    replace H : (if 0 ≤ (ji6) then (if x5_1.length < 140737488355328 then (spec_l02Number.l0 k1 a0 (x5_1 ++ [(shr .i64 a0 (ji6)) % 256]) (wrap64 (x6_1 - 1))) else (none)) else (none)) = some r := by first | (rw [hji6] at H; exact H) | (simp only [hji6] at H ⊢; exact H)
    by_cases c7 : 0 ≤ (ji6)
    ·
     rw [if_pos c7] at H
     have c7b0 := eq_true c7
     have c7b1 : decide (0 ≤ (ji6)) = true := decide_eq_true c7
     clear c7
     obtain ⟨ji8, hji8⟩ : ∃ j_ : Int, (shr .i64 a0 (ji6)) = j_ := ⟨_, rfl⟩
     replace H : (if x5_1.length < 140737488355328 then (spec_l02Number.l0 k1 a0 (x5_1 ++ [(ji8) % 256]) (wrap64 (x6_1 - 1))) else (none)) = some r := by first | (rw [hji8] at H; exact H) | (simp only [hji8] at H ⊢; exact H)
     have hji8_ : (a0 / 2 ^ min (ji6).toNat 64) = ji8 := hji8
     have hji8z : (ji6) ≤ 64 → (a0 / 2 ^ (ji6).toNat) = ji8 := shr_small hji8
     by_cases c9 : x5_1.length < 140737488355328
     ·
      rw [if_pos c9] at H
      have LMc9 := am_ c9
      clear c9
      obtain ⟨y104, hy104⟩ : ∃ y_ : List Int, y_ = (x5_1 ++ [(ji8) % 256]) := ⟨_, rfl⟩
      replace H : (spec_l02Number.l0 k1 a0 y104 (wrap64 (x6_1 - 1))) = some r := by first | (rw [hy104]; with_reducible exact H) | (have H2_ := (Option.bind_some _ _).symm.trans H; rw [hy104]; with_reducible exact H2_) | (have H2_ := (Option.bind_some _ _).symm.trans H; with_reducible exact H2_) | with_reducible exact H | (rw [hy104]; exact H) | exact H
      have Ny104 := am_ hy104
      clear hy104
      have H' := am_ H
      clear H
      go_wp2_with (first | ((with_reducible refine gate_builtin (b := .append) (xs := #[.tmp 14, .tmp 21]) rfl ?_); at_builtin; refine Kd.R_append (Kd.int .u8) (w0 := w) w.heap.size rfl (.tmp 14) (.tmp 21) 22 5 (.int .u8 0) 1 rfl Try.underlying22 info5 rfl (by decide) (by omega) u5 x5_1 ((ji8) % 256) [.int .u8 ((ji8) % 256)] (fun _ => True) (fun _ => False) rfl rfl ?aP (fun _ hk => hk.elim) ?aF ?aO ?aB ?aS ?aL ?_; (case aP => exact rfl); (case aB => exact qz3_); (case aF => exact (fun _ _ => trivial)); (case aO => exact qz11_); (case aS => exact (below_size qz3_)); (case aL => have := LMc9.out; omega); intro v105 w10 ho hb hg hat; rw [← Ny104.out] at ho; have n0_ := am_ (hb); have n1_ := am_ (ho); clear HB; clear HO_5; have HB := n0_; have HO106 := n1_; clear n0_ n1_; clear ho hb hg hat))
      go_roundg k1
      case measure => have := HK1.out; omega
      case rel => exact ⟨(y104), (wrap64 (x6_1 - 1)), qz0_, H', ⟨(by have := HK1.out; omega)⟩, ⟨qz12_⟩, ⟨qz3_⟩⟩
     ·
      rw [if_neg c9] at H
      exact absurd H (by simp)
    ·
     rw [if_neg c7] at H
     exact absurd H (by simp)
   ·
    rw [if_neg c5] at H
    have c5b0 : decide (0 ≤ x6_1) = false := decide_eq_false c5
    clear c5
    obtain rfl := Option.some.inj H
    go_wp2
    go_ret
    exact ⟨_, qz4_, qz11_, qz3_⟩

def spec_l02Bytes.l0 : Nat → List (S34) → List Int → Int → Option (List Int)
 | 0, _, _, _ => none
 | k + 1, x0, x3, x4 => if x4 < (x0.length : Int) then (if 0 ≤ x4 then ((spec_l02Number.f k ((rd_T34 x0 x4).f0) 4).bind fun t105 => (if x3.length + t105.length < 140737488355328 then ((some (x3 ++ t105 : List Int)).bind fun y108 => ((spec_l02Number.f k ((rd_T34 x0 x4).f1) 4).bind fun t112 => (if y108.length + t112.length < 140737488355328 then (spec_l02Bytes.l0 k x0 (y108 ++ t112) (wrap64 (x4 + 1))) else (none)))) else (none))) else (none)) else (some x3)
def spec_l02Bytes.f (k : Nat) (l0 : List (S34)) : Option (List Int) := spec_l02Bytes.l0 k l0 (([] : List Int)) 0
theorem spec_l02Bytes.mono_l : ∀ k, (∀ y0 y1 y2, LeO (spec_l02Bytes.l0 k y0 y1 y2) (spec_l02Bytes.l0 (k + 1) y0 y1 y2))
 | 0 => fun _ _ _ r h => by simp [spec_l02Bytes.l0] at h
 | k + 1 => by
  have ih0 := spec_l02Bytes.mono_l k
  ·
   intro y0 y1 y2
   unfold spec_l02Bytes.l0
   repeat' first
   | (with_reducible exact ih0 _ _ _)
   | (with_reducible exact spec_l02Number.mono _ _ _)
   | (with_reducible exact LeO.refl _)
   | (with_reducible exact LeO.none _)
   | (with_reducible refine LeO.ite ?_ ?_)
   | (with_reducible refine LeO.bind ?_ (fun _ => ?_))
   | exact ih0 _ _ _
   | exact spec_l02Number.mono _ _ _
   | exact LeO.none _
   | refine LeO.ite ?_ ?_
   | refine LeO.bind ?_ (fun _ => ?_)
theorem spec_l02Bytes.mono : ∀ a0 k, LeO (spec_l02Bytes.f k a0) (spec_l02Bytes.f (k + 1) a0) := by
 intro a0 k
 have ih0 := spec_l02Bytes.mono_l k
 unfold spec_l02Bytes.f
 repeat' first
   | (with_reducible exact ih0 _ _ _)
   | (with_reducible exact spec_l02Number.mono _ _ _)
   | (with_reducible exact LeO.refl _)
   | (with_reducible exact LeO.none _)
   | (with_reducible refine LeO.ite ?_ ?_)
   | (with_reducible refine LeO.bind ?_ (fun _ => ?_))
   | exact ih0 _ _ _
   | exact spec_l02Number.mono _ _ _
   | exact LeO.none _
   | refine LeO.ite ?_ ?_
   | refine LeO.bind ?_ (fun _ => ?_)
def spec_l02Bytes.T5 : Bool × List (List Nat × List Nat) := (true, [([], []), ([], []), ([], []), ([1, 2], [1, 2]), ([3], [3]), ([4], [4]), ([5], [5]), ([0, 6, 6], [0, 6]), ([], []), ([], []), ([8, 9], [8, 9]), ([10], [10]), ([11], [11]), ([12, 7], [12]), ([7, 13, 13], [7, 13]), ([14, 14, 0, 1, 2, 3, 4, 5, 6, 7, 8, 9, 10, 11, 12, 13, 14], [0, 14])])
def spec_l02Bytes.B5 : List Nat := [0, 0, 0, 6, 14, 30, 62, 127, 0, 0, 768, 1792, 3840, 8191, 16383, 32767]
theorem spec_l02Bytes.tab5 : rtab .any (opsOf Try.f105 5) = spec_l02Bytes.T5 := by kernel_rfl
theorem spec_l02Bytes.bits5 : waitsOk spec_l02Bytes.T5.2 spec_l02Bytes.B5 = true := by kernel_rfl
set_option maxHeartbeats 8000000 in
set_option maxRecDepth 100000 in
theorem spec_l02Bytes.calls (k : Nat) (A0 : Option Addr) (c0 : Nat) (l0 : List (S34)) (r : List Int) (w : World) (hr0 : Kd.C k34 w A0 l0.length l0) (hc0 : l0.length ≤ c0) (h : spec_l02Bytes.f k l0 = some r) :
  Calls Try.prog 105 #[.slice A0 l0.length c0] w fun e w' => ∃ v0_ : Value, e = .returned (v0_) ∧ Kd.R (Kd.int .u8) 5 w' w.heap.size (fun _ => True) v0_ r ∧ Below w.heap.size w w' := by
 have HR0 := am_ hr0
 have HC0 := am_ hc0
 clear hr0 hc0
 have HB := am_ (Below.refl w.heap.size w)
 have H : (spec_l02Bytes.l0 k l0 (([] : List Int)) 0) = some r := h
 clear h
 obtain ⟨y101, hy101⟩ : ∃ y_ : List Int, y_ = (([] : List Int)) := ⟨_, rfl⟩
 replace H : (spec_l02Bytes.l0 k l0 y101 0) = some r := by first | (rw [hy101]; with_reducible exact H) | (have H2_ := (Option.bind_some _ _).symm.trans H; rw [hy101]; with_reducible exact H2_) | (have H2_ := (Option.bind_some _ _).symm.trans H; with_reducible exact H2_) | with_reducible exact H | (rw [hy101]; exact H) | exact H
 have Ny101 := am_ hy101
 clear hy101
 have H' := am_ H
 clear H
 go_enter Try.func105, Try.ntmps105
 go_wp2_with (first | ((with_reducible refine gate_dst (N := 5) rfl ?_); refine Kd.R_lit (Kd.int .u8) _ 5 ?hg (N := 5) ?hd (xs := ([] : List Int)) (inner := []) (ok := fun _ => True) (okp := fun _ => True) ?hr ?hp (fun _ hk => hk) trivial (Below.refl _ _) (Nat.le_refl _) (by simp) ?_; (case hd => rfl); (case hg => rfl); (case hr => first | (go_simp; done) | (go_simp; rfl)); (case hp => exact (Reps.none _ _)); intro v102 w2 ho3 hb hg_ hnew_; clear hg_ hnew_; (first | rw [← Ny101.out] at ho3 | (simp only [Int.reduceToNat] at ho3; rw [← Ny101.out] at ho3)); have n0_ := am_ (Kd.R_lower ho3 (below_size qz3_)); have n1_ := am_ (below_step qz3_ hb); clear HB; have HO103 := n0_; have HB := n1_; clear n0_ n1_; clear hb ho3))
 go_loopg [3, 4] k (fun kq v3 v4 w' => ∃ (x3_1 : List Int) (x4_1 : Int), v4 = .int .i64 x4_1 ∧ Aside0 (spec_l02Bytes.l0 kq l0 x3_1 x4_1 = some r) ∧ Aside0 (kq ≤ k) ∧ Aside0 (Kd.R (Kd.int .u8) 5 w' w.heap.size (fun _ => True) v3 x3_1) ∧ Aside0 (Below w.heap.size w w'))
 case atStart => exact ⟨(y101), (0), qz0_, H', ⟨Nat.le_refl _⟩, ⟨qz10_⟩, ⟨qz3_⟩⟩
 case round =>
  clear H'
  try clear c1
  try clear p2
  obtain ⟨x3_1, x4_1, rfl, HA, HK1, HO_3, HB⟩ := hrel
  cases gk with
  | zero => exact absurd HA.out (by simp [spec_l02Bytes.l0])
  | succ k1 =>
   have H := HA.out
   clear HA
   simp only [spec_l02Bytes.l0] at H
   by_cases c4 : x4_1 < (l0.length : Int)
   ·
    rw [if_pos c4] at H
    have c4b0 : decide (x4_1 < (l0.length : Int)) = true := decide_eq_true c4
    clear c4
    by_cases c5 : 0 ≤ x4_1
    ·
     rw [if_pos c5] at H
     have c5b0 : decide (0 ≤ x4_1) = true := decide_eq_true c5
     clear c5
     replace H := Option.bind_eq_some_iff.mp H
     obtain ⟨t105, A60, H⟩ := H
     replace H : (if x3_1.length + t105.length < 140737488355328 then ((some (x3_1 ++ t105 : List Int)).bind fun y108 => ((spec_l02Number.f k1 ((rd_T34 l0 x4_1).f1) 4).bind fun t112 => (if y108.length + t112.length < 140737488355328 then (spec_l02Bytes.l0 k1 l0 (y108 ++ t112) (wrap64 (x4_1 + 1))) else (none)))) else (none)) = some r := H
     have A6 := am_ A60
     clear A60
     by_cases c7 : x3_1.length + t105.length < 140737488355328
     ·
      rw [if_pos c7] at H
      have LMc7 := am_ c7
      clear c7
      obtain ⟨y108, hy108⟩ : ∃ y_ : List Int, y_ = (x3_1 ++ t105) := ⟨_, rfl⟩
      replace H : ((spec_l02Number.f k1 ((rd_T34 l0 x4_1).f1) 4).bind fun t112 => (if y108.length + t112.length < 140737488355328 then (spec_l02Bytes.l0 k1 l0 (y108 ++ t112) (wrap64 (x4_1 + 1))) else (none))) = some r := by first | (rw [hy108]; with_reducible exact H) | (have H2_ := (Option.bind_some _ _).symm.trans H; rw [hy108]; with_reducible exact H2_) | (have H2_ := (Option.bind_some _ _).symm.trans H; with_reducible exact H2_) | with_reducible exact H | (rw [hy108]; exact H) | exact H
      have Ny108 := am_ hy108
      clear hy108
      replace H := Option.bind_eq_some_iff.mp H
      obtain ⟨t112, A80, H⟩ := H
      replace H : (if y108.length + t112.length < 140737488355328 then (spec_l02Bytes.l0 k1 l0 (y108 ++ t112) (wrap64 (x4_1 + 1))) else (none)) = some r := H
      have A8 := am_ A80
      clear A80
      by_cases c9 : y108.length + t112.length < 140737488355328
      ·
       rw [if_pos c9] at H
       have LMc9 := am_ c9
       clear c9
       obtain ⟨y115, hy115⟩ : ∃ y_ : List Int, y_ = (y108 ++ t112) := ⟨_, rfl⟩
       replace H : (spec_l02Bytes.l0 k1 l0 y115 (wrap64 (x4_1 + 1))) = some r := by first | (rw [hy115]; with_reducible exact H) | (have H2_ := (Option.bind_some _ _).symm.trans H; rw [hy115]; with_reducible exact H2_) | (have H2_ := (Option.bind_some _ _).symm.trans H; with_reducible exact H2_) | with_reducible exact H | (rw [hy115]; exact H) | exact H
       have Ny115 := am_ hy115
       clear hy115
       have H' := am_ H
       clear H
       try go_wp2
       have n0_ := am_ (Kd.R_drew HO_3.out)
       have n1_ := am_ (below_drew1 HB.out)
       clear HO_3
       clear HB
       have HO_3 := n0_
       have HB := n1_
       clear n0_ n1_
       have p104 : 0 ≤ (x4_1 : Int) := of_decide_eq_true qz6_
       have q104 : x4_1 < (l0.length : Int) := of_decide_eq_true qz6_
       obtain ⟨ad104, e104, hx104_0, hx104_1⟩ := at_T34 HR0.out x4_1 p104 q104
       have hw104_1 := hx104_1
       have hw104_0 := hx104_0
       cases e104
       replace hx104_0 := (HB.out.cell (World.block_lt_of_cell? w _ hx104_0)).trans hx104_0
       replace hx104_1 := (HB.out.cell (World.block_lt_of_cell? w _ hx104_1)).trans hx104_1
       replace p104 := eq_true p104
       replace q104 := eq_true q104
       have p111 : 0 ≤ (x4_1 : Int) := of_decide_eq_true qz6_
       have q111 : x4_1 < (l0.length : Int) := of_decide_eq_true qz6_
       obtain ⟨ad111, e111, hx111_0, hx111_1⟩ := at_T34 HR0.out x4_1 p111 q111
       have hw111_1 := hx111_1
       have hw111_0 := hx111_0
       obtain rfl : ad104 = ad111 := (by injection e111)
       replace hx111_0 := (HB.out.cell (World.block_lt_of_cell? w _ hx111_0)).trans hx111_0
       replace hx111_1 := (HB.out.cell (World.block_lt_of_cell? w _ hx111_1)).trans hx111_1
       replace p111 := eq_true p111
       replace q111 := eq_true q111
       refine start_ (n := 16) (S := fun w' => w'.cell? (ad104.add ((x4_1).toNat * 2)) = some (.int .i64 ((rd_T34 l0 x4_1).f0)) ∧ w'.cell? ⟨(ad104.add ((x4_1).toNat * 2)).block, (ad104.add ((x4_1).toNat * 2)).off + 1, none⟩ = some (.int .i64 ((rd_T34 l0 x4_1).f1)) ∧ w'.cell? (ad104.add ((x4_1).toNat * 2)) = some (.int .i64 ((rd_T34 l0 x4_1).f0)) ∧ w'.cell? ⟨(ad104.add ((x4_1).toNat * 2)).block, (ad104.add ((x4_1).toNat * 2)).off + 1, none⟩ = some (.int .i64 ((rd_T34 l0 x4_1).f1))) (ds := []) #[false, false, false, false, false, false, false, false, false, false, false, false, false, false, false, false] (by kernel_rfl) rfl rfl ⟨((HB.out.cell (World.block_lt_of_cell? w _ hw104_0)).trans hw104_0), ((HB.out.cell (World.block_lt_of_cell? w _ hw104_1)).trans hw104_1), ((HB.out.cell (World.block_lt_of_cell? w _ hw111_0)).trans hw111_0), ((HB.out.cell (World.block_lt_of_cell? w _ hw111_1)).trans hw111_1)⟩ (fun hHeld => ?_); refine with_tabW spec_l02Bytes.tab5 spec_l02Bytes.bits5 (fun HT_ HW_ => ?_)
       generalize wr.drew = w10 at HO_3 HB hx104_0 hx104_1 hx111_0 hx111_1 hHeld ⊢
       refine pure_ (i := 0) (N := some 12) (v := ?_) (a' := ?_) #[true, false, false, false, false, false, false, false, false, false, false, false, false, false, false, false] rfl rfl (any_of HT_.out (by kernel_rfl)) (fun _ _ _ h => h) (Or.inl ⟨(by rfl), ?_⟩) ?_ ?_
       rotate_left
       ·
        intro w'
        go_simp
        with_reducible rfl
       rotate_left
       ·
        exact ap_
       refine pure_ (i := 1) (N := some 13) (v := ?_) (a' := ?_) #[true, true, false, false, false, false, false, false, false, false, false, false, false, false, false, false] rfl rfl (any_of HT_.out (by kernel_rfl)) (fun _ _ _ h => h) (Or.inl ⟨(by rfl), ?_⟩) ?_ ?_
       rotate_left
       ·
        intro w'
        go_simp
        with_reducible rfl
       rotate_left
       ·
        exact ap_
       refine pure_ (i := 2) (N := some 14) (v := ?_) (a' := ?_) #[true, true, true, false, false, false, false, false, false, false, false, false, false, false, false, false] rfl rfl (any_of HT_.out (by kernel_rfl)) (fun _ _ _ h => h) (Or.inl ⟨(by rfl), ?_⟩) ?_ ?_
       rotate_left
       ·
        intro w'
        go_simp
        with_reducible rfl
       rotate_left
       ·
        exact ap_
       refine pure_ (i := 3) (N := some 15) (v := ?_) (a' := ?_) #[true, true, true, true, false, false, false, false, false, false, false, false, false, false, false, false] rfl rfl (any_of HT_.out (by kernel_rfl)) (fun _ _ _ h => h) (Or.inl ⟨(by rfl), ?_⟩) ?_ ?_
       rotate_left
       ·
        intro w'
        go_simp
        with_reducible rfl
       rotate_left
       ·
        exact ap_
       refine pure_ (i := 4) (N := some 16) (v := ?_) (a' := ?_) #[true, true, true, true, true, false, false, false, false, false, false, false, false, false, false, false] rfl rfl (any_of HT_.out (by kernel_rfl)) (fun _ _ _ h => h) (Or.inl ⟨(by rfl), ?_⟩) ?_ ?_
       rotate_left
       ·
        intro w'
        go_simp
        with_reducible rfl
       rotate_left
       ·
        exact ap_
       refine pure_ (i := 8) (N := some 20) (v := ?_) (a' := ?_) #[true, true, true, true, true, false, false, false, true, false, false, false, false, false, false, false] rfl rfl (any_of HT_.out (by kernel_rfl)) (fun _ _ _ h => h) (Or.inl ⟨(by rfl), ?_⟩) ?_ ?_
       rotate_left
       ·
        intro w'
        go_simp
        with_reducible rfl
       rotate_left
       ·
        exact ap_
       refine pure_ (i := 9) (N := some 21) (v := ?_) (a' := ?_) #[true, true, true, true, true, false, false, false, true, true, false, false, false, false, false, false] rfl rfl (any_of HT_.out (by kernel_rfl)) (fun _ _ _ h => h) (Or.inl ⟨(by rfl), ?_⟩) ?_ ?_
       rotate_left
       ·
        intro w'
        go_simp
        with_reducible rfl
       rotate_left
       ·
        exact ap_
       refine pure_ (i := 10) (N := some 22) (v := ?_) (a' := ?_) #[true, true, true, true, true, false, false, false, true, true, true, false, false, false, false, false] rfl rfl (any_of HT_.out (by kernel_rfl)) (fun _ _ _ h => h) (Or.inl ⟨(by rfl), ?_⟩) ?_ ?_
       rotate_left
       ·
        intro w'
        go_simp
        with_reducible rfl
       rotate_left
       ·
        exact ap_
       refine pure_ (i := 11) (N := some 23) (v := ?_) (a' := ?_) #[true, true, true, true, true, false, false, false, true, true, true, true, false, false, false, false] rfl rfl (any_of HT_.out (by kernel_rfl)) (fun _ _ _ h => h) (Or.inl ⟨(by rfl), ?_⟩) ?_ ?_
       rotate_left
       ·
        intro w'
        go_simp
        with_reducible rfl
       rotate_left
       ·
        exact ap_
       refine take_ (i := 5) (N := some 17) (v := ?_) (a' := ?_) #[true, true, true, true, true, true, false, false, true, true, true, true, false, false, false, false] rfl rfl (take_ofW HT_.out HW_.out (by kernel_rfl)) (fun _ _ _ h => h) (Or.inl ⟨(by rfl), ?_⟩) hHeld ?_ ?_
       rotate_left
       ·
        rintro w' ⟨s0, s1, s2, s3⟩
        go_simp
        with_reducible rfl
       rotate_left
       ·
        exact ap_
       refine take_ (i := 12) (N := some 24) (v := ?_) (a' := ?_) #[true, true, true, true, true, true, false, false, true, true, true, true, true, false, false, false] rfl rfl (take_ofW HT_.out HW_.out (by kernel_rfl)) (fun _ _ _ h => h) (Or.inl ⟨(by rfl), ?_⟩) hHeld ?_ ?_
       rotate_left
       ·
        rintro w' ⟨s0, s1, s2, s3⟩
        go_simp
        with_reducible rfl
       rotate_left
       ·
        exact ap_
       refine one_ (i := 6) (N := some 18) #[true, true, true, true, true, true, true, false, true, true, true, true, true, false, false, false] rfl rfl (one_of HT_.out (by kernel_rfl)) (by decide) (fun K hK => ?_)
       refine goes_ Try.func91 (by kernel_rfl) rfl #[.int .i64 ((rd_T34 l0 x4_1).f0), .int .i64 4] (by rfl) rfl rfl qz2_ ?_
       with_reducible refine (spec_l02Number.calls k1 ((rd_T34 l0 x4_1).f0) 4 t105 _ A6.out).mono ?_
       rintro e w11 ⟨v106, rfl, ho0, hb⟩
       refine ⟨_, rfl, ?_⟩
       have n0_ := am_ (Kd.R_elder' qz9_ (Kd.R_base ho0) hb)
       have n1_ := am_ (Kd.R_lower (Kd.R_new' ho0 (Kd.R_lt qz9_)) (below_size qz3_))
       have n2_ := am_ (below_step qz3_ hb)
       clear HO_3
       clear HB
       have HO_3 := n0_
       have HO107 := n1_
       have HB := n2_
       clear n0_ n1_ n2_
       (try clear hb)
       (try clear hb2)
       (try clear hk)
       (try clear hi)
       (try clear ho0)
       obtain ⟨Ao13, co13, eo13⟩ := Kd.R_slice HO107.out
       (first | subst eo13 | (injection eo13 with f1_ f2_ f3_; have f4_ := f1_.symm; have f5_ := f3_.symm; clear f1_ f2_ f3_; subst f4_; subst f5_))
       refine hK.out _ _ ⟨((HB.out.cell (World.block_lt_of_cell? w _ hw104_0)).trans hw104_0), ((HB.out.cell (World.block_lt_of_cell? w _ hw104_1)).trans hw104_1), ((HB.out.cell (World.block_lt_of_cell? w _ hw111_0)).trans hw111_0), ((HB.out.cell (World.block_lt_of_cell? w _ hw111_1)).trans hw111_1)⟩ (fun hHeld => ?_)
       clear hK K
       refine norm_ (a' := ?_) ?_ ?_
       rotate_left
       ·
        show Act.put _ (some 18) _ = _
        exact ap_
       refine one_ (i := 7) (N := some 19) #[true, true, true, true, true, true, true, true, true, true, true, true, true, false, false, false] rfl rfl (one_of HT_.out (by kernel_rfl)) (by decide) (fun K hK => ?_)
       refine Kd.R_append_rows_step (Kd.int .u8) (w0 := w) w.heap.size (by rfl) (.tmp 12) (.tmp 18) 22 5 (.int .u8 0) 1 rfl Try.underlying22 info5 rfl (by decide) (by omega) u3 x3_1 t105 _ _ _ (fun k_ => some k_ ≠ (.slice Ao13 t105.length co13 : Value).ownBlock) (fun _ => False) rfl rfl ?aO ?aR (fun _ _ h => h) (fun _ h => h.elim) ?aF ?aB ?aS ?aL ?_
       (case aR => exact qc_ (Kd.R_reads' HO107.out).2.2)
       (case aB => exact qz3_)
       (case aF => exact (fun k_ hk => Kd.fresh' (Kd.R_lt (by (with_reducible repeat (first | apply Kd.R_alloc | apply Kd.R_drewN | apply Kd.R_drew)); exact HO107.out)) k_ hk))
       (case aO => exact (by (with_reducible repeat (first | apply Kd.R_alloc | apply Kd.R_drewN | apply Kd.R_drew)); exact Kd.R_mono HO_3.out (fun _ hk => hk.2)))
       (case aS => exact (below_size qz3_))
       (case aL => have := LMc7.out; omega)
       intro v109 w12 ho hb hg hat
       rw [← Ny108.out] at ho
       have n0_ := am_ (Kd.R_after (ok := (fun _ => True)) (by (with_reducible repeat (first | apply Kd.R_alloc | apply Kd.R_drewN | apply Kd.R_drew)); exact HO107.out) hg hat)
       have n1_ := am_ (hb)
       have n2_ := am_ (ho)
       clear HO107
       clear HB
       clear HO_3
       have HO107 := n0_
       have HB := n1_
       have HO110 := n2_
       clear n0_ n1_ n2_
       clear ho hb hg hat
       refine hK.out _ _ ⟨((HB.out.cell (World.block_lt_of_cell? w _ hw104_0)).trans hw104_0), ((HB.out.cell (World.block_lt_of_cell? w _ hw104_1)).trans hw104_1), ((HB.out.cell (World.block_lt_of_cell? w _ hw111_0)).trans hw111_0), ((HB.out.cell (World.block_lt_of_cell? w _ hw111_1)).trans hw111_1)⟩ (fun hHeld => ?_)
       clear hK K
       refine norm_ (a' := ?_) ?_ ?_
       rotate_left
       ·
        show Act.put _ (some 19) _ = _
        exact ap_
       refine one_ (i := 13) (N := some 25) #[true, true, true, true, true, true, true, true, true, true, true, true, true, true, false, false] rfl rfl (one_of HT_.out (by kernel_rfl)) (by decide) (fun K hK => ?_)
       refine goes_ Try.func91 (by kernel_rfl) rfl #[.int .i64 ((rd_T34 l0 x4_1).f1), .int .i64 4] (by rfl) rfl rfl qz2_ ?_
       with_reducible refine (spec_l02Number.calls k1 ((rd_T34 l0 x4_1).f1) 4 t112 _ A8.out).mono ?_
       rintro e w14 ⟨v113, rfl, ho0, hb⟩
       refine ⟨_, rfl, ?_⟩
       have n0_ := am_ (Kd.R_elder' (by (with_reducible repeat (first | apply Kd.R_alloc | apply Kd.R_drewN | apply Kd.R_drew)); exact HO107.out) (Kd.R_base ho0) hb)
       have n1_ := am_ (Kd.R_elder' (by (with_reducible repeat (first | apply Kd.R_alloc | apply Kd.R_drewN | apply Kd.R_drew)); exact HO110.out) (Kd.R_base ho0) hb)
       have n2_ := am_ (Kd.R_lower (Kd.R_new' (Kd.R_new' ho0 (Kd.R_lt (by (with_reducible repeat (first | apply Kd.R_alloc | apply Kd.R_drewN | apply Kd.R_drew)); exact HO107.out))) (Kd.R_lt (by (with_reducible repeat (first | apply Kd.R_alloc | apply Kd.R_drewN | apply Kd.R_drew)); exact HO110.out))) (below_size qz3_))
       have n3_ := am_ (below_step qz3_ hb)
       clear HO107
       clear HO110
       clear HB
       have HO107 := n0_
       have HO110 := n1_
       have HO114 := n2_
       have HB := n3_
       clear n0_ n1_ n2_ n3_
       (try clear hb)
       (try clear hb2)
       (try clear hk)
       (try clear hi)
       (try clear ho0)
       obtain ⟨Ao16, co16, eo16⟩ := Kd.R_slice HO114.out
       (first | subst eo16 | (injection eo16 with f1_ f2_ f3_; have f4_ := f1_.symm; have f5_ := f3_.symm; clear f1_ f2_ f3_; subst f4_; subst f5_))
       refine hK.out _ _ ⟨((HB.out.cell (World.block_lt_of_cell? w _ hw104_0)).trans hw104_0), ((HB.out.cell (World.block_lt_of_cell? w _ hw104_1)).trans hw104_1), ((HB.out.cell (World.block_lt_of_cell? w _ hw111_0)).trans hw111_0), ((HB.out.cell (World.block_lt_of_cell? w _ hw111_1)).trans hw111_1)⟩ (fun hHeld => ?_)
       clear hK K
       refine norm_ (a' := ?_) ?_ ?_
       rotate_left
       ·
        show Act.put _ (some 25) _ = _
        exact ap_
       refine one_ (i := 14) (N := some 26) #[true, true, true, true, true, true, true, true, true, true, true, true, true, true, true, false] rfl rfl (one_of HT_.out (by kernel_rfl)) (by decide) (fun K hK => ?_)
       refine Kd.R_append_rows_step (Kd.int .u8) (w0 := w) w.heap.size (by rfl) (.tmp 19) (.tmp 25) 22 5 (.int .u8 0) 1 rfl Try.underlying22 info5 rfl (by decide) (by omega) v109 y108 t112 _ _ _ (fun k_ => some k_ ≠ (.slice Ao13 t105.length co13 : Value).ownBlock ∧ some k_ ≠ (.slice Ao16 t112.length co16 : Value).ownBlock) (fun _ => False) rfl rfl ?aO ?aR (fun _ _ h => h) (fun _ h => h.elim) ?aF ?aB ?aS ?aL ?_
       (case aR => exact qc_ (Kd.R_reads' HO114.out).2.2)
       (case aB => exact qz3_)
       (case aF => exact (fun k_ hk => ⟨Kd.fresh' (Kd.R_lt (by (with_reducible repeat (first | apply Kd.R_alloc | apply Kd.R_drewN | apply Kd.R_drew)); exact HO107.out)) k_ hk, Kd.fresh' (Kd.R_lt (by (with_reducible repeat (first | apply Kd.R_alloc | apply Kd.R_drewN | apply Kd.R_drew)); exact HO114.out)) k_ hk⟩))
       (case aO => exact (by (with_reducible repeat (first | apply Kd.R_alloc | apply Kd.R_drewN | apply Kd.R_drew)); exact HO110.out))
       (case aS => exact (below_size qz3_))
       (case aL => have := LMc9.out; omega)
       intro v116 w15 ho hb hg hat
       rw [← Ny115.out] at ho
       have n0_ := am_ (Kd.R_after (ok := (fun k_ => some k_ ≠ (.slice Ao16 t112.length co16 : Value).ownBlock)) (by (with_reducible repeat (first | apply Kd.R_alloc | apply Kd.R_drewN | apply Kd.R_drew)); exact Kd.R_mono HO107.out (fun _ hk => ⟨hk.2, hk.1.2⟩)) hg hat)
       have n1_ := am_ (Kd.R_after (ok := (fun k_ => some k_ ≠ (.slice Ao13 t105.length co13 : Value).ownBlock)) (by (with_reducible repeat (first | apply Kd.R_alloc | apply Kd.R_drewN | apply Kd.R_drew)); exact Kd.R_mono HO114.out (fun _ hk => ⟨hk.1.2, hk.2⟩)) hg hat)
       have n2_ := am_ (hb)
       have n3_ := am_ (ho)
       clear HO107
       clear HO114
       clear HB
       clear HO110
       have HO107 := n0_
       have HO114 := n1_
       have HB := n2_
       have HO117 := n3_
       clear n0_ n1_ n2_ n3_
       clear ho hb hg hat
       refine hK.out _ _ ⟨((HB.out.cell (World.block_lt_of_cell? w _ hw104_0)).trans hw104_0), ((HB.out.cell (World.block_lt_of_cell? w _ hw104_1)).trans hw104_1), ((HB.out.cell (World.block_lt_of_cell? w _ hw111_0)).trans hw111_0), ((HB.out.cell (World.block_lt_of_cell? w _ hw111_1)).trans hw111_1)⟩ (fun hHeld => ?_)
       clear hK K
       refine norm_ (a' := ?_) ?_ ?_
       rotate_left
       ·
        show Act.put _ (some 26) _ = _
        exact ap_
       refine pure_ (i := 15) (N := some 3) (v := ?_) (a' := ?_) #[true, true, true, true, true, true, true, true, true, true, true, true, true, true, true, true] rfl rfl (any_of HT_.out (by kernel_rfl)) (fun _ _ _ h => h) (Or.inl ⟨(by rfl), ?_⟩) ?_ ?_
       rotate_left
       ·
        intro w'
        go_simp
        with_reducible rfl
       rotate_left
       ·
        exact ap_
       refine done_ (done_of HT_.out (by kernel_rfl)) ?_
       try go_wp2
       go_roundg k1
       case measure => have := HK1.out; omega
       case rel => exact ⟨(y115), (wrap64 (x4_1 + 1)), qz0_, H', ⟨(by have := HK1.out; omega)⟩, ⟨(by (with_reducible repeat (first | apply Kd.R_alloc | apply Kd.R_drewN | apply Kd.R_drew)); exact Kd.R_mono HO117.out (fun _ hk => trivial))⟩, ⟨qz3_⟩⟩
      ·
       rw [if_neg c9] at H
       exact absurd H (by simp)
     ·
      rw [if_neg c7] at H
      exact absurd H (by simp)
    ·
     rw [if_neg c5] at H
     exact absurd H (by simp)
   ·
    rw [if_neg c4] at H
    have c4b0 : decide (x4_1 < (l0.length : Int)) = false := decide_eq_false c4
    clear c4
    obtain rfl := Option.some.inj H
    go_wp2
    go_ret
    exact ⟨_, qz4_, qz9_, qz3_⟩

def spec_l09Leaves.l0 : Nat → List (S34) → List ByteArray → Int → Int → Option (List ByteArray)
 | 0, _, _, _, _ => none
 | k + 1, x0, x3, x4, x5 => if x5 < (wrap64 (x4 / 2)) then (if 0 ≤ x5 then (if x5 < (x0.length : Int) then (if 0 ≤ (wrap64 (x5 + (wrap64 (x4 / 2)))) then (if (wrap64 (x5 + (wrap64 (x4 / 2)))) < (x0.length : Int) then ((spec_l02Bytes.f k (([(⟨(rd_T34 x0 x5).f0, (rd_T34 x0 x5).f1⟩ : S34), (⟨(rd_T34 x0 (wrap64 (x5 + (wrap64 (x4 / 2))))).f0, (rd_T34 x0 (wrap64 (x5 + (wrap64 (x4 / 2))))).f1⟩ : S34)] : List (S34)))).bind fun t109 => (if x3.length < 8796093022208 then (spec_l09Leaves.l0 k x0 (x3 ++ [strOfNums t109]) x4 (wrap64 (x5 + 1))) else (none))) else (none)) else (none)) else (none)) else (none)) else (some x3)
def spec_l09Leaves.f (k : Nat) (l0 : List (S34)) : Option (List ByteArray) := spec_l09Leaves.l0 k l0 (([] : List ByteArray)) (l0.length : Int) 0
theorem spec_l09Leaves.mono_l : ∀ k, (∀ y0 y1 y2 y3, LeO (spec_l09Leaves.l0 k y0 y1 y2 y3) (spec_l09Leaves.l0 (k + 1) y0 y1 y2 y3))
 | 0 => fun _ _ _ _ r h => by simp [spec_l09Leaves.l0] at h
 | k + 1 => by
  have ih0 := spec_l09Leaves.mono_l k
  ·
   intro y0 y1 y2 y3
   unfold spec_l09Leaves.l0
   repeat' first
   | (with_reducible exact ih0 _ _ _ _)
   | (with_reducible exact spec_l02Bytes.mono _ _)
   | (with_reducible exact LeO.refl _)
   | (with_reducible exact LeO.none _)
   | (with_reducible refine LeO.ite ?_ ?_)
   | (with_reducible refine LeO.bind ?_ (fun _ => ?_))
   | exact ih0 _ _ _ _
   | exact spec_l02Bytes.mono _ _
   | exact LeO.none _
   | refine LeO.ite ?_ ?_
   | refine LeO.bind ?_ (fun _ => ?_)
theorem spec_l09Leaves.mono : ∀ a0 k, LeO (spec_l09Leaves.f k a0) (spec_l09Leaves.f (k + 1) a0) := by
 intro a0 k
 have ih0 := spec_l09Leaves.mono_l k
 unfold spec_l09Leaves.f
 repeat' first
   | (with_reducible exact ih0 _ _ _ _)
   | (with_reducible exact spec_l02Bytes.mono _ _)
   | (with_reducible exact LeO.refl _)
   | (with_reducible exact LeO.none _)
   | (with_reducible refine LeO.ite ?_ ?_)
   | (with_reducible refine LeO.bind ?_ (fun _ => ?_))
   | exact ih0 _ _ _ _
   | exact spec_l02Bytes.mono _ _
   | exact LeO.none _
   | refine LeO.ite ?_ ?_
   | refine LeO.bind ?_ (fun _ => ?_)
def spec_l09Leaves.T6 : Bool × List (List Nat × List Nat) := (true, [([], []), ([], []), ([], []), ([1, 2], [1, 2]), ([3], [3]), ([], []), ([], []), ([], []), ([7], [7]), ([6, 8], [6, 8]), ([5, 9], [5, 9]), ([10], [10]), ([4, 11], [4, 11]), ([12], [12]), ([13], [13]), ([14], [14]), ([0, 15, 13], [0, 15]), ([16, 16, 0, 1, 2, 3, 4, 5, 6, 7, 8, 9, 10, 11, 12, 13, 14, 15, 16], [0, 16])])
def spec_l09Leaves.B6 : List Nat := [0, 0, 0, 6, 14, 0, 0, 0, 128, 448, 992, 2016, 4094, 8190, 16382, 32766, 65535, 131071]
theorem spec_l09Leaves.tab6 : rtab .any (opsOf Try.f63 6) = spec_l09Leaves.T6 := by kernel_rfl
theorem spec_l09Leaves.bits6 : waitsOk spec_l09Leaves.T6.2 spec_l09Leaves.B6 = true := by kernel_rfl
set_option maxHeartbeats 8000000 in
set_option maxRecDepth 100000 in
theorem spec_l09Leaves.calls (k : Nat) (A0 : Option Addr) (c0 : Nat) (l0 : List (S34)) (r : List ByteArray) (w : World) (hr0 : Kd.C k34 w A0 l0.length l0) (hc0 : l0.length ≤ c0) (h : spec_l09Leaves.f k l0 = some r) :
  Calls Try.prog 63 #[.slice A0 l0.length c0] w fun e w' => ∃ v0_ : Value, e = .returned (v0_) ∧ Kd.R Kd.string 9 w' w.heap.size (fun _ => True) v0_ r ∧ Below w.heap.size w w' := by
 have hu34 := Try.underlying34
 have HR0 := am_ hr0
 have HC0 := am_ hc0
 clear hr0 hc0
 have HB := am_ (Below.refl w.heap.size w)
 have H : (spec_l09Leaves.l0 k l0 (([] : List ByteArray)) (l0.length : Int) 0) = some r := h
 clear h
 obtain ⟨y101, hy101⟩ : ∃ y_ : List ByteArray, y_ = (([] : List ByteArray)) := ⟨_, rfl⟩
 replace H : (spec_l09Leaves.l0 k l0 y101 (l0.length : Int) 0) = some r := by first | (rw [hy101]; with_reducible exact H) | (have H2_ := (Option.bind_some _ _).symm.trans H; rw [hy101]; with_reducible exact H2_) | (have H2_ := (Option.bind_some _ _).symm.trans H; with_reducible exact H2_) | with_reducible exact H | (rw [hy101]; exact H) | exact H
 have Ny101 := am_ hy101
 clear hy101
 have H' := am_ H
 clear H
 go_enter Try.func63, Try.ntmps63
 go_wp2_with (first | ((with_reducible refine gate_dst (N := 6) rfl ?_); refine Kd.R_lit Kd.string _ 9 ?hg (N := 6) ?hd (xs := ([] : List ByteArray)) (inner := []) (ok := fun _ => True) (okp := fun _ => True) ?hr ?hp (fun _ hk => hk) trivial (Below.refl _ _) (Nat.le_refl _) (by simp) ?_; (case hd => rfl); (case hg => rfl); (case hr => first | (go_simp; done) | (go_simp; rfl)); (case hp => exact (Reps.none _ _)); intro v102 w2 ho3 hb hg_ hnew_; clear hg_ hnew_; (first | rw [← Ny101.out] at ho3 | (simp only [Int.reduceToNat] at ho3; rw [← Ny101.out] at ho3)); have n0_ := am_ (Kd.R_lower ho3 (below_size qz3_)); have n1_ := am_ (below_step qz3_ hb); clear HB; have HO103 := n0_; have HB := n1_; clear n0_ n1_; clear hb ho3))
 go_loopg [3, 5] k (fun kq v3 v5 w' => ∃ (x3_1 : List ByteArray) (x5_1 : Int), v5 = .int .i64 x5_1 ∧ Aside0 (spec_l09Leaves.l0 kq l0 x3_1 (l0.length : Int) x5_1 = some r) ∧ Aside0 (kq ≤ k) ∧ Aside0 (Kd.R Kd.string 9 w' w.heap.size (fun _ => True) v3 x3_1) ∧ Aside0 (Below w.heap.size w w'))
 case atStart => exact ⟨(y101), (0), qz0_, H', ⟨Nat.le_refl _⟩, ⟨qz10_⟩, ⟨qz3_⟩⟩
 case round =>
  clear H'
  try clear p2
  obtain ⟨x3_1, x5_1, rfl, HA, HK1, HO_3, HB⟩ := hrel
  cases gk with
  | zero => exact absurd HA.out (by simp [spec_l09Leaves.l0])
  | succ k1 =>
   have H := HA.out
   clear HA
   simp only [spec_l09Leaves.l0] at H
   by_cases c4 : x5_1 < (wrap64 ((l0.length : Int) / 2))
   ·
    rw [if_pos c4] at H
    have c4b0 : decide (x5_1 < (wrap64 ((l0.length : Int) / 2))) = true := decide_eq_true c4
    clear c4
    by_cases c5 : 0 ≤ x5_1
    ·
     rw [if_pos c5] at H
     have c5b0 : decide (0 ≤ x5_1) = true := decide_eq_true c5
     clear c5
     by_cases c6 : x5_1 < (l0.length : Int)
     ·
      rw [if_pos c6] at H
      have c6b0 : decide (x5_1 < (l0.length : Int)) = true := decide_eq_true c6
      clear c6
      obtain ⟨ji7, hji7⟩ : ∃ j_ : Int, (wrap64 (x5_1 + (wrap64 ((l0.length : Int) / 2)))) = j_ := ⟨_, rfl⟩
      replace H : (if 0 ≤ (ji7) then (if (ji7) < (l0.length : Int) then ((spec_l02Bytes.f k1 (([(⟨(rd_T34 l0 x5_1).f0, (rd_T34 l0 x5_1).f1⟩ : S34), (⟨(rd_T34 l0 (ji7)).f0, (rd_T34 l0 (ji7)).f1⟩ : S34)] : List (S34)))).bind fun t109 => (if x3_1.length < 8796093022208 then (spec_l09Leaves.l0 k1 l0 (x3_1 ++ [strOfNums t109]) (l0.length : Int) (wrap64 (x5_1 + 1))) else (none))) else (none)) else (none)) = some r := by first | (rw [hji7] at H; exact H) | (simp only [hji7] at H ⊢; exact H)
      have hji7w : (IntKind.i64.wrap (x5_1 + (wrap64 ((l0.length : Int) / 2)))) = ji7 := (i64_w _).trans hji7
      by_cases c8 : 0 ≤ (ji7)
      ·
       rw [if_pos c8] at H
       have c8b0 : decide (0 ≤ (ji7)) = true := decide_eq_true c8
       clear c8
       by_cases c9 : (ji7) < (l0.length : Int)
       ·
        rw [if_pos c9] at H
        have c9b0 : decide ((ji7) < (l0.length : Int)) = true := decide_eq_true c9
        clear c9
        obtain ⟨y106, hy106⟩ : ∃ y_ : List (S34), y_ = (([(⟨(rd_T34 l0 x5_1).f0, (rd_T34 l0 x5_1).f1⟩ : S34), (⟨(rd_T34 l0 (ji7)).f0, (rd_T34 l0 (ji7)).f1⟩ : S34)] : List (S34))) := ⟨_, rfl⟩
        replace H : ((spec_l02Bytes.f k1 y106).bind fun t109 => (if x3_1.length < 8796093022208 then (spec_l09Leaves.l0 k1 l0 (x3_1 ++ [strOfNums t109]) (l0.length : Int) (wrap64 (x5_1 + 1))) else (none))) = some r := by first | (rw [hy106]; with_reducible exact H) | (have H2_ := (Option.bind_some _ _).symm.trans H; rw [hy106]; with_reducible exact H2_) | (have H2_ := (Option.bind_some _ _).symm.trans H; with_reducible exact H2_) | with_reducible exact H | (rw [hy106]; exact H) | exact H
        have Ny106 := am_ hy106
        clear hy106
        replace H := Option.bind_eq_some_iff.mp H
        obtain ⟨t109, A100, H⟩ := H
        replace H : (if x3_1.length < 8796093022208 then (spec_l09Leaves.l0 k1 l0 (x3_1 ++ [strOfNums t109]) (l0.length : Int) (wrap64 (x5_1 + 1))) else (none)) = some r := H
        have A10 := am_ A100
        clear A100
        by_cases c11 : x3_1.length < 8796093022208
        ·
         rw [if_pos c11] at H
         have LMc11 := am_ c11
         clear c11
         obtain ⟨y112, hy112⟩ : ∃ y_ : List ByteArray, y_ = (x3_1 ++ [strOfNums t109]) := ⟨_, rfl⟩
         replace H : (spec_l09Leaves.l0 k1 l0 y112 (l0.length : Int) (wrap64 (x5_1 + 1))) = some r := by first | (rw [hy112]; with_reducible exact H) | (have H2_ := (Option.bind_some _ _).symm.trans H; rw [hy112]; with_reducible exact H2_) | (have H2_ := (Option.bind_some _ _).symm.trans H; with_reducible exact H2_) | with_reducible exact H | (rw [hy112]; exact H) | exact H
         have Ny112 := am_ hy112
         clear hy112
         have H' := am_ H
         clear H
         try go_wp2
         have n0_ := am_ (Kd.R_drew HO_3.out)
         have n1_ := am_ (below_drew1 HB.out)
         clear HO_3
         clear HB
         have HO_3 := n0_
         have HB := n1_
         clear n0_ n1_
         have p104 : 0 ≤ (x5_1 : Int) := of_decide_eq_true qz6_
         have q104 : x5_1 < (l0.length : Int) := of_decide_eq_true qz6_
         obtain ⟨ad104, e104, hx104_0, hx104_1⟩ := at_T34 HR0.out x5_1 p104 q104
         have hw104_1 := hx104_1
         have hw104_0 := hx104_0
         cases e104
         replace hx104_0 := (HB.out.cell (World.block_lt_of_cell? w _ hx104_0)).trans hx104_0
         replace hx104_1 := (HB.out.cell (World.block_lt_of_cell? w _ hx104_1)).trans hx104_1
         replace p104 := eq_true p104
         replace q104 := eq_true q104
         have p105 : 0 ≤ ((ji7) : Int) := of_decide_eq_true qz6_
         have q105 : (ji7) < (l0.length : Int) := of_decide_eq_true qz6_
         obtain ⟨ad105, e105, hx105_0, hx105_1⟩ := at_T34 HR0.out (ji7) p105 q105
         have hw105_1 := hx105_1
         have hw105_0 := hx105_0
         obtain rfl : ad104 = ad105 := (by injection e105)
         replace hx105_0 := (HB.out.cell (World.block_lt_of_cell? w _ hx105_0)).trans hx105_0
         replace hx105_1 := (HB.out.cell (World.block_lt_of_cell? w _ hx105_1)).trans hx105_1
         replace p105 := eq_true p105
         replace q105 := eq_true q105
         refine start_ (n := 18) (S := fun w' => w'.cell? (ad104.add ((x5_1).toNat * 2)) = some (.int .i64 ((rd_T34 l0 x5_1).f0)) ∧ w'.cell? ⟨(ad104.add ((x5_1).toNat * 2)).block, (ad104.add ((x5_1).toNat * 2)).off + 1, none⟩ = some (.int .i64 ((rd_T34 l0 x5_1).f1)) ∧ w'.cell? (ad104.add (((ji7)).toNat * 2)) = some (.int .i64 ((rd_T34 l0 (ji7)).f0)) ∧ w'.cell? ⟨(ad104.add (((ji7)).toNat * 2)).block, (ad104.add (((ji7)).toNat * 2)).off + 1, none⟩ = some (.int .i64 ((rd_T34 l0 (ji7)).f1))) (ds := []) #[false, false, false, false, false, false, false, false, false, false, false, false, false, false, false, false, false, false] (by kernel_rfl) rfl rfl ⟨((HB.out.cell (World.block_lt_of_cell? w _ hw104_0)).trans hw104_0), ((HB.out.cell (World.block_lt_of_cell? w _ hw104_1)).trans hw104_1), ((HB.out.cell (World.block_lt_of_cell? w _ hw105_0)).trans hw105_0), ((HB.out.cell (World.block_lt_of_cell? w _ hw105_1)).trans hw105_1)⟩ (fun hHeld => ?_); refine with_tabW spec_l09Leaves.tab6 spec_l09Leaves.bits6 (fun HT_ HW_ => ?_)
         generalize wr.drew = w12 at HO_3 HB hx104_0 hx104_1 hx105_0 hx105_1 hHeld ⊢
         refine pure_ (i := 0) (N := some 15) (v := ?_) (a' := ?_) #[true, false, false, false, false, false, false, false, false, false, false, false, false, false, false, false, false, false] rfl rfl (any_of HT_.out (by kernel_rfl)) (fun _ _ _ h => h) (Or.inl ⟨(by rfl), ?_⟩) ?_ ?_
         rotate_left
         ·
          intro w'
          go_simp
          with_reducible rfl
         rotate_left
         ·
          exact ap_
         refine pure_ (i := 1) (N := some 16) (v := ?_) (a' := ?_) #[true, true, false, false, false, false, false, false, false, false, false, false, false, false, false, false, false, false] rfl rfl (any_of HT_.out (by kernel_rfl)) (fun _ _ _ h => h) (Or.inl ⟨(by rfl), ?_⟩) ?_ ?_
         rotate_left
         ·
          intro w'
          go_simp
          with_reducible rfl
         rotate_left
         ·
          exact ap_
         refine pure_ (i := 2) (N := some 17) (v := ?_) (a' := ?_) #[true, true, true, false, false, false, false, false, false, false, false, false, false, false, false, false, false, false] rfl rfl (any_of HT_.out (by kernel_rfl)) (fun _ _ _ h => h) (Or.inl ⟨(by rfl), ?_⟩) ?_ ?_
         rotate_left
         ·
          intro w'
          go_simp
          with_reducible rfl
         rotate_left
         ·
          exact ap_
         refine pure_ (i := 3) (N := some 18) (v := ?_) (a' := ?_) #[true, true, true, true, false, false, false, false, false, false, false, false, false, false, false, false, false, false] rfl rfl (any_of HT_.out (by kernel_rfl)) (fun _ _ _ h => h) (Or.inl ⟨(by rfl), ?_⟩) ?_ ?_
         rotate_left
         ·
          intro w'
          go_simp
          with_reducible rfl
         rotate_left
         ·
          exact ap_
         refine pure_ (i := 5) (N := some 20) (v := ?_) (a' := ?_) #[true, true, true, true, false, true, false, false, false, false, false, false, false, false, false, false, false, false] rfl rfl (any_of HT_.out (by kernel_rfl)) (fun _ _ _ h => h) (Or.inl ⟨(by rfl), ?_⟩) ?_ ?_
         rotate_left
         ·
          intro w'
          go_simp
          with_reducible rfl
         rotate_left
         ·
          exact ap_
         refine pure_ (i := 6) (N := some 21) (v := ?_) (a' := ?_) #[true, true, true, true, false, true, true, false, false, false, false, false, false, false, false, false, false, false] rfl rfl (any_of HT_.out (by kernel_rfl)) (fun _ _ _ h => h) (Or.inl ⟨(by rfl), ?_⟩) ?_ ?_
         rotate_left
         ·
          intro w'
          go_simp
          with_reducible rfl
         rotate_left
         ·
          exact ap_
         refine pure_ (i := 7) (N := some 22) (v := ?_) (a' := ?_) #[true, true, true, true, false, true, true, true, false, false, false, false, false, false, false, false, false, false] rfl rfl (any_of HT_.out (by kernel_rfl)) (fun _ _ _ h => h) (Or.inl ⟨(by rfl), ?_⟩) ?_ ?_
         rotate_left
         ·
          intro w'
          go_simp
          with_reducible rfl
         rotate_left
         ·
          exact ap_
         refine pure_ (i := 8) (N := some 23) (v := ?_) (a' := ?_) #[true, true, true, true, false, true, true, true, true, false, false, false, false, false, false, false, false, false] rfl rfl (any_of HT_.out (by kernel_rfl)) (fun _ _ _ h => h) (Or.inl ⟨(by rfl), ?_⟩) ?_ ?_
         rotate_left
         ·
          intro w'
          go_simp
          with_reducible rfl
         rotate_left
         ·
          exact ap_
         refine pure_ (i := 9) (N := some 24) (v := ?_) (a' := ?_) #[true, true, true, true, false, true, true, true, true, true, false, false, false, false, false, false, false, false] rfl rfl (any_of HT_.out (by kernel_rfl)) (fun _ _ _ h => h) (Or.inl ⟨(by rfl), ?_⟩) ?_ ?_
         rotate_left
         ·
          intro w'
          go_simp
          with_reducible rfl
         rotate_left
         ·
          exact ap_
         refine pure_ (i := 10) (N := some 25) (v := ?_) (a' := ?_) #[true, true, true, true, false, true, true, true, true, true, true, false, false, false, false, false, false, false] rfl rfl (any_of HT_.out (by kernel_rfl)) (fun _ _ _ h => h) (Or.inl ⟨(by rfl), ?_⟩) ?_ ?_
         rotate_left
         ·
          intro w'
          go_simp
          with_reducible rfl
         rotate_left
         ·
          exact ap_
         refine take_ (i := 4) (N := some 19) (v := ?_) (a' := ?_) #[true, true, true, true, true, true, true, true, true, true, true, false, false, false, false, false, false, false] rfl rfl (take_ofW HT_.out HW_.out (by kernel_rfl)) (fun _ _ _ h => h) (Or.inl ⟨(by rfl), ?_⟩) hHeld ?_ ?_
         rotate_left
         ·
          rintro w' ⟨s0, s1, s2, s3⟩
          go_simp
          with_reducible rfl
         rotate_left
         ·
          exact ap_
         refine take_ (i := 11) (N := some 26) (v := ?_) (a' := ?_) #[true, true, true, true, true, true, true, true, true, true, true, true, false, false, false, false, false, false] rfl rfl (take_ofW HT_.out HW_.out (by kernel_rfl)) (fun _ _ _ h => h) (Or.inl ⟨(by rfl), ?_⟩) hHeld ?_ ?_
         rotate_left
         ·
          rintro w' ⟨s0, s1, s2, s3⟩
          go_simp
          with_reducible rfl
         rotate_left
         ·
          exact ap_
         refine one_ (i := 12) (N := some 27) #[true, true, true, true, true, true, true, true, true, true, true, true, true, false, false, false, false, false] rfl rfl (one_of HT_.out (by kernel_rfl)) (by decide) (fun K hK => ?_)
         refine Kd.R_lit_step k34 _ 34 ?hg (N := 27) ?hd (xs := ([(⟨(rd_T34 l0 x5_1).f0, (rd_T34 l0 x5_1).f1⟩ : S34), (⟨(rd_T34 l0 (ji7)).f0, (rd_T34 l0 (ji7)).f1⟩ : S34)] : List (S34))) (inner := [.int .i64 ((rd_T34 l0 x5_1).f0), .int .i64 ((rd_T34 l0 x5_1).f1), .int .i64 ((rd_T34 l0 (ji7)).f0), .int .i64 ((rd_T34 l0 (ji7)).f1)]) (ok := fun _ => True) (okp := fun _ => True) ?hr ?hp (fun _ hk => hk) trivial (Below.refl _ _) (Nat.le_refl _) (by simp) ?_; (case hd => rfl); (case hg => rfl); (case hr => first | (go_simp; done) | (go_simp; rfl)); (case hp => exact (Reps.c2 (show Kd.M k34 _ _ _ (⟨(rd_T34 l0 x5_1).f0, (rd_T34 l0 x5_1).f1⟩ : S34) [.int .i64 ((rd_T34 l0 x5_1).f0), .int .i64 ((rd_T34 l0 x5_1).f1)] from (k34_mkM _ _ _ (⟨(rd_T34 l0 x5_1).f0, (rd_T34 l0 x5_1).f1⟩ : S34) )) (Reps.c2 (show Kd.M k34 _ _ _ (⟨(rd_T34 l0 (ji7)).f0, (rd_T34 l0 (ji7)).f1⟩ : S34) [.int .i64 ((rd_T34 l0 (ji7)).f0), .int .i64 ((rd_T34 l0 (ji7)).f1)] from (k34_mkM _ _ _ (⟨(rd_T34 l0 (ji7)).f0, (rd_T34 l0 (ji7)).f1⟩ : S34) )) (Reps.none _ _))))
         intro v107 w13 ho14 hb hg_ hnew_
         clear hg_ hnew_
         (first | rw [← Ny106.out] at ho14 | (simp only [Int.reduceToNat] at ho14; rw [← Ny106.out] at ho14))
         have n0_ := am_ (Kd.R_below qz9_ hb)
         have n1_ := am_ (Kd.R_lower ho14 (below_size qz3_))
         have n2_ := am_ (below_step qz3_ hb)
         clear HO_3
         clear HB
         have HO_3 := n0_
         have HO108 := n1_
         have HB := n2_
         clear n0_ n1_ n2_
         clear hb ho14
         obtain ⟨Ao15, co15, eo15⟩ := Kd.R_slice HO108.out
         (first | subst eo15 | (injection eo15 with f1_ f2_ f3_; have f4_ := f1_.symm; have f5_ := f3_.symm; clear f1_ f2_ f3_; subst f4_; subst f5_))
         refine hK.out _ _ ⟨((HB.out.cell (World.block_lt_of_cell? w _ hw104_0)).trans hw104_0), ((HB.out.cell (World.block_lt_of_cell? w _ hw104_1)).trans hw104_1), ((HB.out.cell (World.block_lt_of_cell? w _ hw105_0)).trans hw105_0), ((HB.out.cell (World.block_lt_of_cell? w _ hw105_1)).trans hw105_1)⟩ (fun hHeld => ?_)
         clear hK K
         refine norm_ (a' := ?_) ?_ ?_
         rotate_left
         ·
          show Act.put _ (some 27) _ = _
          exact ap_
         refine one_ (i := 13) (N := some 28) #[true, true, true, true, true, true, true, true, true, true, true, true, true, true, false, false, false, false] rfl rfl (one_of HT_.out (by kernel_rfl)) (by decide) (fun K hK => ?_)
         refine goes_ Try.func105 (by kernel_rfl) rfl #[.slice Ao15 y106.length co15] (by rfl) rfl rfl qz2_ ?_
         with_reducible refine (spec_l02Bytes.calls k1 _ _ y106 t109 _ ?side1 ?side2 A10.out).mono ?_
         (case side1 => exact qc_ (Kd.R_reads' HO108.out).2.2)
         (case side2 => exact (Kd.R_reads' HO108.out).2.1)
         rintro e w16 ⟨v110, rfl, ho0, hb⟩
         refine ⟨_, rfl, ?_⟩
         have n0_ := am_ (Kd.R_below qz9_ hb)
         have n1_ := am_ (Kd.R_below (by (with_reducible repeat (first | apply Kd.R_alloc | apply Kd.R_drewN | apply Kd.R_drew)); exact HO108.out) hb)
         have n2_ := am_ (Kd.R_lower ho0 (below_size qz3_))
         have n3_ := am_ (below_step qz3_ hb)
         clear HO_3
         clear HO108
         clear HB
         have HO_3 := n0_
         have HO108 := n1_
         have HO111 := n2_
         have HB := n3_
         clear n0_ n1_ n2_ n3_
         (try clear hb)
         (try clear hb2)
         (try clear hk)
         (try clear hi)
         (try clear ho0)
         refine hK.out _ _ ⟨((HB.out.cell (World.block_lt_of_cell? w _ hw104_0)).trans hw104_0), ((HB.out.cell (World.block_lt_of_cell? w _ hw104_1)).trans hw104_1), ((HB.out.cell (World.block_lt_of_cell? w _ hw105_0)).trans hw105_0), ((HB.out.cell (World.block_lt_of_cell? w _ hw105_1)).trans hw105_1)⟩ (fun hHeld => ?_)
         clear hK K
         refine norm_ (a' := ?_) ?_ ?_
         rotate_left
         ·
          show Act.put _ (some 28) _ = _
          exact ap_
         refine one_ (i := 14) (N := some 29) #[true, true, true, true, true, true, true, true, true, true, true, true, true, true, true, false, false, false] rfl rfl (one_of HT_.out (by kernel_rfl)) (by decide) (fun K hK => ?_)
         have hcv17 := own_string (P := Try.prog) Try.underlying22 Try.underlying5 Try.underlying9 (Kd.own_of_R HO111.out)
         refine value_ (w1 := ?_) (v := ?_) (by rfl) rfl ?_ ?_
         rotate_left 2
         ·
          go_simp
          constructor
          ·
           rfl
          ·
           rfl
         clear hcv17
         refine hK.out _ _ ⟨((HB.out.cell (World.block_lt_of_cell? w _ hw104_0)).trans hw104_0), ((HB.out.cell (World.block_lt_of_cell? w _ hw104_1)).trans hw104_1), ((HB.out.cell (World.block_lt_of_cell? w _ hw105_0)).trans hw105_0), ((HB.out.cell (World.block_lt_of_cell? w _ hw105_1)).trans hw105_1)⟩ (fun hHeld => ?_)
         clear hK K
         refine norm_ (a' := ?_) ?_ ?_
         rotate_left
         ·
          show Act.put _ (some 29) _ = _
          exact ap_
         refine one_ (i := 15) (N := some 30) #[true, true, true, true, true, true, true, true, true, true, true, true, true, true, true, true, false, false] rfl rfl (one_of HT_.out (by kernel_rfl)) (by decide) (fun K hK => ?_)
         refine value_ (w1 := ?_) (v := ?_) (by rfl) rfl ?_ ?_
         rotate_left 2
         ·
          go_simp
          constructor
          ·
           rfl
          ·
           rfl
         refine hK.out _ _ ⟨(World.cell?_alloc_lt _ _ _ (World.block_lt_of_cell? _ _ (((HB.out.cell (World.block_lt_of_cell? w _ hw104_0)).trans hw104_0)))).trans (((HB.out.cell (World.block_lt_of_cell? w _ hw104_0)).trans hw104_0)), (World.cell?_alloc_lt _ _ _ (World.block_lt_of_cell? _ _ (((HB.out.cell (World.block_lt_of_cell? w _ hw104_1)).trans hw104_1)))).trans (((HB.out.cell (World.block_lt_of_cell? w _ hw104_1)).trans hw104_1)), (World.cell?_alloc_lt _ _ _ (World.block_lt_of_cell? _ _ (((HB.out.cell (World.block_lt_of_cell? w _ hw105_0)).trans hw105_0)))).trans (((HB.out.cell (World.block_lt_of_cell? w _ hw105_0)).trans hw105_0)), (World.cell?_alloc_lt _ _ _ (World.block_lt_of_cell? _ _ (((HB.out.cell (World.block_lt_of_cell? w _ hw105_1)).trans hw105_1)))).trans (((HB.out.cell (World.block_lt_of_cell? w _ hw105_1)).trans hw105_1))⟩ (fun hHeld => ?_)
         clear hK K
         refine norm_ (a' := ?_) ?_ ?_
         rotate_left
         ·
          show Act.put _ (some 30) _ = _
          exact ap_
         refine one_ (i := 16) (N := some 31) #[true, true, true, true, true, true, true, true, true, true, true, true, true, true, true, true, true, false] rfl rfl (one_of HT_.out (by kernel_rfl)) (by decide) (fun K hK => ?_)
         refine Kd.R_append_step Kd.string (w0 := w) w.heap.size (by rfl) (.tmp 15) (.tmp 30) 98 9 (.string ⟨#[]⟩) 16 rfl Try.underlying98 info9 rfl (by decide) (by omega) u3 x3_1 (strOfNums t109) [.string (strOfNums t109)] (fun _ => True) (fun _ => False) rfl rfl ?aP (fun _ hk => hk.elim) ?aF ?aO ?aB ?aS ?aL ?_
         (case aP => exact rfl)
         (case aB => exact qz3_)
         (case aF => exact (fun _ _ => trivial))
         (case aO => exact qz9_)
         (case aS => exact (below_size qz3_))
         (case aL => have := LMc11.out; omega)
         intro v113 w18 ho hb hg hat
         rw [← Ny112.out] at ho
         have n0_ := am_ (Kd.R_over' (by (with_reducible repeat (first | apply Kd.R_alloc | apply Kd.R_drewN | apply Kd.R_drew)); exact HO108.out) (Kd.R_typed qz9_) (by decide) hg)
         have n1_ := am_ (Kd.R_over' (by (with_reducible repeat (first | apply Kd.R_alloc | apply Kd.R_drewN | apply Kd.R_drew)); exact HO111.out) (Kd.R_typed qz9_) (by decide) hg)
         have n2_ := am_ (hb)
         have n3_ := am_ (ho)
         clear HO108
         clear HO111
         clear HB
         clear HO_3
         have HO108 := n0_
         have HO111 := n1_
         have HB := n2_
         have HO114 := n3_
         clear n0_ n1_ n2_ n3_
         clear ho hb hg hat
         refine hK.out _ _ ⟨((HB.out.cell (World.block_lt_of_cell? w _ hw104_0)).trans hw104_0), ((HB.out.cell (World.block_lt_of_cell? w _ hw104_1)).trans hw104_1), ((HB.out.cell (World.block_lt_of_cell? w _ hw105_0)).trans hw105_0), ((HB.out.cell (World.block_lt_of_cell? w _ hw105_1)).trans hw105_1)⟩ (fun hHeld => ?_)
         clear hK K
         refine norm_ (a' := ?_) ?_ ?_
         rotate_left
         ·
          show Act.put _ (some 31) _ = _
          exact ap_
         refine pure_ (i := 17) (N := some 3) (v := ?_) (a' := ?_) #[true, true, true, true, true, true, true, true, true, true, true, true, true, true, true, true, true, true] rfl rfl (any_of HT_.out (by kernel_rfl)) (fun _ _ _ h => h) (Or.inl ⟨(by rfl), ?_⟩) ?_ ?_
         rotate_left
         ·
          intro w'
          go_simp
          with_reducible rfl
         rotate_left
         ·
          exact ap_
         refine done_ (done_of HT_.out (by kernel_rfl)) ?_
         try go_wp2
         go_roundg k1
         case measure => have := HK1.out; omega
         case rel => exact ⟨(y112), (wrap64 (x5_1 + 1)), qz0_, H', ⟨(by have := HK1.out; omega)⟩, ⟨(by (with_reducible repeat (first | apply Kd.R_alloc | apply Kd.R_drewN | apply Kd.R_drew)); exact HO114.out)⟩, ⟨qz3_⟩⟩
        ·
         rw [if_neg c11] at H
         exact absurd H (by simp)
       ·
        rw [if_neg c9] at H
        exact absurd H (by simp)
      ·
       rw [if_neg c8] at H
       exact absurd H (by simp)
     ·
      rw [if_neg c6] at H
      exact absurd H (by simp)
    ·
     rw [if_neg c5] at H
     exact absurd H (by simp)
   ·
    rw [if_neg c4] at H
    have c4b0 : decide (x5_1 < (wrap64 ((l0.length : Int) / 2))) = false := decide_eq_false c4
    clear c4
    obtain rfl := Option.some.inj H
    go_wp2
    go_ret
    exact ⟨_, qz4_, qz9_, qz3_⟩

def spec_l01Add.f (a0 : Int) (a1 : Int) : Option (Int) := some (Int.tmod (wrap64 (a0 + a1)) 2130706433)
set_option maxHeartbeats 8000000 in
set_option maxRecDepth 100000 in
theorem spec_l01Add.calls (a0 : Int) (a1 : Int) (r : Int) (w : World) (h : spec_l01Add.f a0 a1 = some r) :
  Calls Try.prog 146 #[.int .i64 a0, .int .i64 a1] w fun e w' => e = .returned (.int .i64 r) ∧ Drawn0 w w' := by
 have H : (some (Int.tmod (wrap64 (a0 + a1)) 2130706433)) = some r := h
 clear h
 obtain rfl := Option.some.inj H
 go_enter Try.func146, Try.ntmps146
 go_wp2
 go_ret
 exact ⟨qz0_, qz1_⟩

def spec_l02Add.f (a0_0 : Int) (a0_1 : Int) (a1_0 : Int) (a1_1 : Int) : Option (Int × Int) := (spec_l01Add.f a0_0 a1_0).bind fun t104 => ((spec_l01Add.f a0_1 a1_1).bind fun t105 => (some (t104, t105)))
def spec_l02Add.T1 : Bool × List (List Nat × List Nat) := (true, [([], []), ([0], [0]), ([], []), ([2], [2]), ([1, 3], [1, 3]), ([], []), ([5], [5]), ([], []), ([7], [7]), ([6, 8, 4], [6, 8]), ([4, 9], [4, 9]), ([10, 9, 0, 1, 2, 3, 4, 5, 6, 7, 8, 9, 10], [10])])
def spec_l02Add.B1 : List Nat := [0, 1, 0, 4, 15, 0, 32, 0, 128, 511, 1023, 2047]
theorem spec_l02Add.tab1 : rtab .any (opsOf Try.f116 1) = spec_l02Add.T1 := by kernel_rfl
theorem spec_l02Add.bits1 : waitsOk spec_l02Add.T1.2 spec_l02Add.B1 = true := by kernel_rfl
set_option maxHeartbeats 8000000 in
set_option maxRecDepth 100000 in
theorem spec_l02Add.calls (a0_0 : Int) (a0_1 : Int) (a1_0 : Int) (a1_1 : Int) (r1 : Int) (r2 : Int) (w : World) (h : spec_l02Add.f a0_0 a0_1 a1_0 a1_1 = some (r1, r2)) :
  Calls Try.prog 116 #[.agg #[.int .i64 a0_0, .int .i64 a0_1], .agg #[.int .i64 a1_0, .int .i64 a1_1]] w fun e w' => e = .returned (.agg #[.int .i64 r1, .int .i64 r2]) ∧ Below w.heap.size w w' := by
 have hu34 := Try.underlying34
 have HB := am_ (Below.refl w.heap.size w)
 have H : ((spec_l01Add.f a0_0 a1_0).bind fun t104 => ((spec_l01Add.f a0_1 a1_1).bind fun t105 => (some (t104, t105)))) = some (r1, r2) := h
 clear h
 replace H := Option.bind_eq_some_iff.mp H
 obtain ⟨t104, A30, H⟩ := H
 replace H : ((spec_l01Add.f a0_1 a1_1).bind fun t105 => (some (t104, t105))) = some (r1, r2) := H
 have A3 := am_ A30
 clear A30
 replace H := Option.bind_eq_some_iff.mp H
 obtain ⟨t105, A40, H⟩ := H
 replace H : (some (t104, t105)) = some (r1, r2) := H
 have A4 := am_ A40
 clear A40
 simp only [Option.some.injEq, Prod.mk.injEq] at H
 obtain ⟨rfl, rfl⟩ := H
 go_enter Try.func116, Try.ntmps116
 try go_wp2_with (first | ((with_reducible refine gate_dst (N := 2) rfl ?_); refine box_event ?hg (N := 2) ?hd (cs := #[.int .i64 a0_0, .int .i64 a0_1]) (t := 34) ?hr ?_; (case hd => rfl); (case hg => rfl); (case hr => first | (go_simp; done) | (go_simp; rfl)); intro gb101 hg w5 hbox hb; have n0_ := am_ (below_step qz3_ hb); have n1_ := am_ (hbox); have n2_ := am_ ((by rw [hg]; exact (below_size qz3_) : w.heap.size ≤ gb101)); have n3_ := am_ ((by rw [hg]; exact (below_size qz3_) : w.heap.size ≤ gb101)); clear HB; have HB := n0_; have BK101 := n1_; have GW101 := n2_; have GE101 := n3_; clear n0_ n1_ n2_ n3_; clear hb hbox hg) | ((with_reducible refine gate_dst (N := 3) rfl ?_); refine box_event ?hg (N := 3) ?hd (cs := #[.int .i64 a1_0, .int .i64 a1_1]) (t := 34) ?hr ?_; (case hd => rfl); (case hg => rfl); (case hr => first | (go_simp; done) | (go_simp; rfl)); intro gb102 hg w6 hbox hb; have n0_ := am_ (blk_below (g := gb101) (o := .cells #[.int .i64 a0_0, .int .i64 a0_1] 34 (0, 0)) qz13_ hb); have n1_ := am_ (below_step qz5_ hb); have n2_ := am_ (hbox); have n3_ := am_ ((by rw [hg]; exact (below_size qz5_) : w.heap.size ≤ gb102)); have n4_ := am_ ((by rw [hg]; exact (below_size qz5_) : w.heap.size ≤ gb102)); have n5_ := am_ ((by rw [hg]; exact Nat.ne_of_lt (blk_lt (g := gb101) (o := .cells #[.int .i64 a0_0, .int .i64 a0_1] 34 (0, 0)) qz13_) : gb101 ≠ gb102)); have n6_ := am_ ((by rw [hg]; exact Nat.ne_of_gt (blk_lt (g := gb101) (o := .cells #[.int .i64 a0_0, .int .i64 a0_1] 34 (0, 0)) qz13_) : gb102 ≠ gb101)); clear BK101; clear HB; have BK101 := n0_; have HB := n1_; have BK102 := n2_; have GW102 := n3_; have GE102 := n4_; have NB101_102 := n5_; have NB102_101 := n6_; clear n0_ n1_ n2_ n3_ n4_ n5_ n6_; clear hb hbox hg) | ((with_reducible refine gate_dst (N := 4) rfl ?_); refine box_event ?hg (N := 4) ?hd (cs := #[.int .i64 0, .int .i64 0]) (t := 34) ?hr ?_; (case hd => rfl); (case hg => rfl); (case hr => first | (go_simp; done) | (go_simp; rfl)); intro gb103 hg w7 hbox hb; have n0_ := am_ (blk_below (g := gb101) (o := .cells #[.int .i64 a0_0, .int .i64 a0_1] 34 (0, 0)) qz13_ hb); have n1_ := am_ (blk_below (g := gb102) (o := .cells #[.int .i64 a1_0, .int .i64 a1_1] 34 (0, 0)) qz14_ hb); have n2_ := am_ (below_step qz15_ hb); have n3_ := am_ (hbox); have n4_ := am_ ((by rw [hg]; exact (below_size qz15_) : w.heap.size ≤ gb103)); have n5_ := am_ ((by rw [hg]; exact (below_size qz15_) : w.heap.size ≤ gb103)); have n6_ := am_ ((by rw [hg]; exact Nat.ne_of_lt (blk_lt (g := gb101) (o := .cells #[.int .i64 a0_0, .int .i64 a0_1] 34 (0, 0)) qz13_) : gb101 ≠ gb103)); have n7_ := am_ ((by rw [hg]; exact Nat.ne_of_gt (blk_lt (g := gb101) (o := .cells #[.int .i64 a0_0, .int .i64 a0_1] 34 (0, 0)) qz13_) : gb103 ≠ gb101)); have n8_ := am_ ((by rw [hg]; exact Nat.ne_of_lt (blk_lt (g := gb102) (o := .cells #[.int .i64 a1_0, .int .i64 a1_1] 34 (0, 0)) qz14_) : gb102 ≠ gb103)); have n9_ := am_ ((by rw [hg]; exact Nat.ne_of_gt (blk_lt (g := gb102) (o := .cells #[.int .i64 a1_0, .int .i64 a1_1] 34 (0, 0)) qz14_) : gb103 ≠ gb102)); clear BK101; clear BK102; clear HB; have BK101 := n0_; have BK102 := n1_; have HB := n2_; have BK103 := n3_; have GW103 := n4_; have GE103 := n5_; have NB101_103 := n6_; have NB103_101 := n7_; have NB102_103 := n8_; have NB103_102 := n9_; clear n0_ n1_ n2_ n3_ n4_ n5_ n6_ n7_ n8_ n9_; clear hb hbox hg))
 have n0_ := am_ (blk_drew BK101.out)
 have n1_ := am_ (blk_drew BK102.out)
 have n2_ := am_ (blk_drew BK103.out)
 have n3_ := am_ (below_drew1 HB.out)
 clear BK101
 clear BK102
 clear BK103
 clear HB
 have BK101 := n0_
 have BK102 := n1_
 have BK103 := n2_
 have HB := n3_
 clear n0_ n1_ n2_ n3_
 refine start_ (n := 12) (S := fun w' => w'.cell? ⟨gb101, 0, none⟩ = some (.int .i64 a0_0) ∧ w'.cell? ⟨gb101, 1, none⟩ = some (.int .i64 a0_1) ∧ w'.cell? ⟨gb102, 0, none⟩ = some (.int .i64 a1_0) ∧ w'.cell? ⟨gb102, 1, none⟩ = some (.int .i64 a1_1)) (ds := []) #[false, false, false, false, false, false, false, false, false, false, false, false] (by kernel_rfl) rfl rfl ⟨(blk_cell BK101.out 0).trans rfl, (blk_cell BK101.out 1).trans rfl, (blk_cell BK102.out 0).trans rfl, (blk_cell BK102.out 1).trans rfl⟩ (fun hHeld => ?_); refine with_tabW spec_l02Add.tab1 spec_l02Add.bits1 (fun HT_ HW_ => ?_)
 generalize w7.drew = w8 at BK101 BK102 BK103 HB hHeld ⊢
 refine pure_ (i := 0) (N := some 5) (v := ?_) (a' := ?_) #[true, false, false, false, false, false, false, false, false, false, false, false] rfl rfl (any_of HT_.out (by kernel_rfl)) (fun _ _ _ h => h) (Or.inl ⟨(by rfl), ?_⟩) ?_ ?_
 rotate_left
 ·
  intro w'
  go_simp
  with_reducible rfl
 rotate_left
 ·
  exact ap_
 refine pure_ (i := 2) (N := some 7) (v := ?_) (a' := ?_) #[true, false, true, false, false, false, false, false, false, false, false, false] rfl rfl (any_of HT_.out (by kernel_rfl)) (fun _ _ _ h => h) (Or.inl ⟨(by rfl), ?_⟩) ?_ ?_
 rotate_left
 ·
  intro w'
  go_simp
  with_reducible rfl
 rotate_left
 ·
  exact ap_
 refine pure_ (i := 5) (N := some 10) (v := ?_) (a' := ?_) #[true, false, true, false, false, true, false, false, false, false, false, false] rfl rfl (any_of HT_.out (by kernel_rfl)) (fun _ _ _ h => h) (Or.inl ⟨(by rfl), ?_⟩) ?_ ?_
 rotate_left
 ·
  intro w'
  go_simp
  with_reducible rfl
 rotate_left
 ·
  exact ap_
 refine pure_ (i := 7) (N := some 12) (v := ?_) (a' := ?_) #[true, false, true, false, false, true, false, true, false, false, false, false] rfl rfl (any_of HT_.out (by kernel_rfl)) (fun _ _ _ h => h) (Or.inl ⟨(by rfl), ?_⟩) ?_ ?_
 rotate_left
 ·
  intro w'
  go_simp
  with_reducible rfl
 rotate_left
 ·
  exact ap_
 refine take_ (i := 1) (N := some 6) (v := ?_) (a' := ?_) #[true, true, true, false, false, true, false, true, false, false, false, false] rfl rfl (take_ofW HT_.out HW_.out (by kernel_rfl)) (fun _ _ _ h => h) (Or.inl ⟨(by rfl), ?_⟩) hHeld ?_ ?_
 rotate_left
 ·
  rintro w' ⟨s0, s1, s2, s3⟩
  go_simp
  with_reducible rfl
 rotate_left
 ·
  exact ap_
 refine take_ (i := 3) (N := some 8) (v := ?_) (a' := ?_) #[true, true, true, true, false, true, false, true, false, false, false, false] rfl rfl (take_ofW HT_.out HW_.out (by kernel_rfl)) (fun _ _ _ h => h) (Or.inl ⟨(by rfl), ?_⟩) hHeld ?_ ?_
 rotate_left
 ·
  rintro w' ⟨s0, s1, s2, s3⟩
  go_simp
  with_reducible rfl
 rotate_left
 ·
  exact ap_
 refine take_ (i := 6) (N := some 11) (v := ?_) (a' := ?_) #[true, true, true, true, false, true, true, true, false, false, false, false] rfl rfl (take_ofW HT_.out HW_.out (by kernel_rfl)) (fun _ _ _ h => h) (Or.inl ⟨(by rfl), ?_⟩) hHeld ?_ ?_
 rotate_left
 ·
  rintro w' ⟨s0, s1, s2, s3⟩
  go_simp
  with_reducible rfl
 rotate_left
 ·
  exact ap_
 refine take_ (i := 8) (N := some 13) (v := ?_) (a' := ?_) #[true, true, true, true, false, true, true, true, true, false, false, false] rfl rfl (take_ofW HT_.out HW_.out (by kernel_rfl)) (fun _ _ _ h => h) (Or.inl ⟨(by rfl), ?_⟩) hHeld ?_ ?_
 rotate_left
 ·
  rintro w' ⟨s0, s1, s2, s3⟩
  go_simp
  with_reducible rfl
 rotate_left
 ·
  exact ap_
 refine one_ (i := 4) (N := some 9) #[true, true, true, true, true, true, true, true, true, false, false, false] rfl rfl (one_of HT_.out (by kernel_rfl)) (by decide) (fun K hK => ?_)
 refine goes_ Try.func146 (by kernel_rfl) rfl #[.int .i64 a0_0, .int .i64 a1_0] (by rfl) rfl rfl qz2_ ?_
 with_reducible refine (spec_l01Add.calls a0_0 a1_0 t104 _ A3.out).mono ?_
 rintro e w' ⟨rfl, ⟨nd, rfl⟩⟩
 refine ⟨_, rfl, ?_⟩
 refine hK.out _ _ ⟨(blk_cell BK101.out 0).trans rfl, (blk_cell BK101.out 1).trans rfl, (blk_cell BK102.out 0).trans rfl, (blk_cell BK102.out 1).trans rfl⟩ (fun hHeld => ?_)
 clear hK K
 refine norm_ (a' := ?_) ?_ ?_
 rotate_left
 ·
  show Act.put _ (some 9) _ = _
  exact ap_
 refine one_ (i := 9) (N := some 14) #[true, true, true, true, true, true, true, true, true, true, false, false] rfl rfl (one_of HT_.out (by kernel_rfl)) (by decide) (fun K hK => ?_)
 refine goes_ Try.func146 (by kernel_rfl) rfl #[.int .i64 a0_1, .int .i64 a1_1] (by rfl) rfl rfl qz2_ ?_
 with_reducible refine (spec_l01Add.calls a0_1 a1_1 t105 _ A4.out).mono ?_
 rintro e w' ⟨rfl, ⟨nd, rfl⟩⟩
 refine ⟨_, rfl, ?_⟩
 refine hK.out _ _ ⟨(blk_cell BK101.out 0).trans rfl, (blk_cell BK101.out 1).trans rfl, (blk_cell BK102.out 0).trans rfl, (blk_cell BK102.out 1).trans rfl⟩ (fun hHeld => ?_)
 clear hK K
 refine norm_ (a' := ?_) ?_ ?_
 rotate_left
 ·
  show Act.put _ (some 14) _ = _
  exact ap_
 refine pure_ (i := 10) (N := some 15) (v := ?_) (a' := ?_) #[true, true, true, true, true, true, true, true, true, true, true, false] rfl rfl (any_of HT_.out (by kernel_rfl)) (fun _ _ _ h => h) (Or.inl ⟨(by rfl), ?_⟩) ?_ ?_
 rotate_left
 ·
  intro w'
  go_simp
  with_reducible rfl
 rotate_left
 ·
  exact ap_
 refine one_ (i := 11) (N := none) #[true, true, true, true, true, true, true, true, true, true, true, true] rfl rfl (one_of HT_.out (by kernel_rfl)) (by decide) (fun K hK => ?_)
 have hs9 : w8.cell? ⟨gb103, 0, none⟩ = some (.int .i64 0) := (blk_cell BK103.out 0).trans rfl
 have hfs9 := blk_frozen BK103.out 0
 have hns9_0 := NB101_103.out
 have hns9_1 := NB102_103.out
 have hms9_0 := NB103_101.out
 have hms9_1 := NB103_102.out
 have hs10 : w8.cell? ⟨gb103, 1, none⟩ = some (.int .i64 0) := (blk_cell BK103.out 1).trans rfl
 have hfs10 := blk_frozen BK103.out 1
 have hns10_0 := NB101_103.out
 have hns10_1 := NB102_103.out
 have hms10_0 := NB103_101.out
 have hms10_1 := NB103_102.out
 refine skip_ (w1 := ?_) (by rfl) rfl ?_ ?_
 rotate_left
 ·
  go_simp
  rfl
 refine hK.out _ _ ⟨((cell_far (p := ⟨gb103, _, none⟩) NB101_103.out _).trans (((cell_far (p := ⟨gb103, _, none⟩) NB101_103.out _).trans (hHeld.1)))), ((cell_far (p := ⟨gb103, _, none⟩) NB101_103.out _).trans (((cell_far (p := ⟨gb103, _, none⟩) NB101_103.out _).trans (hHeld.2.1)))), ((cell_far (p := ⟨gb103, _, none⟩) NB102_103.out _).trans (((cell_far (p := ⟨gb103, _, none⟩) NB102_103.out _).trans (hHeld.2.2.1)))), ((cell_far (p := ⟨gb103, _, none⟩) NB102_103.out _).trans (((cell_far (p := ⟨gb103, _, none⟩) NB102_103.out _).trans (hHeld.2.2.2))))⟩ (fun hHeld => ?_)
 clear hK K
 refine done_ (done_of HT_.out (by kernel_rfl)) ?_
 try go_wp2
 refine bodyPost_ret (results_cell_row rfl _ _ gb103 34 #[.int .i64 t104, .int .i64 t105] (0, 0) _ rfl qz16_ Try.underlying34 rfl (by kernel_rfl)) rfl ?_
 exact ⟨qz4_, qz17_⟩

def spec_l01Sub.f (a0 : Int) (a1 : Int) : Option (Int) := some (Int.tmod (wrap64 ((wrap64 (a0 + 2130706433)) - a1)) 2130706433)
set_option maxHeartbeats 8000000 in
set_option maxRecDepth 100000 in
theorem spec_l01Sub.calls (a0 : Int) (a1 : Int) (r : Int) (w : World) (h : spec_l01Sub.f a0 a1 = some r) :
  Calls Try.prog 152 #[.int .i64 a0, .int .i64 a1] w fun e w' => e = .returned (.int .i64 r) ∧ Drawn0 w w' := by
 have H : (some (Int.tmod (wrap64 ((wrap64 (a0 + 2130706433)) - a1)) 2130706433)) = some r := h
 clear h
 obtain rfl := Option.some.inj H
 go_enter Try.func152, Try.ntmps152
 go_wp2
 go_ret
 exact ⟨qz0_, qz1_⟩

end Go.Proofs.Ytgookagndlfehaa.PT
end
section
namespace Go.Proofs.Ytgookagndlfehaa.PT
open Go.RowKit Go.Proofs.YtgookagndlfehaaW.PrintWords Go.Proofs.YtgookagndlfehaaW.PrintLast Go.Proofs.YtgookagndlfehaaW.PrintMore
attribute [local go_sem] max2_int min2_int max_two min_two max_three min_three max_four min_four   -- for this text's walks alone
set_option linter.unusedVariables false
set_option linter.unusedSimpArgs false
def spec_l02Sub.f (a0_0 : Int) (a0_1 : Int) (a1_0 : Int) (a1_1 : Int) : Option (Int × Int) := (spec_l01Sub.f a0_0 a1_0).bind fun t104 => ((spec_l01Sub.f a0_1 a1_1).bind fun t105 => (some (t104, t105)))
def spec_l02Sub.T1 : Bool × List (List Nat × List Nat) := (true, [([], []), ([0], [0]), ([], []), ([2], [2]), ([1, 3], [1, 3]), ([], []), ([5], [5]), ([], []), ([7], [7]), ([6, 8, 4], [6, 8]), ([4, 9], [4, 9]), ([10, 9, 0, 1, 2, 3, 4, 5, 6, 7, 8, 9, 10], [10])])
def spec_l02Sub.B1 : List Nat := [0, 1, 0, 4, 15, 0, 32, 0, 128, 511, 1023, 2047]
theorem spec_l02Sub.tab1 : rtab .any (opsOf Try.f138 1) = spec_l02Sub.T1 := by kernel_rfl
theorem spec_l02Sub.bits1 : waitsOk spec_l02Sub.T1.2 spec_l02Sub.B1 = true := by kernel_rfl
set_option maxHeartbeats 8000000 in
set_option maxRecDepth 100000 in
theorem spec_l02Sub.calls (a0_0 : Int) (a0_1 : Int) (a1_0 : Int) (a1_1 : Int) (r1 : Int) (r2 : Int) (w : World) (h : spec_l02Sub.f a0_0 a0_1 a1_0 a1_1 = some (r1, r2)) :
  Calls Try.prog 138 #[.agg #[.int .i64 a0_0, .int .i64 a0_1], .agg #[.int .i64 a1_0, .int .i64 a1_1]] w fun e w' => e = .returned (.agg #[.int .i64 r1, .int .i64 r2]) ∧ Below w.heap.size w w' := by
 have hu34 := Try.underlying34
 have HB := am_ (Below.refl w.heap.size w)
 have H : ((spec_l01Sub.f a0_0 a1_0).bind fun t104 => ((spec_l01Sub.f a0_1 a1_1).bind fun t105 => (some (t104, t105)))) = some (r1, r2) := h
 clear h
 replace H := Option.bind_eq_some_iff.mp H
 obtain ⟨t104, A30, H⟩ := H
 replace H : ((spec_l01Sub.f a0_1 a1_1).bind fun t105 => (some (t104, t105))) = some (r1, r2) := H
 have A3 := am_ A30
 clear A30
 replace H := Option.bind_eq_some_iff.mp H
 obtain ⟨t105, A40, H⟩ := H
 replace H : (some (t104, t105)) = some (r1, r2) := H
 have A4 := am_ A40
 clear A40
 simp only [Option.some.injEq, Prod.mk.injEq] at H
 obtain ⟨rfl, rfl⟩ := H
 go_enter Try.func138, Try.ntmps138
 try go_wp2_with (first | ((with_reducible refine gate_dst (N := 2) rfl ?_); refine box_event ?hg (N := 2) ?hd (cs := #[.int .i64 a0_0, .int .i64 a0_1]) (t := 34) ?hr ?_; (case hd => rfl); (case hg => rfl); (case hr => first | (go_simp; done) | (go_simp; rfl)); intro gb101 hg w5 hbox hb; have n0_ := am_ (below_step qz3_ hb); have n1_ := am_ (hbox); have n2_ := am_ ((by rw [hg]; exact (below_size qz3_) : w.heap.size ≤ gb101)); have n3_ := am_ ((by rw [hg]; exact (below_size qz3_) : w.heap.size ≤ gb101)); clear HB; have HB := n0_; have BK101 := n1_; have GW101 := n2_; have GE101 := n3_; clear n0_ n1_ n2_ n3_; clear hb hbox hg) | ((with_reducible refine gate_dst (N := 3) rfl ?_); refine box_event ?hg (N := 3) ?hd (cs := #[.int .i64 a1_0, .int .i64 a1_1]) (t := 34) ?hr ?_; (case hd => rfl); (case hg => rfl); (case hr => first | (go_simp; done) | (go_simp; rfl)); intro gb102 hg w6 hbox hb; have n0_ := am_ (blk_below (g := gb101) (o := .cells #[.int .i64 a0_0, .int .i64 a0_1] 34 (0, 0)) qz13_ hb); have n1_ := am_ (below_step qz5_ hb); have n2_ := am_ (hbox); have n3_ := am_ ((by rw [hg]; exact (below_size qz5_) : w.heap.size ≤ gb102)); have n4_ := am_ ((by rw [hg]; exact (below_size qz5_) : w.heap.size ≤ gb102)); have n5_ := am_ ((by rw [hg]; exact Nat.ne_of_lt (blk_lt (g := gb101) (o := .cells #[.int .i64 a0_0, .int .i64 a0_1] 34 (0, 0)) qz13_) : gb101 ≠ gb102)); have n6_ := am_ ((by rw [hg]; exact Nat.ne_of_gt (blk_lt (g := gb101) (o := .cells #[.int .i64 a0_0, .int .i64 a0_1] 34 (0, 0)) qz13_) : gb102 ≠ gb101)); clear BK101; clear HB; have BK101 := n0_; have HB := n1_; have BK102 := n2_; have GW102 := n3_; have GE102 := n4_; have NB101_102 := n5_; have NB102_101 := n6_; clear n0_ n1_ n2_ n3_ n4_ n5_ n6_; clear hb hbox hg) | ((with_reducible refine gate_dst (N := 4) rfl ?_); refine box_event ?hg (N := 4) ?hd (cs := #[.int .i64 0, .int .i64 0]) (t := 34) ?hr ?_; (case hd => rfl); (case hg => rfl); (case hr => first | (go_simp; done) | (go_simp; rfl)); intro gb103 hg w7 hbox hb; have n0_ := am_ (blk_below (g := gb101) (o := .cells #[.int .i64 a0_0, .int .i64 a0_1] 34 (0, 0)) qz13_ hb); have n1_ := am_ (blk_below (g := gb102) (o := .cells #[.int .i64 a1_0, .int .i64 a1_1] 34 (0, 0)) qz14_ hb); have n2_ := am_ (below_step qz15_ hb); have n3_ := am_ (hbox); have n4_ := am_ ((by rw [hg]; exact (below_size qz15_) : w.heap.size ≤ gb103)); have n5_ := am_ ((by rw [hg]; exact (below_size qz15_) : w.heap.size ≤ gb103)); have n6_ := am_ ((by rw [hg]; exact Nat.ne_of_lt (blk_lt (g := gb101) (o := .cells #[.int .i64 a0_0, .int .i64 a0_1] 34 (0, 0)) qz13_) : gb101 ≠ gb103)); have n7_ := am_ ((by rw [hg]; exact Nat.ne_of_gt (blk_lt (g := gb101) (o := .cells #[.int .i64 a0_0, .int .i64 a0_1] 34 (0, 0)) qz13_) : gb103 ≠ gb101)); have n8_ := am_ ((by rw [hg]; exact Nat.ne_of_lt (blk_lt (g := gb102) (o := .cells #[.int .i64 a1_0, .int .i64 a1_1] 34 (0, 0)) qz14_) : gb102 ≠ gb103)); have n9_ := am_ ((by rw [hg]; exact Nat.ne_of_gt (blk_lt (g := gb102) (o := .cells #[.int .i64 a1_0, .int .i64 a1_1] 34 (0, 0)) qz14_) : gb103 ≠ gb102)); clear BK101; clear BK102; clear HB; have BK101 := n0_; have BK102 := n1_; have HB := n2_; have BK103 := n3_; have GW103 := n4_; have GE103 := n5_; have NB101_103 := n6_; have NB103_101 := n7_; have NB102_103 := n8_; have NB103_102 := n9_; clear n0_ n1_ n2_ n3_ n4_ n5_ n6_ n7_ n8_ n9_; clear hb hbox hg))
 have n0_ := am_ (blk_drew BK101.out)
 have n1_ := am_ (blk_drew BK102.out)
 have n2_ := am_ (blk_drew BK103.out)
 have n3_ := am_ (below_drew1 HB.out)
 clear BK101
 clear BK102
 clear BK103
 clear HB
 have BK101 := n0_
 have BK102 := n1_
 have BK103 := n2_
 have HB := n3_
 clear n0_ n1_ n2_ n3_
 refine start_ (n := 12) (S := fun w' => w'.cell? ⟨gb101, 0, none⟩ = some (.int .i64 a0_0) ∧ w'.cell? ⟨gb101, 1, none⟩ = some (.int .i64 a0_1) ∧ w'.cell? ⟨gb102, 0, none⟩ = some (.int .i64 a1_0) ∧ w'.cell? ⟨gb102, 1, none⟩ = some (.int .i64 a1_1)) (ds := []) #[false, false, false, false, false, false, false, false, false, false, false, false] (by kernel_rfl) rfl rfl ⟨(blk_cell BK101.out 0).trans rfl, (blk_cell BK101.out 1).trans rfl, (blk_cell BK102.out 0).trans rfl, (blk_cell BK102.out 1).trans rfl⟩ (fun hHeld => ?_); refine with_tabW spec_l02Sub.tab1 spec_l02Sub.bits1 (fun HT_ HW_ => ?_)
 generalize w7.drew = w8 at BK101 BK102 BK103 HB hHeld ⊢
 refine pure_ (i := 0) (N := some 5) (v := ?_) (a' := ?_) #[true, false, false, false, false, false, false, false, false, false, false, false] rfl rfl (any_of HT_.out (by kernel_rfl)) (fun _ _ _ h => h) (Or.inl ⟨(by rfl), ?_⟩) ?_ ?_
 rotate_left
 ·
  intro w'
  go_simp
  with_reducible rfl
 rotate_left
 ·
  exact ap_
 refine pure_ (i := 2) (N := some 7) (v := ?_) (a' := ?_) #[true, false, true, false, false, false, false, false, false, false, false, false] rfl rfl (any_of HT_.out (by kernel_rfl)) (fun _ _ _ h => h) (Or.inl ⟨(by rfl), ?_⟩) ?_ ?_
 rotate_left
 ·
  intro w'
  go_simp
  with_reducible rfl
 rotate_left
 ·
  exact ap_
 refine pure_ (i := 5) (N := some 10) (v := ?_) (a' := ?_) #[true, false, true, false, false, true, false, false, false, false, false, false] rfl rfl (any_of HT_.out (by kernel_rfl)) (fun _ _ _ h => h) (Or.inl ⟨(by rfl), ?_⟩) ?_ ?_
 rotate_left
 ·
  intro w'
  go_simp
  with_reducible rfl
 rotate_left
 ·
  exact ap_
 refine pure_ (i := 7) (N := some 12) (v := ?_) (a' := ?_) #[true, false, true, false, false, true, false, true, false, false, false, false] rfl rfl (any_of HT_.out (by kernel_rfl)) (fun _ _ _ h => h) (Or.inl ⟨(by rfl), ?_⟩) ?_ ?_
 rotate_left
 ·
  intro w'
  go_simp
  with_reducible rfl
 rotate_left
 ·
  exact ap_
 refine take_ (i := 1) (N := some 6) (v := ?_) (a' := ?_) #[true, true, true, false, false, true, false, true, false, false, false, false] rfl rfl (take_ofW HT_.out HW_.out (by kernel_rfl)) (fun _ _ _ h => h) (Or.inl ⟨(by rfl), ?_⟩) hHeld ?_ ?_
 rotate_left
 ·
  rintro w' ⟨s0, s1, s2, s3⟩
  go_simp
  with_reducible rfl
 rotate_left
 ·
  exact ap_
 refine take_ (i := 3) (N := some 8) (v := ?_) (a' := ?_) #[true, true, true, true, false, true, false, true, false, false, false, false] rfl rfl (take_ofW HT_.out HW_.out (by kernel_rfl)) (fun _ _ _ h => h) (Or.inl ⟨(by rfl), ?_⟩) hHeld ?_ ?_
 rotate_left
 ·
  rintro w' ⟨s0, s1, s2, s3⟩
  go_simp
  with_reducible rfl
 rotate_left
 ·
  exact ap_
 refine take_ (i := 6) (N := some 11) (v := ?_) (a' := ?_) #[true, true, true, true, false, true, true, true, false, false, false, false] rfl rfl (take_ofW HT_.out HW_.out (by kernel_rfl)) (fun _ _ _ h => h) (Or.inl ⟨(by rfl), ?_⟩) hHeld ?_ ?_
 rotate_left
 ·
  rintro w' ⟨s0, s1, s2, s3⟩
  go_simp
  with_reducible rfl
 rotate_left
 ·
  exact ap_
 refine take_ (i := 8) (N := some 13) (v := ?_) (a' := ?_) #[true, true, true, true, false, true, true, true, true, false, false, false] rfl rfl (take_ofW HT_.out HW_.out (by kernel_rfl)) (fun _ _ _ h => h) (Or.inl ⟨(by rfl), ?_⟩) hHeld ?_ ?_
 rotate_left
 ·
  rintro w' ⟨s0, s1, s2, s3⟩
  go_simp
  with_reducible rfl
 rotate_left
 ·
  exact ap_
 refine one_ (i := 4) (N := some 9) #[true, true, true, true, true, true, true, true, true, false, false, false] rfl rfl (one_of HT_.out (by kernel_rfl)) (by decide) (fun K hK => ?_)
 refine goes_ Try.func152 (by kernel_rfl) rfl #[.int .i64 a0_0, .int .i64 a1_0] (by rfl) rfl rfl qz2_ ?_
 with_reducible refine (spec_l01Sub.calls a0_0 a1_0 t104 _ A3.out).mono ?_
 rintro e w' ⟨rfl, ⟨nd, rfl⟩⟩
 refine ⟨_, rfl, ?_⟩
 refine hK.out _ _ ⟨(blk_cell BK101.out 0).trans rfl, (blk_cell BK101.out 1).trans rfl, (blk_cell BK102.out 0).trans rfl, (blk_cell BK102.out 1).trans rfl⟩ (fun hHeld => ?_)
 clear hK K
 refine norm_ (a' := ?_) ?_ ?_
 rotate_left
 ·
  show Act.put _ (some 9) _ = _
  exact ap_
 refine one_ (i := 9) (N := some 14) #[true, true, true, true, true, true, true, true, true, true, false, false] rfl rfl (one_of HT_.out (by kernel_rfl)) (by decide) (fun K hK => ?_)
 refine goes_ Try.func152 (by kernel_rfl) rfl #[.int .i64 a0_1, .int .i64 a1_1] (by rfl) rfl rfl qz2_ ?_
 with_reducible refine (spec_l01Sub.calls a0_1 a1_1 t105 _ A4.out).mono ?_
 rintro e w' ⟨rfl, ⟨nd, rfl⟩⟩
 refine ⟨_, rfl, ?_⟩
 refine hK.out _ _ ⟨(blk_cell BK101.out 0).trans rfl, (blk_cell BK101.out 1).trans rfl, (blk_cell BK102.out 0).trans rfl, (blk_cell BK102.out 1).trans rfl⟩ (fun hHeld => ?_)
 clear hK K
 refine norm_ (a' := ?_) ?_ ?_
 rotate_left
 ·
  show Act.put _ (some 14) _ = _
  exact ap_
 refine pure_ (i := 10) (N := some 15) (v := ?_) (a' := ?_) #[true, true, true, true, true, true, true, true, true, true, true, false] rfl rfl (any_of HT_.out (by kernel_rfl)) (fun _ _ _ h => h) (Or.inl ⟨(by rfl), ?_⟩) ?_ ?_
 rotate_left
 ·
  intro w'
  go_simp
  with_reducible rfl
 rotate_left
 ·
  exact ap_
 refine one_ (i := 11) (N := none) #[true, true, true, true, true, true, true, true, true, true, true, true] rfl rfl (one_of HT_.out (by kernel_rfl)) (by decide) (fun K hK => ?_)
 have hs9 : w8.cell? ⟨gb103, 0, none⟩ = some (.int .i64 0) := (blk_cell BK103.out 0).trans rfl
 have hfs9 := blk_frozen BK103.out 0
 have hns9_0 := NB101_103.out
 have hns9_1 := NB102_103.out
 have hms9_0 := NB103_101.out
 have hms9_1 := NB103_102.out
 have hs10 : w8.cell? ⟨gb103, 1, none⟩ = some (.int .i64 0) := (blk_cell BK103.out 1).trans rfl
 have hfs10 := blk_frozen BK103.out 1
 have hns10_0 := NB101_103.out
 have hns10_1 := NB102_103.out
 have hms10_0 := NB103_101.out
 have hms10_1 := NB103_102.out
 refine skip_ (w1 := ?_) (by rfl) rfl ?_ ?_
 rotate_left
 ·
  go_simp
  rfl
 refine hK.out _ _ ⟨((cell_far (p := ⟨gb103, _, none⟩) NB101_103.out _).trans (((cell_far (p := ⟨gb103, _, none⟩) NB101_103.out _).trans (hHeld.1)))), ((cell_far (p := ⟨gb103, _, none⟩) NB101_103.out _).trans (((cell_far (p := ⟨gb103, _, none⟩) NB101_103.out _).trans (hHeld.2.1)))), ((cell_far (p := ⟨gb103, _, none⟩) NB102_103.out _).trans (((cell_far (p := ⟨gb103, _, none⟩) NB102_103.out _).trans (hHeld.2.2.1)))), ((cell_far (p := ⟨gb103, _, none⟩) NB102_103.out _).trans (((cell_far (p := ⟨gb103, _, none⟩) NB102_103.out _).trans (hHeld.2.2.2))))⟩ (fun hHeld => ?_)
 clear hK K
 refine done_ (done_of HT_.out (by kernel_rfl)) ?_
 try go_wp2
 refine bodyPost_ret (results_cell_row rfl _ _ gb103 34 #[.int .i64 t104, .int .i64 t105] (0, 0) _ rfl qz16_ Try.underlying34 rfl (by kernel_rfl)) rfl ?_
 exact ⟨qz4_, qz17_⟩

def spec_l01Mul.f (a0 : Int) (a1 : Int) : Option (Int) := some (Int.tmod (wrap64 (a0 * a1)) 2130706433)
set_option maxHeartbeats 8000000 in
set_option maxRecDepth 100000 in
theorem spec_l01Mul.calls (a0 : Int) (a1 : Int) (r : Int) (w : World) (h : spec_l01Mul.f a0 a1 = some r) :
  Calls Try.prog 151 #[.int .i64 a0, .int .i64 a1] w fun e w' => e = .returned (.int .i64 r) ∧ Drawn0 w w' := by
 have H : (some (Int.tmod (wrap64 (a0 * a1)) 2130706433)) = some r := h
 clear h
 obtain rfl := Option.some.inj H
 go_enter Try.func151, Try.ntmps151
 go_wp2
 go_ret
 exact ⟨qz0_, qz1_⟩

def spec_l02Mul.f (a0_0 : Int) (a0_1 : Int) (a1_0 : Int) (a1_1 : Int) : Option (Int × Int) := (spec_l01Mul.f a0_0 a1_0).bind fun t104 => ((spec_l01Mul.f a0_1 a1_1).bind fun t105 => ((spec_l01Add.f t104 (Int.tmod (wrap64 (3 * t105)) 2130706433)).bind fun t106 => ((spec_l01Mul.f a0_0 a1_1).bind fun t107 => ((spec_l01Mul.f a0_1 a1_0).bind fun t108 => ((spec_l01Add.f t107 t108).bind fun t109 => (some (t106, t109)))))))
def spec_l02Mul.T1 : Bool × List (List Nat × List Nat) := (true, [([], []), ([0], [0]), ([], []), ([2], [2]), ([1, 3], [1, 3]), ([], []), ([5], [5]), ([], []), ([7], [7]), ([6, 8, 4], [6, 8]), ([9], [9]), ([10], [10]), ([4, 11, 9], [4, 11]), ([], []), ([13], [13]), ([], []), ([15], [15]), ([14, 16, 12], [14, 16]), ([], []), ([18], [18]), ([], []), ([20], [20]), ([19, 21, 17], [19, 21]), ([17, 22, 22], [17, 22]), ([12, 23], [12, 23]), ([24, 23, 0, 1, 2, 3, 4, 5, 6, 7, 8, 9, 10, 11, 12, 13, 14, 15, 16, 17, 18, 19, 20, 21, 22, 23, 24], [24])])
def spec_l02Mul.B1 : List Nat := [0, 1, 0, 4, 15, 0, 32, 0, 128, 511, 1023, 2047, 4095, 0, 8192, 0, 32768, 131071, 0, 262144, 0, 1048576, 4194303, 8388607, 16777215, 33554431]
theorem spec_l02Mul.tab1 : rtab .any (opsOf Try.f149 1) = spec_l02Mul.T1 := by kernel_rfl
theorem spec_l02Mul.bits1 : waitsOk spec_l02Mul.T1.2 spec_l02Mul.B1 = true := by kernel_rfl
set_option maxHeartbeats 8000000 in
set_option maxRecDepth 100000 in
theorem spec_l02Mul.calls (a0_0 : Int) (a0_1 : Int) (a1_0 : Int) (a1_1 : Int) (r1 : Int) (r2 : Int) (w : World) (h : spec_l02Mul.f a0_0 a0_1 a1_0 a1_1 = some (r1, r2)) :
  Calls Try.prog 149 #[.agg #[.int .i64 a0_0, .int .i64 a0_1], .agg #[.int .i64 a1_0, .int .i64 a1_1]] w fun e w' => e = .returned (.agg #[.int .i64 r1, .int .i64 r2]) ∧ Below w.heap.size w w' := by
 have hu34 := Try.underlying34
 have HB := am_ (Below.refl w.heap.size w)
 have H : ((spec_l01Mul.f a0_0 a1_0).bind fun t104 => ((spec_l01Mul.f a0_1 a1_1).bind fun t105 => ((spec_l01Add.f t104 (Int.tmod (wrap64 (3 * t105)) 2130706433)).bind fun t106 => ((spec_l01Mul.f a0_0 a1_1).bind fun t107 => ((spec_l01Mul.f a0_1 a1_0).bind fun t108 => ((spec_l01Add.f t107 t108).bind fun t109 => (some (t106, t109)))))))) = some (r1, r2) := h
 clear h
 replace H := Option.bind_eq_some_iff.mp H
 obtain ⟨t104, A30, H⟩ := H
 replace H : ((spec_l01Mul.f a0_1 a1_1).bind fun t105 => ((spec_l01Add.f t104 (Int.tmod (wrap64 (3 * t105)) 2130706433)).bind fun t106 => ((spec_l01Mul.f a0_0 a1_1).bind fun t107 => ((spec_l01Mul.f a0_1 a1_0).bind fun t108 => ((spec_l01Add.f t107 t108).bind fun t109 => (some (t106, t109))))))) = some (r1, r2) := H
 have A3 := am_ A30
 clear A30
 replace H := Option.bind_eq_some_iff.mp H
 obtain ⟨t105, A40, H⟩ := H
 replace H : ((spec_l01Add.f t104 (Int.tmod (wrap64 (3 * t105)) 2130706433)).bind fun t106 => ((spec_l01Mul.f a0_0 a1_1).bind fun t107 => ((spec_l01Mul.f a0_1 a1_0).bind fun t108 => ((spec_l01Add.f t107 t108).bind fun t109 => (some (t106, t109)))))) = some (r1, r2) := H
 have A4 := am_ A40
 clear A40
 replace H := Option.bind_eq_some_iff.mp H
 obtain ⟨t106, A50, H⟩ := H
 replace H : ((spec_l01Mul.f a0_0 a1_1).bind fun t107 => ((spec_l01Mul.f a0_1 a1_0).bind fun t108 => ((spec_l01Add.f t107 t108).bind fun t109 => (some (t106, t109))))) = some (r1, r2) := H
 have A5 := am_ A50
 clear A50
 replace H := Option.bind_eq_some_iff.mp H
 obtain ⟨t107, A60, H⟩ := H
 replace H : ((spec_l01Mul.f a0_1 a1_0).bind fun t108 => ((spec_l01Add.f t107 t108).bind fun t109 => (some (t106, t109)))) = some (r1, r2) := H
 have A6 := am_ A60
 clear A60
 replace H := Option.bind_eq_some_iff.mp H
 obtain ⟨t108, A70, H⟩ := H
 replace H : ((spec_l01Add.f t107 t108).bind fun t109 => (some (t106, t109))) = some (r1, r2) := H
 have A7 := am_ A70
 clear A70
 replace H := Option.bind_eq_some_iff.mp H
 obtain ⟨t109, A80, H⟩ := H
 replace H : (some (t106, t109)) = some (r1, r2) := H
 have A8 := am_ A80
 clear A80
 simp only [Option.some.injEq, Prod.mk.injEq] at H
 obtain ⟨rfl, rfl⟩ := H
 go_enter Try.func149, Try.ntmps149
 try go_wp2_with (first | ((with_reducible refine gate_dst (N := 2) rfl ?_); refine box_event ?hg (N := 2) ?hd (cs := #[.int .i64 a0_0, .int .i64 a0_1]) (t := 34) ?hr ?_; (case hd => rfl); (case hg => rfl); (case hr => first | (go_simp; done) | (go_simp; rfl)); intro gb101 hg w9 hbox hb; have n0_ := am_ (below_step qz3_ hb); have n1_ := am_ (hbox); have n2_ := am_ ((by rw [hg]; exact (below_size qz3_) : w.heap.size ≤ gb101)); have n3_ := am_ ((by rw [hg]; exact (below_size qz3_) : w.heap.size ≤ gb101)); clear HB; have HB := n0_; have BK101 := n1_; have GW101 := n2_; have GE101 := n3_; clear n0_ n1_ n2_ n3_; clear hb hbox hg) | ((with_reducible refine gate_dst (N := 3) rfl ?_); refine box_event ?hg (N := 3) ?hd (cs := #[.int .i64 a1_0, .int .i64 a1_1]) (t := 34) ?hr ?_; (case hd => rfl); (case hg => rfl); (case hr => first | (go_simp; done) | (go_simp; rfl)); intro gb102 hg w10 hbox hb; have n0_ := am_ (blk_below (g := gb101) (o := .cells #[.int .i64 a0_0, .int .i64 a0_1] 34 (0, 0)) qz13_ hb); have n1_ := am_ (below_step qz5_ hb); have n2_ := am_ (hbox); have n3_ := am_ ((by rw [hg]; exact (below_size qz5_) : w.heap.size ≤ gb102)); have n4_ := am_ ((by rw [hg]; exact (below_size qz5_) : w.heap.size ≤ gb102)); have n5_ := am_ ((by rw [hg]; exact Nat.ne_of_lt (blk_lt (g := gb101) (o := .cells #[.int .i64 a0_0, .int .i64 a0_1] 34 (0, 0)) qz13_) : gb101 ≠ gb102)); have n6_ := am_ ((by rw [hg]; exact Nat.ne_of_gt (blk_lt (g := gb101) (o := .cells #[.int .i64 a0_0, .int .i64 a0_1] 34 (0, 0)) qz13_) : gb102 ≠ gb101)); clear BK101; clear HB; have BK101 := n0_; have HB := n1_; have BK102 := n2_; have GW102 := n3_; have GE102 := n4_; have NB101_102 := n5_; have NB102_101 := n6_; clear n0_ n1_ n2_ n3_ n4_ n5_ n6_; clear hb hbox hg) | ((with_reducible refine gate_dst (N := 4) rfl ?_); refine box_event ?hg (N := 4) ?hd (cs := #[.int .i64 0, .int .i64 0]) (t := 34) ?hr ?_; (case hd => rfl); (case hg => rfl); (case hr => first | (go_simp; done) | (go_simp; rfl)); intro gb103 hg w11 hbox hb; have n0_ := am_ (blk_below (g := gb101) (o := .cells #[.int .i64 a0_0, .int .i64 a0_1] 34 (0, 0)) qz13_ hb); have n1_ := am_ (blk_below (g := gb102) (o := .cells #[.int .i64 a1_0, .int .i64 a1_1] 34 (0, 0)) qz14_ hb); have n2_ := am_ (below_step qz15_ hb); have n3_ := am_ (hbox); have n4_ := am_ ((by rw [hg]; exact (below_size qz15_) : w.heap.size ≤ gb103)); have n5_ := am_ ((by rw [hg]; exact (below_size qz15_) : w.heap.size ≤ gb103)); have n6_ := am_ ((by rw [hg]; exact Nat.ne_of_lt (blk_lt (g := gb101) (o := .cells #[.int .i64 a0_0, .int .i64 a0_1] 34 (0, 0)) qz13_) : gb101 ≠ gb103)); have n7_ := am_ ((by rw [hg]; exact Nat.ne_of_gt (blk_lt (g := gb101) (o := .cells #[.int .i64 a0_0, .int .i64 a0_1] 34 (0, 0)) qz13_) : gb103 ≠ gb101)); have n8_ := am_ ((by rw [hg]; exact Nat.ne_of_lt (blk_lt (g := gb102) (o := .cells #[.int .i64 a1_0, .int .i64 a1_1] 34 (0, 0)) qz14_) : gb102 ≠ gb103)); have n9_ := am_ ((by rw [hg]; exact Nat.ne_of_gt (blk_lt (g := gb102) (o := .cells #[.int .i64 a1_0, .int .i64 a1_1] 34 (0, 0)) qz14_) : gb103 ≠ gb102)); clear BK101; clear BK102; clear HB; have BK101 := n0_; have BK102 := n1_; have HB := n2_; have BK103 := n3_; have GW103 := n4_; have GE103 := n5_; have NB101_103 := n6_; have NB103_101 := n7_; have NB102_103 := n8_; have NB103_102 := n9_; clear n0_ n1_ n2_ n3_ n4_ n5_ n6_ n7_ n8_ n9_; clear hb hbox hg))
 have n0_ := am_ (blk_drew BK101.out)
 have n1_ := am_ (blk_drew BK102.out)
 have n2_ := am_ (blk_drew BK103.out)
 have n3_ := am_ (below_drew1 HB.out)
 clear BK101
 clear BK102
 clear BK103
 clear HB
 have BK101 := n0_
 have BK102 := n1_
 have BK103 := n2_
 have HB := n3_
 clear n0_ n1_ n2_ n3_
 refine start_ (n := 26) (S := fun w' => w'.cell? ⟨gb101, 0, none⟩ = some (.int .i64 a0_0) ∧ w'.cell? ⟨gb101, 1, none⟩ = some (.int .i64 a0_1) ∧ w'.cell? ⟨gb102, 0, none⟩ = some (.int .i64 a1_0) ∧ w'.cell? ⟨gb102, 1, none⟩ = some (.int .i64 a1_1)) (ds := []) #[false, false, false, false, false, false, false, false, false, false, false, false, false, false, false, false, false, false, false, false, false, false, false, false, false, false] (by kernel_rfl) rfl rfl ⟨(blk_cell BK101.out 0).trans rfl, (blk_cell BK101.out 1).trans rfl, (blk_cell BK102.out 0).trans rfl, (blk_cell BK102.out 1).trans rfl⟩ (fun hHeld => ?_); refine with_tabW spec_l02Mul.tab1 spec_l02Mul.bits1 (fun HT_ HW_ => ?_)
 generalize w11.drew = w12 at BK101 BK102 BK103 HB hHeld ⊢
 refine pure_ (i := 0) (N := some 5) (v := ?_) (a' := ?_) #[true, false, false, false, false, false, false, false, false, false, false, false, false, false, false, false, false, false, false, false, false, false, false, false, false, false] rfl rfl (any_of HT_.out (by kernel_rfl)) (fun _ _ _ h => h) (Or.inl ⟨(by rfl), ?_⟩) ?_ ?_
 rotate_left
 ·
  intro w'
  go_simp
  with_reducible rfl
 rotate_left
 ·
  exact ap_
 refine pure_ (i := 2) (N := some 7) (v := ?_) (a' := ?_) #[true, false, true, false, false, false, false, false, false, false, false, false, false, false, false, false, false, false, false, false, false, false, false, false, false, false] rfl rfl (any_of HT_.out (by kernel_rfl)) (fun _ _ _ h => h) (Or.inl ⟨(by rfl), ?_⟩) ?_ ?_
 rotate_left
 ·
  intro w'
  go_simp
  with_reducible rfl
 rotate_left
 ·
  exact ap_
 refine pure_ (i := 5) (N := some 10) (v := ?_) (a' := ?_) #[true, false, true, false, false, true, false, false, false, false, false, false, false, false, false, false, false, false, false, false, false, false, false, false, false, false] rfl rfl (any_of HT_.out (by kernel_rfl)) (fun _ _ _ h => h) (Or.inl ⟨(by rfl), ?_⟩) ?_ ?_
 rotate_left
 ·
  intro w'
  go_simp
  with_reducible rfl
 rotate_left
 ·
  exact ap_
 refine pure_ (i := 7) (N := some 12) (v := ?_) (a' := ?_) #[true, false, true, false, false, true, false, true, false, false, false, false, false, false, false, false, false, false, false, false, false, false, false, false, false, false] rfl rfl (any_of HT_.out (by kernel_rfl)) (fun _ _ _ h => h) (Or.inl ⟨(by rfl), ?_⟩) ?_ ?_
 rotate_left
 ·
  intro w'
  go_simp
  with_reducible rfl
 rotate_left
 ·
  exact ap_
 refine pure_ (i := 13) (N := some 18) (v := ?_) (a' := ?_) #[true, false, true, false, false, true, false, true, false, false, false, false, false, true, false, false, false, false, false, false, false, false, false, false, false, false] rfl rfl (any_of HT_.out (by kernel_rfl)) (fun _ _ _ h => h) (Or.inl ⟨(by rfl), ?_⟩) ?_ ?_
 rotate_left
 ·
  intro w'
  go_simp
  with_reducible rfl
 rotate_left
 ·
  exact ap_
 refine pure_ (i := 15) (N := some 20) (v := ?_) (a' := ?_) #[true, false, true, false, false, true, false, true, false, false, false, false, false, true, false, true, false, false, false, false, false, false, false, false, false, false] rfl rfl (any_of HT_.out (by kernel_rfl)) (fun _ _ _ h => h) (Or.inl ⟨(by rfl), ?_⟩) ?_ ?_
 rotate_left
 ·
  intro w'
  go_simp
  with_reducible rfl
 rotate_left
 ·
  exact ap_
 refine pure_ (i := 18) (N := some 23) (v := ?_) (a' := ?_) #[true, false, true, false, false, true, false, true, false, false, false, false, false, true, false, true, false, false, true, false, false, false, false, false, false, false] rfl rfl (any_of HT_.out (by kernel_rfl)) (fun _ _ _ h => h) (Or.inl ⟨(by rfl), ?_⟩) ?_ ?_
 rotate_left
 ·
  intro w'
  go_simp
  with_reducible rfl
 rotate_left
 ·
  exact ap_
 refine pure_ (i := 20) (N := some 25) (v := ?_) (a' := ?_) #[true, false, true, false, false, true, false, true, false, false, false, false, false, true, false, true, false, false, true, false, true, false, false, false, false, false] rfl rfl (any_of HT_.out (by kernel_rfl)) (fun _ _ _ h => h) (Or.inl ⟨(by rfl), ?_⟩) ?_ ?_
 rotate_left
 ·
  intro w'
  go_simp
  with_reducible rfl
 rotate_left
 ·
  exact ap_
 refine take_ (i := 1) (N := some 6) (v := ?_) (a' := ?_) #[true, true, true, false, false, true, false, true, false, false, false, false, false, true, false, true, false, false, true, false, true, false, false, false, false, false] rfl rfl (take_ofW HT_.out HW_.out (by kernel_rfl)) (fun _ _ _ h => h) (Or.inl ⟨(by rfl), ?_⟩) hHeld ?_ ?_
 rotate_left
 ·
  rintro w' ⟨s0, s1, s2, s3⟩
  go_simp
  with_reducible rfl
 rotate_left
 ·
  exact ap_
 refine take_ (i := 3) (N := some 8) (v := ?_) (a' := ?_) #[true, true, true, true, false, true, false, true, false, false, false, false, false, true, false, true, false, false, true, false, true, false, false, false, false, false] rfl rfl (take_ofW HT_.out HW_.out (by kernel_rfl)) (fun _ _ _ h => h) (Or.inl ⟨(by rfl), ?_⟩) hHeld ?_ ?_
 rotate_left
 ·
  rintro w' ⟨s0, s1, s2, s3⟩
  go_simp
  with_reducible rfl
 rotate_left
 ·
  exact ap_
 refine take_ (i := 6) (N := some 11) (v := ?_) (a' := ?_) #[true, true, true, true, false, true, true, true, false, false, false, false, false, true, false, true, false, false, true, false, true, false, false, false, false, false] rfl rfl (take_ofW HT_.out HW_.out (by kernel_rfl)) (fun _ _ _ h => h) (Or.inl ⟨(by rfl), ?_⟩) hHeld ?_ ?_
 rotate_left
 ·
  rintro w' ⟨s0, s1, s2, s3⟩
  go_simp
  with_reducible rfl
 rotate_left
 ·
  exact ap_
 refine take_ (i := 8) (N := some 13) (v := ?_) (a' := ?_) #[true, true, true, true, false, true, true, true, true, false, false, false, false, true, false, true, false, false, true, false, true, false, false, false, false, false] rfl rfl (take_ofW HT_.out HW_.out (by kernel_rfl)) (fun _ _ _ h => h) (Or.inl ⟨(by rfl), ?_⟩) hHeld ?_ ?_
 rotate_left
 ·
  rintro w' ⟨s0, s1, s2, s3⟩
  go_simp
  with_reducible rfl
 rotate_left
 ·
  exact ap_
 refine take_ (i := 14) (N := some 19) (v := ?_) (a' := ?_) #[true, true, true, true, false, true, true, true, true, false, false, false, false, true, true, true, false, false, true, false, true, false, false, false, false, false] rfl rfl (take_ofW HT_.out HW_.out (by kernel_rfl)) (fun _ _ _ h => h) (Or.inl ⟨(by rfl), ?_⟩) hHeld ?_ ?_
 rotate_left
 ·
  rintro w' ⟨s0, s1, s2, s3⟩
  go_simp
  with_reducible rfl
 rotate_left
 ·
  exact ap_
 refine take_ (i := 16) (N := some 21) (v := ?_) (a' := ?_) #[true, true, true, true, false, true, true, true, true, false, false, false, false, true, true, true, true, false, true, false, true, false, false, false, false, false] rfl rfl (take_ofW HT_.out HW_.out (by kernel_rfl)) (fun _ _ _ h => h) (Or.inl ⟨(by rfl), ?_⟩) hHeld ?_ ?_
 rotate_left
 ·
  rintro w' ⟨s0, s1, s2, s3⟩
  go_simp
  with_reducible rfl
 rotate_left
 ·
  exact ap_
 refine take_ (i := 19) (N := some 24) (v := ?_) (a' := ?_) #[true, true, true, true, false, true, true, true, true, false, false, false, false, true, true, true, true, false, true, true, true, false, false, false, false, false] rfl rfl (take_ofW HT_.out HW_.out (by kernel_rfl)) (fun _ _ _ h => h) (Or.inl ⟨(by rfl), ?_⟩) hHeld ?_ ?_
 rotate_left
 ·
  rintro w' ⟨s0, s1, s2, s3⟩
  go_simp
  with_reducible rfl
 rotate_left
 ·
  exact ap_
 refine take_ (i := 21) (N := some 26) (v := ?_) (a' := ?_) #[true, true, true, true, false, true, true, true, true, false, false, false, false, true, true, true, true, false, true, true, true, true, false, false, false, false] rfl rfl (take_ofW HT_.out HW_.out (by kernel_rfl)) (fun _ _ _ h => h) (Or.inl ⟨(by rfl), ?_⟩) hHeld ?_ ?_
 rotate_left
 ·
  rintro w' ⟨s0, s1, s2, s3⟩
  go_simp
  with_reducible rfl
 rotate_left
 ·
  exact ap_
 refine one_ (i := 4) (N := some 9) #[true, true, true, true, true, true, true, true, true, false, false, false, false, true, true, true, true, false, true, true, true, true, false, false, false, false] rfl rfl (one_of HT_.out (by kernel_rfl)) (by decide) (fun K hK => ?_)
 refine goes_ Try.func151 (by kernel_rfl) rfl #[.int .i64 a0_0, .int .i64 a1_0] (by rfl) rfl rfl qz2_ ?_
 with_reducible refine (spec_l01Mul.calls a0_0 a1_0 t104 _ A3.out).mono ?_
 rintro e w' ⟨rfl, ⟨nd, rfl⟩⟩
 refine ⟨_, rfl, ?_⟩
 refine hK.out _ _ ⟨(blk_cell BK101.out 0).trans rfl, (blk_cell BK101.out 1).trans rfl, (blk_cell BK102.out 0).trans rfl, (blk_cell BK102.out 1).trans rfl⟩ (fun hHeld => ?_)
 clear hK K
 refine norm_ (a' := ?_) ?_ ?_
 rotate_left
 ·
  show Act.put _ (some 9) _ = _
  exact ap_
 refine one_ (i := 9) (N := some 14) #[true, true, true, true, true, true, true, true, true, true, false, false, false, true, true, true, true, false, true, true, true, true, false, false, false, false] rfl rfl (one_of HT_.out (by kernel_rfl)) (by decide) (fun K hK => ?_)
 refine goes_ Try.func151 (by kernel_rfl) rfl #[.int .i64 a0_1, .int .i64 a1_1] (by rfl) rfl rfl qz2_ ?_
 with_reducible refine (spec_l01Mul.calls a0_1 a1_1 t105 _ A4.out).mono ?_
 rintro e w' ⟨rfl, ⟨nd, rfl⟩⟩
 refine ⟨_, rfl, ?_⟩
 refine hK.out _ _ ⟨(blk_cell BK101.out 0).trans rfl, (blk_cell BK101.out 1).trans rfl, (blk_cell BK102.out 0).trans rfl, (blk_cell BK102.out 1).trans rfl⟩ (fun hHeld => ?_)
 clear hK K
 refine norm_ (a' := ?_) ?_ ?_
 rotate_left
 ·
  show Act.put _ (some 14) _ = _
  exact ap_
 refine pure_ (i := 10) (N := some 15) (v := ?_) (a' := ?_) #[true, true, true, true, true, true, true, true, true, true, true, false, false, true, true, true, true, false, true, true, true, true, false, false, false, false] rfl rfl (any_of HT_.out (by kernel_rfl)) (fun _ _ _ h => h) (Or.inl ⟨(by rfl), ?_⟩) ?_ ?_
 rotate_left
 ·
  intro w'
  go_simp
  with_reducible rfl
 rotate_left
 ·
  exact ap_
 refine pure_ (i := 11) (N := some 16) (v := ?_) (a' := ?_) #[true, true, true, true, true, true, true, true, true, true, true, true, false, true, true, true, true, false, true, true, true, true, false, false, false, false] rfl rfl (any_of HT_.out (by kernel_rfl)) (fun _ _ _ h => h) (Or.inl ⟨(by rfl), ?_⟩) ?_ ?_
 rotate_left
 ·
  intro w'
  go_simp
  with_reducible rfl
 rotate_left
 ·
  exact ap_
 refine one_ (i := 12) (N := some 17) #[true, true, true, true, true, true, true, true, true, true, true, true, true, true, true, true, true, false, true, true, true, true, false, false, false, false] rfl rfl (one_of HT_.out (by kernel_rfl)) (by decide) (fun K hK => ?_)
 refine goes_ Try.func146 (by kernel_rfl) rfl #[.int .i64 t104, .int .i64 (Int.tmod (wrap64 (3 * t105)) 2130706433)] (by rfl) rfl rfl qz2_ ?_
 with_reducible refine (spec_l01Add.calls t104 (Int.tmod (wrap64 (3 * t105)) 2130706433) t106 _ A5.out).mono ?_
 rintro e w' ⟨rfl, ⟨nd, rfl⟩⟩
 refine ⟨_, rfl, ?_⟩
 refine hK.out _ _ ⟨(blk_cell BK101.out 0).trans rfl, (blk_cell BK101.out 1).trans rfl, (blk_cell BK102.out 0).trans rfl, (blk_cell BK102.out 1).trans rfl⟩ (fun hHeld => ?_)
 clear hK K
 refine norm_ (a' := ?_) ?_ ?_
 rotate_left
 ·
  show Act.put _ (some 17) _ = _
  exact ap_
 refine one_ (i := 17) (N := some 22) #[true, true, true, true, true, true, true, true, true, true, true, true, true, true, true, true, true, true, true, true, true, true, false, false, false, false] rfl rfl (one_of HT_.out (by kernel_rfl)) (by decide) (fun K hK => ?_)
 refine goes_ Try.func151 (by kernel_rfl) rfl #[.int .i64 a0_0, .int .i64 a1_1] (by rfl) rfl rfl qz2_ ?_
 with_reducible refine (spec_l01Mul.calls a0_0 a1_1 t107 _ A6.out).mono ?_
 rintro e w' ⟨rfl, ⟨nd, rfl⟩⟩
 refine ⟨_, rfl, ?_⟩
 refine hK.out _ _ ⟨(blk_cell BK101.out 0).trans rfl, (blk_cell BK101.out 1).trans rfl, (blk_cell BK102.out 0).trans rfl, (blk_cell BK102.out 1).trans rfl⟩ (fun hHeld => ?_)
 clear hK K
 refine norm_ (a' := ?_) ?_ ?_
 rotate_left
 ·
  show Act.put _ (some 22) _ = _
  exact ap_
 refine one_ (i := 22) (N := some 27) #[true, true, true, true, true, true, true, true, true, true, true, true, true, true, true, true, true, true, true, true, true, true, true, false, false, false] rfl rfl (one_of HT_.out (by kernel_rfl)) (by decide) (fun K hK => ?_)
 refine goes_ Try.func151 (by kernel_rfl) rfl #[.int .i64 a0_1, .int .i64 a1_0] (by rfl) rfl rfl qz2_ ?_
 with_reducible refine (spec_l01Mul.calls a0_1 a1_0 t108 _ A7.out).mono ?_
 rintro e w' ⟨rfl, ⟨nd, rfl⟩⟩
 refine ⟨_, rfl, ?_⟩
 refine hK.out _ _ ⟨(blk_cell BK101.out 0).trans rfl, (blk_cell BK101.out 1).trans rfl, (blk_cell BK102.out 0).trans rfl, (blk_cell BK102.out 1).trans rfl⟩ (fun hHeld => ?_)
 clear hK K
 refine norm_ (a' := ?_) ?_ ?_
 rotate_left
 ·
  show Act.put _ (some 27) _ = _
  exact ap_
 refine one_ (i := 23) (N := some 28) #[true, true, true, true, true, true, true, true, true, true, true, true, true, true, true, true, true, true, true, true, true, true, true, true, false, false] rfl rfl (one_of HT_.out (by kernel_rfl)) (by decide) (fun K hK => ?_)
 refine goes_ Try.func146 (by kernel_rfl) rfl #[.int .i64 t107, .int .i64 t108] (by rfl) rfl rfl qz2_ ?_
 with_reducible refine (spec_l01Add.calls t107 t108 t109 _ A8.out).mono ?_
 rintro e w' ⟨rfl, ⟨nd, rfl⟩⟩
 refine ⟨_, rfl, ?_⟩
 refine hK.out _ _ ⟨(blk_cell BK101.out 0).trans rfl, (blk_cell BK101.out 1).trans rfl, (blk_cell BK102.out 0).trans rfl, (blk_cell BK102.out 1).trans rfl⟩ (fun hHeld => ?_)
 clear hK K
 refine norm_ (a' := ?_) ?_ ?_
 rotate_left
 ·
  show Act.put _ (some 28) _ = _
  exact ap_
 refine pure_ (i := 24) (N := some 29) (v := ?_) (a' := ?_) #[true, true, true, true, true, true, true, true, true, true, true, true, true, true, true, true, true, true, true, true, true, true, true, true, true, false] rfl rfl (any_of HT_.out (by kernel_rfl)) (fun _ _ _ h => h) (Or.inl ⟨(by rfl), ?_⟩) ?_ ?_
 rotate_left
 ·
  intro w'
  go_simp
  with_reducible rfl
 rotate_left
 ·
  exact ap_
 refine one_ (i := 25) (N := none) #[true, true, true, true, true, true, true, true, true, true, true, true, true, true, true, true, true, true, true, true, true, true, true, true, true, true] rfl rfl (one_of HT_.out (by kernel_rfl)) (by decide) (fun K hK => ?_)
 have hs13 : w12.cell? ⟨gb103, 0, none⟩ = some (.int .i64 0) := (blk_cell BK103.out 0).trans rfl
 have hfs13 := blk_frozen BK103.out 0
 have hns13_0 := NB101_103.out
 have hns13_1 := NB102_103.out
 have hms13_0 := NB103_101.out
 have hms13_1 := NB103_102.out
 have hs14 : w12.cell? ⟨gb103, 1, none⟩ = some (.int .i64 0) := (blk_cell BK103.out 1).trans rfl
 have hfs14 := blk_frozen BK103.out 1
 have hns14_0 := NB101_103.out
 have hns14_1 := NB102_103.out
 have hms14_0 := NB103_101.out
 have hms14_1 := NB103_102.out
 refine skip_ (w1 := ?_) (by rfl) rfl ?_ ?_
 rotate_left
 ·
  go_simp
  rfl
 refine hK.out _ _ ⟨((cell_far (p := ⟨gb103, _, none⟩) NB101_103.out _).trans (((cell_far (p := ⟨gb103, _, none⟩) NB101_103.out _).trans (hHeld.1)))), ((cell_far (p := ⟨gb103, _, none⟩) NB101_103.out _).trans (((cell_far (p := ⟨gb103, _, none⟩) NB101_103.out _).trans (hHeld.2.1)))), ((cell_far (p := ⟨gb103, _, none⟩) NB102_103.out _).trans (((cell_far (p := ⟨gb103, _, none⟩) NB102_103.out _).trans (hHeld.2.2.1)))), ((cell_far (p := ⟨gb103, _, none⟩) NB102_103.out _).trans (((cell_far (p := ⟨gb103, _, none⟩) NB102_103.out _).trans (hHeld.2.2.2))))⟩ (fun hHeld => ?_)
 clear hK K
 refine done_ (done_of HT_.out (by kernel_rfl)) ?_
 try go_wp2
 refine bodyPost_ret (results_cell_row rfl _ _ gb103 34 #[.int .i64 t106, .int .i64 t109] (0, 0) _ rfl (by (with_reducible repeat (first | refine blk_drewN ?_ _ | refine blk_drew ?_ | refine blk_alloc ?_ _)); refine blk_put (cs := #[.int .i64 t106, .int .i64 0]) ?_ 1 _ rfl; (with_reducible repeat (first | refine blk_drewN ?_ _ | refine blk_drew ?_ | refine blk_alloc ?_ _)); refine blk_put (cs := #[.int .i64 0, .int .i64 0]) ?_ 0 _ rfl; (with_reducible repeat (first | refine blk_drewN ?_ _ | refine blk_drew ?_ | refine blk_alloc ?_ _)); exact BK103.out) Try.underlying34 rfl (by kernel_rfl)) rfl ?_
 exact ⟨qz4_, qz17_⟩

def spec_l02Of.f (a0 : Int) : Option (Int × Int) := some (a0, 0)
set_option maxHeartbeats 8000000 in
set_option maxRecDepth 100000 in
theorem spec_l02Of.calls (a0 : Int) (r1 : Int) (r2 : Int) (w : World) (h : spec_l02Of.f a0 = some (r1, r2)) :
  Calls Try.prog 150 #[.int .i64 a0] w fun e w' => e = .returned (.agg #[.int .i64 r1, .int .i64 r2]) ∧ Below w.heap.size w w' := by
 have hu34 := Try.underlying34
 have HB := am_ (Below.refl w.heap.size w)
 have H : (some (a0, 0)) = some (r1, r2) := h
 clear h
 simp only [Option.some.injEq, Prod.mk.injEq] at H
 obtain ⟨rfl, rfl⟩ := H
 go_enter Try.func150, Try.ntmps150
 go_wp2_with (first | ((with_reducible refine gate_dst (N := 2) rfl ?_); refine box_event ?hg (N := 2) ?hd (cs := #[.int .i64 0, .int .i64 0]) (t := 34) ?hr ?_; (case hd => rfl); (case hg => rfl); (case hr => first | (go_simp; done) | (go_simp; rfl)); intro gb101 hg w2 hbox hb; have n0_ := am_ (below_step qz3_ hb); have n1_ := am_ (hbox); have n2_ := am_ ((by rw [hg]; exact (below_size qz3_) : w.heap.size ≤ gb101)); have n3_ := am_ ((by rw [hg]; exact (below_size qz3_) : w.heap.size ≤ gb101)); clear HB; have HB := n0_; have BK101 := n1_; have GW101 := n2_; have GE101 := n3_; clear n0_ n1_ n2_ n3_; clear hb hbox hg; have hcz3_0 : w2.cell? ⟨gb101, 0, none⟩ = some (.int .i64 0) := (blk_cell BK101.out 0).trans rfl; have hcz3_1 : w2.cell? ⟨gb101, 1, none⟩ = some (.int .i64 0) := (blk_cell BK101.out 1).trans rfl; have hfz3_0 := blk_frozen BK101.out 0; have hfz3_1 := blk_frozen BK101.out 1))
 refine bodyPost_ret (results_cell_row rfl _ _ gb101 34 #[.int .i64 a0, .int .i64 0] (0, 0) _ rfl (by (with_reducible repeat (first | refine blk_drewN ?_ _ | refine blk_drew ?_ | refine blk_alloc ?_ _)); refine blk_put (cs := #[.int .i64 a0, .int .i64 0]) ?_ 1 _ rfl; (with_reducible repeat (first | refine blk_drewN ?_ _ | refine blk_drew ?_ | refine blk_alloc ?_ _)); refine blk_put (cs := #[.int .i64 0, .int .i64 0]) ?_ 0 _ rfl; (with_reducible repeat (first | refine blk_drewN ?_ _ | refine blk_drew ?_ | refine blk_alloc ?_ _)); exact BK101.out) Try.underlying34 rfl (by kernel_rfl)) rfl ?_
 exact ⟨qz4_, qz5_⟩

end Go.Proofs.Ytgookagndlfehaa.PT
end
