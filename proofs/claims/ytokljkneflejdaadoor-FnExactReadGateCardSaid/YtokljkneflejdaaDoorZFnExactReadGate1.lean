/- Part 1 of the proof of FnExactReadGate: what functions compute, shown step by step, and what that says (the claim's last text states the law). -/
import Derived.Test.YtokljkneflejdaaDoorProg
import Derived.Test.YtokljkneflejdaaDoorVWords
import Derived.Test.YtokljkneflejdaaDoorVMore
import Derived.Test.YtokljkneflejdaaDoorVLast
import Derived.Test.YtokljkneflejdaaDoorVTab
import Derived.Test.YtokljkneflejdaaDoorVQPut
import Derived.Test.YtokljkneflejdaaDoorVApart
import Derived.Test.YtokljkneflejdaaDoorVArr
import Derived.Test.YtokljkneflejdaaDoorVZeros
import Derived.Test.YtokljkneflejdaaDoorVFoot
import Derived.Test.YtokljkneflejdaaDoorVKept
import Derived.Test.YtokljkneflejdaaDoorVShare
import Derived.Test.YtokljkneflejdaaDoorVN
import Derived.Test.YtokljkneflejdaaDoorVFootNe
import Derived.Test.YtokljkneflejdaaDoorVRepsOne
import Derived.Test.YtokljkneflejdaaDoorVInv
import Derived.Test.YtokljkneflejdaaDoorVInvWords
import Derived.Test.YtokljkneflejdaaDoorVGuard
import Derived.Test.YtokljkneflejdaaDoorVNEv
import Derived.Test.YtokljkneflejdaaDoorCards
import Derived.Test.YtokljkneflejdaaDoorTie
import Derived.JoinedOf
import Derived.WalkKit
import Derived.ProofKit
import Derived.OpenShut
import Derived.ShutString
import Derived.ChangeOld
import Derived.Below
import Derived.SizedLaws
import Derived.Deep.Slices
import Derived.ChangeArms
import Derived.Deep.Draws
import Derived.Deep.AppendLies
import Derived.Maps.AppendAt
import Derived.OwnWalk
import Derived.Laws.BytesArg
import Derived.Laws.MakeOwn
import Derived.Laws.OwnMore
import Derived.Deep.OwnRows
import Derived.Tactics
import Derived.Lib.ConvBytes
import Derived.Laws.Slices
import Derived.KernelRfl
import Derived.RowKit3
import Derived.Deep.LoopGhost
import Derived.Deep.QuietTactic
import Derived.BigQuiet
import Derived.WideLaws
import Derived.Deep.DeepCutAuto
import Derived.Deep.CutBlock
import Derived.Deep.RegionHeld3
import Derived.Laws.Rows
import Derived.Lib.AppendStr
import Derived.ArgAppend
import Derived.Laws.IdiomCopy
import Derived.OrdersHeld
import Derived.Laws.BitsLemmas
import Derived.RowKit
import Derived.Deep.DeepMust
import Derived.Laws.CopyOwn
import Derived.Shelf.Utf8.RuneCount
import Derived.Shelf.Strconv.Atoi
import Derived.Shelf.Strconv.Itoa0
import Derived.Shelf.Strconv.Itoa1
import Derived.Shelf.LaysM
import Derived.Shelf.Strconv.Itoa2
import Derived.Shelf.Strconv.Itoa3
import Derived.Shelf.Strconv.AtoiErrFast
import Derived.Shelf.Strconv.ParseIntEmpty
import Derived.Shelf.Strconv.AtoiFail
import Derived.Shelf.Strconv.Clone
import Derived.Shelf.Strconv.SyntaxError
import Derived.Shelf.LaysC
import Derived.Shelf.Strconv.ToError
import Derived.Shelf.Strconv.Lower
import Derived.Shelf.Strconv.ParseUint10
import Derived.Shelf.Strconv.ParseUint10Empty
import Derived.Shelf.Strconv.ParseUint10Any
import Derived.Shelf.Strconv.ParseInt10
import Derived.Shelf.Strconv.AtoiLong
import Derived.Shelf.Strconv.AtoiInnerAll
import Derived.Shelf.Strconv.RangeError
import Derived.Shelf.Strconv.ToErrorRange
import Derived.Shelf.Strconv.AtoiAll
import Derived.Shelf.Strconv.ErrVarAll
import Derived.Shelf.Strings.Search1
import Derived.Shelf.Strings.Search2
import Derived.Shelf.Strings.Search3
import Derived.Shelf.Strings.Count
import Derived.Shelf.Strings.Shaped
import Derived.Shelf.Strings.Prefix
import Derived.Shelf.Strings.Split
import Derived.Shelf.Strings.SplitShaped
import Derived.Shelf.Unicode.Decode
import Derived.Shelf.Strings.RuneCount
import Derived.Shelf.Strings.Explode
import Derived.Shelf.Unicode.DecodeSlow
import Derived.Shelf.Unicode.DecodeAny
import Derived.Shelf.Slices.Turned
import Derived.Ground.SlgfProg
import Derived.Shelf.SlicesE.IndexFunc
import Derived.Shelf.SlicesE.DeleteFunc
import Derived.Lib.SplitLaws
import Derived.Lib.AtoiTie
import Derived.Lib.ItoaMem
import Derived.Lib.ItoaLen
import Derived.Lib.Strings
import Derived.Lib.LaidTab
import Derived.Lib.AppendIntMem
import Derived.Lib.OwnBridge
import Derived.Deep.DeepHandedRow
import Derived.Stop.LaidErr
import Derived.Shelf.Vars
import Derived.Test.YtokljkneflejdaaDoorZFnExactReadGate0
section
/- What ReadGate returns. -/
namespace Go.Proofs.YtokljkneflejdaaDoor.PT
open Go Go.RowKit Go.Lib Go.Proofs.YtokljkneflejdaaDoorW.PrintWords Go.Proofs.YtokljkneflejdaaDoorW.PrintLast Go.Proofs.YtokljkneflejdaaDoorW.PrintMore
set_option linter.unusedVariables false
set_option linter.unusedSimpArgs false
theorem splitB_le (sep : ByteArray) : ∀ (k : Nat) (s : ByteArray), ∀ x ∈ splitB sep 0 k s, x.size ≤ s.size
 | 0, s, x, hx => by
  rw [splitB, List.mem_singleton] at hx
  subst hx
  exact Nat.le_refl _
 | k + 1, s, x, hx => by
  rw [splitB] at hx
  split at hx
  ·
   rw [List.mem_singleton] at hx; subst hx; exact Nat.le_refl _
  ·
   rcases List.mem_cons.1 hx with e | h
   ·
    subst e
    rw [ByteArray.size_extract]; omega
   ·
    have := splitB_le sep k _ x h
    rw [ByteArray.size_extract] at this
    omega
theorem words_size {t x : ByteArray} (h : x ∈ wordsB t) : x.size ≤ t.size := splitB_le _ _ _ _ (List.mem_filter.1 h).1
theorem words_length (t : ByteArray) : (wordsB t).length ≤ t.size + 1 := by
 have h1 : (wordsB t).length ≤ (piecesB t).length := List.length_filter_le _ _
 have h2 := pieces_size t
 have h3 := countB_le ⟨#[32]⟩ (by decide) t.size t (Nat.le_refl _)
 rw [List.size_toArray] at h2
 omega
theorem impl_readGate.any (k : Nat) (q : Option Addr) (c0 : Nat) (ws : List ByteArray) (hcap : ws.length ≤ c0) (hbig : ws.length ≤ 1000000) (hsz : ∀ x ∈ ws, x.size ≤ 281474976710656) (r1 r2 r3 r4 : Int) (r5 : Bool) (w : World) (hw : wordsIn q ws w) (hg : RG w) (h : impl_readGate.f k ws = some (r1, r2, r3, r4, r5)) :
  Calls Tryd.prog 22 #[.slice q ws.length c0] w fun e w' => e = .returned (.tuple #[.agg #[.int .i64 r1, .int .i64 r2, .int .i64 r3, .int .i64 r4], .bool r5]) ∧ Below w.heap.size w w' := by
 cases ws with
 | nil =>
  have h2 : some ((0 : Int), (0 : Int), (0 : Int), (0 : Int), false) = some (r1, r2, r3, r4, r5) := h
  simp only [Option.some.injEq, Prod.mk.injEq] at h2
  obtain ⟨rfl, rfl, rfl, rfl, rfl⟩ := h2
  exact impl_readGate.nil q c0 w
 | cons x xs =>
  obtain ⟨b0, o0, rfl, _⟩ := hw 0 (by simp)
  exact impl_readGate.calls k b0 o0 c0 (x :: xs) x xs rfl hcap hbig hsz r1 r2 r3 r4 r5 w hw hg h
def impl_ReadGate.f (k : Nat) (t : ByteArray) : Option (Int × Int × Int × Int × Int) := if (t.size : Int) > 65536 then some (0, 0, 0, 0, 2) else (impl_readGate.f k (wordsB t)).bind fun r => if r.2.2.2.2 = true then some (r.1, r.2.1, r.2.2.1, r.2.2.2.1, 0) else some (0, 0, 0, 0, 3)
set_option maxHeartbeats 8000000 in
set_option maxRecDepth 100000 in
theorem impl_ReadGate.calls (k : Nat) (t : ByteArray) (r1 r2 r3 r4 r5 : Int) (w : World) (hg : RG w) (h : impl_ReadGate.f k t = some (r1, r2, r3, r4, r5)) : Calls Tryd.prog 8 #[.string t] w fun e w' => e = .returned (.tuple #[.agg #[.int .i64 r1, .int .i64 r2, .int .i64 r3, .int .i64 r4], .int .i64 r5]) ∧ Below w.heap.size w w' := by
 have hu30 := Tryd.underlying30
 have HI := am_ (Inv.start w RG (fun W hb => hg.below hb))
 unfold impl_ReadGate.f at h
 clear hg
 by_cases c1 : (t.size : Int) > 65536
 ·
  rw [if_pos c1] at h
  simp only [Option.some.injEq, Prod.mk.injEq] at h
  obtain ⟨rfl, rfl, rfl, rfl, rfl⟩ := h
  have HL := am_ (show impl_isLong.f t = some true by unfold impl_isLong.f; rw [decide_eq_true c1])
  clear c1
  go_enter Tryd.func8, Tryd.ntmps8
  go_wp2_with (first | ((with_reducible refine gate_dst (N := 2) rfl ?_); refine box_event ?hg (N := 2) ?hd (cs := #[.int .i64 0, .int .i64 0, .int .i64 0, .int .i64 0]) (t := 30) ?hr ?_; (case hd => rfl); (case hg => rfl); (case hr => first | (go_simp; done) | (go_simp; rfl)); intro g2 hg w1 hbox hb; have HI_ := am_ ((HI.out).box hg hbox hb); clear HI; have HI := HI_; clear HI_; clear hb hbox hg) | (go_at_call 21; refine (impl_isLong.calls t true _ HL.out).mono ?_; rintro e w7 ⟨rfl, ⟨nd, rfl⟩⟩; have HI_ := am_ (HI.out.drewN nd); clear HI; have HI := HI_; clear HI_) | ((with_reducible refine gate_store (p := 2) (v := (.tmp 8)) (t := 30) rfl ?_); go_must (refine wpList_store_row rfl 30 _ _ rfl g2 (#[.int .i64 0, .int .i64 0, .int .i64 0, .int .i64 0]) rfl (by first | rfl | (go_simp; rfl)) 30 (#[.int .i64 0, .int .i64 0, .int .i64 0, .int .i64 0]) (Inv.blk0 (HI.out)) (by kernel_rfl) (by rfl) (by first | rfl | simp [Value.oneCell']) ?_; have HI_ := am_ (Inv.put0 (HI.out) (#[.int .i64 0, .int .i64 0, .int .i64 0, .int .i64 0])); clear HI; have HI := HI_; clear HI_; generalize World.setRow _ g2 (#[.int .i64 0, .int .i64 0, .int .i64 0, .int .i64 0]) = w8 at HI ⊢)))
  refine bodyPost_ret (results_ct rfl _ _ g2 30 (#[.int .i64 0, .int .i64 0, .int .i64 0, .int .i64 0]) (0, 0) _ rfl (HI.out.blk0) Tryd.underlying30 rfl (by kernel_rfl)) rfl ?_
  exact ⟨rfl, HI.out.below⟩
 ·
  rw [if_neg c1] at h
  have HL := am_ (show impl_isLong.f t = some false by unfold impl_isLong.f; rw [decide_eq_false c1])
  obtain ⟨⟨t1, t2, t3, t4, t5⟩, hf, h⟩ := Option.bind_eq_some_iff.mp h
  have HF := am_ hf
  have HS := am_ (show t.size < 4294967281 by omega)
  have HBIG := am_ (show (wordsB t).length ≤ 1000000 by have := words_length t; omega)
  have HSZ := am_ (show ∀ x ∈ wordsB t, x.size ≤ 281474976710656 from fun x hx => by have := words_size hx; omega)
  clear c1 hf
  cases t5 with
  | true =>
   rw [if_pos rfl] at h
   simp only [Option.some.injEq, Prod.mk.injEq] at h
   obtain ⟨rfl, rfl, rfl, rfl, rfl⟩ := h
   go_enter Tryd.func8, Tryd.ntmps8
   go_wp2_with (first | ((with_reducible refine gate_dst (N := 2) rfl ?_); refine box_event ?hg (N := 2) ?hd (cs := #[.int .i64 0, .int .i64 0, .int .i64 0, .int .i64 0]) (t := 30) ?hr ?_; (case hd => rfl); (case hg => rfl); (case hr => first | (go_simp; done) | (go_simp; rfl)); intro g2 hg w1 hbox hb; have HI_ := am_ ((HI.out).box hg hbox hb); clear HI; have HI := HI_; clear HI_; clear hb hbox hg) | (go_at_call 21; refine (impl_isLong.calls t false _ HL.out).mono ?_; rintro e w7 ⟨rfl, ⟨nd, rfl⟩⟩; have HI_ := am_ (HI.out.drewN nd); clear HI; have HI := HI_; clear HI_) | (go_at_call 23; refine (impl_wordsOf.calls t _ HS.out HI.out.now).mono ?_; rintro e w11 ⟨q, c, rfl, hcap, hwi, hb⟩; have HI_ := am_ (HI.out.grow hb); clear HI; have HI := HI_; clear HI_; have HWI := am_ hwi; have HCP := am_ hcap; clear hb hcap hwi) | (go_at_call 22; refine (impl_readGate.any k q c (wordsB t) HCP.out HBIG.out HSZ.out t1 t2 t3 t4 true _ HWI.out HI.out.now HF.out).mono ?_; rintro e w12 ⟨rfl, hb⟩; have HI_ := am_ (HI.out.grow hb); clear HI; have HI := HI_; clear HI_; clear hb HWI) | ((with_reducible refine gate_dst (N := 4) rfl ?_); refine box_event ?hg (N := 4) ?hd (cs := #[.int .i64 0, .int .i64 0, .int .i64 0, .int .i64 0]) (t := 30) ?hr ?_; (case hd => rfl); (case hg => rfl); (case hr => first | (go_simp; done) | (go_simp; rfl)); intro g4 hg w4 hbox hb; have HI_ := am_ ((HI.out).box hg hbox hb); clear HI; have HI := HI_; clear HI_; clear hb hbox hg) | ((with_reducible refine gate_store (p := 4) (v := (.tmp 13)) (t := 30) rfl ?_); go_must (refine wpList_store_row rfl 30 _ _ rfl g4 (#[.int .i64 t1, .int .i64 t2, .int .i64 t3, .int .i64 t4]) rfl (by first | rfl | (go_simp; rfl)) 30 (#[.int .i64 0, .int .i64 0, .int .i64 0, .int .i64 0]) (Inv.blk0 (HI.out)) (by kernel_rfl) (by rfl) (by first | rfl | simp [Value.oneCell']) ?_; have HI_ := am_ (Inv.put0 (HI.out) (#[.int .i64 t1, .int .i64 t2, .int .i64 t3, .int .i64 t4])); clear HI; have HI := HI_; clear HI_; generalize World.setRow _ g4 (#[.int .i64 t1, .int .i64 t2, .int .i64 t3, .int .i64 t4]) = w5 at HI ⊢)) | ((with_reducible refine gate_dst (N := 18) rfl ?_); go_must (refine wpList_load_row rfl 30 _ rfl g4 rfl 30 (#[.int .i64 t1, .int .i64 t2, .int .i64 t3, .int .i64 t4]) (0, 0) _ (HI.out.blk0) hu30 rfl (by kernel_rfl) ?_)) | ((with_reducible refine gate_store (p := 2) (v := (.tmp 18)) (t := 30) rfl ?_); go_must (refine wpList_store_row rfl 30 _ _ rfl g2 (#[.int .i64 t1, .int .i64 t2, .int .i64 t3, .int .i64 t4]) rfl (by first | rfl | (go_simp; rfl)) 30 (#[.int .i64 0, .int .i64 0, .int .i64 0, .int .i64 0]) (Inv.blk0 (HI.out.swap)) (by kernel_rfl) (by rfl) (by first | rfl | simp [Value.oneCell']) ?_; have HI_ := am_ (Inv.put0 (HI.out.swap) (#[.int .i64 t1, .int .i64 t2, .int .i64 t3, .int .i64 t4])); clear HI; have HI := HI_; clear HI_; generalize World.setRow _ g2 (#[.int .i64 t1, .int .i64 t2, .int .i64 t3, .int .i64 t4]) = w18 at HI ⊢)))
   refine bodyPost_ret (results_ct rfl _ _ g2 30 (#[.int .i64 t1, .int .i64 t2, .int .i64 t3, .int .i64 t4]) (0, 0) _ rfl (HI.out.blk0) Tryd.underlying30 rfl (by kernel_rfl)) rfl ?_
   exact ⟨rfl, HI.out.below⟩
  | false =>
   rw [if_neg (by simp)] at h
   simp only [Option.some.injEq, Prod.mk.injEq] at h
   obtain ⟨rfl, rfl, rfl, rfl, rfl⟩ := h
   go_enter Tryd.func8, Tryd.ntmps8
   go_wp2_with (first | ((with_reducible refine gate_dst (N := 2) rfl ?_); refine box_event ?hg (N := 2) ?hd (cs := #[.int .i64 0, .int .i64 0, .int .i64 0, .int .i64 0]) (t := 30) ?hr ?_; (case hd => rfl); (case hg => rfl); (case hr => first | (go_simp; done) | (go_simp; rfl)); intro g2 hg w1 hbox hb; have HI_ := am_ ((HI.out).box hg hbox hb); clear HI; have HI := HI_; clear HI_; clear hb hbox hg) | (go_at_call 21; refine (impl_isLong.calls t false _ HL.out).mono ?_; rintro e w7 ⟨rfl, ⟨nd, rfl⟩⟩; have HI_ := am_ (HI.out.drewN nd); clear HI; have HI := HI_; clear HI_) | (go_at_call 23; refine (impl_wordsOf.calls t _ HS.out HI.out.now).mono ?_; rintro e w11 ⟨q, c, rfl, hcap, hwi, hb⟩; have HI_ := am_ (HI.out.grow hb); clear HI; have HI := HI_; clear HI_; have HWI := am_ hwi; have HCP := am_ hcap; clear hb hcap hwi) | (go_at_call 22; refine (impl_readGate.any k q c (wordsB t) HCP.out HBIG.out HSZ.out t1 t2 t3 t4 false _ HWI.out HI.out.now HF.out).mono ?_; rintro e w12 ⟨rfl, hb⟩; have HI_ := am_ (HI.out.grow hb); clear HI; have HI := HI_; clear HI_; clear hb HWI) | ((with_reducible refine gate_dst (N := 4) rfl ?_); refine box_event ?hg (N := 4) ?hd (cs := #[.int .i64 0, .int .i64 0, .int .i64 0, .int .i64 0]) (t := 30) ?hr ?_; (case hd => rfl); (case hg => rfl); (case hr => first | (go_simp; done) | (go_simp; rfl)); intro g4 hg w4 hbox hb; have HI_ := am_ ((HI.out).box hg hbox hb); clear HI; have HI := HI_; clear HI_; clear hb hbox hg) | ((with_reducible refine gate_store (p := 4) (v := (.tmp 13)) (t := 30) rfl ?_); go_must (refine wpList_store_row rfl 30 _ _ rfl g4 (#[.int .i64 t1, .int .i64 t2, .int .i64 t3, .int .i64 t4]) rfl (by first | rfl | (go_simp; rfl)) 30 (#[.int .i64 0, .int .i64 0, .int .i64 0, .int .i64 0]) (Inv.blk0 (HI.out)) (by kernel_rfl) (by rfl) (by first | rfl | simp [Value.oneCell']) ?_; have HI_ := am_ (Inv.put0 (HI.out) (#[.int .i64 t1, .int .i64 t2, .int .i64 t3, .int .i64 t4])); clear HI; have HI := HI_; clear HI_; generalize World.setRow _ g4 (#[.int .i64 t1, .int .i64 t2, .int .i64 t3, .int .i64 t4]) = w5 at HI ⊢)) | ((with_reducible refine gate_store (p := 2) (v := (.tmp 17)) (t := 30) rfl ?_); go_must (refine wpList_store_row rfl 30 _ _ rfl g2 (#[.int .i64 0, .int .i64 0, .int .i64 0, .int .i64 0]) rfl (by first | rfl | (go_simp; rfl)) 30 (#[.int .i64 0, .int .i64 0, .int .i64 0, .int .i64 0]) (Inv.blk0 (HI.out.swap)) (by kernel_rfl) (by rfl) (by first | rfl | simp [Value.oneCell']) ?_; have HI_ := am_ (Inv.put0 (HI.out.swap) (#[.int .i64 0, .int .i64 0, .int .i64 0, .int .i64 0])); clear HI; have HI := HI_; clear HI_; generalize World.setRow _ g2 (#[.int .i64 0, .int .i64 0, .int .i64 0, .int .i64 0]) = w17 at HI ⊢)))
   refine bodyPost_ret (results_ct rfl _ _ g2 30 (#[.int .i64 0, .int .i64 0, .int .i64 0, .int .i64 0]) (0, 0) _ rfl (HI.out.blk0) Tryd.underlying30 rfl (by kernel_rfl)) rfl ?_
   exact ⟨rfl, HI.out.below⟩
def spec_l01In.f (a0 : Int) (a1 : Int) (a2 : Int) : Option (Bool) := if a1 ≤ a0 then (some (decide (a0 ≤ a2))) else (some false)
set_option maxHeartbeats 8000000 in
set_option maxRecDepth 100000 in
theorem spec_l01In.calls (a0 : Int) (a1 : Int) (a2 : Int) (r : Bool) (w : World) (h : spec_l01In.f a0 a1 a2 = some r) :
  Calls Tryd.prog 32 #[.int .i64 a0, .int .i64 a1, .int .i64 a2] w fun e w' => e = .returned (.bool r) ∧ Drawn0 w w' := by
 have H : (if a1 ≤ a0 then (some (decide (a0 ≤ a2))) else (some false)) = some r := h
 clear h
 by_cases c4 : a1 ≤ a0
 ·
  rw [if_pos c4] at H
  have c4b0 : decide (a1 ≤ a0) = true := decide_eq_true c4
  clear c4
  obtain rfl := Option.some.inj H
  go_enter Tryd.func32, Tryd.ntmps32
  go_wp2
  go_ret
  exact ⟨qz0_, qz1_⟩
 ·
  rw [if_neg c4] at H
  have c4b0 : decide (a1 ≤ a0) = false := decide_eq_false c4
  clear c4
  obtain rfl := Option.some.inj H
  go_enter Tryd.func32, Tryd.ntmps32
  go_wp2
  go_ret
  exact ⟨qz0_, qz1_⟩

def spec_l11Uses.f (a0 : Int) : Option (Int) := (spec_l01In.f a0 4 7).bind fun t101 => (if t101 = true then (some 2) else (if a0 = 8 then (some 1) else (some 0)))
set_option maxHeartbeats 8000000 in
set_option maxRecDepth 100000 in
theorem spec_l11Uses.calls (a0 : Int) (r : Int) (w : World) (h : spec_l11Uses.f a0 = some r) :
  Calls Tryd.prog 19 #[.int .i64 a0] w fun e w' => e = .returned (.int .i64 r) ∧ Drawn0 w w' := by
 have H : ((spec_l01In.f a0 4 7).bind fun t101 => (if t101 = true then (some 2) else (if a0 = 8 then (some 1) else (some 0)))) = some r := h
 clear h
 replace H := Option.bind_eq_some_iff.mp H
 obtain ⟨t101, A20, H⟩ := H
 replace H : (if t101 = true then (some 2) else (if a0 = 8 then (some 1) else (some 0))) = some r := H
 have A2 := am_ A20
 clear A20
 by_cases c3 : t101 = true
 ·
  subst c3
  have H1 : (some 2) = some r := by rw [if_pos rfl] at H; exact H
  clear H
  have H := H1
  clear H1
  obtain rfl := Option.some.inj H
  go_enter Tryd.func19, Tryd.ntmps19
  go_wp2_with (first | ((with_reducible refine gate_callee (f := 32) rfl ?_); refine goesL_ (some 5) rfl rfl Tryd.func32 (by kernel_rfl) rfl #[.int .i64 a0, .int .i64 4, .int .i64 7] rfl qz2_ ?_; (with_reducible refine (spec_l01In.calls a0 4 7 true _ A2.out).mono ?_); rintro e w' ⟨rfl, ⟨nd, rfl⟩⟩; refine ⟨_, rfl, ?_⟩))
  go_ret
  exact ⟨qz0_, qz1_⟩
 ·
  replace c3 := Bool.eq_false_iff.mpr c3
  subst c3
  have H1 : (if a0 = 8 then (some 1) else (some 0)) = some r := by rw [if_neg (show ¬ (false = true) by decide)] at H; exact H
  clear H
  have H := H1
  clear H1
  by_cases c4 : a0 = 8
  ·
   rw [if_pos c4] at H
   have c4b0 : (a0 == 8) = true := beq_iff_eq.mpr c4
   have c4b1 : (a0 != 8) = false := bne_eq_false_iff_eq.mpr c4
   clear c4
   obtain rfl := Option.some.inj H
   go_enter Tryd.func19, Tryd.ntmps19
   go_wp2_with (first | ((with_reducible refine gate_callee (f := 32) rfl ?_); refine goesL_ (some 5) rfl rfl Tryd.func32 (by kernel_rfl) rfl #[.int .i64 a0, .int .i64 4, .int .i64 7] rfl qz2_ ?_; (with_reducible refine (spec_l01In.calls a0 4 7 false _ A2.out).mono ?_); rintro e w' ⟨rfl, ⟨nd, rfl⟩⟩; refine ⟨_, rfl, ?_⟩))
   go_ret
   exact ⟨qz0_, qz1_⟩
  ·
   rw [if_neg c4] at H
   have c4b0 : (a0 == 8) = false := beq_eq_false_iff_ne.mpr c4
   have c4b1 : (a0 != 8) = true := bne_iff_ne.mpr c4
   obtain rfl := Option.some.inj H
   go_enter Tryd.func19, Tryd.ntmps19
   go_wp2_with (first | ((with_reducible refine gate_callee (f := 32) rfl ?_); refine goesL_ (some 5) rfl rfl Tryd.func32 (by kernel_rfl) rfl #[.int .i64 a0, .int .i64 4, .int .i64 7] rfl qz2_ ?_; (with_reducible refine (spec_l01In.calls a0 4 7 false _ A2.out).mono ?_); rintro e w' ⟨rfl, ⟨nd, rfl⟩⟩; refine ⟨_, rfl, ?_⟩))
   go_ret
   exact ⟨qz0_, qz1_⟩

def spec_l01Bit.f (a0 : Bool) : Option (Int) := if a0 = true then (some 1) else (some 0)
set_option maxHeartbeats 8000000 in
set_option maxRecDepth 100000 in
theorem spec_l01Bit.calls (a0 : Bool) (r : Int) (w : World) (h : spec_l01Bit.f a0 = some r) :
  Calls Tryd.prog 41 #[.bool a0] w fun e w' => e = .returned (.int .i64 r) ∧ Drawn0 w w' := by
 have H : (if a0 = true then (some 1) else (some 0)) = some r := h
 clear h
 by_cases c2 : a0 = true
 ·
  subst c2
  have H1 : (some 1) = some r := by rw [if_pos rfl] at H; exact H
  clear H
  have H := H1
  clear H1
  obtain rfl := Option.some.inj H
  go_enter Tryd.func41, Tryd.ntmps41
  go_wp2
  go_ret
  exact ⟨qz0_, qz1_⟩
 ·
  replace c2 := Bool.eq_false_iff.mpr c2
  subst c2
  have H1 : (some 0) = some r := by rw [if_neg (show ¬ (false = true) by decide)] at H; exact H
  clear H
  have H := H1
  clear H1
  obtain rfl := Option.some.inj H
  go_enter Tryd.func41, Tryd.ntmps41
  go_wp2
  go_ret
  exact ⟨qz0_, qz1_⟩

def spec_FieldOK.f (a0 : Int) : Option (Bool) := (spec_l01In.f a0 0 2130706432).bind fun t101 => (some t101)
set_option maxHeartbeats 8000000 in
set_option maxRecDepth 100000 in
theorem spec_FieldOK.calls (a0 : Int) (r : Bool) (w : World) (h : spec_FieldOK.f a0 = some r) :
  Calls Tryd.prog 33 #[.int .i64 a0] w fun e w' => e = .returned (.bool r) ∧ Drawn0 w w' := by
 have H : ((spec_l01In.f a0 0 2130706432).bind fun t101 => (some t101)) = some r := h
 clear h
 replace H := Option.bind_eq_some_iff.mp H
 obtain ⟨t101, A20, H⟩ := H
 replace H : (some t101) = some r := H
 have A2 := am_ A20
 clear A20
 obtain rfl := Option.some.inj H
 go_enter Tryd.func33, Tryd.ntmps33
 go_wp2_with (first | ((with_reducible refine gate_callee (f := 32) rfl ?_); refine goesL_ (some 4) rfl rfl Tryd.func32 (by kernel_rfl) rfl #[.int .i64 a0, .int .i64 0, .int .i64 2130706432] rfl qz2_ ?_; (with_reducible refine (spec_l01In.calls a0 0 2130706432 t101 _ A2.out).mono ?_); rintro e w' ⟨rfl, ⟨nd, rfl⟩⟩; refine ⟨_, rfl, ?_⟩))
 go_ret
 exact ⟨qz0_, qz1_⟩

def spec_l11Gate.j0 : Nat → Bool → Int → Int → Int → Int → Option (Bool)
 | 0, _, _, _, _, _ => none
 | k + 1, x52, x102000, x102001, x102002, x102003 => if x52 = true then (some false) else (if x102000 = 3 then ((spec_FieldOK.f x102003).bind fun t109 => (some t109)) else (some (x102003 == 0)))
def spec_l11Gate.f (k : Nat) (a0_0 : Int) (a0_1 : Int) (a0_2 : Int) (a0_3 : Int) (a1 : Int) : Option (Bool) := (spec_l01In.f a0_0 1 8).bind fun t102 => (if t102 = true then ((spec_l11Uses.f a0_0).bind fun t103 => (if t103 > 0 then ((spec_l01In.f a0_1 0 (wrap64 (a1 - 1))).bind fun t104 => (if t104 = true then (if t103 = 0 then (if a0_1 = 0 then (if t103 > 1 then ((spec_l01In.f a0_2 0 (wrap64 (a1 - 1))).bind fun t105 => (if t105 = true then (if t103 < 2 then (spec_l11Gate.j0 k (a0_2 != 0) a0_0 a0_1 a0_2 a0_3) else (spec_l11Gate.j0 k false a0_0 a0_1 a0_2 a0_3)) else (spec_l11Gate.j0 k true a0_0 a0_1 a0_2 a0_3))) else (if t103 < 2 then (spec_l11Gate.j0 k (a0_2 != 0) a0_0 a0_1 a0_2 a0_3) else (spec_l11Gate.j0 k false a0_0 a0_1 a0_2 a0_3))) else (spec_l11Gate.j0 k true a0_0 a0_1 a0_2 a0_3)) else (if t103 > 1 then ((spec_l01In.f a0_2 0 (wrap64 (a1 - 1))).bind fun t106 => (if t106 = true then (if t103 < 2 then (spec_l11Gate.j0 k (a0_2 != 0) a0_0 a0_1 a0_2 a0_3) else (spec_l11Gate.j0 k false a0_0 a0_1 a0_2 a0_3)) else (spec_l11Gate.j0 k true a0_0 a0_1 a0_2 a0_3))) else (if t103 < 2 then (spec_l11Gate.j0 k (a0_2 != 0) a0_0 a0_1 a0_2 a0_3) else (spec_l11Gate.j0 k false a0_0 a0_1 a0_2 a0_3)))) else (spec_l11Gate.j0 k true a0_0 a0_1 a0_2 a0_3))) else (if t103 = 0 then (if a0_1 = 0 then (if t103 > 1 then ((spec_l01In.f a0_2 0 (wrap64 (a1 - 1))).bind fun t107 => (if t107 = true then (if t103 < 2 then (spec_l11Gate.j0 k (a0_2 != 0) a0_0 a0_1 a0_2 a0_3) else (spec_l11Gate.j0 k false a0_0 a0_1 a0_2 a0_3)) else (spec_l11Gate.j0 k true a0_0 a0_1 a0_2 a0_3))) else (if t103 < 2 then (spec_l11Gate.j0 k (a0_2 != 0) a0_0 a0_1 a0_2 a0_3) else (spec_l11Gate.j0 k false a0_0 a0_1 a0_2 a0_3))) else (spec_l11Gate.j0 k true a0_0 a0_1 a0_2 a0_3)) else (if t103 > 1 then ((spec_l01In.f a0_2 0 (wrap64 (a1 - 1))).bind fun t108 => (if t108 = true then (if t103 < 2 then (spec_l11Gate.j0 k (a0_2 != 0) a0_0 a0_1 a0_2 a0_3) else (spec_l11Gate.j0 k false a0_0 a0_1 a0_2 a0_3)) else (spec_l11Gate.j0 k true a0_0 a0_1 a0_2 a0_3))) else (if t103 < 2 then (spec_l11Gate.j0 k (a0_2 != 0) a0_0 a0_1 a0_2 a0_3) else (spec_l11Gate.j0 k false a0_0 a0_1 a0_2 a0_3)))))) else (some false))
theorem spec_l11Gate.mono_l : ∀ k, (∀ y0 y1 y2 y3 y4, LeO (spec_l11Gate.j0 k y0 y1 y2 y3 y4) (spec_l11Gate.j0 (k + 1) y0 y1 y2 y3 y4))
 | 0 => fun _ _ _ _ _ r h => by simp [spec_l11Gate.j0] at h
 | k + 1 => by
  have ih0 := spec_l11Gate.mono_l k
  ·
   intro y0 y1 y2 y3 y4
   unfold spec_l11Gate.j0
   repeat' first
   | (with_reducible exact ih0 _ _ _ _ _)
   | (with_reducible exact LeO.refl _)
   | (with_reducible exact LeO.none _)
   | (with_reducible refine LeO.ite ?_ ?_)
   | (with_reducible refine LeO.bind ?_ (fun _ => ?_))
   | exact ih0 _ _ _ _ _
   | exact LeO.none _
   | refine LeO.ite ?_ ?_
   | refine LeO.bind ?_ (fun _ => ?_)
theorem spec_l11Gate.mono : ∀ a0 a1 a2 a3 a4 k, LeO (spec_l11Gate.f k a0 a1 a2 a3 a4) (spec_l11Gate.f (k + 1) a0 a1 a2 a3 a4) := by
 intro a0 a1 a2 a3 a4 k
 have ih0 := spec_l11Gate.mono_l k
 unfold spec_l11Gate.f
 repeat' first
   | (with_reducible exact ih0 _ _ _ _ _)
   | (with_reducible exact LeO.refl _)
   | (with_reducible exact LeO.none _)
   | (with_reducible refine LeO.ite ?_ ?_)
   | (with_reducible refine LeO.bind ?_ (fun _ => ?_))
   | exact ih0 _ _ _ _ _
   | exact LeO.none _
   | refine LeO.ite ?_ ?_
   | refine LeO.bind ?_ (fun _ => ?_)
set_option maxHeartbeats 8000000 in
set_option maxRecDepth 100000 in
theorem spec_l11Gate.calls (k : Nat) (a0_0 : Int) (a0_1 : Int) (a0_2 : Int) (a0_3 : Int) (a1 : Int) (r : Bool) (w : World) (h : spec_l11Gate.f k a0_0 a0_1 a0_2 a0_3 a1 = some r) :
  Calls Tryd.prog 17 #[.agg #[.int .i64 a0_0, .int .i64 a0_1, .int .i64 a0_2, .int .i64 a0_3], .int .i64 a1] w fun e w' => e = .returned (.bool r) ∧ Below w.heap.size w w' := by
 have hu30 := Tryd.underlying30
 have HB := am_ (Below.refl w.heap.size w)
 have H : ((spec_l01In.f a0_0 1 8).bind fun t102 => (if t102 = true then ((spec_l11Uses.f a0_0).bind fun t103 => (if t103 > 0 then ((spec_l01In.f a0_1 0 (wrap64 (a1 - 1))).bind fun t104 => (if t104 = true then (if t103 = 0 then (if a0_1 = 0 then (if t103 > 1 then ((spec_l01In.f a0_2 0 (wrap64 (a1 - 1))).bind fun t105 => (if t105 = true then (if t103 < 2 then (spec_l11Gate.j0 k (a0_2 != 0) a0_0 a0_1 a0_2 a0_3) else (spec_l11Gate.j0 k false a0_0 a0_1 a0_2 a0_3)) else (spec_l11Gate.j0 k true a0_0 a0_1 a0_2 a0_3))) else (if t103 < 2 then (spec_l11Gate.j0 k (a0_2 != 0) a0_0 a0_1 a0_2 a0_3) else (spec_l11Gate.j0 k false a0_0 a0_1 a0_2 a0_3))) else (spec_l11Gate.j0 k true a0_0 a0_1 a0_2 a0_3)) else (if t103 > 1 then ((spec_l01In.f a0_2 0 (wrap64 (a1 - 1))).bind fun t106 => (if t106 = true then (if t103 < 2 then (spec_l11Gate.j0 k (a0_2 != 0) a0_0 a0_1 a0_2 a0_3) else (spec_l11Gate.j0 k false a0_0 a0_1 a0_2 a0_3)) else (spec_l11Gate.j0 k true a0_0 a0_1 a0_2 a0_3))) else (if t103 < 2 then (spec_l11Gate.j0 k (a0_2 != 0) a0_0 a0_1 a0_2 a0_3) else (spec_l11Gate.j0 k false a0_0 a0_1 a0_2 a0_3)))) else (spec_l11Gate.j0 k true a0_0 a0_1 a0_2 a0_3))) else (if t103 = 0 then (if a0_1 = 0 then (if t103 > 1 then ((spec_l01In.f a0_2 0 (wrap64 (a1 - 1))).bind fun t107 => (if t107 = true then (if t103 < 2 then (spec_l11Gate.j0 k (a0_2 != 0) a0_0 a0_1 a0_2 a0_3) else (spec_l11Gate.j0 k false a0_0 a0_1 a0_2 a0_3)) else (spec_l11Gate.j0 k true a0_0 a0_1 a0_2 a0_3))) else (if t103 < 2 then (spec_l11Gate.j0 k (a0_2 != 0) a0_0 a0_1 a0_2 a0_3) else (spec_l11Gate.j0 k false a0_0 a0_1 a0_2 a0_3))) else (spec_l11Gate.j0 k true a0_0 a0_1 a0_2 a0_3)) else (if t103 > 1 then ((spec_l01In.f a0_2 0 (wrap64 (a1 - 1))).bind fun t108 => (if t108 = true then (if t103 < 2 then (spec_l11Gate.j0 k (a0_2 != 0) a0_0 a0_1 a0_2 a0_3) else (spec_l11Gate.j0 k false a0_0 a0_1 a0_2 a0_3)) else (spec_l11Gate.j0 k true a0_0 a0_1 a0_2 a0_3))) else (if t103 < 2 then (spec_l11Gate.j0 k (a0_2 != 0) a0_0 a0_1 a0_2 a0_3) else (spec_l11Gate.j0 k false a0_0 a0_1 a0_2 a0_3)))))) else (some false))) = some r := h
 clear h
 replace H := Option.bind_eq_some_iff.mp H
 obtain ⟨t102, A30, H⟩ := H
 replace H : (if t102 = true then ((spec_l11Uses.f a0_0).bind fun t103 => (if t103 > 0 then ((spec_l01In.f a0_1 0 (wrap64 (a1 - 1))).bind fun t104 => (if t104 = true then (if t103 = 0 then (if a0_1 = 0 then (if t103 > 1 then ((spec_l01In.f a0_2 0 (wrap64 (a1 - 1))).bind fun t105 => (if t105 = true then (if t103 < 2 then (spec_l11Gate.j0 k (a0_2 != 0) a0_0 a0_1 a0_2 a0_3) else (spec_l11Gate.j0 k false a0_0 a0_1 a0_2 a0_3)) else (spec_l11Gate.j0 k true a0_0 a0_1 a0_2 a0_3))) else (if t103 < 2 then (spec_l11Gate.j0 k (a0_2 != 0) a0_0 a0_1 a0_2 a0_3) else (spec_l11Gate.j0 k false a0_0 a0_1 a0_2 a0_3))) else (spec_l11Gate.j0 k true a0_0 a0_1 a0_2 a0_3)) else (if t103 > 1 then ((spec_l01In.f a0_2 0 (wrap64 (a1 - 1))).bind fun t106 => (if t106 = true then (if t103 < 2 then (spec_l11Gate.j0 k (a0_2 != 0) a0_0 a0_1 a0_2 a0_3) else (spec_l11Gate.j0 k false a0_0 a0_1 a0_2 a0_3)) else (spec_l11Gate.j0 k true a0_0 a0_1 a0_2 a0_3))) else (if t103 < 2 then (spec_l11Gate.j0 k (a0_2 != 0) a0_0 a0_1 a0_2 a0_3) else (spec_l11Gate.j0 k false a0_0 a0_1 a0_2 a0_3)))) else (spec_l11Gate.j0 k true a0_0 a0_1 a0_2 a0_3))) else (if t103 = 0 then (if a0_1 = 0 then (if t103 > 1 then ((spec_l01In.f a0_2 0 (wrap64 (a1 - 1))).bind fun t107 => (if t107 = true then (if t103 < 2 then (spec_l11Gate.j0 k (a0_2 != 0) a0_0 a0_1 a0_2 a0_3) else (spec_l11Gate.j0 k false a0_0 a0_1 a0_2 a0_3)) else (spec_l11Gate.j0 k true a0_0 a0_1 a0_2 a0_3))) else (if t103 < 2 then (spec_l11Gate.j0 k (a0_2 != 0) a0_0 a0_1 a0_2 a0_3) else (spec_l11Gate.j0 k false a0_0 a0_1 a0_2 a0_3))) else (spec_l11Gate.j0 k true a0_0 a0_1 a0_2 a0_3)) else (if t103 > 1 then ((spec_l01In.f a0_2 0 (wrap64 (a1 - 1))).bind fun t108 => (if t108 = true then (if t103 < 2 then (spec_l11Gate.j0 k (a0_2 != 0) a0_0 a0_1 a0_2 a0_3) else (spec_l11Gate.j0 k false a0_0 a0_1 a0_2 a0_3)) else (spec_l11Gate.j0 k true a0_0 a0_1 a0_2 a0_3))) else (if t103 < 2 then (spec_l11Gate.j0 k (a0_2 != 0) a0_0 a0_1 a0_2 a0_3) else (spec_l11Gate.j0 k false a0_0 a0_1 a0_2 a0_3)))))) else (some false)) = some r := H
 have A3 := am_ A30
 clear A30
 by_cases c4 : t102 = true
 ·
  subst c4
  have H1 : ((spec_l11Uses.f a0_0).bind fun t103 => (if t103 > 0 then ((spec_l01In.f a0_1 0 (wrap64 (a1 - 1))).bind fun t104 => (if t104 = true then (if t103 = 0 then (if a0_1 = 0 then (if t103 > 1 then ((spec_l01In.f a0_2 0 (wrap64 (a1 - 1))).bind fun t105 => (if t105 = true then (if t103 < 2 then (spec_l11Gate.j0 k (a0_2 != 0) a0_0 a0_1 a0_2 a0_3) else (spec_l11Gate.j0 k false a0_0 a0_1 a0_2 a0_3)) else (spec_l11Gate.j0 k true a0_0 a0_1 a0_2 a0_3))) else (if t103 < 2 then (spec_l11Gate.j0 k (a0_2 != 0) a0_0 a0_1 a0_2 a0_3) else (spec_l11Gate.j0 k false a0_0 a0_1 a0_2 a0_3))) else (spec_l11Gate.j0 k true a0_0 a0_1 a0_2 a0_3)) else (if t103 > 1 then ((spec_l01In.f a0_2 0 (wrap64 (a1 - 1))).bind fun t106 => (if t106 = true then (if t103 < 2 then (spec_l11Gate.j0 k (a0_2 != 0) a0_0 a0_1 a0_2 a0_3) else (spec_l11Gate.j0 k false a0_0 a0_1 a0_2 a0_3)) else (spec_l11Gate.j0 k true a0_0 a0_1 a0_2 a0_3))) else (if t103 < 2 then (spec_l11Gate.j0 k (a0_2 != 0) a0_0 a0_1 a0_2 a0_3) else (spec_l11Gate.j0 k false a0_0 a0_1 a0_2 a0_3)))) else (spec_l11Gate.j0 k true a0_0 a0_1 a0_2 a0_3))) else (if t103 = 0 then (if a0_1 = 0 then (if t103 > 1 then ((spec_l01In.f a0_2 0 (wrap64 (a1 - 1))).bind fun t107 => (if t107 = true then (if t103 < 2 then (spec_l11Gate.j0 k (a0_2 != 0) a0_0 a0_1 a0_2 a0_3) else (spec_l11Gate.j0 k false a0_0 a0_1 a0_2 a0_3)) else (spec_l11Gate.j0 k true a0_0 a0_1 a0_2 a0_3))) else (if t103 < 2 then (spec_l11Gate.j0 k (a0_2 != 0) a0_0 a0_1 a0_2 a0_3) else (spec_l11Gate.j0 k false a0_0 a0_1 a0_2 a0_3))) else (spec_l11Gate.j0 k true a0_0 a0_1 a0_2 a0_3)) else (if t103 > 1 then ((spec_l01In.f a0_2 0 (wrap64 (a1 - 1))).bind fun t108 => (if t108 = true then (if t103 < 2 then (spec_l11Gate.j0 k (a0_2 != 0) a0_0 a0_1 a0_2 a0_3) else (spec_l11Gate.j0 k false a0_0 a0_1 a0_2 a0_3)) else (spec_l11Gate.j0 k true a0_0 a0_1 a0_2 a0_3))) else (if t103 < 2 then (spec_l11Gate.j0 k (a0_2 != 0) a0_0 a0_1 a0_2 a0_3) else (spec_l11Gate.j0 k false a0_0 a0_1 a0_2 a0_3)))))) = some r := by rw [if_pos rfl] at H; exact H
  clear H
  have H := H1
  clear H1
  replace H := Option.bind_eq_some_iff.mp H
  obtain ⟨t103, A50, H⟩ := H
  replace H : (if t103 > 0 then ((spec_l01In.f a0_1 0 (wrap64 (a1 - 1))).bind fun t104 => (if t104 = true then (if t103 = 0 then (if a0_1 = 0 then (if t103 > 1 then ((spec_l01In.f a0_2 0 (wrap64 (a1 - 1))).bind fun t105 => (if t105 = true then (if t103 < 2 then (spec_l11Gate.j0 k (a0_2 != 0) a0_0 a0_1 a0_2 a0_3) else (spec_l11Gate.j0 k false a0_0 a0_1 a0_2 a0_3)) else (spec_l11Gate.j0 k true a0_0 a0_1 a0_2 a0_3))) else (if t103 < 2 then (spec_l11Gate.j0 k (a0_2 != 0) a0_0 a0_1 a0_2 a0_3) else (spec_l11Gate.j0 k false a0_0 a0_1 a0_2 a0_3))) else (spec_l11Gate.j0 k true a0_0 a0_1 a0_2 a0_3)) else (if t103 > 1 then ((spec_l01In.f a0_2 0 (wrap64 (a1 - 1))).bind fun t106 => (if t106 = true then (if t103 < 2 then (spec_l11Gate.j0 k (a0_2 != 0) a0_0 a0_1 a0_2 a0_3) else (spec_l11Gate.j0 k false a0_0 a0_1 a0_2 a0_3)) else (spec_l11Gate.j0 k true a0_0 a0_1 a0_2 a0_3))) else (if t103 < 2 then (spec_l11Gate.j0 k (a0_2 != 0) a0_0 a0_1 a0_2 a0_3) else (spec_l11Gate.j0 k false a0_0 a0_1 a0_2 a0_3)))) else (spec_l11Gate.j0 k true a0_0 a0_1 a0_2 a0_3))) else (if t103 = 0 then (if a0_1 = 0 then (if t103 > 1 then ((spec_l01In.f a0_2 0 (wrap64 (a1 - 1))).bind fun t107 => (if t107 = true then (if t103 < 2 then (spec_l11Gate.j0 k (a0_2 != 0) a0_0 a0_1 a0_2 a0_3) else (spec_l11Gate.j0 k false a0_0 a0_1 a0_2 a0_3)) else (spec_l11Gate.j0 k true a0_0 a0_1 a0_2 a0_3))) else (if t103 < 2 then (spec_l11Gate.j0 k (a0_2 != 0) a0_0 a0_1 a0_2 a0_3) else (spec_l11Gate.j0 k false a0_0 a0_1 a0_2 a0_3))) else (spec_l11Gate.j0 k true a0_0 a0_1 a0_2 a0_3)) else (if t103 > 1 then ((spec_l01In.f a0_2 0 (wrap64 (a1 - 1))).bind fun t108 => (if t108 = true then (if t103 < 2 then (spec_l11Gate.j0 k (a0_2 != 0) a0_0 a0_1 a0_2 a0_3) else (spec_l11Gate.j0 k false a0_0 a0_1 a0_2 a0_3)) else (spec_l11Gate.j0 k true a0_0 a0_1 a0_2 a0_3))) else (if t103 < 2 then (spec_l11Gate.j0 k (a0_2 != 0) a0_0 a0_1 a0_2 a0_3) else (spec_l11Gate.j0 k false a0_0 a0_1 a0_2 a0_3))))) = some r := H
  have A5 := am_ A50
  clear A50
  have HC6 := am_ H
  clear H
  go_enter Tryd.func17, Tryd.ntmps17
  go_upto_region 4 with (first | ((with_reducible refine gate_dst (N := 2) rfl ?_); refine box_event ?hg (N := 2) ?hd (cs := #[.int .i64 a0_0, .int .i64 a0_1, .int .i64 a0_2, .int .i64 a0_3]) (t := 30) ?hr ?_; (case hd => rfl); (case hg => rfl); (case hr => first | (go_simp; done) | (go_simp; rfl)); intro gb101 hg w7 hbox hb; have n0_ := am_ (below_step qz3_ hb); have n1_ := am_ (hbox); have n2_ := am_ ((by rw [hg]; exact (below_size qz3_) : w.heap.size ≤ gb101)); have n3_ := am_ ((by rw [hg]; exact (below_size qz3_) : w.heap.size ≤ gb101)); clear HB; have HB := n0_; have BK101 := n1_; have GW101 := n2_; have GE101 := n3_; clear n0_ n1_ n2_ n3_; clear hb hbox hg; have hcz8_0 : w7.cell? ⟨gb101, 0, none⟩ = some (.int .i64 a0_0) := (blk_cell BK101.out 0).trans rfl; have hcz8_1 : w7.cell? ⟨gb101, 1, none⟩ = some (.int .i64 a0_1) := (blk_cell BK101.out 1).trans rfl; have hcz8_2 : w7.cell? ⟨gb101, 2, none⟩ = some (.int .i64 a0_2) := (blk_cell BK101.out 2).trans rfl; have hcz8_3 : w7.cell? ⟨gb101, 3, none⟩ = some (.int .i64 a0_3) := (blk_cell BK101.out 3).trans rfl; have hfz8_0 := blk_frozen BK101.out 0; have hfz8_1 := blk_frozen BK101.out 1; have hfz8_2 := blk_frozen BK101.out 2; have hfz8_3 := blk_frozen BK101.out 3) | ((with_reducible refine gate_callee (f := 32) rfl ?_); refine goesL_ (some 8) rfl rfl Tryd.func32 (by kernel_rfl) rfl #[.int .i64 a0_0, .int .i64 1, .int .i64 8] rfl qz2_ ?_; (with_reducible refine (spec_l01In.calls a0_0 1 8 true _ A3.out).mono ?_); rintro e w' ⟨rfl, ⟨nd, rfl⟩⟩; refine ⟨_, rfl, ?_⟩) | ((with_reducible refine gate_callee (f := 19) rfl ?_); refine goesL_ (some 12) rfl rfl Tryd.func19 (by kernel_rfl) rfl #[.int .i64 a0_0] rfl qz2_ ?_; (with_reducible refine (spec_l11Uses.calls a0_0 t103 _ A5.out).mono ?_); rintro e w' ⟨rfl, ⟨nd, rfl⟩⟩; refine ⟨_, rfl, ?_⟩))
  (try simp only [Act.put, List.setIfInBounds_toArray, List.set_cons_zero, List.set_cons_succ])
  go_cut [52] (fun v52 wc => ∃ (kq : Nat) (x52_5 : Bool), v52 = .bool x52_5 ∧ Aside0 (spec_l11Gate.j0 kq x52_5 a0_0 a0_1 a0_2 a0_3 = some r) ∧ Aside0 (kq ≤ k) ∧ Aside0 (wc.heap[gb101]? = some (.cells #[.int .i64 a0_0, .int .i64 a0_1, .int .i64 a0_2, .int .i64 a0_3] 30 (0, 0))) ∧ Aside0 (Below w.heap.size w wc))
  case first =>
   have H := HC6.out
   clear HC6
   by_cases c9 : t103 > 0
   ·
    rw [if_pos c9] at H
    have c9b0 : decide (0 < t103) = true := decide_eq_true c9
    clear c9
    (first | rw [c9b0] | (simp only [i64_w, i32_w]; rw [c9b0]) | skip)
    replace H := Option.bind_eq_some_iff.mp H
    obtain ⟨t104, A100, H⟩ := H
    replace H : (if t104 = true then (if t103 = 0 then (if a0_1 = 0 then (if t103 > 1 then ((spec_l01In.f a0_2 0 (wrap64 (a1 - 1))).bind fun t105 => (if t105 = true then (if t103 < 2 then (spec_l11Gate.j0 k (a0_2 != 0) a0_0 a0_1 a0_2 a0_3) else (spec_l11Gate.j0 k false a0_0 a0_1 a0_2 a0_3)) else (spec_l11Gate.j0 k true a0_0 a0_1 a0_2 a0_3))) else (if t103 < 2 then (spec_l11Gate.j0 k (a0_2 != 0) a0_0 a0_1 a0_2 a0_3) else (spec_l11Gate.j0 k false a0_0 a0_1 a0_2 a0_3))) else (spec_l11Gate.j0 k true a0_0 a0_1 a0_2 a0_3)) else (if t103 > 1 then ((spec_l01In.f a0_2 0 (wrap64 (a1 - 1))).bind fun t106 => (if t106 = true then (if t103 < 2 then (spec_l11Gate.j0 k (a0_2 != 0) a0_0 a0_1 a0_2 a0_3) else (spec_l11Gate.j0 k false a0_0 a0_1 a0_2 a0_3)) else (spec_l11Gate.j0 k true a0_0 a0_1 a0_2 a0_3))) else (if t103 < 2 then (spec_l11Gate.j0 k (a0_2 != 0) a0_0 a0_1 a0_2 a0_3) else (spec_l11Gate.j0 k false a0_0 a0_1 a0_2 a0_3)))) else (spec_l11Gate.j0 k true a0_0 a0_1 a0_2 a0_3)) = some r := H
    have A10 := am_ A100
    clear A100
    by_cases c11 : t104 = true
    ·
     subst c11
     have H1 : (if t103 = 0 then (if a0_1 = 0 then (if t103 > 1 then ((spec_l01In.f a0_2 0 (wrap64 (a1 - 1))).bind fun t105 => (if t105 = true then (if t103 < 2 then (spec_l11Gate.j0 k (a0_2 != 0) a0_0 a0_1 a0_2 a0_3) else (spec_l11Gate.j0 k false a0_0 a0_1 a0_2 a0_3)) else (spec_l11Gate.j0 k true a0_0 a0_1 a0_2 a0_3))) else (if t103 < 2 then (spec_l11Gate.j0 k (a0_2 != 0) a0_0 a0_1 a0_2 a0_3) else (spec_l11Gate.j0 k false a0_0 a0_1 a0_2 a0_3))) else (spec_l11Gate.j0 k true a0_0 a0_1 a0_2 a0_3)) else (if t103 > 1 then ((spec_l01In.f a0_2 0 (wrap64 (a1 - 1))).bind fun t106 => (if t106 = true then (if t103 < 2 then (spec_l11Gate.j0 k (a0_2 != 0) a0_0 a0_1 a0_2 a0_3) else (spec_l11Gate.j0 k false a0_0 a0_1 a0_2 a0_3)) else (spec_l11Gate.j0 k true a0_0 a0_1 a0_2 a0_3))) else (if t103 < 2 then (spec_l11Gate.j0 k (a0_2 != 0) a0_0 a0_1 a0_2 a0_3) else (spec_l11Gate.j0 k false a0_0 a0_1 a0_2 a0_3)))) = some r := by rw [if_pos rfl] at H; exact H
     clear H
     have H := H1
     clear H1
     by_cases c12 : t103 = 0
     ·
      rw [if_pos c12] at H
      have c12b0 : (t103 == 0) = true := beq_iff_eq.mpr c12
      have c12b1 : (t103 != 0) = false := bne_eq_false_iff_eq.mpr c12
      clear c12
      by_cases c13 : a0_1 = 0
      ·
       rw [if_pos c13] at H
       have c13b0 : (a0_1 == 0) = true := beq_iff_eq.mpr c13
       have c13b1 : (a0_1 != 0) = false := bne_eq_false_iff_eq.mpr c13
       clear c13
       by_cases c14 : t103 > 1
       ·
        rw [if_pos c14] at H
        have c14b0 : decide (1 < t103) = true := decide_eq_true c14
        clear c14
        replace H := Option.bind_eq_some_iff.mp H
        obtain ⟨t105, A150, H⟩ := H
        replace H : (if t105 = true then (if t103 < 2 then (spec_l11Gate.j0 k (a0_2 != 0) a0_0 a0_1 a0_2 a0_3) else (spec_l11Gate.j0 k false a0_0 a0_1 a0_2 a0_3)) else (spec_l11Gate.j0 k true a0_0 a0_1 a0_2 a0_3)) = some r := H
        have A15 := am_ A150
        clear A150
        by_cases c16 : t105 = true
        ·
         subst c16
         have H1 : (if t103 < 2 then (spec_l11Gate.j0 k (a0_2 != 0) a0_0 a0_1 a0_2 a0_3) else (spec_l11Gate.j0 k false a0_0 a0_1 a0_2 a0_3)) = some r := by rw [if_pos rfl] at H; exact H
         clear H
         have H := H1
         clear H1
         by_cases c17 : t103 < 2
         ·
          rw [if_pos c17] at H
          have c17b0 : decide (t103 < 2) = true := decide_eq_true c17
          clear c17
          have H' := am_ H
          clear H
          have hcz18_0 : w7.cell? ⟨gb101, 0, none⟩ = some (.int .i64 a0_0) := (blk_cell BK101.out 0).trans rfl
          have hcz18_1 : w7.cell? ⟨gb101, 1, none⟩ = some (.int .i64 a0_1) := (blk_cell BK101.out 1).trans rfl
          have hcz18_2 : w7.cell? ⟨gb101, 2, none⟩ = some (.int .i64 a0_2) := (blk_cell BK101.out 2).trans rfl
          have hcz18_3 : w7.cell? ⟨gb101, 3, none⟩ = some (.int .i64 a0_3) := (blk_cell BK101.out 3).trans rfl
          have hfz18_0 := blk_frozen BK101.out 0
          have hfz18_1 := blk_frozen BK101.out 1
          have hfz18_2 := blk_frozen BK101.out 2
          have hfz18_3 := blk_frozen BK101.out 3
          go_wp2_with (first | (go_at_call 32; (with_reducible refine (spec_l01In.calls a0_1 0 (wrap64 (a1 - 1)) true _ A10.out).mono ?_); rintro e w' ⟨rfl, ⟨nd, rfl⟩⟩) | (go_at_call 32; (with_reducible refine (spec_l01In.calls a0_2 0 (wrap64 (a1 - 1)) true _ A15.out).mono ?_); rintro e w' ⟨rfl, ⟨nd, rfl⟩⟩))
          go_meet
          case rel => exact ⟨_, ((a0_2 != 0)), qz0_, H', ⟨qz6_⟩, ⟨qz7_⟩, ⟨qz5_⟩⟩
         ·
          rw [if_neg c17] at H
          have c17b0 : decide (t103 < 2) = false := decide_eq_false c17
          clear c17
          have H' := am_ H
          clear H
          have hcz19_0 : w7.cell? ⟨gb101, 0, none⟩ = some (.int .i64 a0_0) := (blk_cell BK101.out 0).trans rfl
          have hcz19_1 : w7.cell? ⟨gb101, 1, none⟩ = some (.int .i64 a0_1) := (blk_cell BK101.out 1).trans rfl
          have hcz19_2 : w7.cell? ⟨gb101, 2, none⟩ = some (.int .i64 a0_2) := (blk_cell BK101.out 2).trans rfl
          have hcz19_3 : w7.cell? ⟨gb101, 3, none⟩ = some (.int .i64 a0_3) := (blk_cell BK101.out 3).trans rfl
          have hfz19_0 := blk_frozen BK101.out 0
          have hfz19_1 := blk_frozen BK101.out 1
          have hfz19_2 := blk_frozen BK101.out 2
          have hfz19_3 := blk_frozen BK101.out 3
          go_wp2_with (first | (go_at_call 32; (with_reducible refine (spec_l01In.calls a0_1 0 (wrap64 (a1 - 1)) true _ A10.out).mono ?_); rintro e w' ⟨rfl, ⟨nd, rfl⟩⟩) | (go_at_call 32; (with_reducible refine (spec_l01In.calls a0_2 0 (wrap64 (a1 - 1)) true _ A15.out).mono ?_); rintro e w' ⟨rfl, ⟨nd, rfl⟩⟩))
          go_meet
          case rel => exact ⟨_, (false), qz0_, H', ⟨qz6_⟩, ⟨qz7_⟩, ⟨qz5_⟩⟩
        ·
         replace c16 := Bool.eq_false_iff.mpr c16
         subst c16
         have H1 : (spec_l11Gate.j0 k true a0_0 a0_1 a0_2 a0_3) = some r := by rw [if_neg (show ¬ (false = true) by decide)] at H; exact H
         clear H
         have H := H1
         clear H1
         have H' := am_ H
         clear H
         have hcz20_0 : w7.cell? ⟨gb101, 0, none⟩ = some (.int .i64 a0_0) := (blk_cell BK101.out 0).trans rfl
         have hcz20_1 : w7.cell? ⟨gb101, 1, none⟩ = some (.int .i64 a0_1) := (blk_cell BK101.out 1).trans rfl
         have hcz20_2 : w7.cell? ⟨gb101, 2, none⟩ = some (.int .i64 a0_2) := (blk_cell BK101.out 2).trans rfl
         have hcz20_3 : w7.cell? ⟨gb101, 3, none⟩ = some (.int .i64 a0_3) := (blk_cell BK101.out 3).trans rfl
         have hfz20_0 := blk_frozen BK101.out 0
         have hfz20_1 := blk_frozen BK101.out 1
         have hfz20_2 := blk_frozen BK101.out 2
         have hfz20_3 := blk_frozen BK101.out 3
         go_wp2_with (first | (go_at_call 32; (with_reducible refine (spec_l01In.calls a0_1 0 (wrap64 (a1 - 1)) true _ A10.out).mono ?_); rintro e w' ⟨rfl, ⟨nd, rfl⟩⟩) | (go_at_call 32; (with_reducible refine (spec_l01In.calls a0_2 0 (wrap64 (a1 - 1)) false _ A15.out).mono ?_); rintro e w' ⟨rfl, ⟨nd, rfl⟩⟩))
         go_meet
         case rel => exact ⟨_, (true), qz0_, H', ⟨qz6_⟩, ⟨qz7_⟩, ⟨qz5_⟩⟩
       ·
        rw [if_neg c14] at H
        have c14b0 : decide (1 < t103) = false := decide_eq_false c14
        clear c14
        by_cases c21 : t103 < 2
        ·
         rw [if_pos c21] at H
         have c21b0 : decide (t103 < 2) = true := decide_eq_true c21
         clear c21
         have H' := am_ H
         clear H
         have hcz22_0 : w7.cell? ⟨gb101, 0, none⟩ = some (.int .i64 a0_0) := (blk_cell BK101.out 0).trans rfl
         have hcz22_1 : w7.cell? ⟨gb101, 1, none⟩ = some (.int .i64 a0_1) := (blk_cell BK101.out 1).trans rfl
         have hcz22_2 : w7.cell? ⟨gb101, 2, none⟩ = some (.int .i64 a0_2) := (blk_cell BK101.out 2).trans rfl
         have hcz22_3 : w7.cell? ⟨gb101, 3, none⟩ = some (.int .i64 a0_3) := (blk_cell BK101.out 3).trans rfl
         have hfz22_0 := blk_frozen BK101.out 0
         have hfz22_1 := blk_frozen BK101.out 1
         have hfz22_2 := blk_frozen BK101.out 2
         have hfz22_3 := blk_frozen BK101.out 3
         go_wp2_with (first | (go_at_call 32; (with_reducible refine (spec_l01In.calls a0_1 0 (wrap64 (a1 - 1)) true _ A10.out).mono ?_); rintro e w' ⟨rfl, ⟨nd, rfl⟩⟩))
         go_meet
         case rel => exact ⟨_, ((a0_2 != 0)), qz0_, H', ⟨qz6_⟩, ⟨qz7_⟩, ⟨qz5_⟩⟩
        ·
         rw [if_neg c21] at H
         have c21b0 : decide (t103 < 2) = false := decide_eq_false c21
         clear c21
         have H' := am_ H
         clear H
         have hcz23_0 : w7.cell? ⟨gb101, 0, none⟩ = some (.int .i64 a0_0) := (blk_cell BK101.out 0).trans rfl
         have hcz23_1 : w7.cell? ⟨gb101, 1, none⟩ = some (.int .i64 a0_1) := (blk_cell BK101.out 1).trans rfl
         have hcz23_2 : w7.cell? ⟨gb101, 2, none⟩ = some (.int .i64 a0_2) := (blk_cell BK101.out 2).trans rfl
         have hcz23_3 : w7.cell? ⟨gb101, 3, none⟩ = some (.int .i64 a0_3) := (blk_cell BK101.out 3).trans rfl
         have hfz23_0 := blk_frozen BK101.out 0
         have hfz23_1 := blk_frozen BK101.out 1
         have hfz23_2 := blk_frozen BK101.out 2
         have hfz23_3 := blk_frozen BK101.out 3
         go_wp2_with (first | (go_at_call 32; (with_reducible refine (spec_l01In.calls a0_1 0 (wrap64 (a1 - 1)) true _ A10.out).mono ?_); rintro e w' ⟨rfl, ⟨nd, rfl⟩⟩))
         go_meet
         case rel => exact ⟨_, (false), qz0_, H', ⟨qz6_⟩, ⟨qz7_⟩, ⟨qz5_⟩⟩
      ·
       rw [if_neg c13] at H
       have c13b0 : (a0_1 == 0) = false := beq_eq_false_iff_ne.mpr c13
       have c13b1 : (a0_1 != 0) = true := bne_iff_ne.mpr c13
       have H' := am_ H
       clear H
       have hcz24_0 : w7.cell? ⟨gb101, 0, none⟩ = some (.int .i64 a0_0) := (blk_cell BK101.out 0).trans rfl
       have hcz24_1 : w7.cell? ⟨gb101, 1, none⟩ = some (.int .i64 a0_1) := (blk_cell BK101.out 1).trans rfl
       have hcz24_2 : w7.cell? ⟨gb101, 2, none⟩ = some (.int .i64 a0_2) := (blk_cell BK101.out 2).trans rfl
       have hcz24_3 : w7.cell? ⟨gb101, 3, none⟩ = some (.int .i64 a0_3) := (blk_cell BK101.out 3).trans rfl
       have hfz24_0 := blk_frozen BK101.out 0
       have hfz24_1 := blk_frozen BK101.out 1
       have hfz24_2 := blk_frozen BK101.out 2
       have hfz24_3 := blk_frozen BK101.out 3
       go_wp2_with (first | (go_at_call 32; (with_reducible refine (spec_l01In.calls a0_1 0 (wrap64 (a1 - 1)) true _ A10.out).mono ?_); rintro e w' ⟨rfl, ⟨nd, rfl⟩⟩))
       go_meet
       case rel => exact ⟨_, (true), qz0_, H', ⟨qz6_⟩, ⟨qz7_⟩, ⟨qz5_⟩⟩
     ·
      rw [if_neg c12] at H
      have c12b0 : (t103 == 0) = false := beq_eq_false_iff_ne.mpr c12
      have c12b1 : (t103 != 0) = true := bne_iff_ne.mpr c12
      by_cases c25 : t103 > 1
      ·
       rw [if_pos c25] at H
       have c25b0 : decide (1 < t103) = true := decide_eq_true c25
       clear c25
       replace H := Option.bind_eq_some_iff.mp H
       obtain ⟨t106, A260, H⟩ := H
       replace H : (if t106 = true then (if t103 < 2 then (spec_l11Gate.j0 k (a0_2 != 0) a0_0 a0_1 a0_2 a0_3) else (spec_l11Gate.j0 k false a0_0 a0_1 a0_2 a0_3)) else (spec_l11Gate.j0 k true a0_0 a0_1 a0_2 a0_3)) = some r := H
       have A26 := am_ A260
       clear A260
       by_cases c27 : t106 = true
       ·
        subst c27
        have H1 : (if t103 < 2 then (spec_l11Gate.j0 k (a0_2 != 0) a0_0 a0_1 a0_2 a0_3) else (spec_l11Gate.j0 k false a0_0 a0_1 a0_2 a0_3)) = some r := by rw [if_pos rfl] at H; exact H
        clear H
        have H := H1
        clear H1
        by_cases c28 : t103 < 2
        ·
         rw [if_pos c28] at H
         have c28b0 : decide (t103 < 2) = true := decide_eq_true c28
         clear c28
         have H' := am_ H
         clear H
         have hcz29_0 : w7.cell? ⟨gb101, 0, none⟩ = some (.int .i64 a0_0) := (blk_cell BK101.out 0).trans rfl
         have hcz29_1 : w7.cell? ⟨gb101, 1, none⟩ = some (.int .i64 a0_1) := (blk_cell BK101.out 1).trans rfl
         have hcz29_2 : w7.cell? ⟨gb101, 2, none⟩ = some (.int .i64 a0_2) := (blk_cell BK101.out 2).trans rfl
         have hcz29_3 : w7.cell? ⟨gb101, 3, none⟩ = some (.int .i64 a0_3) := (blk_cell BK101.out 3).trans rfl
         have hfz29_0 := blk_frozen BK101.out 0
         have hfz29_1 := blk_frozen BK101.out 1
         have hfz29_2 := blk_frozen BK101.out 2
         have hfz29_3 := blk_frozen BK101.out 3
         go_wp2_with (first | (go_at_call 32; (with_reducible refine (spec_l01In.calls a0_1 0 (wrap64 (a1 - 1)) true _ A10.out).mono ?_); rintro e w' ⟨rfl, ⟨nd, rfl⟩⟩) | (go_at_call 32; (with_reducible refine (spec_l01In.calls a0_2 0 (wrap64 (a1 - 1)) true _ A26.out).mono ?_); rintro e w' ⟨rfl, ⟨nd, rfl⟩⟩))
         go_meet
         case rel => exact ⟨_, ((a0_2 != 0)), qz0_, H', ⟨qz6_⟩, ⟨qz7_⟩, ⟨qz5_⟩⟩
        ·
         rw [if_neg c28] at H
         have c28b0 : decide (t103 < 2) = false := decide_eq_false c28
         clear c28
         have H' := am_ H
         clear H
         have hcz30_0 : w7.cell? ⟨gb101, 0, none⟩ = some (.int .i64 a0_0) := (blk_cell BK101.out 0).trans rfl
         have hcz30_1 : w7.cell? ⟨gb101, 1, none⟩ = some (.int .i64 a0_1) := (blk_cell BK101.out 1).trans rfl
         have hcz30_2 : w7.cell? ⟨gb101, 2, none⟩ = some (.int .i64 a0_2) := (blk_cell BK101.out 2).trans rfl
         have hcz30_3 : w7.cell? ⟨gb101, 3, none⟩ = some (.int .i64 a0_3) := (blk_cell BK101.out 3).trans rfl
         have hfz30_0 := blk_frozen BK101.out 0
         have hfz30_1 := blk_frozen BK101.out 1
         have hfz30_2 := blk_frozen BK101.out 2
         have hfz30_3 := blk_frozen BK101.out 3
         go_wp2_with (first | (go_at_call 32; (with_reducible refine (spec_l01In.calls a0_1 0 (wrap64 (a1 - 1)) true _ A10.out).mono ?_); rintro e w' ⟨rfl, ⟨nd, rfl⟩⟩) | (go_at_call 32; (with_reducible refine (spec_l01In.calls a0_2 0 (wrap64 (a1 - 1)) true _ A26.out).mono ?_); rintro e w' ⟨rfl, ⟨nd, rfl⟩⟩))
         go_meet
         case rel => exact ⟨_, (false), qz0_, H', ⟨qz6_⟩, ⟨qz7_⟩, ⟨qz5_⟩⟩
       ·
        replace c27 := Bool.eq_false_iff.mpr c27
        subst c27
        have H1 : (spec_l11Gate.j0 k true a0_0 a0_1 a0_2 a0_3) = some r := by rw [if_neg (show ¬ (false = true) by decide)] at H; exact H
        clear H
        have H := H1
        clear H1
        have H' := am_ H
        clear H
        have hcz31_0 : w7.cell? ⟨gb101, 0, none⟩ = some (.int .i64 a0_0) := (blk_cell BK101.out 0).trans rfl
        have hcz31_1 : w7.cell? ⟨gb101, 1, none⟩ = some (.int .i64 a0_1) := (blk_cell BK101.out 1).trans rfl
        have hcz31_2 : w7.cell? ⟨gb101, 2, none⟩ = some (.int .i64 a0_2) := (blk_cell BK101.out 2).trans rfl
        have hcz31_3 : w7.cell? ⟨gb101, 3, none⟩ = some (.int .i64 a0_3) := (blk_cell BK101.out 3).trans rfl
        have hfz31_0 := blk_frozen BK101.out 0
        have hfz31_1 := blk_frozen BK101.out 1
        have hfz31_2 := blk_frozen BK101.out 2
        have hfz31_3 := blk_frozen BK101.out 3
        go_wp2_with (first | (go_at_call 32; (with_reducible refine (spec_l01In.calls a0_1 0 (wrap64 (a1 - 1)) true _ A10.out).mono ?_); rintro e w' ⟨rfl, ⟨nd, rfl⟩⟩) | (go_at_call 32; (with_reducible refine (spec_l01In.calls a0_2 0 (wrap64 (a1 - 1)) false _ A26.out).mono ?_); rintro e w' ⟨rfl, ⟨nd, rfl⟩⟩))
        go_meet
        case rel => exact ⟨_, (true), qz0_, H', ⟨qz6_⟩, ⟨qz7_⟩, ⟨qz5_⟩⟩
      ·
       rw [if_neg c25] at H
       have c25b0 : decide (1 < t103) = false := decide_eq_false c25
       clear c25
       by_cases c32 : t103 < 2
       ·
        rw [if_pos c32] at H
        have c32b0 : decide (t103 < 2) = true := decide_eq_true c32
        clear c32
        have H' := am_ H
        clear H
        have hcz33_0 : w7.cell? ⟨gb101, 0, none⟩ = some (.int .i64 a0_0) := (blk_cell BK101.out 0).trans rfl
        have hcz33_1 : w7.cell? ⟨gb101, 1, none⟩ = some (.int .i64 a0_1) := (blk_cell BK101.out 1).trans rfl
        have hcz33_2 : w7.cell? ⟨gb101, 2, none⟩ = some (.int .i64 a0_2) := (blk_cell BK101.out 2).trans rfl
        have hcz33_3 : w7.cell? ⟨gb101, 3, none⟩ = some (.int .i64 a0_3) := (blk_cell BK101.out 3).trans rfl
        have hfz33_0 := blk_frozen BK101.out 0
        have hfz33_1 := blk_frozen BK101.out 1
        have hfz33_2 := blk_frozen BK101.out 2
        have hfz33_3 := blk_frozen BK101.out 3
        go_wp2_with (first | (go_at_call 32; (with_reducible refine (spec_l01In.calls a0_1 0 (wrap64 (a1 - 1)) true _ A10.out).mono ?_); rintro e w' ⟨rfl, ⟨nd, rfl⟩⟩))
        go_meet
        case rel => exact ⟨_, ((a0_2 != 0)), qz0_, H', ⟨qz6_⟩, ⟨qz7_⟩, ⟨qz5_⟩⟩
       ·
        rw [if_neg c32] at H
        have c32b0 : decide (t103 < 2) = false := decide_eq_false c32
        clear c32
        have H' := am_ H
        clear H
        have hcz34_0 : w7.cell? ⟨gb101, 0, none⟩ = some (.int .i64 a0_0) := (blk_cell BK101.out 0).trans rfl
        have hcz34_1 : w7.cell? ⟨gb101, 1, none⟩ = some (.int .i64 a0_1) := (blk_cell BK101.out 1).trans rfl
        have hcz34_2 : w7.cell? ⟨gb101, 2, none⟩ = some (.int .i64 a0_2) := (blk_cell BK101.out 2).trans rfl
        have hcz34_3 : w7.cell? ⟨gb101, 3, none⟩ = some (.int .i64 a0_3) := (blk_cell BK101.out 3).trans rfl
        have hfz34_0 := blk_frozen BK101.out 0
        have hfz34_1 := blk_frozen BK101.out 1
        have hfz34_2 := blk_frozen BK101.out 2
        have hfz34_3 := blk_frozen BK101.out 3
        go_wp2_with (first | (go_at_call 32; (with_reducible refine (spec_l01In.calls a0_1 0 (wrap64 (a1 - 1)) true _ A10.out).mono ?_); rintro e w' ⟨rfl, ⟨nd, rfl⟩⟩))
        go_meet
        case rel => exact ⟨_, (false), qz0_, H', ⟨qz6_⟩, ⟨qz7_⟩, ⟨qz5_⟩⟩
    ·
     replace c11 := Bool.eq_false_iff.mpr c11
     subst c11
     have H1 : (spec_l11Gate.j0 k true a0_0 a0_1 a0_2 a0_3) = some r := by rw [if_neg (show ¬ (false = true) by decide)] at H; exact H
     clear H
     have H := H1
     clear H1
     have H' := am_ H
     clear H
     have hcz35_0 : w7.cell? ⟨gb101, 0, none⟩ = some (.int .i64 a0_0) := (blk_cell BK101.out 0).trans rfl
     have hcz35_1 : w7.cell? ⟨gb101, 1, none⟩ = some (.int .i64 a0_1) := (blk_cell BK101.out 1).trans rfl
     have hcz35_2 : w7.cell? ⟨gb101, 2, none⟩ = some (.int .i64 a0_2) := (blk_cell BK101.out 2).trans rfl
     have hcz35_3 : w7.cell? ⟨gb101, 3, none⟩ = some (.int .i64 a0_3) := (blk_cell BK101.out 3).trans rfl
     have hfz35_0 := blk_frozen BK101.out 0
     have hfz35_1 := blk_frozen BK101.out 1
     have hfz35_2 := blk_frozen BK101.out 2
     have hfz35_3 := blk_frozen BK101.out 3
     go_wp2_with (first | (go_at_call 32; (with_reducible refine (spec_l01In.calls a0_1 0 (wrap64 (a1 - 1)) false _ A10.out).mono ?_); rintro e w' ⟨rfl, ⟨nd, rfl⟩⟩))
     go_meet
     case rel => exact ⟨_, (true), qz0_, H', ⟨qz6_⟩, ⟨qz7_⟩, ⟨qz5_⟩⟩
   ·
    rw [if_neg c9] at H
    have c9b0 : decide (0 < t103) = false := decide_eq_false c9
    clear c9
    (first | rw [c9b0] | (simp only [i64_w, i32_w]; rw [c9b0]) | skip)
    by_cases c36 : t103 = 0
    ·
     rw [if_pos c36] at H
     have c36b0 : (t103 == 0) = true := beq_iff_eq.mpr c36
     have c36b1 : (t103 != 0) = false := bne_eq_false_iff_eq.mpr c36
     clear c36
     by_cases c37 : a0_1 = 0
     ·
      rw [if_pos c37] at H
      have c37b0 : (a0_1 == 0) = true := beq_iff_eq.mpr c37
      have c37b1 : (a0_1 != 0) = false := bne_eq_false_iff_eq.mpr c37
      clear c37
      by_cases c38 : t103 > 1
      ·
       rw [if_pos c38] at H
       have c38b0 : decide (1 < t103) = true := decide_eq_true c38
       clear c38
       replace H := Option.bind_eq_some_iff.mp H
       obtain ⟨t107, A390, H⟩ := H
       replace H : (if t107 = true then (if t103 < 2 then (spec_l11Gate.j0 k (a0_2 != 0) a0_0 a0_1 a0_2 a0_3) else (spec_l11Gate.j0 k false a0_0 a0_1 a0_2 a0_3)) else (spec_l11Gate.j0 k true a0_0 a0_1 a0_2 a0_3)) = some r := H
       have A39 := am_ A390
       clear A390
       by_cases c40 : t107 = true
       ·
        subst c40
        have H1 : (if t103 < 2 then (spec_l11Gate.j0 k (a0_2 != 0) a0_0 a0_1 a0_2 a0_3) else (spec_l11Gate.j0 k false a0_0 a0_1 a0_2 a0_3)) = some r := by rw [if_pos rfl] at H; exact H
        clear H
        have H := H1
        clear H1
        by_cases c41 : t103 < 2
        ·
         rw [if_pos c41] at H
         have c41b0 : decide (t103 < 2) = true := decide_eq_true c41
         clear c41
         have H' := am_ H
         clear H
         have hcz42_0 : w7.cell? ⟨gb101, 0, none⟩ = some (.int .i64 a0_0) := (blk_cell BK101.out 0).trans rfl
         have hcz42_1 : w7.cell? ⟨gb101, 1, none⟩ = some (.int .i64 a0_1) := (blk_cell BK101.out 1).trans rfl
         have hcz42_2 : w7.cell? ⟨gb101, 2, none⟩ = some (.int .i64 a0_2) := (blk_cell BK101.out 2).trans rfl
         have hcz42_3 : w7.cell? ⟨gb101, 3, none⟩ = some (.int .i64 a0_3) := (blk_cell BK101.out 3).trans rfl
         have hfz42_0 := blk_frozen BK101.out 0
         have hfz42_1 := blk_frozen BK101.out 1
         have hfz42_2 := blk_frozen BK101.out 2
         have hfz42_3 := blk_frozen BK101.out 3
         go_wp2_with (first | (go_at_call 32; (with_reducible refine (spec_l01In.calls a0_2 0 (wrap64 (a1 - 1)) true _ A39.out).mono ?_); rintro e w' ⟨rfl, ⟨nd, rfl⟩⟩))
         go_meet
         case rel => exact ⟨_, ((a0_2 != 0)), qz0_, H', ⟨qz6_⟩, ⟨qz7_⟩, ⟨qz5_⟩⟩
        ·
         rw [if_neg c41] at H
         have c41b0 : decide (t103 < 2) = false := decide_eq_false c41
         clear c41
         have H' := am_ H
         clear H
         have hcz43_0 : w7.cell? ⟨gb101, 0, none⟩ = some (.int .i64 a0_0) := (blk_cell BK101.out 0).trans rfl
         have hcz43_1 : w7.cell? ⟨gb101, 1, none⟩ = some (.int .i64 a0_1) := (blk_cell BK101.out 1).trans rfl
         have hcz43_2 : w7.cell? ⟨gb101, 2, none⟩ = some (.int .i64 a0_2) := (blk_cell BK101.out 2).trans rfl
         have hcz43_3 : w7.cell? ⟨gb101, 3, none⟩ = some (.int .i64 a0_3) := (blk_cell BK101.out 3).trans rfl
         have hfz43_0 := blk_frozen BK101.out 0
         have hfz43_1 := blk_frozen BK101.out 1
         have hfz43_2 := blk_frozen BK101.out 2
         have hfz43_3 := blk_frozen BK101.out 3
         go_wp2_with (first | (go_at_call 32; (with_reducible refine (spec_l01In.calls a0_2 0 (wrap64 (a1 - 1)) true _ A39.out).mono ?_); rintro e w' ⟨rfl, ⟨nd, rfl⟩⟩))
         go_meet
         case rel => exact ⟨_, (false), qz0_, H', ⟨qz6_⟩, ⟨qz7_⟩, ⟨qz5_⟩⟩
       ·
        replace c40 := Bool.eq_false_iff.mpr c40
        subst c40
        have H1 : (spec_l11Gate.j0 k true a0_0 a0_1 a0_2 a0_3) = some r := by rw [if_neg (show ¬ (false = true) by decide)] at H; exact H
        clear H
        have H := H1
        clear H1
        have H' := am_ H
        clear H
        have hcz44_0 : w7.cell? ⟨gb101, 0, none⟩ = some (.int .i64 a0_0) := (blk_cell BK101.out 0).trans rfl
        have hcz44_1 : w7.cell? ⟨gb101, 1, none⟩ = some (.int .i64 a0_1) := (blk_cell BK101.out 1).trans rfl
        have hcz44_2 : w7.cell? ⟨gb101, 2, none⟩ = some (.int .i64 a0_2) := (blk_cell BK101.out 2).trans rfl
        have hcz44_3 : w7.cell? ⟨gb101, 3, none⟩ = some (.int .i64 a0_3) := (blk_cell BK101.out 3).trans rfl
        have hfz44_0 := blk_frozen BK101.out 0
        have hfz44_1 := blk_frozen BK101.out 1
        have hfz44_2 := blk_frozen BK101.out 2
        have hfz44_3 := blk_frozen BK101.out 3
        go_wp2_with (first | (go_at_call 32; (with_reducible refine (spec_l01In.calls a0_2 0 (wrap64 (a1 - 1)) false _ A39.out).mono ?_); rintro e w' ⟨rfl, ⟨nd, rfl⟩⟩))
        go_meet
        case rel => exact ⟨_, (true), qz0_, H', ⟨qz6_⟩, ⟨qz7_⟩, ⟨qz5_⟩⟩
      ·
       rw [if_neg c38] at H
       have c38b0 : decide (1 < t103) = false := decide_eq_false c38
       clear c38
       by_cases c45 : t103 < 2
       ·
        rw [if_pos c45] at H
        have c45b0 : decide (t103 < 2) = true := decide_eq_true c45
        clear c45
        have H' := am_ H
        clear H
        have hcz46_0 : w7.cell? ⟨gb101, 0, none⟩ = some (.int .i64 a0_0) := (blk_cell BK101.out 0).trans rfl
        have hcz46_1 : w7.cell? ⟨gb101, 1, none⟩ = some (.int .i64 a0_1) := (blk_cell BK101.out 1).trans rfl
        have hcz46_2 : w7.cell? ⟨gb101, 2, none⟩ = some (.int .i64 a0_2) := (blk_cell BK101.out 2).trans rfl
        have hcz46_3 : w7.cell? ⟨gb101, 3, none⟩ = some (.int .i64 a0_3) := (blk_cell BK101.out 3).trans rfl
        have hfz46_0 := blk_frozen BK101.out 0
        have hfz46_1 := blk_frozen BK101.out 1
        have hfz46_2 := blk_frozen BK101.out 2
        have hfz46_3 := blk_frozen BK101.out 3
        go_wp2
        go_meet
        case rel => exact ⟨_, ((a0_2 != 0)), qz0_, H', ⟨qz6_⟩, ⟨qz7_⟩, ⟨qz5_⟩⟩
       ·
        rw [if_neg c45] at H
        have c45b0 : decide (t103 < 2) = false := decide_eq_false c45
        clear c45
        have H' := am_ H
        clear H
        have hcz47_0 : w7.cell? ⟨gb101, 0, none⟩ = some (.int .i64 a0_0) := (blk_cell BK101.out 0).trans rfl
        have hcz47_1 : w7.cell? ⟨gb101, 1, none⟩ = some (.int .i64 a0_1) := (blk_cell BK101.out 1).trans rfl
        have hcz47_2 : w7.cell? ⟨gb101, 2, none⟩ = some (.int .i64 a0_2) := (blk_cell BK101.out 2).trans rfl
        have hcz47_3 : w7.cell? ⟨gb101, 3, none⟩ = some (.int .i64 a0_3) := (blk_cell BK101.out 3).trans rfl
        have hfz47_0 := blk_frozen BK101.out 0
        have hfz47_1 := blk_frozen BK101.out 1
        have hfz47_2 := blk_frozen BK101.out 2
        have hfz47_3 := blk_frozen BK101.out 3
        go_wp2
        go_meet
        case rel => exact ⟨_, (false), qz0_, H', ⟨qz6_⟩, ⟨qz7_⟩, ⟨qz5_⟩⟩
     ·
      rw [if_neg c37] at H
      have c37b0 : (a0_1 == 0) = false := beq_eq_false_iff_ne.mpr c37
      have c37b1 : (a0_1 != 0) = true := bne_iff_ne.mpr c37
      have H' := am_ H
      clear H
      have hcz48_0 : w7.cell? ⟨gb101, 0, none⟩ = some (.int .i64 a0_0) := (blk_cell BK101.out 0).trans rfl
      have hcz48_1 : w7.cell? ⟨gb101, 1, none⟩ = some (.int .i64 a0_1) := (blk_cell BK101.out 1).trans rfl
      have hcz48_2 : w7.cell? ⟨gb101, 2, none⟩ = some (.int .i64 a0_2) := (blk_cell BK101.out 2).trans rfl
      have hcz48_3 : w7.cell? ⟨gb101, 3, none⟩ = some (.int .i64 a0_3) := (blk_cell BK101.out 3).trans rfl
      have hfz48_0 := blk_frozen BK101.out 0
      have hfz48_1 := blk_frozen BK101.out 1
      have hfz48_2 := blk_frozen BK101.out 2
      have hfz48_3 := blk_frozen BK101.out 3
      go_wp2
      go_meet
      case rel => exact ⟨_, (true), qz0_, H', ⟨qz6_⟩, ⟨qz7_⟩, ⟨qz5_⟩⟩
    ·
     rw [if_neg c36] at H
     have c36b0 : (t103 == 0) = false := beq_eq_false_iff_ne.mpr c36
     have c36b1 : (t103 != 0) = true := bne_iff_ne.mpr c36
     by_cases c49 : t103 > 1
     ·
      rw [if_pos c49] at H
      have c49b0 : decide (1 < t103) = true := decide_eq_true c49
      clear c49
      replace H := Option.bind_eq_some_iff.mp H
      obtain ⟨t108, A500, H⟩ := H
      replace H : (if t108 = true then (if t103 < 2 then (spec_l11Gate.j0 k (a0_2 != 0) a0_0 a0_1 a0_2 a0_3) else (spec_l11Gate.j0 k false a0_0 a0_1 a0_2 a0_3)) else (spec_l11Gate.j0 k true a0_0 a0_1 a0_2 a0_3)) = some r := H
      have A50 := am_ A500
      clear A500
      by_cases c51 : t108 = true
      ·
       subst c51
       have H1 : (if t103 < 2 then (spec_l11Gate.j0 k (a0_2 != 0) a0_0 a0_1 a0_2 a0_3) else (spec_l11Gate.j0 k false a0_0 a0_1 a0_2 a0_3)) = some r := by rw [if_pos rfl] at H; exact H
       clear H
       have H := H1
       clear H1
       by_cases c52 : t103 < 2
       ·
        rw [if_pos c52] at H
        have c52b0 : decide (t103 < 2) = true := decide_eq_true c52
        clear c52
        have H' := am_ H
        clear H
        have hcz53_0 : w7.cell? ⟨gb101, 0, none⟩ = some (.int .i64 a0_0) := (blk_cell BK101.out 0).trans rfl
        have hcz53_1 : w7.cell? ⟨gb101, 1, none⟩ = some (.int .i64 a0_1) := (blk_cell BK101.out 1).trans rfl
        have hcz53_2 : w7.cell? ⟨gb101, 2, none⟩ = some (.int .i64 a0_2) := (blk_cell BK101.out 2).trans rfl
        have hcz53_3 : w7.cell? ⟨gb101, 3, none⟩ = some (.int .i64 a0_3) := (blk_cell BK101.out 3).trans rfl
        have hfz53_0 := blk_frozen BK101.out 0
        have hfz53_1 := blk_frozen BK101.out 1
        have hfz53_2 := blk_frozen BK101.out 2
        have hfz53_3 := blk_frozen BK101.out 3
        go_wp2_with (first | (go_at_call 32; (with_reducible refine (spec_l01In.calls a0_2 0 (wrap64 (a1 - 1)) true _ A50.out).mono ?_); rintro e w' ⟨rfl, ⟨nd, rfl⟩⟩))
        go_meet
        case rel => exact ⟨_, ((a0_2 != 0)), qz0_, H', ⟨qz6_⟩, ⟨qz7_⟩, ⟨qz5_⟩⟩
       ·
        rw [if_neg c52] at H
        have c52b0 : decide (t103 < 2) = false := decide_eq_false c52
        clear c52
        have H' := am_ H
        clear H
        have hcz54_0 : w7.cell? ⟨gb101, 0, none⟩ = some (.int .i64 a0_0) := (blk_cell BK101.out 0).trans rfl
        have hcz54_1 : w7.cell? ⟨gb101, 1, none⟩ = some (.int .i64 a0_1) := (blk_cell BK101.out 1).trans rfl
        have hcz54_2 : w7.cell? ⟨gb101, 2, none⟩ = some (.int .i64 a0_2) := (blk_cell BK101.out 2).trans rfl
        have hcz54_3 : w7.cell? ⟨gb101, 3, none⟩ = some (.int .i64 a0_3) := (blk_cell BK101.out 3).trans rfl
        have hfz54_0 := blk_frozen BK101.out 0
        have hfz54_1 := blk_frozen BK101.out 1
        have hfz54_2 := blk_frozen BK101.out 2
        have hfz54_3 := blk_frozen BK101.out 3
        go_wp2_with (first | (go_at_call 32; (with_reducible refine (spec_l01In.calls a0_2 0 (wrap64 (a1 - 1)) true _ A50.out).mono ?_); rintro e w' ⟨rfl, ⟨nd, rfl⟩⟩))
        go_meet
        case rel => exact ⟨_, (false), qz0_, H', ⟨qz6_⟩, ⟨qz7_⟩, ⟨qz5_⟩⟩
      ·
       replace c51 := Bool.eq_false_iff.mpr c51
       subst c51
       have H1 : (spec_l11Gate.j0 k true a0_0 a0_1 a0_2 a0_3) = some r := by rw [if_neg (show ¬ (false = true) by decide)] at H; exact H
       clear H
       have H := H1
       clear H1
       have H' := am_ H
       clear H
       have hcz55_0 : w7.cell? ⟨gb101, 0, none⟩ = some (.int .i64 a0_0) := (blk_cell BK101.out 0).trans rfl
       have hcz55_1 : w7.cell? ⟨gb101, 1, none⟩ = some (.int .i64 a0_1) := (blk_cell BK101.out 1).trans rfl
       have hcz55_2 : w7.cell? ⟨gb101, 2, none⟩ = some (.int .i64 a0_2) := (blk_cell BK101.out 2).trans rfl
       have hcz55_3 : w7.cell? ⟨gb101, 3, none⟩ = some (.int .i64 a0_3) := (blk_cell BK101.out 3).trans rfl
       have hfz55_0 := blk_frozen BK101.out 0
       have hfz55_1 := blk_frozen BK101.out 1
       have hfz55_2 := blk_frozen BK101.out 2
       have hfz55_3 := blk_frozen BK101.out 3
       go_wp2_with (first | (go_at_call 32; (with_reducible refine (spec_l01In.calls a0_2 0 (wrap64 (a1 - 1)) false _ A50.out).mono ?_); rintro e w' ⟨rfl, ⟨nd, rfl⟩⟩))
       go_meet
       case rel => exact ⟨_, (true), qz0_, H', ⟨qz6_⟩, ⟨qz7_⟩, ⟨qz5_⟩⟩
     ·
      rw [if_neg c49] at H
      have c49b0 : decide (1 < t103) = false := decide_eq_false c49
      clear c49
      by_cases c56 : t103 < 2
      ·
       rw [if_pos c56] at H
       have c56b0 : decide (t103 < 2) = true := decide_eq_true c56
       clear c56
       have H' := am_ H
       clear H
       have hcz57_0 : w7.cell? ⟨gb101, 0, none⟩ = some (.int .i64 a0_0) := (blk_cell BK101.out 0).trans rfl
       have hcz57_1 : w7.cell? ⟨gb101, 1, none⟩ = some (.int .i64 a0_1) := (blk_cell BK101.out 1).trans rfl
       have hcz57_2 : w7.cell? ⟨gb101, 2, none⟩ = some (.int .i64 a0_2) := (blk_cell BK101.out 2).trans rfl
       have hcz57_3 : w7.cell? ⟨gb101, 3, none⟩ = some (.int .i64 a0_3) := (blk_cell BK101.out 3).trans rfl
       have hfz57_0 := blk_frozen BK101.out 0
       have hfz57_1 := blk_frozen BK101.out 1
       have hfz57_2 := blk_frozen BK101.out 2
       have hfz57_3 := blk_frozen BK101.out 3
       go_wp2
       go_meet
       case rel => exact ⟨_, ((a0_2 != 0)), qz0_, H', ⟨qz6_⟩, ⟨qz7_⟩, ⟨qz5_⟩⟩
      ·
       rw [if_neg c56] at H
       have c56b0 : decide (t103 < 2) = false := decide_eq_false c56
       clear c56
       have H' := am_ H
       clear H
       go_wp2
       go_meet
       case rel => exact ⟨_, (false), qz0_, H', ⟨qz6_⟩, ⟨qz7_⟩, ⟨qz5_⟩⟩
  case rest =>
   clear HC6
   try clear c1
   try clear c2
   try clear p2
   try clear c3
   try clear c4
   try clear c5
   try clear p6
   try clear c9
   try clear c9b0
   try clear c11
   try clear c12
   try clear c12b0
   try clear c12b1
   try clear c13
   try clear c13b0
   try clear c13b1
   try clear c14
   try clear c14b0
   try clear c16
   try clear c17
   try clear c17b0
   try clear c19
   try clear c21
   try clear c21b0
   try clear c25
   try clear c25b0
   try clear c27
   try clear c28
   try clear c28b0
   try clear c32
   try clear c32b0
   try clear c36
   try clear c36b0
   try clear c36b1
   try clear c37
   try clear c37b0
   try clear c37b1
   try clear c38
   try clear c38b0
   try clear c40
   try clear c41
   try clear c41b0
   try clear c45
   try clear c45b0
   try clear c49
   try clear c49b0
   try clear c51
   try clear c52
   try clear c52b0
   try clear c56
   try clear c56b0
   try clear hcz18_0
   try clear hcz18_1
   try clear hcz18_2
   try clear hcz18_3
   try clear hcz19_0
   try clear hcz19_1
   try clear hcz19_2
   try clear hcz19_3
   try clear hcz20_0
   try clear hcz20_1
   try clear hcz20_2
   try clear hcz20_3
   try clear hcz22_0
   try clear hcz22_1
   try clear hcz22_2
   try clear hcz22_3
   try clear hcz23_0
   try clear hcz23_1
   try clear hcz23_2
   try clear hcz23_3
   try clear hcz24_0
   try clear hcz24_1
   try clear hcz24_2
   try clear hcz24_3
   try clear hcz29_0
   try clear hcz29_1
   try clear hcz29_2
   try clear hcz29_3
   try clear hcz30_0
   try clear hcz30_1
   try clear hcz30_2
   try clear hcz30_3
   try clear hcz31_0
   try clear hcz31_1
   try clear hcz31_2
   try clear hcz31_3
   try clear hcz33_0
   try clear hcz33_1
   try clear hcz33_2
   try clear hcz33_3
   try clear hcz34_0
   try clear hcz34_1
   try clear hcz34_2
   try clear hcz34_3
   try clear hcz35_0
   try clear hcz35_1
   try clear hcz35_2
   try clear hcz35_3
   try clear hcz42_0
   try clear hcz42_1
   try clear hcz42_2
   try clear hcz42_3
   try clear hcz43_0
   try clear hcz43_1
   try clear hcz43_2
   try clear hcz43_3
   try clear hcz44_0
   try clear hcz44_1
   try clear hcz44_2
   try clear hcz44_3
   try clear hcz46_0
   try clear hcz46_1
   try clear hcz46_2
   try clear hcz46_3
   try clear hcz47_0
   try clear hcz47_1
   try clear hcz47_2
   try clear hcz47_3
   try clear hcz48_0
   try clear hcz48_1
   try clear hcz48_2
   try clear hcz48_3
   try clear hcz53_0
   try clear hcz53_1
   try clear hcz53_2
   try clear hcz53_3
   try clear hcz54_0
   try clear hcz54_1
   try clear hcz54_2
   try clear hcz54_3
   try clear hcz55_0
   try clear hcz55_1
   try clear hcz55_2
   try clear hcz55_3
   try clear hcz57_0
   try clear hcz57_1
   try clear hcz57_2
   try clear hcz57_3
   try clear hcz8_0
   try clear hcz8_1
   try clear hcz8_2
   try clear hcz8_3
   try clear hfz18_0
   try clear hfz18_1
   try clear hfz18_2
   try clear hfz18_3
   try clear hfz19_0
   try clear hfz19_1
   try clear hfz19_2
   try clear hfz19_3
   try clear hfz20_0
   try clear hfz20_1
   try clear hfz20_2
   try clear hfz20_3
   try clear hfz22_0
   try clear hfz22_1
   try clear hfz22_2
   try clear hfz22_3
   try clear hfz23_0
   try clear hfz23_1
   try clear hfz23_2
   try clear hfz23_3
   try clear hfz24_0
   try clear hfz24_1
   try clear hfz24_2
   try clear hfz24_3
   try clear hfz29_0
   try clear hfz29_1
   try clear hfz29_2
   try clear hfz29_3
   try clear hfz30_0
   try clear hfz30_1
   try clear hfz30_2
   try clear hfz30_3
   try clear hfz31_0
   try clear hfz31_1
   try clear hfz31_2
   try clear hfz31_3
   try clear hfz33_0
   try clear hfz33_1
   try clear hfz33_2
   try clear hfz33_3
   try clear hfz34_0
   try clear hfz34_1
   try clear hfz34_2
   try clear hfz34_3
   try clear hfz35_0
   try clear hfz35_1
   try clear hfz35_2
   try clear hfz35_3
   try clear hfz42_0
   try clear hfz42_1
   try clear hfz42_2
   try clear hfz42_3
   try clear hfz43_0
   try clear hfz43_1
   try clear hfz43_2
   try clear hfz43_3
   try clear hfz44_0
   try clear hfz44_1
   try clear hfz44_2
   try clear hfz44_3
   try clear hfz46_0
   try clear hfz46_1
   try clear hfz46_2
   try clear hfz46_3
   try clear hfz47_0
   try clear hfz47_1
   try clear hfz47_2
   try clear hfz47_3
   try clear hfz48_0
   try clear hfz48_1
   try clear hfz48_2
   try clear hfz48_3
   try clear hfz53_0
   try clear hfz53_1
   try clear hfz53_2
   try clear hfz53_3
   try clear hfz54_0
   try clear hfz54_1
   try clear hfz54_2
   try clear hfz54_3
   try clear hfz55_0
   try clear hfz55_1
   try clear hfz55_2
   try clear hfz55_3
   try clear hfz57_0
   try clear hfz57_1
   try clear hfz57_2
   try clear hfz57_3
   try clear hfz8_0
   try clear hfz8_1
   try clear hfz8_2
   try clear hfz8_3
   obtain ⟨kq, x52_5, rfl, HA, HJ5, BK101, HB⟩ := hcut
   cases kq with
   | zero => exact absurd HA.out (by simp [spec_l11Gate.j0])
   | succ kj5 =>
    have H := HA.out
    clear HA
    simp only [spec_l11Gate.j0] at H
    by_cases c58 : x52_5 = true
    ·
     subst c58
     have H1 : (some false) = some r := by rw [if_pos rfl] at H; exact H
     clear H
     have H := H1
     clear H1
     obtain rfl := Option.some.inj H
     go_wp2
     go_ret
     exact ⟨qz4_, qz5_⟩
    ·
     replace c58 := Bool.eq_false_iff.mpr c58
     subst c58
     have H1 : (if a0_0 = 3 then ((spec_FieldOK.f a0_3).bind fun t109 => (some t109)) else (some (a0_3 == 0))) = some r := by rw [if_neg (show ¬ (false = true) by decide)] at H; exact H
     clear H
     have H := H1
     clear H1
     by_cases c59 : a0_0 = 3
     ·
      rw [if_pos c59] at H
      have c59b0 : (a0_0 == 3) = true := beq_iff_eq.mpr c59
      have c59b1 : (a0_0 != 3) = false := bne_eq_false_iff_eq.mpr c59
      clear c59
      replace H := Option.bind_eq_some_iff.mp H
      obtain ⟨t109, A600, H⟩ := H
      replace H : (some t109) = some r := H
      have A60 := am_ A600
      clear A600
      obtain rfl := Option.some.inj H
      have hcz61_0 : wc.cell? ⟨gb101, 0, none⟩ = some (.int .i64 a0_0) := (blk_cell BK101.out 0).trans rfl
      have hcz61_1 : wc.cell? ⟨gb101, 1, none⟩ = some (.int .i64 a0_1) := (blk_cell BK101.out 1).trans rfl
      have hcz61_2 : wc.cell? ⟨gb101, 2, none⟩ = some (.int .i64 a0_2) := (blk_cell BK101.out 2).trans rfl
      have hcz61_3 : wc.cell? ⟨gb101, 3, none⟩ = some (.int .i64 a0_3) := (blk_cell BK101.out 3).trans rfl
      have hfz61_0 := blk_frozen BK101.out 0
      have hfz61_1 := blk_frozen BK101.out 1
      have hfz61_2 := blk_frozen BK101.out 2
      have hfz61_3 := blk_frozen BK101.out 3
      go_wp2_with (first | ((with_reducible refine gate_callee (f := 33) rfl ?_); refine goesL_ (some 58) rfl rfl Tryd.func33 (by kernel_rfl) rfl #[.int .i64 a0_3] rfl qz2_ ?_; (with_reducible refine (spec_FieldOK.calls a0_3 t109 _ A60.out).mono ?_); rintro e w' ⟨rfl, ⟨nd, rfl⟩⟩; refine ⟨_, rfl, ?_⟩))
      go_ret
      exact ⟨qz4_, qz5_⟩
     ·
      rw [if_neg c59] at H
      have c59b0 : (a0_0 == 3) = false := beq_eq_false_iff_ne.mpr c59
      have c59b1 : (a0_0 != 3) = true := bne_iff_ne.mpr c59
      obtain rfl := Option.some.inj H
      have hcz62_0 : wc.cell? ⟨gb101, 0, none⟩ = some (.int .i64 a0_0) := (blk_cell BK101.out 0).trans rfl
      have hcz62_1 : wc.cell? ⟨gb101, 1, none⟩ = some (.int .i64 a0_1) := (blk_cell BK101.out 1).trans rfl
      have hcz62_2 : wc.cell? ⟨gb101, 2, none⟩ = some (.int .i64 a0_2) := (blk_cell BK101.out 2).trans rfl
      have hcz62_3 : wc.cell? ⟨gb101, 3, none⟩ = some (.int .i64 a0_3) := (blk_cell BK101.out 3).trans rfl
      have hfz62_0 := blk_frozen BK101.out 0
      have hfz62_1 := blk_frozen BK101.out 1
      have hfz62_2 := blk_frozen BK101.out 2
      have hfz62_3 := blk_frozen BK101.out 3
      go_wp2
      go_ret
      exact ⟨qz4_, qz5_⟩
 ·
  replace c4 := Bool.eq_false_iff.mpr c4
  subst c4
  have H1 : (some false) = some r := by rw [if_neg (show ¬ (false = true) by decide)] at H; exact H
  clear H
  have H := H1
  clear H1
  obtain rfl := Option.some.inj H
  go_enter Tryd.func17, Tryd.ntmps17
  go_wp2_with (first | ((with_reducible refine gate_dst (N := 2) rfl ?_); refine box_event ?hg (N := 2) ?hd (cs := #[.int .i64 a0_0, .int .i64 a0_1, .int .i64 a0_2, .int .i64 a0_3]) (t := 30) ?hr ?_; (case hd => rfl); (case hg => rfl); (case hr => first | (go_simp; done) | (go_simp; rfl)); intro gb101 hg w63 hbox hb; have n0_ := am_ (below_step qz3_ hb); have n1_ := am_ (hbox); have n2_ := am_ ((by rw [hg]; exact (below_size qz3_) : w.heap.size ≤ gb101)); have n3_ := am_ ((by rw [hg]; exact (below_size qz3_) : w.heap.size ≤ gb101)); clear HB; have HB := n0_; have BK101 := n1_; have GW101 := n2_; have GE101 := n3_; clear n0_ n1_ n2_ n3_; clear hb hbox hg; have hcz64_0 : w63.cell? ⟨gb101, 0, none⟩ = some (.int .i64 a0_0) := (blk_cell BK101.out 0).trans rfl; have hcz64_1 : w63.cell? ⟨gb101, 1, none⟩ = some (.int .i64 a0_1) := (blk_cell BK101.out 1).trans rfl; have hcz64_2 : w63.cell? ⟨gb101, 2, none⟩ = some (.int .i64 a0_2) := (blk_cell BK101.out 2).trans rfl; have hcz64_3 : w63.cell? ⟨gb101, 3, none⟩ = some (.int .i64 a0_3) := (blk_cell BK101.out 3).trans rfl; have hfz64_0 := blk_frozen BK101.out 0; have hfz64_1 := blk_frozen BK101.out 1; have hfz64_2 := blk_frozen BK101.out 2; have hfz64_3 := blk_frozen BK101.out 3) | ((with_reducible refine gate_callee (f := 32) rfl ?_); refine goesL_ (some 8) rfl rfl Tryd.func32 (by kernel_rfl) rfl #[.int .i64 a0_0, .int .i64 1, .int .i64 8] rfl qz2_ ?_; (with_reducible refine (spec_l01In.calls a0_0 1 8 false _ A3.out).mono ?_); rintro e w' ⟨rfl, ⟨nd, rfl⟩⟩; refine ⟨_, rfl, ?_⟩))
  go_ret
  exact ⟨qz4_, qz5_⟩

def spec_l11Names.f  : Option (List ByteArray) := some (([(⟨#[]⟩ : ByteArray), (⟨#[105, 110, 112, 117, 116]⟩ : ByteArray), (⟨#[112, 117, 98, 108, 105, 99]⟩ : ByteArray), (⟨#[99, 111, 110, 115, 116]⟩ : ByteArray), (⟨#[97, 100, 100]⟩ : ByteArray), (⟨#[115, 117, 98]⟩ : ByteArray), (⟨#[109, 117, 108]⟩ : ByteArray), (⟨#[101, 113, 117, 97, 108]⟩ : ByteArray), (⟨#[98, 105, 116]⟩ : ByteArray)] : List ByteArray))
set_option maxHeartbeats 8000000 in
set_option maxRecDepth 100000 in
theorem spec_l11Names.calls  (r : List ByteArray) (w : World) (h : spec_l11Names.f  = some r) :
  Calls Tryd.prog 18 #[] w fun e w' => ∃ v0_ : Value, e = .returned (v0_) ∧ Kd.R Kd.string 9 w' w.heap.size (fun _ => True) v0_ r ∧ Below w.heap.size w w' := by
 have HB := am_ (Below.refl w.heap.size w)
 have H : (some (([(⟨#[]⟩ : ByteArray), (⟨#[105, 110, 112, 117, 116]⟩ : ByteArray), (⟨#[112, 117, 98, 108, 105, 99]⟩ : ByteArray), (⟨#[99, 111, 110, 115, 116]⟩ : ByteArray), (⟨#[97, 100, 100]⟩ : ByteArray), (⟨#[115, 117, 98]⟩ : ByteArray), (⟨#[109, 117, 108]⟩ : ByteArray), (⟨#[101, 113, 117, 97, 108]⟩ : ByteArray), (⟨#[98, 105, 116]⟩ : ByteArray)] : List ByteArray))) = some r := h
 clear h
 obtain ⟨y101, hy101⟩ : ∃ y_ : List ByteArray, y_ = (([(⟨#[]⟩ : ByteArray), (⟨#[105, 110, 112, 117, 116]⟩ : ByteArray), (⟨#[112, 117, 98, 108, 105, 99]⟩ : ByteArray), (⟨#[99, 111, 110, 115, 116]⟩ : ByteArray), (⟨#[97, 100, 100]⟩ : ByteArray), (⟨#[115, 117, 98]⟩ : ByteArray), (⟨#[109, 117, 108]⟩ : ByteArray), (⟨#[101, 113, 117, 97, 108]⟩ : ByteArray), (⟨#[98, 105, 116]⟩ : ByteArray)] : List ByteArray)) := ⟨_, rfl⟩
 replace H : (some y101) = some r := by first | (rw [hy101]; with_reducible exact H) | (have H2_ := (Option.bind_some _ _).symm.trans H; rw [hy101]; with_reducible exact H2_) | (have H2_ := (Option.bind_some _ _).symm.trans H; with_reducible exact H2_) | with_reducible exact H | (rw [hy101]; exact H) | exact H
 have Ny101 := am_ hy101
 clear hy101
 obtain rfl := Option.some.inj H
 go_enter Tryd.func18, Tryd.ntmps18
 go_wp2_with (first | ((with_reducible refine gate_dst (N := 1) rfl ?_); refine Kd.R_lit Kd.string _ 9 ?hg (N := 1) ?hd (xs := ([(⟨#[]⟩ : ByteArray), (⟨#[105, 110, 112, 117, 116]⟩ : ByteArray), (⟨#[112, 117, 98, 108, 105, 99]⟩ : ByteArray), (⟨#[99, 111, 110, 115, 116]⟩ : ByteArray), (⟨#[97, 100, 100]⟩ : ByteArray), (⟨#[115, 117, 98]⟩ : ByteArray), (⟨#[109, 117, 108]⟩ : ByteArray), (⟨#[101, 113, 117, 97, 108]⟩ : ByteArray), (⟨#[98, 105, 116]⟩ : ByteArray)] : List ByteArray)) (inner := [.string (⟨#[]⟩ : ByteArray), .string (⟨#[105, 110, 112, 117, 116]⟩ : ByteArray), .string (⟨#[112, 117, 98, 108, 105, 99]⟩ : ByteArray), .string (⟨#[99, 111, 110, 115, 116]⟩ : ByteArray), .string (⟨#[97, 100, 100]⟩ : ByteArray), .string (⟨#[115, 117, 98]⟩ : ByteArray), .string (⟨#[109, 117, 108]⟩ : ByteArray), .string (⟨#[101, 113, 117, 97, 108]⟩ : ByteArray), .string (⟨#[98, 105, 116]⟩ : ByteArray)]) (ok := fun _ => True) (okp := fun _ => True) ?hr ?hp (fun _ hk => hk) trivial (Below.refl _ _) (Nat.le_refl _) (by simp) ?_; (case hd => rfl); (case hg => rfl); (case hr => first | (go_simp; done) | (go_simp; rfl)); (case hp => exact (Reps.one (show Kd.M Kd.string _ _ _ (⟨#[]⟩ : ByteArray) [.string (⟨#[]⟩ : ByteArray)] from rfl) (Reps.one (show Kd.M Kd.string _ _ _ (⟨#[105, 110, 112, 117, 116]⟩ : ByteArray) [.string (⟨#[105, 110, 112, 117, 116]⟩ : ByteArray)] from rfl) (Reps.one (show Kd.M Kd.string _ _ _ (⟨#[112, 117, 98, 108, 105, 99]⟩ : ByteArray) [.string (⟨#[112, 117, 98, 108, 105, 99]⟩ : ByteArray)] from rfl) (Reps.one (show Kd.M Kd.string _ _ _ (⟨#[99, 111, 110, 115, 116]⟩ : ByteArray) [.string (⟨#[99, 111, 110, 115, 116]⟩ : ByteArray)] from rfl) (Reps.one (show Kd.M Kd.string _ _ _ (⟨#[97, 100, 100]⟩ : ByteArray) [.string (⟨#[97, 100, 100]⟩ : ByteArray)] from rfl) (Reps.one (show Kd.M Kd.string _ _ _ (⟨#[115, 117, 98]⟩ : ByteArray) [.string (⟨#[115, 117, 98]⟩ : ByteArray)] from rfl) (Reps.one (show Kd.M Kd.string _ _ _ (⟨#[109, 117, 108]⟩ : ByteArray) [.string (⟨#[109, 117, 108]⟩ : ByteArray)] from rfl) (Reps.one (show Kd.M Kd.string _ _ _ (⟨#[101, 113, 117, 97, 108]⟩ : ByteArray) [.string (⟨#[101, 113, 117, 97, 108]⟩ : ByteArray)] from rfl) (Reps.one (show Kd.M Kd.string _ _ _ (⟨#[98, 105, 116]⟩ : ByteArray) [.string (⟨#[98, 105, 116]⟩ : ByteArray)] from rfl) (Reps.none _ _))))))))))); intro v102 w1 ho2 hb hg_ hnew_; clear hg_ hnew_; (first | rw [← Ny101.out] at ho2 | (simp only [Int.reduceToNat] at ho2; rw [← Ny101.out] at ho2)); have n0_ := am_ (Kd.R_lower ho2 (below_size qz3_)); have n1_ := am_ (below_step qz3_ hb); clear HB; have HO103 := n0_; have HB := n1_; clear n0_ n1_; clear hb ho2))
 go_ret
 exact ⟨_, qz4_, (by (with_reducible repeat (first | apply Kd.R_alloc | apply Kd.R_drewN | apply Kd.R_drew)); exact HO103.out), qz3_⟩

mutual
def spec_l00Words.l0 : Nat → ByteArray → List ByteArray → Int → Int → Option (List ByteArray)
 | 0, _, _, _, _ => none
 | k + 1, x0, x3, x4, x5 => if x5 ≤ (x0.size : Int) then (if x5 = (x0.size : Int) then (spec_l00Words.j1 k x0 x3 x4 x5 true) else (if 0 ≤ x5 then (if x5 < (x0.size : Int) then (spec_l00Words.j1 k x0 x3 x4 x5 ((bt x0 x5) == 32)) else (none)) else (none))) else (some x3)
def spec_l00Words.j1 : Nat → ByteArray → List ByteArray → Int → Int → Bool → Option (List ByteArray)
 | 0, _, _, _, _, _ => none
 | k + 1, x0, x3, x4, x5, x22 => if x22 = true then (if x5 > x4 then (if 0 ≤ x4 then (if x4 ≤ x5 then (if x5 ≤ (x0.size : Int) then (if x3.length < 8796093022208 then (spec_l00Words.l0 k x0 (x3 ++ [x0.extract (x4 : Int).toNat (x5 : Int).toNat]) (wrap64 (x5 + 1)) (wrap64 (x5 + 1))) else (none)) else (none)) else (none)) else (none)) else (spec_l00Words.l0 k x0 x3 (wrap64 (x5 + 1)) (wrap64 (x5 + 1)))) else (spec_l00Words.l0 k x0 x3 x4 (wrap64 (x5 + 1)))
end
def spec_l00Words.f (k : Nat) (a0 : ByteArray) : Option (List ByteArray) := spec_l00Words.l0 k a0 (([] : List ByteArray)) 0 0
theorem spec_l00Words.mono_l : ∀ k, (∀ y0 y1 y2 y3, LeO (spec_l00Words.l0 k y0 y1 y2 y3) (spec_l00Words.l0 (k + 1) y0 y1 y2 y3)) ∧ (∀ y0 y1 y2 y3 y4, LeO (spec_l00Words.j1 k y0 y1 y2 y3 y4) (spec_l00Words.j1 (k + 1) y0 y1 y2 y3 y4))
 | 0 => ⟨fun _ _ _ _ r h => by simp [spec_l00Words.l0] at h, fun _ _ _ _ _ r h => by simp [spec_l00Words.j1] at h⟩
 | k + 1 => by
  obtain ⟨ih0, ih1⟩ := spec_l00Words.mono_l k
  refine ⟨?_, ?_⟩
  ·
   intro y0 y1 y2 y3
   unfold spec_l00Words.l0
   repeat' first
   | (with_reducible exact ih0 _ _ _ _)
   | (with_reducible exact ih1 _ _ _ _ _)
   | (with_reducible exact LeO.refl _)
   | (with_reducible exact LeO.none _)
   | (with_reducible refine LeO.ite ?_ ?_)
   | (with_reducible refine LeO.bind ?_ (fun _ => ?_))
   | exact ih0 _ _ _ _
   | exact ih1 _ _ _ _ _
   | exact LeO.none _
   | refine LeO.ite ?_ ?_
   | refine LeO.bind ?_ (fun _ => ?_)
  ·
   intro y0 y1 y2 y3 y4
   unfold spec_l00Words.j1
   repeat' first
   | (with_reducible exact ih0 _ _ _ _)
   | (with_reducible exact ih1 _ _ _ _ _)
   | (with_reducible exact LeO.refl _)
   | (with_reducible exact LeO.none _)
   | (with_reducible refine LeO.ite ?_ ?_)
   | (with_reducible refine LeO.bind ?_ (fun _ => ?_))
   | exact ih0 _ _ _ _
   | exact ih1 _ _ _ _ _
   | exact LeO.none _
   | refine LeO.ite ?_ ?_
   | refine LeO.bind ?_ (fun _ => ?_)
theorem spec_l00Words.mono : ∀ a0 k, LeO (spec_l00Words.f k a0) (spec_l00Words.f (k + 1) a0) := by
 intro a0 k
 obtain ⟨ih0, ih1⟩ := spec_l00Words.mono_l k
 unfold spec_l00Words.f
 repeat' first
   | (with_reducible exact ih0 _ _ _ _)
   | (with_reducible exact ih1 _ _ _ _ _)
   | (with_reducible exact LeO.refl _)
   | (with_reducible exact LeO.none _)
   | (with_reducible refine LeO.ite ?_ ?_)
   | (with_reducible refine LeO.bind ?_ (fun _ => ?_))
   | exact ih0 _ _ _ _
   | exact ih1 _ _ _ _ _
   | exact LeO.none _
   | refine LeO.ite ?_ ?_
   | refine LeO.bind ?_ (fun _ => ?_)
set_option maxHeartbeats 8000000 in
set_option maxRecDepth 100000 in
theorem spec_l00Words.calls (k : Nat) (a0 : ByteArray) (r : List ByteArray) (w : World) (h : spec_l00Words.f k a0 = some r) :
  Calls Tryd.prog 39 #[.string a0] w fun e w' => ∃ v0_ : Value, e = .returned (v0_) ∧ Kd.R Kd.string 9 w' w.heap.size (fun _ => True) v0_ r ∧ Below w.heap.size w w' := by
 have HB := am_ (Below.refl w.heap.size w)
 have H : (spec_l00Words.l0 k a0 (([] : List ByteArray)) 0 0) = some r := h
 clear h
 obtain ⟨y101, hy101⟩ : ∃ y_ : List ByteArray, y_ = (([] : List ByteArray)) := ⟨_, rfl⟩
 replace H : (spec_l00Words.l0 k a0 y101 0 0) = some r := by first | (rw [hy101]; with_reducible exact H) | (have H2_ := (Option.bind_some _ _).symm.trans H; rw [hy101]; with_reducible exact H2_) | (have H2_ := (Option.bind_some _ _).symm.trans H; with_reducible exact H2_) | with_reducible exact H | (rw [hy101]; exact H) | exact H
 have Ny101 := am_ hy101
 clear hy101
 have H' := am_ H
 clear H
 go_enter Tryd.func39, Tryd.ntmps39
 go_wp2_with (first | ((with_reducible refine gate_dst (N := 6) rfl ?_); refine Kd.R_lit Kd.string _ 9 ?hg (N := 6) ?hd (xs := ([] : List ByteArray)) (inner := []) (ok := fun _ => True) (okp := fun _ => True) ?hr ?hp (fun _ hk => hk) trivial (Below.refl _ _) (Nat.le_refl _) (by simp) ?_; (case hd => rfl); (case hg => rfl); (case hr => first | (go_simp; done) | (go_simp; rfl)); (case hp => exact (Reps.none _ _)); intro v102 w2 ho3 hb hg_ hnew_; clear hg_ hnew_; (first | rw [← Ny101.out] at ho3 | (simp only [Int.reduceToNat] at ho3; rw [← Ny101.out] at ho3)); have n0_ := am_ (Kd.R_lower ho3 (below_size qz3_)); have n1_ := am_ (below_step qz3_ hb); clear HB; have HO103 := n0_; have HB := n1_; clear n0_ n1_; clear hb ho3))
 go_loopg [3, 4, 5] k (fun kq v3 v4 v5 w' => ∃ (x3_1 : List ByteArray) (x4_1 : Int) (x5_1 : Int), v4 = .int .i64 x4_1 ∧ v5 = .int .i64 x5_1 ∧ Aside0 (spec_l00Words.l0 kq a0 x3_1 x4_1 x5_1 = some r) ∧ Aside0 (kq ≤ k) ∧ Aside0 (Kd.R Kd.string 9 w' w.heap.size (fun _ => True) v3 x3_1) ∧ Aside0 (Below w.heap.size w w'))
 case atStart => exact ⟨(y101), (0), (0), qz0_, qz0_, H', ⟨Nat.le_refl _⟩, ⟨(by (with_reducible repeat (first | apply Kd.R_alloc | apply Kd.R_drewN | apply Kd.R_drew)); exact HO103.out)⟩, ⟨qz3_⟩⟩
 case round =>
  clear H'
  try clear p2
  try clear c3
  obtain ⟨x3_1, x4_1, x5_1, rfl, rfl, HA, HK1, HO_3, HB⟩ := hrel
  cases gk with
  | zero => exact absurd HA.out (by simp [spec_l00Words.l0])
  | succ k1 =>
   have H := HA.out
   clear HA
   simp only [spec_l00Words.l0] at H
   by_cases c4 : x5_1 ≤ (a0.size : Int)
   ·
    rw [if_pos c4] at H
    have c4b0 : decide (x5_1 ≤ (a0.size : Int)) = true := decide_eq_true c4
    clear c4
    have HC5 := am_ H
    clear H
    go_upto_region 6 with (fail)
    go_cut [22] (fun v22 wc => ∃ (kq : Nat) (x22_4 : Bool), v22 = .bool x22_4 ∧ Aside0 (spec_l00Words.j1 kq a0 x3_1 x4_1 x5_1 x22_4 = some r) ∧ Aside0 (kq ≤ k1) ∧ Aside0 (Kd.R Kd.string 9 wc w.heap.size (fun _ => True) u3 x3_1) ∧ Aside0 (Below w.heap.size w wc))
    case first =>
     have H := HC5.out
     clear HC5
     by_cases c6 : x5_1 = (a0.size : Int)
     ·
      rw [if_pos c6] at H
      have c6b0 : (x5_1 == (a0.size : Int)) = true := beq_iff_eq.mpr c6
      have c6b1 : (x5_1 != (a0.size : Int)) = false := bne_eq_false_iff_eq.mpr c6
      clear c6
      (first | rw [c6b0] | (simp only [i64_w, i32_w]; rw [c6b0]) | skip)
      have H' := am_ H
      clear H
      go_wp2
      go_meet
      case rel => exact ⟨_, (true), qz0_, H', ⟨(by have := HK1.out; first | omega | exact Nat.le_refl _)⟩, ⟨qz9_⟩, ⟨qz3_⟩⟩
     ·
      rw [if_neg c6] at H
      have c6b0 : (x5_1 == (a0.size : Int)) = false := beq_eq_false_iff_ne.mpr c6
      have c6b1 : (x5_1 != (a0.size : Int)) = true := bne_iff_ne.mpr c6
      (first | rw [c6b0] | (simp only [i64_w, i32_w]; rw [c6b0]) | skip)
      by_cases c7 : 0 ≤ x5_1
      ·
       rw [if_pos c7] at H
       have c7b0 : decide (0 ≤ x5_1) = true := decide_eq_true c7
       clear c7
       by_cases c8 : x5_1 < (a0.size : Int)
       ·
        rw [if_pos c8] at H
        have c8b0 : decide (x5_1 < (a0.size : Int)) = true := decide_eq_true c8
        clear c8
        have H' := am_ H
        clear H
        have p9 : 0 ≤ (x5_1 : Int) := of_decide_eq_true qz8_
        have q9 : x5_1 < (a0.size : Int) := of_decide_eq_true qz8_
        have hx9 := bt_at a0 x5_1
        replace p9 := eq_true p9
        replace q9 := eq_true q9
        go_wp2
        go_meet
        case rel => exact ⟨_, (((bt a0 x5_1) == 32)), qz0_, H', ⟨(by have := HK1.out; first | omega | exact Nat.le_refl _)⟩, ⟨qz9_⟩, ⟨qz3_⟩⟩
       ·
        rw [if_neg c8] at H
        exact absurd H (by simp)
      ·
       rw [if_neg c7] at H
       exact absurd H (by simp)
    case rest =>
     clear HC5
     try clear p2
     try clear c3
     try clear c4
     try clear c4b0
     try clear c6
     try clear c6b0
     try clear c6b1
     try clear c7
     try clear c7b0
     try clear c8
     try clear c8b0
     try clear p9
     try clear q9
     try clear hx9
     try clear p2
     try clear p9
     try clear q9
     obtain ⟨kq, x22_4, rfl, HA, HJ4, HO_3, HB⟩ := hcut
     cases kq with
     | zero => exact absurd HA.out (by simp [spec_l00Words.j1])
     | succ kj4 =>
      have H := HA.out
      clear HA
      simp only [spec_l00Words.j1] at H
      by_cases c10 : x22_4 = true
      ·
       subst c10
       have H1 : (if x5_1 > x4_1 then (if 0 ≤ x4_1 then (if x4_1 ≤ x5_1 then (if x5_1 ≤ (a0.size : Int) then (if x3_1.length < 8796093022208 then (spec_l00Words.l0 kj4 a0 (x3_1 ++ [a0.extract (x4_1 : Int).toNat (x5_1 : Int).toNat]) (wrap64 (x5_1 + 1)) (wrap64 (x5_1 + 1))) else (none)) else (none)) else (none)) else (none)) else (spec_l00Words.l0 kj4 a0 x3_1 (wrap64 (x5_1 + 1)) (wrap64 (x5_1 + 1)))) = some r := by rw [if_pos rfl] at H; exact H
       clear H
       have H := H1
       clear H1
       by_cases c11 : x5_1 > x4_1
       ·
        rw [if_pos c11] at H
        have c11b0 : decide (x4_1 < x5_1) = true := decide_eq_true c11
        clear c11
        by_cases c12 : 0 ≤ x4_1
        ·
         rw [if_pos c12] at H
         have c12b0 := eq_true c12
         have c12b1 : decide (0 ≤ x4_1) = true := decide_eq_true c12
         clear c12
         by_cases c13 : x4_1 ≤ x5_1
         ·
          rw [if_pos c13] at H
          have c13b0 := eq_true c13
          have c13b1 : decide (x4_1 ≤ x5_1) = true := decide_eq_true c13
          clear c13
          by_cases c14 : x5_1 ≤ (a0.size : Int)
          ·
           rw [if_pos c14] at H
           have c14b0 := eq_true c14
           have c14b1 : decide (x5_1 ≤ (a0.size : Int)) = true := decide_eq_true c14
           clear c14
           by_cases c15 : x3_1.length < 8796093022208
           ·
            rw [if_pos c15] at H
            have LMc15 := am_ c15
            clear c15
            obtain ⟨y104, hy104⟩ : ∃ y_ : List ByteArray, y_ = (x3_1 ++ [a0.extract (x4_1 : Int).toNat (x5_1 : Int).toNat]) := ⟨_, rfl⟩
            replace H : (spec_l00Words.l0 kj4 a0 y104 (wrap64 (x5_1 + 1)) (wrap64 (x5_1 + 1))) = some r := by first | (rw [hy104]; with_reducible exact H) | (have H2_ := (Option.bind_some _ _).symm.trans H; rw [hy104]; with_reducible exact H2_) | (have H2_ := (Option.bind_some _ _).symm.trans H; with_reducible exact H2_) | with_reducible exact H | (rw [hy104]; exact H) | exact H
            have Ny104 := am_ hy104
            clear hy104
            have H' := am_ H
            clear H
            go_wp2_with (first | ((with_reducible refine gate_builtin (b := .append) (xs := #[.tmp 26, .tmp 31]) rfl ?_); at_builtin; refine Kd.R_append Kd.string (w0 := w) w.heap.size rfl (.tmp 26) (.tmp 31) 40 9 (.string ⟨#[]⟩) 16 rfl Tryd.underlying40 info9 rfl (by decide) (by omega) u3 x3_1 (a0.extract (x4_1 : Int).toNat (x5_1 : Int).toNat) [.string (a0.extract (x4_1 : Int).toNat (x5_1 : Int).toNat)] (fun _ => True) (fun _ => False) rfl rfl ?aP (fun _ hk => hk.elim) ?aF ?aO ?aB ?aS ?aL ?_; (case aP => exact rfl); (case aB => exact qz3_); (case aF => exact (fun _ _ => trivial)); (case aO => exact qz9_); (case aS => exact (below_size qz3_)); (case aL => have := LMc15.out; omega); intro v105 w16 ho hb hg hat; rw [← Ny104.out] at ho; have n0_ := am_ (hb); have n1_ := am_ (ho); clear HB; clear HO_3; have HB := n0_; have HO106 := n1_; clear n0_ n1_; clear ho hb hg hat))
            go_roundg kj4
            case measure => have := HK1.out; have := HJ4.out; omega
            case rel => exact ⟨(y104), (wrap64 (x5_1 + 1)), (wrap64 (x5_1 + 1)), qz0_, qz0_, H', ⟨(by have := HK1.out; have := HJ4.out; omega)⟩, ⟨(by (with_reducible repeat (first | apply Kd.R_alloc | apply Kd.R_drewN | apply Kd.R_drew)); exact HO106.out)⟩, ⟨qz3_⟩⟩
           ·
            rw [if_neg c15] at H
            exact absurd H (by simp)
          ·
           rw [if_neg c14] at H
           exact absurd H (by simp)
         ·
          rw [if_neg c13] at H
          exact absurd H (by simp)
        ·
         rw [if_neg c12] at H
         exact absurd H (by simp)
       ·
        rw [if_neg c11] at H
        have c11b0 : decide (x4_1 < x5_1) = false := decide_eq_false c11
        clear c11
        have H' := am_ H
        clear H
        go_wp2
        go_roundg kj4
        case measure => have := HK1.out; have := HJ4.out; omega
        case rel => exact ⟨(x3_1), (wrap64 (x5_1 + 1)), (wrap64 (x5_1 + 1)), qz0_, qz0_, H', ⟨(by have := HK1.out; have := HJ4.out; omega)⟩, ⟨qz9_⟩, ⟨qz3_⟩⟩
      ·
       replace c10 := Bool.eq_false_iff.mpr c10
       subst c10
       have H1 : (spec_l00Words.l0 kj4 a0 x3_1 x4_1 (wrap64 (x5_1 + 1))) = some r := by rw [if_neg (show ¬ (false = true) by decide)] at H; exact H
       clear H
       have H := H1
       clear H1
       have H' := am_ H
       clear H
       go_wp2
       go_roundg kj4
       case measure => have := HK1.out; have := HJ4.out; omega
       case rel => exact ⟨(x3_1), (x4_1), (wrap64 (x5_1 + 1)), qz0_, qz0_, H', ⟨(by have := HK1.out; have := HJ4.out; omega)⟩, ⟨qz9_⟩, ⟨qz3_⟩⟩
   ·
    rw [if_neg c4] at H
    have c4b0 : decide (x5_1 ≤ (a0.size : Int)) = false := decide_eq_false c4
    clear c4
    obtain rfl := Option.some.inj H
    go_wp2
    go_ret
    exact ⟨_, qz4_, qz9_, qz3_⟩

mutual
def spec_l00Number.j0 : Nat → ByteArray → Int → Bool → Option (Int × Bool)
 | 0, _, _, _ => none
 | k + 1, x0, x4, x14 => if x14 = true then (if 1 ≤ (x0.size : Int) then (spec_l00Number.j1 k (x0.extract 1 x0.size) (-1)) else (none)) else (spec_l00Number.j1 k x0 x4)
def spec_l00Number.j1 : Nat → ByteArray → Int → Option (Int × Bool)
 | 0, _, _ => none
 | k + 1, x0, x4 => if (x0.size : Int) = 0 then (spec_l00Number.j2 k x0 x4 true) else (if (x0.size : Int) > 18 then (spec_l00Number.j2 k x0 x4 true) else (if 0 < (x0.size : Int) then (if (bt x0 0) = 48 then (if (x0.size : Int) > 1 then (spec_l00Number.j2 k x0 x4 true) else (spec_l00Number.j2 k x0 x4 (decide (x4 < 0)))) else (spec_l00Number.j2 k x0 x4 false)) else (none)))
def spec_l00Number.j2 : Nat → ByteArray → Int → Bool → Option (Int × Bool)
 | 0, _, _, _ => none
 | k + 1, x0, x4, x38 => if x38 = true then (some (0, false)) else (spec_l00Number.l0 k x0 x4 0 0)
def spec_l00Number.l0 : Nat → ByteArray → Int → Int → Int → Option (Int × Bool)
 | 0, _, _, _, _ => none
 | k + 1, x0, x4, x5, x6 => if x6 < (x0.size : Int) then (if 0 ≤ x6 then (if (bt x0 x6) < 48 then (some (0, false)) else (if (bt x0 x6) > 57 then (some (0, false)) else (spec_l00Number.l0 k x0 x4 (wrap64 ((wrap64 ((wrap64 (x5 * 10)) + (wrap64 (bt x0 x6)))) - 48)) (wrap64 (x6 + 1))))) else (none)) else (some (wrap64 (x4 * x5), true))
end
def spec_l00Number.f (k : Nat) (a0 : ByteArray) : Option (Int × Bool) := if (a0.size : Int) > 0 then (if 0 < (a0.size : Int) then (spec_l00Number.j0 k a0 1 ((bt a0 0) == 45)) else (none)) else (spec_l00Number.j0 k a0 1 false)
theorem spec_l00Number.mono_l : ∀ k, (∀ y0 y1 y2, LeO (spec_l00Number.j0 k y0 y1 y2) (spec_l00Number.j0 (k + 1) y0 y1 y2)) ∧ (∀ y0 y1, LeO (spec_l00Number.j1 k y0 y1) (spec_l00Number.j1 (k + 1) y0 y1)) ∧ (∀ y0 y1 y2, LeO (spec_l00Number.j2 k y0 y1 y2) (spec_l00Number.j2 (k + 1) y0 y1 y2)) ∧ (∀ y0 y1 y2 y3, LeO (spec_l00Number.l0 k y0 y1 y2 y3) (spec_l00Number.l0 (k + 1) y0 y1 y2 y3))
 | 0 => ⟨fun _ _ _ r h => by simp [spec_l00Number.j0] at h, fun _ _ r h => by simp [spec_l00Number.j1] at h, fun _ _ _ r h => by simp [spec_l00Number.j2] at h, fun _ _ _ _ r h => by simp [spec_l00Number.l0] at h⟩
 | k + 1 => by
  obtain ⟨ih0, ih1, ih2, ih3⟩ := spec_l00Number.mono_l k
  refine ⟨?_, ?_, ?_, ?_⟩
  ·
   intro y0 y1 y2
   unfold spec_l00Number.j0
   repeat' first
   | (with_reducible exact ih0 _ _ _)
   | (with_reducible exact ih1 _ _)
   | (with_reducible exact ih2 _ _ _)
   | (with_reducible exact ih3 _ _ _ _)
   | (with_reducible exact LeO.refl _)
   | (with_reducible exact LeO.none _)
   | (with_reducible refine LeO.ite ?_ ?_)
   | (with_reducible refine LeO.bind ?_ (fun _ => ?_))
   | exact ih0 _ _ _
   | exact ih1 _ _
   | exact ih2 _ _ _
   | exact ih3 _ _ _ _
   | exact LeO.none _
   | refine LeO.ite ?_ ?_
   | refine LeO.bind ?_ (fun _ => ?_)
  ·
   intro y0 y1
   unfold spec_l00Number.j1
   repeat' first
   | (with_reducible exact ih0 _ _ _)
   | (with_reducible exact ih1 _ _)
   | (with_reducible exact ih2 _ _ _)
   | (with_reducible exact ih3 _ _ _ _)
   | (with_reducible exact LeO.refl _)
   | (with_reducible exact LeO.none _)
   | (with_reducible refine LeO.ite ?_ ?_)
   | (with_reducible refine LeO.bind ?_ (fun _ => ?_))
   | exact ih0 _ _ _
   | exact ih1 _ _
   | exact ih2 _ _ _
   | exact ih3 _ _ _ _
   | exact LeO.none _
   | refine LeO.ite ?_ ?_
   | refine LeO.bind ?_ (fun _ => ?_)
  ·
   intro y0 y1 y2
   unfold spec_l00Number.j2
   repeat' first
   | (with_reducible exact ih0 _ _ _)
   | (with_reducible exact ih1 _ _)
   | (with_reducible exact ih2 _ _ _)
   | (with_reducible exact ih3 _ _ _ _)
   | (with_reducible exact LeO.refl _)
   | (with_reducible exact LeO.none _)
   | (with_reducible refine LeO.ite ?_ ?_)
   | (with_reducible refine LeO.bind ?_ (fun _ => ?_))
   | exact ih0 _ _ _
   | exact ih1 _ _
   | exact ih2 _ _ _
   | exact ih3 _ _ _ _
   | exact LeO.none _
   | refine LeO.ite ?_ ?_
   | refine LeO.bind ?_ (fun _ => ?_)
  ·
   intro y0 y1 y2 y3
   unfold spec_l00Number.l0
   repeat' first
   | (with_reducible exact ih0 _ _ _)
   | (with_reducible exact ih1 _ _)
   | (with_reducible exact ih2 _ _ _)
   | (with_reducible exact ih3 _ _ _ _)
   | (with_reducible exact LeO.refl _)
   | (with_reducible exact LeO.none _)
   | (with_reducible refine LeO.ite ?_ ?_)
   | (with_reducible refine LeO.bind ?_ (fun _ => ?_))
   | exact ih0 _ _ _
   | exact ih1 _ _
   | exact ih2 _ _ _
   | exact ih3 _ _ _ _
   | exact LeO.none _
   | refine LeO.ite ?_ ?_
   | refine LeO.bind ?_ (fun _ => ?_)
theorem spec_l00Number.mono : ∀ a0 k, LeO (spec_l00Number.f k a0) (spec_l00Number.f (k + 1) a0) := by
 intro a0 k
 obtain ⟨ih0, ih1, ih2, ih3⟩ := spec_l00Number.mono_l k
 unfold spec_l00Number.f
 repeat' first
   | (with_reducible exact ih0 _ _ _)
   | (with_reducible exact ih1 _ _)
   | (with_reducible exact ih2 _ _ _)
   | (with_reducible exact ih3 _ _ _ _)
   | (with_reducible exact LeO.refl _)
   | (with_reducible exact LeO.none _)
   | (with_reducible refine LeO.ite ?_ ?_)
   | (with_reducible refine LeO.bind ?_ (fun _ => ?_))
   | exact ih0 _ _ _
   | exact ih1 _ _
   | exact ih2 _ _ _
   | exact ih3 _ _ _ _
   | exact LeO.none _
   | refine LeO.ite ?_ ?_
   | refine LeO.bind ?_ (fun _ => ?_)
set_option maxHeartbeats 8000000 in
set_option maxRecDepth 100000 in
theorem spec_l00Number.calls (k : Nat) (a0 : ByteArray) (r1 : Int) (r2 : Bool) (w : World) (h : spec_l00Number.f k a0 = some (r1, r2)) :
  Calls Tryd.prog 40 #[.string a0] w fun e w' => e = .returned (.tuple #[.int .i64 r1, .bool r2]) ∧ Drawn0 w w' := by
 have H : (if (a0.size : Int) > 0 then (if 0 < (a0.size : Int) then (spec_l00Number.j0 k a0 1 ((bt a0 0) == 45)) else (none)) else (spec_l00Number.j0 k a0 1 false)) = some (r1, r2) := h
 clear h
 have HC2 := am_ H
 clear H
 go_enter Tryd.func40, Tryd.ntmps40
 go_upto_region 2 with (fail)
 go_cut [14] (fun v14 wc => ∃ (kq : Nat) (x14_1 : Bool), v14 = .bool x14_1 ∧ Aside0 (spec_l00Number.j0 kq a0 1 x14_1 = some (r1, r2)) ∧ Aside0 (kq ≤ k) ∧ Drawn0 w wc)
 case first =>
  have H := HC2.out
  clear HC2
  by_cases c3 : (a0.size : Int) > 0
  ·
   rw [if_pos c3] at H
   have c3b0 : decide (0 < (a0.size : Int)) = true := decide_eq_true c3
   have c3b1 : decide (0 < a0.size) = true := decide_eq_true (by omega)
   clear c3
   (first | rw [c3b0] | (simp only [i64_w, i32_w]; rw [c3b0]) | skip)
   by_cases c4 : 0 < (a0.size : Int)
   ·
    rw [if_pos c4] at H
    have c4b0 : decide (0 < (a0.size : Int)) = true := decide_eq_true c4
    have c4b1 : decide (0 < a0.size) = true := decide_eq_true (by omega)
    clear c4
    have H' := am_ H
    clear H
    have p5 : 0 ≤ (0 : Int) := (by omega)
    have q5 : 0 < a0.size := (by have : (0 : Int) < (a0.size : Int) := of_decide_eq_true qz8_; omega)
    have hx5 : ∀ h : 0 < a0.size, ((a0[0]'h).toNat : Int) = bt a0 0 := bt_at a0 0
    clear p5
    have qi5 : (0 < (a0.size : Int)) = True := eq_true (of_decide_eq_true qz8_)
    replace q5 := eq_true q5
    go_wp2
    go_meet
    case rel => exact ⟨_, (((bt a0 0) == 45)), qz0_, H', ⟨qz6_⟩, by repeat (first | exact Drawn0.refl _ | apply Drawn0.step)⟩
   ·
    rw [if_neg c4] at H
    exact absurd H (by simp)
  ·
   rw [if_neg c3] at H
   have c3b0 : decide (0 < (a0.size : Int)) = false := decide_eq_false c3
   have c3b1 : decide (0 < a0.size) = false := decide_eq_false (by omega)
   clear c3
   (first | rw [c3b0] | (simp only [i64_w, i32_w]; rw [c3b0]) | skip)
   have H' := am_ H
   clear H
   go_wp2
   go_meet
   case rel => exact ⟨_, (false), qz0_, H', ⟨qz6_⟩, by repeat (first | exact Drawn0.refl _ | apply Drawn0.step)⟩
 case rest =>
  clear HC2
  try clear p2
  try clear c3
  try clear c3b0
  try clear c3b1
  try clear c4
  try clear c4b0
  try clear c4b1
  try clear p5
  try clear q5
  try clear hx5
  try clear qi5
  try clear p5
  try clear q5
  obtain ⟨kq, x14_1, rfl, HA, HJ1, ⟨mc1, rfl⟩⟩ := hcut
  cases kq with
  | zero => exact absurd HA.out (by simp [spec_l00Number.j0])
  | succ kj1 =>
   have H := HA.out
   clear HA
   simp only [spec_l00Number.j0] at H
   have HC6 := am_ H
   clear H
   go_upto_if 14 with (fail)
   go_cut [0, 4] (fun v0 v4 wc => ∃ (kq : Nat) (x0_5 : ByteArray) (x4_5 : Int), v0 = .string x0_5 ∧ v4 = .int .i64 x4_5 ∧ Aside0 (spec_l00Number.j1 kq x0_5 x4_5 = some (r1, r2)) ∧ Aside0 (kq ≤ kj1) ∧ Drawn0 w wc)
   case first =>
    have H := HC6.out
    clear HC6
    by_cases c7 : x14_1 = true
    ·
     subst c7
     have H1 : (if 1 ≤ (a0.size : Int) then (spec_l00Number.j1 kj1 (a0.extract 1 a0.size) (-1)) else (none)) = some (r1, r2) := by rw [if_pos rfl] at H; exact H
     clear H
     have H := H1
     clear H1
     by_cases c8 : 1 ≤ (a0.size : Int)
     ·
      rw [if_pos c8] at H
      have c8b0 := eq_true c8
      have c8b1 : decide (1 ≤ (a0.size : Int)) = true := decide_eq_true c8
      clear c8
      have H' := am_ H
      clear H
      go_wp2
      go_meet
      case rel => exact ⟨_, (a0.extract 1 a0.size), ((-1)), qz0_, qz0_, H', ⟨(by have := HJ1.out; first | omega | exact Nat.le_refl _)⟩, by repeat (first | exact Drawn0.refl _ | apply Drawn0.step)⟩
     ·
      rw [if_neg c8] at H
      exact absurd H (by simp)
    ·
     replace c7 := Bool.eq_false_iff.mpr c7
     subst c7
     have H1 : (spec_l00Number.j1 kj1 a0 1) = some (r1, r2) := by rw [if_neg (show ¬ (false = true) by decide)] at H; exact H
     clear H
     have H := H1
     clear H1
     have H' := am_ H
     clear H
     go_wp2
     go_meet
     case rel => exact ⟨_, (a0), (1), qz0_, qz0_, H', ⟨(by have := HJ1.out; first | omega | exact Nat.le_refl _)⟩, by repeat (first | exact Drawn0.refl _ | apply Drawn0.step)⟩
   case rest =>
    clear HC6
    try clear c1
    try clear p2
    try clear c3
    try clear c3b0
    try clear c3b1
    try clear c4
    try clear c4b0
    try clear c4b1
    try clear p5
    try clear q5
    try clear hx5
    try clear qi5
    try clear c7
    try clear c8
    try clear c8b0
    try clear c8b1
    try clear p2
    try clear p5
    try clear q5
    obtain ⟨kq, x0_5, x4_5, rfl, rfl, HA, HJ5, ⟨mc5, rfl⟩⟩ := hcut
    cases kq with
    | zero => exact absurd HA.out (by simp [spec_l00Number.j1])
    | succ kj5 =>
     have H := HA.out
     clear HA
     simp only [spec_l00Number.j1] at H
     have HC9 := am_ H
     clear H
     go_upto_region 5 with (fail)
     go_cut [38] (fun v38 wc => ∃ (kq : Nat) (x38_8 : Bool), v38 = .bool x38_8 ∧ Aside0 (spec_l00Number.j2 kq x0_5 x4_5 x38_8 = some (r1, r2)) ∧ Aside0 (kq ≤ kj5) ∧ Drawn0 w wc)
     case first =>
      have H := HC9.out
      clear HC9
      by_cases c10 : (x0_5.size : Int) = 0
      ·
       rw [if_pos c10] at H
       have c10b0 : ((x0_5.size : Int) == 0) = true := beq_iff_eq.mpr c10
       have c10b1 : ((x0_5.size : Int) != 0) = false := bne_eq_false_iff_eq.mpr c10
       clear c10
       (first | rw [c10b0] | (simp only [i64_w, i32_w]; rw [c10b0]) | skip)
       have H' := am_ H
       clear H
       go_wp2
       go_meet
       case rel => exact ⟨_, (true), qz0_, H', ⟨(by have := HJ1.out; have := HJ5.out; first | omega | exact Nat.le_refl _)⟩, by repeat (first | exact Drawn0.refl _ | apply Drawn0.step)⟩
      ·
       rw [if_neg c10] at H
       have c10b0 : ((x0_5.size : Int) == 0) = false := beq_eq_false_iff_ne.mpr c10
       have c10b1 : ((x0_5.size : Int) != 0) = true := bne_iff_ne.mpr c10
       (first | rw [c10b0] | (simp only [i64_w, i32_w]; rw [c10b0]) | skip)
       by_cases c11 : (x0_5.size : Int) > 18
       ·
        rw [if_pos c11] at H
        have c11b0 : decide (18 < (x0_5.size : Int)) = true := decide_eq_true c11
        have c11b1 : decide (18 < x0_5.size) = true := decide_eq_true (by omega)
        clear c11
        have H' := am_ H
        clear H
        go_wp2
        go_meet
        case rel => exact ⟨_, (true), qz0_, H', ⟨(by have := HJ1.out; have := HJ5.out; first | omega | exact Nat.le_refl _)⟩, by repeat (first | exact Drawn0.refl _ | apply Drawn0.step)⟩
       ·
        rw [if_neg c11] at H
        have c11b0 : decide (18 < (x0_5.size : Int)) = false := decide_eq_false c11
        have c11b1 : decide (18 < x0_5.size) = false := decide_eq_false (by omega)
        clear c11
        by_cases c12 : 0 < (x0_5.size : Int)
        ·
         rw [if_pos c12] at H
         have c12b0 : decide (0 < (x0_5.size : Int)) = true := decide_eq_true c12
         have c12b1 : decide (0 < x0_5.size) = true := decide_eq_true (by omega)
         clear c12
         by_cases c14 : (bt x0_5 0) = 48
         ·
          rw [if_pos c14] at H
          have c14b0 : ((bt x0_5 0) == 48) = true := beq_iff_eq.mpr c14
          have c14b1 : ((bt x0_5 0) != 48) = false := bne_eq_false_iff_eq.mpr c14
          clear c14
          by_cases c15 : (x0_5.size : Int) > 1
          ·
           rw [if_pos c15] at H
           have c15b0 : decide (1 < (x0_5.size : Int)) = true := decide_eq_true c15
           have c15b1 : decide (1 < x0_5.size) = true := decide_eq_true (by omega)
           clear c15
           have H' := am_ H
           clear H
           have p13 : 0 ≤ (0 : Int) := (by omega)
           have q13 : 0 < x0_5.size := (by have : (0 : Int) < (x0_5.size : Int) := of_decide_eq_true qz8_; omega)
           have hx13 : ∀ h : 0 < x0_5.size, ((x0_5[0]'h).toNat : Int) = bt x0_5 0 := bt_at x0_5 0
           clear p13
           have qi13 : (0 < (x0_5.size : Int)) = True := eq_true (of_decide_eq_true qz8_)
           replace q13 := eq_true q13
           go_wp2
           go_meet
           case rel => exact ⟨_, (true), qz0_, H', ⟨(by have := HJ1.out; have := HJ5.out; first | omega | exact Nat.le_refl _)⟩, by repeat (first | exact Drawn0.refl _ | apply Drawn0.step)⟩
          ·
           rw [if_neg c15] at H
           have c15b0 : decide (1 < (x0_5.size : Int)) = false := decide_eq_false c15
           have c15b1 : decide (1 < x0_5.size) = false := decide_eq_false (by omega)
           clear c15
           have H' := am_ H
           clear H
           have p13 : 0 ≤ (0 : Int) := (by omega)
           have q13 : 0 < x0_5.size := (by have : (0 : Int) < (x0_5.size : Int) := of_decide_eq_true qz8_; omega)
           have hx13 : ∀ h : 0 < x0_5.size, ((x0_5[0]'h).toNat : Int) = bt x0_5 0 := bt_at x0_5 0
           clear p13
           have qi13 : (0 < (x0_5.size : Int)) = True := eq_true (of_decide_eq_true qz8_)
           replace q13 := eq_true q13
           go_wp2
           go_meet
           case rel => exact ⟨_, (decide (x4_5 < 0)), qz0_, H', ⟨(by have := HJ1.out; have := HJ5.out; first | omega | exact Nat.le_refl _)⟩, by repeat (first | exact Drawn0.refl _ | apply Drawn0.step)⟩
         ·
          rw [if_neg c14] at H
          have c14b0 : ((bt x0_5 0) == 48) = false := beq_eq_false_iff_ne.mpr c14
          have c14b1 : ((bt x0_5 0) != 48) = true := bne_iff_ne.mpr c14
          have H' := am_ H
          clear H
          have p13 : 0 ≤ (0 : Int) := (by omega)
          have q13 : 0 < x0_5.size := (by have : (0 : Int) < (x0_5.size : Int) := of_decide_eq_true qz8_; omega)
          have hx13 : ∀ h : 0 < x0_5.size, ((x0_5[0]'h).toNat : Int) = bt x0_5 0 := bt_at x0_5 0
          clear p13
          have qi13 : (0 < (x0_5.size : Int)) = True := eq_true (of_decide_eq_true qz8_)
          replace q13 := eq_true q13
          go_wp2
          go_meet
          case rel => exact ⟨_, (false), qz0_, H', ⟨(by have := HJ1.out; have := HJ5.out; first | omega | exact Nat.le_refl _)⟩, by repeat (first | exact Drawn0.refl _ | apply Drawn0.step)⟩
        ·
         rw [if_neg c12] at H
         exact absurd H (by simp)
     case rest =>
      clear HC9
      try clear c1
      try clear p1
      try clear q1
      try clear hx1
      try clear qi1
      try clear p2
      try clear c3
      try clear c3b0
      try clear c3b1
      try clear c4
      try clear c4b0
      try clear c4b1
      try clear c5
      try clear p5
      try clear q5
      try clear hx5
      try clear qi5
      try clear c7
      try clear c8
      try clear c8b0
      try clear c8b1
      try clear c10
      try clear c10b0
      try clear c10b1
      try clear c11
      try clear c11b0
      try clear c11b1
      try clear c12
      try clear c12b0
      try clear c12b1
      try clear p13
      try clear q13
      try clear hx13
      try clear qi13
      try clear c14
      try clear c14b0
      try clear c14b1
      try clear c15
      try clear c15b0
      try clear c15b1
      try clear p13
      try clear p2
      try clear p5
      try clear q13
      try clear q5
      obtain ⟨kq, x38_8, rfl, HA, HJ8, ⟨mc8, rfl⟩⟩ := hcut
      cases kq with
      | zero => exact absurd HA.out (by simp [spec_l00Number.j2])
      | succ kj8 =>
       have H := HA.out
       clear HA
       simp only [spec_l00Number.j2] at H
       by_cases c16 : x38_8 = true
       ·
        subst c16
        have H1 : (some (0, false)) = some (r1, r2) := by rw [if_pos rfl] at H; exact H
        clear H
        have H := H1
        clear H1
        simp only [Option.some.injEq, Prod.mk.injEq] at H
        obtain ⟨rfl, rfl⟩ := H
        go_wp2
        go_ret2
        exact ⟨qz0_, qz1_⟩
       ·
        replace c16 := Bool.eq_false_iff.mpr c16
        subst c16
        have H1 : (spec_l00Number.l0 kj8 x0_5 x4_5 0 0) = some (r1, r2) := by rw [if_neg (show ¬ (false = true) by decide)] at H; exact H
        clear H
        have H := H1
        clear H1
        have H' := am_ H
        clear H
        go_wp2
        go_loopg [5, 6] kj8 (fun kq v5 v6 w' => ∃ (x5_4 : Int) (x6_4 : Int), v5 = .int .i64 x5_4 ∧ v6 = .int .i64 x6_4 ∧ Aside0 (spec_l00Number.l0 kq x0_5 x4_5 x5_4 x6_4 = some (r1, r2)) ∧ Aside0 (kq ≤ kj8) ∧ Drawn0 w w')
        case atStart => exact ⟨(0), (0), qz0_, qz0_, H', ⟨Nat.le_refl _⟩, by repeat (first | exact Drawn0.refl _ | apply Drawn0.step)⟩
        case round =>
         clear H'
         try clear c1
         try clear p1
         try clear q1
         try clear hx1
         try clear qi1
         try clear p2
         try clear c3
         try clear c3b0
         try clear c3b1
         try clear c4
         try clear c4b0
         try clear c4b1
         try clear c5
         try clear p5
         try clear q5
         try clear hx5
         try clear qi5
         try clear c7
         try clear c8
         try clear c8b0
         try clear c8b1
         try clear c10
         try clear c10b0
         try clear c10b1
         try clear c11
         try clear c11b0
         try clear c11b1
         try clear c12
         try clear c12b0
         try clear c12b1
         try clear p13
         try clear q13
         try clear hx13
         try clear qi13
         try clear c14
         try clear c14b0
         try clear c14b1
         try clear c15
         try clear c15b0
         try clear c15b1
         try clear c16
         try clear p1
         try clear p13
         try clear p2
         try clear p5
         try clear q1
         try clear q13
         try clear q5
         obtain ⟨x5_4, x6_4, rfl, rfl, HA, HK4, ⟨m4, rfl⟩⟩ := hrel
         cases gk with
         | zero => exact absurd HA.out (by simp [spec_l00Number.l0])
         | succ k4 =>
          have H := HA.out
          clear HA
          simp only [spec_l00Number.l0] at H
          by_cases c17 : x6_4 < (x0_5.size : Int)
          ·
           rw [if_pos c17] at H
           have c17b0 : decide (x6_4 < (x0_5.size : Int)) = true := decide_eq_true c17
           clear c17
           by_cases c18 : 0 ≤ x6_4
           ·
            rw [if_pos c18] at H
            have c18b0 : decide (0 ≤ x6_4) = true := decide_eq_true c18
            clear c18
            by_cases c20 : (bt x0_5 x6_4) < 48
            ·
             rw [if_pos c20] at H
             have c20b0 : decide ((bt x0_5 x6_4) < 48) = true := decide_eq_true c20
             clear c20
             simp only [Option.some.injEq, Prod.mk.injEq] at H
             obtain ⟨rfl, rfl⟩ := H
             have p19 : 0 ≤ (x6_4 : Int) := of_decide_eq_true qz8_
             have q19 : x6_4 < (x0_5.size : Int) := of_decide_eq_true qz8_
             have hx19 := bt_at x0_5 x6_4
             replace p19 := eq_true p19
             replace q19 := eq_true q19
             go_wp2
             go_ret2
             exact ⟨qz0_, qz1_⟩
            ·
             rw [if_neg c20] at H
             have c20b0 : decide ((bt x0_5 x6_4) < 48) = false := decide_eq_false c20
             clear c20
             by_cases c22 : (bt x0_5 x6_4) > 57
             ·
              rw [if_pos c22] at H
              have c22b0 : decide (57 < (bt x0_5 x6_4)) = true := decide_eq_true c22
              clear c22
              simp only [Option.some.injEq, Prod.mk.injEq] at H
              obtain ⟨rfl, rfl⟩ := H
              have p19 : 0 ≤ (x6_4 : Int) := of_decide_eq_true qz8_
              have q19 : x6_4 < (x0_5.size : Int) := of_decide_eq_true qz8_
              have hx19 := bt_at x0_5 x6_4
              replace p19 := eq_true p19
              replace q19 := eq_true q19
              have p21 : 0 ≤ (x6_4 : Int) := of_decide_eq_true qz8_
              have q21 : x6_4 < (x0_5.size : Int) := of_decide_eq_true qz8_
              have hx21 := bt_at x0_5 x6_4
              replace p21 := eq_true p21
              replace q21 := eq_true q21
              go_wp2
              go_ret2
              exact ⟨qz0_, qz1_⟩
             ·
              rw [if_neg c22] at H
              have c22b0 : decide (57 < (bt x0_5 x6_4)) = false := decide_eq_false c22
              clear c22
              have H' := am_ H
              clear H
              have p19 : 0 ≤ (x6_4 : Int) := of_decide_eq_true qz8_
              have q19 : x6_4 < (x0_5.size : Int) := of_decide_eq_true qz8_
              have hx19 := bt_at x0_5 x6_4
              replace p19 := eq_true p19
              replace q19 := eq_true q19
              have p21 : 0 ≤ (x6_4 : Int) := of_decide_eq_true qz8_
              have q21 : x6_4 < (x0_5.size : Int) := of_decide_eq_true qz8_
              have hx21 := bt_at x0_5 x6_4
              replace p21 := eq_true p21
              replace q21 := eq_true q21
              have p23 : 0 ≤ (x6_4 : Int) := of_decide_eq_true qz8_
              have q23 : x6_4 < (x0_5.size : Int) := of_decide_eq_true qz8_
              have hx23 := bt_at x0_5 x6_4
              replace p23 := eq_true p23
              replace q23 := eq_true q23
              go_wp2
              go_roundg k4
              case measure => have := HJ1.out; have := HJ5.out; have := HJ8.out; have := HK4.out; omega
              case rel => exact ⟨(wrap64 ((wrap64 ((wrap64 (x5_4 * 10)) + (wrap64 (bt x0_5 x6_4)))) - 48)), (wrap64 (x6_4 + 1)), qz0_, qz0_, H', ⟨(by have := HJ1.out; have := HJ5.out; have := HJ8.out; have := HK4.out; omega)⟩, by repeat (first | exact Drawn0.refl _ | apply Drawn0.step)⟩
           ·
            rw [if_neg c18] at H
            exact absurd H (by simp)
          ·
           rw [if_neg c17] at H
           have c17b0 : decide (x6_4 < (x0_5.size : Int)) = false := decide_eq_false c17
           clear c17
           simp only [Option.some.injEq, Prod.mk.injEq] at H
           obtain ⟨rfl, rfl⟩ := H
           go_wp2
           go_ret2
           exact ⟨qz0_, qz1_⟩

end Go.Proofs.YtokljkneflejdaaDoor.PT
end
section
namespace Go.Proofs.YtokljkneflejdaaDoor.PT
open Go.RowKit Go.Proofs.YtokljkneflejdaaDoorW.PrintWords Go.Proofs.YtokljkneflejdaaDoorW.PrintLast Go.Proofs.YtokljkneflejdaaDoorW.PrintMore
attribute [local go_sem] max2_int min2_int max_two min_two max_three min_three max_four min_four   -- for this text's walks alone
set_option linter.unusedVariables false
set_option linter.unusedSimpArgs false
mutual
def spec_l11Read.l0 : Nat → List ByteArray → List ByteArray → Int → Int → Int → Int → Int → Option (Int × Int × Int × Int × Bool)
 | 0, _, _, _, _, _, _, _ => none
 | k + 1, x4, x6, x7, x106000, x106001, x106002, x106003 => if x7 < (x6.length : Int) then (if 0 ≤ x7 then (if 0 < (x4.length : Int) then (if (rdOf ByteArray.empty x6 x7).toList = (rdOf ByteArray.empty x4 0).toList then (spec_l11Read.l0 k x4 x6 (wrap64 (x7 + 1)) x7 x106001 x106002 x106003) else (spec_l11Read.l0 k x4 x6 (wrap64 (x7 + 1)) x106000 x106001 x106002 x106003)) else (none)) else (none)) else (spec_l11Read.l1 k x4 (([] : List Int)) 1 x106000 x106001 x106002 x106003)
def spec_l11Read.l1 : Nat → List ByteArray → List Int → Int → Int → Int → Int → Int → Option (Int × Int × Int × Int × Bool)
 | 0, _, _, _, _, _, _, _ => none
 | k + 1, x4, x8, x9, x106000, x106001, x106002, x106003 => if x9 < (x4.length : Int) then (if 0 ≤ x9 then ((spec_l00Number.f k (rdOf ByteArray.empty x4 x9)).bind fun bt115 => (if bt115.2 = true then (if x8.length < 17592186044416 then (spec_l11Read.l1 k x4 (x8 ++ [bt115.1]) (wrap64 (x9 + 1)) x106000 x106001 x106002 x106003) else (none)) else (some (0, 0, 0, 0, false)))) else (none)) else ((spec_l11Uses.f x106000).bind fun t120 => ((spec_l01Bit.f (x106000 == 3)).bind fun t121 => (if x106000 = 0 then (spec_l11Read.j2 k x8 (wrap64 (t120 + t121)) true x106000 x106001 x106002 x106003) else (spec_l11Read.j2 k x8 (wrap64 (t120 + t121)) ((x8.length : Int) != (wrap64 (t120 + t121))) x106000 x106001 x106002 x106003))))
def spec_l11Read.j2 : Nat → List Int → Int → Bool → Int → Int → Int → Int → Option (Int × Int × Int × Int × Bool)
 | 0, _, _, _, _, _, _, _ => none
 | k + 1, x8, x12, x75, x106000, x106001, x106002, x106003 => if x75 = true then (some (0, 0, 0, 0, false)) else (if x106000 = 3 then (if 0 < (x8.length : Int) then ((spec_l11Gate.f k x106000 x106001 x106002 (rd x8 0) 15).bind fun t123 => (some (x106000, x106001, x106002, rd x8 0, t123))) else (none)) else (if x12 = 2 then (if 0 < (x8.length : Int) then (if 1 < (x8.length : Int) then ((spec_l11Gate.f k x106000 (rd x8 0) (rd x8 1) x106003 15).bind fun t126 => (some (x106000, rd x8 0, rd x8 1, x106003, t126))) else (none)) else (none)) else (if x12 = 1 then (if 0 < (x8.length : Int) then ((spec_l11Gate.f k x106000 (rd x8 0) x106002 x106003 15).bind fun t128 => (some (x106000, rd x8 0, x106002, x106003, t128))) else (none)) else ((spec_l11Gate.f k x106000 x106001 x106002 x106003 15).bind fun t129 => (some (x106000, x106001, x106002, x106003, t129))))))
end
def spec_l11Read.f (k : Nat) (a0 : ByteArray) : Option (Int × Int × Int × Int × Bool) := (spec_l00Words.f k a0).bind fun t102 => (if (t102.length : Int) = 0 then (some (0, 0, 0, 0, false)) else ((spec_l11Names.f).bind fun t106 => (spec_l11Read.l0 k t102 t106 1 0 0 0 0)))
theorem spec_l11Read.mono_l : ∀ k, (∀ y0 y1 y2 y3 y4 y5 y6, LeO (spec_l11Read.l0 k y0 y1 y2 y3 y4 y5 y6) (spec_l11Read.l0 (k + 1) y0 y1 y2 y3 y4 y5 y6)) ∧ (∀ y0 y1 y2 y3 y4 y5 y6, LeO (spec_l11Read.l1 k y0 y1 y2 y3 y4 y5 y6) (spec_l11Read.l1 (k + 1) y0 y1 y2 y3 y4 y5 y6)) ∧ (∀ y0 y1 y2 y3 y4 y5 y6, LeO (spec_l11Read.j2 k y0 y1 y2 y3 y4 y5 y6) (spec_l11Read.j2 (k + 1) y0 y1 y2 y3 y4 y5 y6))
 | 0 => ⟨fun _ _ _ _ _ _ _ r h => by simp [spec_l11Read.l0] at h, fun _ _ _ _ _ _ _ r h => by simp [spec_l11Read.l1] at h, fun _ _ _ _ _ _ _ r h => by simp [spec_l11Read.j2] at h⟩
 | k + 1 => by
  obtain ⟨ih0, ih1, ih2⟩ := spec_l11Read.mono_l k
  refine ⟨?_, ?_, ?_⟩
  ·
   intro y0 y1 y2 y3 y4 y5 y6
   unfold spec_l11Read.l0
   repeat' first
   | (with_reducible exact ih0 _ _ _ _ _ _ _)
   | (with_reducible exact ih1 _ _ _ _ _ _ _)
   | (with_reducible exact ih2 _ _ _ _ _ _ _)
   | (with_reducible exact spec_l00Number.mono _ _)
   | (with_reducible exact spec_l00Words.mono _ _)
   | (with_reducible exact spec_l11Gate.mono _ _ _ _ _ _)
   | (with_reducible exact LeO.refl _)
   | (with_reducible exact LeO.none _)
   | (with_reducible refine LeO.ite ?_ ?_)
   | (with_reducible refine LeO.bind ?_ (fun _ => ?_))
   | exact ih0 _ _ _ _ _ _ _
   | exact ih1 _ _ _ _ _ _ _
   | exact ih2 _ _ _ _ _ _ _
   | exact spec_l00Number.mono _ _
   | exact spec_l00Words.mono _ _
   | exact spec_l11Gate.mono _ _ _ _ _ _
   | exact LeO.none _
   | refine LeO.ite ?_ ?_
   | refine LeO.bind ?_ (fun _ => ?_)
  ·
   intro y0 y1 y2 y3 y4 y5 y6
   unfold spec_l11Read.l1
   repeat' first
   | (with_reducible exact ih0 _ _ _ _ _ _ _)
   | (with_reducible exact ih1 _ _ _ _ _ _ _)
   | (with_reducible exact ih2 _ _ _ _ _ _ _)
   | (with_reducible exact spec_l00Number.mono _ _)
   | (with_reducible exact spec_l00Words.mono _ _)
   | (with_reducible exact spec_l11Gate.mono _ _ _ _ _ _)
   | (with_reducible exact LeO.refl _)
   | (with_reducible exact LeO.none _)
   | (with_reducible refine LeO.ite ?_ ?_)
   | (with_reducible refine LeO.bind ?_ (fun _ => ?_))
   | exact ih0 _ _ _ _ _ _ _
   | exact ih1 _ _ _ _ _ _ _
   | exact ih2 _ _ _ _ _ _ _
   | exact spec_l00Number.mono _ _
   | exact spec_l00Words.mono _ _
   | exact spec_l11Gate.mono _ _ _ _ _ _
   | exact LeO.none _
   | refine LeO.ite ?_ ?_
   | refine LeO.bind ?_ (fun _ => ?_)
  ·
   intro y0 y1 y2 y3 y4 y5 y6
   unfold spec_l11Read.j2
   repeat' first
   | (with_reducible exact ih0 _ _ _ _ _ _ _)
   | (with_reducible exact ih1 _ _ _ _ _ _ _)
   | (with_reducible exact ih2 _ _ _ _ _ _ _)
   | (with_reducible exact spec_l00Number.mono _ _)
   | (with_reducible exact spec_l00Words.mono _ _)
   | (with_reducible exact spec_l11Gate.mono _ _ _ _ _ _)
   | (with_reducible exact LeO.refl _)
   | (with_reducible exact LeO.none _)
   | (with_reducible refine LeO.ite ?_ ?_)
   | (with_reducible refine LeO.bind ?_ (fun _ => ?_))
   | exact ih0 _ _ _ _ _ _ _
   | exact ih1 _ _ _ _ _ _ _
   | exact ih2 _ _ _ _ _ _ _
   | exact spec_l00Number.mono _ _
   | exact spec_l00Words.mono _ _
   | exact spec_l11Gate.mono _ _ _ _ _ _
   | exact LeO.none _
   | refine LeO.ite ?_ ?_
   | refine LeO.bind ?_ (fun _ => ?_)
theorem spec_l11Read.mono : ∀ a0 k, LeO (spec_l11Read.f k a0) (spec_l11Read.f (k + 1) a0) := by
 intro a0 k
 obtain ⟨ih0, ih1, ih2⟩ := spec_l11Read.mono_l k
 unfold spec_l11Read.f
 repeat' first
   | (with_reducible exact ih0 _ _ _ _ _ _ _)
   | (with_reducible exact ih1 _ _ _ _ _ _ _)
   | (with_reducible exact ih2 _ _ _ _ _ _ _)
   | (with_reducible exact spec_l00Number.mono _ _)
   | (with_reducible exact spec_l00Words.mono _ _)
   | (with_reducible exact spec_l11Gate.mono _ _ _ _ _ _)
   | (with_reducible exact LeO.refl _)
   | (with_reducible exact LeO.none _)
   | (with_reducible refine LeO.ite ?_ ?_)
   | (with_reducible refine LeO.bind ?_ (fun _ => ?_))
   | exact ih0 _ _ _ _ _ _ _
   | exact ih1 _ _ _ _ _ _ _
   | exact ih2 _ _ _ _ _ _ _
   | exact spec_l00Number.mono _ _
   | exact spec_l00Words.mono _ _
   | exact spec_l11Gate.mono _ _ _ _ _ _
   | exact LeO.none _
   | refine LeO.ite ?_ ?_
   | refine LeO.bind ?_ (fun _ => ?_)
def spec_l11Read.T9 : Bool × List (List Nat × List Nat) := (true, [([], []), ([], []), ([0, 1], [0, 1]), ([2], [2]), ([], []), ([4], [4]), ([5], [5]), ([3, 6], [3, 6])])
def spec_l11Read.B9 : List Nat := [0, 0, 3, 7, 0, 16, 48, 127]
theorem spec_l11Read.tab9 : rtab .any (opsOf Tryd.f24 9) = spec_l11Read.T9 := by kernel_rfl
theorem spec_l11Read.bits9 : waitsOk spec_l11Read.T9.2 spec_l11Read.B9 = true := by kernel_rfl
def spec_l11Read.T19 : Bool × List (List Nat × List Nat) := (true, [([], []), ([0], [0]), ([1], [1]), ([], []), ([3], [3]), ([4], [4]), ([5, 2], [5]), ([2, 6], [2, 6]), ([7, 6, 0, 1, 2, 3, 4, 5, 6, 7], [7])])
def spec_l11Read.B19 : List Nat := [0, 1, 3, 0, 8, 24, 63, 127, 255]
theorem spec_l11Read.tab19 : rtab .any (opsOf Tryd.f24 19) = spec_l11Read.T19 := by kernel_rfl
theorem spec_l11Read.bits19 : waitsOk spec_l11Read.T19.2 spec_l11Read.B19 = true := by kernel_rfl
set_option maxHeartbeats 8000000 in
set_option maxRecDepth 100000 in
theorem spec_l11Read.calls (k : Nat) (a0 : ByteArray) (r1 : Int) (r2 : Int) (r3 : Int) (r4 : Int) (r5 : Bool) (w : World) (h : spec_l11Read.f k a0 = some (r1, r2, r3, r4, r5)) :
  Calls Tryd.prog 24 #[.string a0] w fun e w' => e = .returned (.tuple #[.agg #[.int .i64 r1, .int .i64 r2, .int .i64 r3, .int .i64 r4], .bool r5]) ∧ Below w.heap.size w w' := by
 have hu30 := Tryd.underlying30
 have HB := am_ (Below.refl w.heap.size w)
 have H : ((spec_l00Words.f k a0).bind fun t102 => (if (t102.length : Int) = 0 then (some (0, 0, 0, 0, false)) else ((spec_l11Names.f).bind fun t106 => (spec_l11Read.l0 k t102 t106 1 0 0 0 0)))) = some (r1, r2, r3, r4, r5) := h
 clear h
 replace H := Option.bind_eq_some_iff.mp H
 obtain ⟨t102, A20, H⟩ := H
 replace H : (if (t102.length : Int) = 0 then (some (0, 0, 0, 0, false)) else ((spec_l11Names.f).bind fun t106 => (spec_l11Read.l0 k t102 t106 1 0 0 0 0))) = some (r1, r2, r3, r4, r5) := H
 have A2 := am_ A20
 clear A20
 by_cases c3 : (t102.length : Int) = 0
 ·
  rw [if_pos c3] at H
  have c3b0 : ((t102.length : Int) == 0) = true := beq_iff_eq.mpr c3
  have c3b1 : ((t102.length : Int) != 0) = false := bne_eq_false_iff_eq.mpr c3
  clear c3
  simp only [Option.some.injEq, Prod.mk.injEq] at H
  obtain ⟨rfl, rfl, rfl, rfl, rfl⟩ := H
  go_enter Tryd.func24, Tryd.ntmps24
  go_wp2_with (first | ((with_reducible refine gate_dst (N := 2) rfl ?_); (try (refine gate_guard (by rfl) ?_; dsimp only)); refine box_event ?hg (N := 2) ?hd (cs := #[.int .i64 0, .int .i64 0, .int .i64 0, .int .i64 0]) (t := 30) ?hr ?_; (case hd => rfl); (case hg => rfl); (case hr => first | (go_simp; done) | (go_simp; rfl)); intro gb101 hg w4 hbox hb; have n0_ := am_ (below_step qz3_ hb); have n1_ := am_ (hbox); have n2_ := am_ ((by rw [hg]; exact (below_size qz3_) : w.heap.size ≤ gb101)); have n3_ := am_ ((by rw [hg]; exact (below_size qz3_) : w.heap.size ≤ gb101)); clear HB; have HB := n0_; have BK101 := n1_; have GW101 := n2_; have GE101 := n3_; clear n0_ n1_ n2_ n3_; clear hb hbox hg) | ((with_reducible refine gate_callee (f := 39) rfl ?_); refine goesL_ (some 14) rfl rfl Tryd.func39 (by kernel_rfl) rfl #[.string a0] rfl qz2_ ?_; (with_reducible refine (spec_l00Words.calls k a0 t102 _ A2.out).mono ?_); rintro e w5 ⟨v103, rfl, ho0, hb⟩; refine ⟨_, rfl, ?_⟩; have n0_ := am_ (Kd.R_lower ho0 (below_size qz5_)); have n1_ := am_ (blk_below (g := gb101) (o := .cells #[.int .i64 0, .int .i64 0, .int .i64 0, .int .i64 0] 30 (0, 0)) qz7_ hb); have n2_ := am_ (below_step qz5_ hb); clear BK101; clear HB; have HO104 := n0_; have BK101 := n1_; have HB := n2_; clear n0_ n1_ n2_; (try clear hb); (try clear hb2); (try clear hk); (try clear hi); (try clear ho0); obtain ⟨Ao6, co6, eo6⟩ := Kd.R_slice HO104.out; subst eo6; have hcz7_0 : w5.cell? ⟨gb101, 0, none⟩ = some (.int .i64 0) := (blk_cell BK101.out 0).trans rfl; have hcz7_1 : w5.cell? ⟨gb101, 1, none⟩ = some (.int .i64 0) := (blk_cell BK101.out 1).trans rfl; have hcz7_2 : w5.cell? ⟨gb101, 2, none⟩ = some (.int .i64 0) := (blk_cell BK101.out 2).trans rfl; have hcz7_3 : w5.cell? ⟨gb101, 3, none⟩ = some (.int .i64 0) := (blk_cell BK101.out 3).trans rfl; have hfz7_0 := blk_frozen BK101.out 0; have hfz7_1 := blk_frozen BK101.out 1; have hfz7_2 := blk_frozen BK101.out 2; have hfz7_3 := blk_frozen BK101.out 3))
  refine bodyPost_ret (results_ct rfl _ _ gb101 30 #[.int .i64 0, .int .i64 0, .int .i64 0, .int .i64 0] (0, 0) _ rfl qz10_ Tryd.underlying30 rfl (by kernel_rfl)) rfl ?_
  exact ⟨qz4_, qz5_⟩
 ·
  rw [if_neg c3] at H
  have c3b0 : ((t102.length : Int) == 0) = false := beq_eq_false_iff_ne.mpr c3
  have c3b1 : ((t102.length : Int) != 0) = true := bne_iff_ne.mpr c3
  have c3b2 : ¬ (t102 = []) := fun h_ => c3 (by rw [h_]; rfl)
  replace H := Option.bind_eq_some_iff.mp H
  obtain ⟨t106, A80, H⟩ := H
  replace H : (spec_l11Read.l0 k t102 t106 1 0 0 0 0) = some (r1, r2, r3, r4, r5) := H
  have A8 := am_ A80
  clear A80
  have H' := am_ H
  clear H
  go_enter Tryd.func24, Tryd.ntmps24
  go_wp2_with (first | ((with_reducible refine gate_dst (N := 2) rfl ?_); (try (refine gate_guard (by rfl) ?_; dsimp only)); refine box_event ?hg (N := 2) ?hd (cs := #[.int .i64 0, .int .i64 0, .int .i64 0, .int .i64 0]) (t := 30) ?hr ?_; (case hd => rfl); (case hg => rfl); (case hr => first | (go_simp; done) | (go_simp; rfl)); intro gb101 hg w9 hbox hb; have n0_ := am_ (below_step qz3_ hb); have n1_ := am_ (hbox); have n2_ := am_ ((by rw [hg]; exact (below_size qz3_) : w.heap.size ≤ gb101)); have n3_ := am_ ((by rw [hg]; exact (below_size qz3_) : w.heap.size ≤ gb101)); clear HB; have HB := n0_; have BK101 := n1_; have GW101 := n2_; have GE101 := n3_; clear n0_ n1_ n2_ n3_; clear hb hbox hg) | ((with_reducible refine gate_callee (f := 39) rfl ?_); refine goesL_ (some 14) rfl rfl Tryd.func39 (by kernel_rfl) rfl #[.string a0] rfl qz2_ ?_; (with_reducible refine (spec_l00Words.calls k a0 t102 _ A2.out).mono ?_); rintro e w10 ⟨v103, rfl, ho0, hb⟩; refine ⟨_, rfl, ?_⟩; have n0_ := am_ (Kd.R_lower ho0 (below_size qz5_)); have n1_ := am_ (blk_below (g := gb101) (o := .cells #[.int .i64 0, .int .i64 0, .int .i64 0, .int .i64 0] 30 (0, 0)) qz7_ hb); have n2_ := am_ (below_step qz5_ hb); clear BK101; clear HB; have HO104 := n0_; have BK101 := n1_; have HB := n2_; clear n0_ n1_ n2_; (try clear hb); (try clear hb2); (try clear hk); (try clear hi); (try clear ho0); obtain ⟨Ao11, co11, eo11⟩ := Kd.R_slice HO104.out; subst eo11) | ((with_reducible refine gate_dst (N := 5) rfl ?_); (try (refine gate_guard (by rfl) ?_; dsimp only)); refine box_event ?hg (N := 5) ?hd (cs := #[.int .i64 0, .int .i64 0, .int .i64 0, .int .i64 0]) (t := 30) ?hr ?_; (case hd => rfl); (case hg => rfl); (case hr => first | (go_simp; done) | (go_simp; rfl)); intro gb105 hg w12 hbox hb; have n0_ := am_ (Kd.R_below (by (with_reducible repeat (first | apply Kd.R_alloc | apply Kd.R_drewN | apply Kd.R_drew)); exact HO104.out) hb); have n1_ := am_ (blk_below (g := gb101) (o := .cells #[.int .i64 0, .int .i64 0, .int .i64 0, .int .i64 0] 30 (0, 0)) qz7_ hb); have n2_ := am_ (below_step qz5_ hb); have n3_ := am_ (hbox); have n4_ := am_ ((by rw [hg]; exact (below_size qz5_) : w.heap.size ≤ gb105)); have n5_ := am_ ((by rw [hg]; exact (below_size qz5_) : w.heap.size ≤ gb105)); have n6_ := am_ ((by rw [hg]; exact Nat.ne_of_lt (blk_lt (g := gb101) (o := .cells #[.int .i64 0, .int .i64 0, .int .i64 0, .int .i64 0] 30 (0, 0)) qz7_) : gb101 ≠ gb105)); have n7_ := am_ ((by rw [hg]; exact Nat.ne_of_gt (blk_lt (g := gb101) (o := .cells #[.int .i64 0, .int .i64 0, .int .i64 0, .int .i64 0] 30 (0, 0)) qz7_) : gb105 ≠ gb101)); clear HO104; clear BK101; clear HB; have HO104 := n0_; have BK101 := n1_; have HB := n2_; have BK105 := n3_; have GW105 := n4_; have GE105 := n5_; have NB101_105 := n6_; have NB105_101 := n7_; clear n0_ n1_ n2_ n3_ n4_ n5_ n6_ n7_; clear hb hbox hg; have hnb13 := NB105_101.out; have hnc13 := NB101_105.out; have hcz14_0 : w12.cell? ⟨gb105, 0, none⟩ = some (.int .i64 0) := (blk_cell BK105.out 0).trans rfl; have hcz14_1 : w12.cell? ⟨gb105, 1, none⟩ = some (.int .i64 0) := (blk_cell BK105.out 1).trans rfl; have hcz14_2 : w12.cell? ⟨gb105, 2, none⟩ = some (.int .i64 0) := (blk_cell BK105.out 2).trans rfl; have hcz14_3 : w12.cell? ⟨gb105, 3, none⟩ = some (.int .i64 0) := (blk_cell BK105.out 3).trans rfl; have hfz14_0 := blk_frozen BK105.out 0; have hfz14_1 := blk_frozen BK105.out 1; have hfz14_2 := blk_frozen BK105.out 2; have hfz14_3 := blk_frozen BK105.out 3) | ((with_reducible refine gate_callee (f := 18) rfl ?_); refine goesL_ (some 20) rfl rfl Tryd.func18 (by kernel_rfl) rfl #[] rfl qz2_ ?_; (with_reducible refine (spec_l11Names.calls  t106 _ A8.out).mono ?_); rintro e w15 ⟨v107, rfl, ho0, hb⟩; refine ⟨_, rfl, ?_⟩; have n0_ := am_ (Kd.R_elder' (by (with_reducible repeat (first | apply Kd.R_alloc | apply Kd.R_drewN | apply Kd.R_drew)); exact (Kd.R_mono (Kd.R_far (p := ⟨gb105, 3, none⟩) (Kd.R_far (p := ⟨gb105, 2, none⟩) (Kd.R_far (p := ⟨gb105, 1, none⟩) (Kd.R_far (p := ⟨gb105, 0, none⟩) (Kd.R_types HO104.out BK105.out (by decide)) (fun _ hk => hk.2) (.int .i64 0)) (fun _ hk => hk.2) (.int .i64 0)) (fun _ hk => hk.2) (.int .i64 0)) (fun _ hk => hk.2) (.int .i64 0)) (fun _ h_ => h_.1))) (Kd.R_base ho0) hb); have n1_ := am_ (Kd.R_lower (Kd.R_new' ho0 (Kd.R_lt (by (with_reducible repeat (first | apply Kd.R_alloc | apply Kd.R_drewN | apply Kd.R_drew)); exact (Kd.R_mono (Kd.R_far (p := ⟨gb105, 3, none⟩) (Kd.R_far (p := ⟨gb105, 2, none⟩) (Kd.R_far (p := ⟨gb105, 1, none⟩) (Kd.R_far (p := ⟨gb105, 0, none⟩) (Kd.R_types HO104.out BK105.out (by decide)) (fun _ hk => hk.2) (.int .i64 0)) (fun _ hk => hk.2) (.int .i64 0)) (fun _ hk => hk.2) (.int .i64 0)) (fun _ hk => hk.2) (.int .i64 0)) (fun _ h_ => h_.1))))) (below_size qz11_)); have n2_ := am_ (blk_below (g := gb101) (o := .cells #[.int .i64 0, .int .i64 0, .int .i64 0, .int .i64 0] 30 (0, 0)) (by (with_reducible repeat (first | refine blk_drewN ?_ _ | refine blk_drew ?_ | refine blk_alloc ?_ _)); refine blk_far ?_ NB101_105.out _; (with_reducible repeat (first | refine blk_drewN ?_ _ | refine blk_drew ?_ | refine blk_alloc ?_ _)); refine blk_far ?_ NB101_105.out _; (with_reducible repeat (first | refine blk_drewN ?_ _ | refine blk_drew ?_ | refine blk_alloc ?_ _)); refine blk_far ?_ NB101_105.out _; (with_reducible repeat (first | refine blk_drewN ?_ _ | refine blk_drew ?_ | refine blk_alloc ?_ _)); refine blk_far ?_ NB101_105.out _; (with_reducible repeat (first | refine blk_drewN ?_ _ | refine blk_drew ?_ | refine blk_alloc ?_ _)); exact BK101.out) hb); have n3_ := am_ (blk_below (g := gb105) (o := .cells #[.int .i64 0, .int .i64 0, .int .i64 0, .int .i64 0] 30 (0, 0)) (by (with_reducible repeat (first | refine blk_drewN ?_ _ | refine blk_drew ?_ | refine blk_alloc ?_ _)); refine blk_put (cs := #[.int .i64 0, .int .i64 0, .int .i64 0, .int .i64 0]) ?_ 3 _ rfl; (with_reducible repeat (first | refine blk_drewN ?_ _ | refine blk_drew ?_ | refine blk_alloc ?_ _)); refine blk_put (cs := #[.int .i64 0, .int .i64 0, .int .i64 0, .int .i64 0]) ?_ 2 _ rfl; (with_reducible repeat (first | refine blk_drewN ?_ _ | refine blk_drew ?_ | refine blk_alloc ?_ _)); refine blk_put (cs := #[.int .i64 0, .int .i64 0, .int .i64 0, .int .i64 0]) ?_ 1 _ rfl; (with_reducible repeat (first | refine blk_drewN ?_ _ | refine blk_drew ?_ | refine blk_alloc ?_ _)); refine blk_put (cs := #[.int .i64 0, .int .i64 0, .int .i64 0, .int .i64 0]) ?_ 0 _ rfl; (with_reducible repeat (first | refine blk_drewN ?_ _ | refine blk_drew ?_ | refine blk_alloc ?_ _)); exact BK105.out) hb); have n4_ := am_ (below_step qz11_ hb); clear HO104; clear BK101; clear BK105; clear HB; have HO104 := n0_; have HO108 := n1_; have BK101 := n2_; have BK105 := n3_; have HB := n4_; clear n0_ n1_ n2_ n3_ n4_; (try clear hb); (try clear hb2); (try clear hk); (try clear hi); (try clear ho0)))
  go_loopg [7] k (fun kq v7 w' => ∃ (x7_1 : Int) (x106000_1 : Int), v7 = .int .i64 x7_1 ∧ Aside0 (spec_l11Read.l0 kq t102 t106 x7_1 x106000_1 0 0 0 = some (r1, r2, r3, r4, r5)) ∧ Aside0 (kq ≤ k) ∧ Aside0 (Kd.R Kd.string 9 w' w.heap.size (fun k_ => some k_ ≠ (v107 : Value).ownBlock) (.slice Ao11 t102.length co11) t102) ∧ Aside0 (Kd.R Kd.string 9 w' w.heap.size (fun k_ => some k_ ≠ ((.slice Ao11 t102.length co11) : Value).ownBlock) v107 t106) ∧ Aside0 (w'.heap[gb101]? = some (.cells #[.int .i64 0, .int .i64 0, .int .i64 0, .int .i64 0] 30 (0, 0))) ∧ Aside0 (w'.heap[gb105]? = some (.cells #[.int .i64 x106000_1, .int .i64 0, .int .i64 0, .int .i64 0] 30 (0, 0))) ∧ Aside0 (Below w.heap.size w w'))
  case atStart => exact ⟨(1), (0), qz0_, H', ⟨Nat.le_refl _⟩, ⟨(by (with_reducible repeat (first | apply Kd.R_alloc | apply Kd.R_drewN | apply Kd.R_drew)); exact Kd.R_mono HO104.out (fun _ hk => hk.2))⟩, ⟨(by (with_reducible repeat (first | apply Kd.R_alloc | apply Kd.R_drewN | apply Kd.R_drew)); exact Kd.R_mono HO108.out (fun _ hk => hk.2))⟩, ⟨qz7_⟩, ⟨qz12_⟩, ⟨qz11_⟩⟩
  case round =>
   clear H'
   try clear c1
   try clear c2
   try clear p2
   try clear c3
   try clear c3b0
   try clear c3b1
   try clear c3b2
   try clear c13
   try clear hcz14_0
   try clear hcz14_1
   try clear hcz14_2
   try clear hcz14_3
   try clear hcz7_0
   try clear hcz7_1
   try clear hcz7_2
   try clear hcz7_3
   try clear hfz14_0
   try clear hfz14_1
   try clear hfz14_2
   try clear hfz14_3
   try clear hfz7_0
   try clear hfz7_1
   try clear hfz7_2
   try clear hfz7_3
   obtain ⟨x7_1, x106000_1, rfl, HA, HK1, HO_4, HO_6, BK101, BK105, HB⟩ := hrel
   cases gk with
   | zero => exact absurd HA.out (by simp [spec_l11Read.l0])
   | succ k1 =>
    have H := HA.out
    clear HA
    simp only [spec_l11Read.l0] at H
    by_cases c16 : x7_1 < (t106.length : Int)
    ·
     rw [if_pos c16] at H
     have c16b0 : decide (x7_1 < (t106.length : Int)) = true := decide_eq_true c16
     clear c16
     by_cases c17 : 0 ≤ x7_1
     ·
      rw [if_pos c17] at H
      have c17b0 : decide (0 ≤ x7_1) = true := decide_eq_true c17
      clear c17
      by_cases c18 : 0 < (t102.length : Int)
      ·
       rw [if_pos c18] at H
       have c18b0 : decide (0 < (t102.length : Int)) = true := decide_eq_true c18
       have c18b1 : decide (0 < t102.length) = true := decide_eq_true (by omega)
       clear c18
       by_cases c19 : (rdOf ByteArray.empty t106 x7_1).toList = (rdOf ByteArray.empty t102 0).toList
       ·
        rw [if_pos c19] at H
        have c19b0 : ((rdOf ByteArray.empty t106 x7_1).toList == (rdOf ByteArray.empty t102 0).toList) = true := beq_iff_eq.mpr c19
        have c19b1 : ((rdOf ByteArray.empty t106 x7_1).toList != (rdOf ByteArray.empty t102 0).toList) = false := bne_eq_false_iff_eq.mpr c19
        clear c19
        have H' := am_ H
        clear H
        obtain ⟨Ao20, co20, eo20⟩ := Kd.R_slice HO_6.out
        subst eo20
        try go_wp2
        have n0_ := am_ (Kd.R_drew HO_4.out)
        have n1_ := am_ (Kd.R_drew HO_6.out)
        have n2_ := am_ (blk_drew BK101.out)
        have n3_ := am_ (blk_drew BK105.out)
        have n4_ := am_ (below_drew1 HB.out)
        clear HO_4
        clear HO_6
        clear BK101
        clear BK105
        clear HB
        have HO_4 := n0_
        have HO_6 := n1_
        have BK101 := n2_
        have BK105 := n3_
        have HB := n4_
        clear n0_ n1_ n2_ n3_ n4_
        have p109 : 0 ≤ (x7_1 : Int) := of_decide_eq_true qz8_
        have q109 : x7_1 < (t106.length : Int) := of_decide_eq_true qz8_
        obtain ⟨ad109, e109, hx109_0⟩ := Kd.at_string (Kd.R_reads' HO_6.out).2.2 x7_1 p109 q109
        cases e109
        replace p109 := eq_true p109
        replace q109 := eq_true q109
        have p110 : 0 ≤ (0 : Int) := (by omega)
        have q110 : 0 < (t102.length : Int) := of_decide_eq_true qz8_
        obtain ⟨ad110, e110, hx110_0⟩ := Kd.at_string (Kd.R_reads' HO_4.out).2.2 0 p110 q110
        cases e110
        have qi110 : (0 < t102.length) = True := eq_true (by omega)
        (try rw [show ((0 : Int)).toNat = 0 from rfl] at hx110_0)
        (try rw [Addr.add_zero'] at hx110_0)
        replace p110 := eq_true p110
        replace q110 := eq_true q110
        refine start_ (n := 8) (S := fun w' => w'.cell? (ad109.add (x7_1).toNat) = some (.string (rdOf ByteArray.empty t106 x7_1)) ∧ w'.cell? ad110 = some (.string (rdOf ByteArray.empty t102 0))) (ds := []) #[false, false, false, false, false, false, false, false] (by kernel_rfl) rfl rfl ⟨hx109_0, hx110_0⟩ (fun hHeld => ?_); refine with_tabW spec_l11Read.tab9 spec_l11Read.bits9 (fun HT_ HW_ => ?_)
        generalize wr.drew = w21 at HO_4 HO_6 BK101 BK105 HB hx109_0 hx110_0 hHeld ⊢
        refine pure_ (i := 0) (N := some 27) (v := ?_) (a' := ?_) #[true, false, false, false, false, false, false, false] rfl rfl (any_of HT_.out (by kernel_rfl)) (fun _ _ _ h => h) (Or.inl ⟨(by rfl), ?_⟩) ?_ ?_
        rotate_left
        ·
         intro w'
         go_simp
         with_reducible rfl
        rotate_left
        ·
         exact ap_
        refine pure_ (i := 1) (N := some 28) (v := ?_) (a' := ?_) #[true, true, false, false, false, false, false, false] rfl rfl (any_of HT_.out (by kernel_rfl)) (fun _ _ _ h => h) (Or.inl ⟨(by rfl), ?_⟩) ?_ ?_
        rotate_left
        ·
         intro w'
         go_simp
         with_reducible rfl
        rotate_left
        ·
         exact ap_
        refine pure_ (i := 2) (N := some 29) (v := ?_) (a' := ?_) #[true, true, true, false, false, false, false, false] rfl rfl (any_of HT_.out (by kernel_rfl)) (fun _ _ _ h => h) (Or.inl ⟨(by rfl), ?_⟩) ?_ ?_
        rotate_left
        ·
         intro w'
         go_simp
         with_reducible rfl
        rotate_left
        ·
         exact ap_
        refine pure_ (i := 4) (N := some 31) (v := ?_) (a' := ?_) #[true, true, true, false, true, false, false, false] rfl rfl (any_of HT_.out (by kernel_rfl)) (fun _ _ _ h => h) (Or.inl ⟨(by rfl), ?_⟩) ?_ ?_
        rotate_left
        ·
         intro w'
         go_simp
         with_reducible rfl
        rotate_left
        ·
         exact ap_
        refine pure_ (i := 5) (N := some 32) (v := ?_) (a' := ?_) #[true, true, true, false, true, true, false, false] rfl rfl (any_of HT_.out (by kernel_rfl)) (fun _ _ _ h => h) (Or.inl ⟨(by rfl), ?_⟩) ?_ ?_
        rotate_left
        ·
         intro w'
         go_simp
         with_reducible rfl
        rotate_left
        ·
         exact ap_
        refine take_ (i := 3) (N := some 30) (v := ?_) (a' := ?_) #[true, true, true, true, true, true, false, false] rfl rfl (take_ofW HT_.out HW_.out (by kernel_rfl)) (fun _ _ _ h => h) (Or.inl ⟨(by rfl), ?_⟩) hHeld ?_ ?_
        rotate_left
        ·
         rintro w' ⟨s0, s1⟩
         go_simp
         with_reducible rfl
        rotate_left
        ·
         exact ap_
        refine take_ (i := 6) (N := some 33) (v := ?_) (a' := ?_) #[true, true, true, true, true, true, true, false] rfl rfl (take_ofW HT_.out HW_.out (by kernel_rfl)) (fun _ _ _ h => h) (Or.inl ⟨(by rfl), ?_⟩) hHeld ?_ ?_
        rotate_left
        ·
         rintro w' ⟨s0, s1⟩
         go_simp
         with_reducible rfl
        rotate_left
        ·
         exact ap_
        refine pure_ (i := 7) (N := some 34) (v := ?_) (a' := ?_) #[true, true, true, true, true, true, true, true] rfl rfl (any_of HT_.out (by kernel_rfl)) (fun _ _ _ h => h) (Or.inl ⟨(by rfl), ?_⟩) ?_ ?_
        rotate_left
        ·
         intro w'
         go_simp
         with_reducible rfl
        rotate_left
        ·
         exact ap_
        refine done_ (done_of HT_.out (by kernel_rfl)) ?_
        have hnb22 := NB105_101.out
        have hnc22 := NB101_105.out
        have hcz23_0 : w21.cell? ⟨gb105, 0, none⟩ = some (.int .i64 x106000_1) := (blk_cell BK105.out 0).trans rfl
        have hcz23_1 : w21.cell? ⟨gb105, 1, none⟩ = some (.int .i64 0) := (blk_cell BK105.out 1).trans rfl
        have hcz23_2 : w21.cell? ⟨gb105, 2, none⟩ = some (.int .i64 0) := (blk_cell BK105.out 2).trans rfl
        have hcz23_3 : w21.cell? ⟨gb105, 3, none⟩ = some (.int .i64 0) := (blk_cell BK105.out 3).trans rfl
        have hfz23_0 := blk_frozen BK105.out 0
        have hfz23_1 := blk_frozen BK105.out 1
        have hfz23_2 := blk_frozen BK105.out 2
        have hfz23_3 := blk_frozen BK105.out 3
        try go_wp2
        go_roundg k1
        case measure => have := HK1.out; omega
        case rel => exact ⟨(wrap64 (x7_1 + 1)), (x7_1), qz0_, H', ⟨(by have := HK1.out; omega)⟩, ⟨by (with_reducible repeat (first | apply Kd.R_alloc | apply Kd.R_drewN | apply Kd.R_drew)); exact Kd.R_mono (Kd.R_far (p := ⟨gb105, 0, none⟩) (Kd.R_types HO_4.out BK105.out (by decide)) (fun _ hk => hk.2) (.int .i64 x7_1)) (fun _ hk => hk.1)⟩, ⟨by (with_reducible repeat (first | apply Kd.R_alloc | apply Kd.R_drewN | apply Kd.R_drew)); exact Kd.R_mono (Kd.R_far (p := ⟨gb105, 0, none⟩) (Kd.R_types HO_6.out BK105.out (by decide)) (fun _ hk => hk.2) (.int .i64 x7_1)) (fun _ hk => hk.1)⟩, ⟨qz13_⟩, ⟨(by (with_reducible repeat (first | refine blk_drewN ?_ _ | refine blk_drew ?_ | refine blk_alloc ?_ _)); refine blk_put (cs := #[.int .i64 x106000_1, .int .i64 0, .int .i64 0, .int .i64 0]) ?_ 0 _ rfl; (with_reducible repeat (first | refine blk_drewN ?_ _ | refine blk_drew ?_ | refine blk_alloc ?_ _)); exact BK105.out)⟩, ⟨qz11_⟩⟩
       ·
        rw [if_neg c19] at H
        have c19b0 : ((rdOf ByteArray.empty t106 x7_1).toList == (rdOf ByteArray.empty t102 0).toList) = false := beq_eq_false_iff_ne.mpr c19
        have c19b1 : ((rdOf ByteArray.empty t106 x7_1).toList != (rdOf ByteArray.empty t102 0).toList) = true := bne_iff_ne.mpr c19
        have H' := am_ H
        clear H
        obtain ⟨Ao24, co24, eo24⟩ := Kd.R_slice HO_6.out
        subst eo24
        try go_wp2
        have n0_ := am_ (Kd.R_drew HO_4.out)
        have n1_ := am_ (Kd.R_drew HO_6.out)
        have n2_ := am_ (blk_drew BK101.out)
        have n3_ := am_ (blk_drew BK105.out)
        have n4_ := am_ (below_drew1 HB.out)
        clear HO_4
        clear HO_6
        clear BK101
        clear BK105
        clear HB
        have HO_4 := n0_
        have HO_6 := n1_
        have BK101 := n2_
        have BK105 := n3_
        have HB := n4_
        clear n0_ n1_ n2_ n3_ n4_
        have p109 : 0 ≤ (x7_1 : Int) := of_decide_eq_true qz8_
        have q109 : x7_1 < (t106.length : Int) := of_decide_eq_true qz8_
        obtain ⟨ad109, e109, hx109_0⟩ := Kd.at_string (Kd.R_reads' HO_6.out).2.2 x7_1 p109 q109
        cases e109
        replace p109 := eq_true p109
        replace q109 := eq_true q109
        have p110 : 0 ≤ (0 : Int) := (by omega)
        have q110 : 0 < (t102.length : Int) := of_decide_eq_true qz8_
        obtain ⟨ad110, e110, hx110_0⟩ := Kd.at_string (Kd.R_reads' HO_4.out).2.2 0 p110 q110
        cases e110
        have qi110 : (0 < t102.length) = True := eq_true (by omega)
        (try rw [show ((0 : Int)).toNat = 0 from rfl] at hx110_0)
        (try rw [Addr.add_zero'] at hx110_0)
        replace p110 := eq_true p110
        replace q110 := eq_true q110
        refine start_ (n := 8) (S := fun w' => w'.cell? (ad109.add (x7_1).toNat) = some (.string (rdOf ByteArray.empty t106 x7_1)) ∧ w'.cell? ad110 = some (.string (rdOf ByteArray.empty t102 0))) (ds := []) #[false, false, false, false, false, false, false, false] (by kernel_rfl) rfl rfl ⟨hx109_0, hx110_0⟩ (fun hHeld => ?_); refine with_tabW spec_l11Read.tab9 spec_l11Read.bits9 (fun HT_ HW_ => ?_)
        generalize wr.drew = w25 at HO_4 HO_6 BK101 BK105 HB hx109_0 hx110_0 hHeld ⊢
        refine pure_ (i := 0) (N := some 27) (v := ?_) (a' := ?_) #[true, false, false, false, false, false, false, false] rfl rfl (any_of HT_.out (by kernel_rfl)) (fun _ _ _ h => h) (Or.inl ⟨(by rfl), ?_⟩) ?_ ?_
        rotate_left
        ·
         intro w'
         go_simp
         with_reducible rfl
        rotate_left
        ·
         exact ap_
        refine pure_ (i := 1) (N := some 28) (v := ?_) (a' := ?_) #[true, true, false, false, false, false, false, false] rfl rfl (any_of HT_.out (by kernel_rfl)) (fun _ _ _ h => h) (Or.inl ⟨(by rfl), ?_⟩) ?_ ?_
        rotate_left
        ·
         intro w'
         go_simp
         with_reducible rfl
        rotate_left
        ·
         exact ap_
        refine pure_ (i := 2) (N := some 29) (v := ?_) (a' := ?_) #[true, true, true, false, false, false, false, false] rfl rfl (any_of HT_.out (by kernel_rfl)) (fun _ _ _ h => h) (Or.inl ⟨(by rfl), ?_⟩) ?_ ?_
        rotate_left
        ·
         intro w'
         go_simp
         with_reducible rfl
        rotate_left
        ·
         exact ap_
        refine pure_ (i := 4) (N := some 31) (v := ?_) (a' := ?_) #[true, true, true, false, true, false, false, false] rfl rfl (any_of HT_.out (by kernel_rfl)) (fun _ _ _ h => h) (Or.inl ⟨(by rfl), ?_⟩) ?_ ?_
        rotate_left
        ·
         intro w'
         go_simp
         with_reducible rfl
        rotate_left
        ·
         exact ap_
        refine pure_ (i := 5) (N := some 32) (v := ?_) (a' := ?_) #[true, true, true, false, true, true, false, false] rfl rfl (any_of HT_.out (by kernel_rfl)) (fun _ _ _ h => h) (Or.inl ⟨(by rfl), ?_⟩) ?_ ?_
        rotate_left
        ·
         intro w'
         go_simp
         with_reducible rfl
        rotate_left
        ·
         exact ap_
        refine take_ (i := 3) (N := some 30) (v := ?_) (a' := ?_) #[true, true, true, true, true, true, false, false] rfl rfl (take_ofW HT_.out HW_.out (by kernel_rfl)) (fun _ _ _ h => h) (Or.inl ⟨(by rfl), ?_⟩) hHeld ?_ ?_
        rotate_left
        ·
         rintro w' ⟨s0, s1⟩
         go_simp
         with_reducible rfl
        rotate_left
        ·
         exact ap_
        refine take_ (i := 6) (N := some 33) (v := ?_) (a' := ?_) #[true, true, true, true, true, true, true, false] rfl rfl (take_ofW HT_.out HW_.out (by kernel_rfl)) (fun _ _ _ h => h) (Or.inl ⟨(by rfl), ?_⟩) hHeld ?_ ?_
        rotate_left
        ·
         rintro w' ⟨s0, s1⟩
         go_simp
         with_reducible rfl
        rotate_left
        ·
         exact ap_
        refine pure_ (i := 7) (N := some 34) (v := ?_) (a' := ?_) #[true, true, true, true, true, true, true, true] rfl rfl (any_of HT_.out (by kernel_rfl)) (fun _ _ _ h => h) (Or.inl ⟨(by rfl), ?_⟩) ?_ ?_
        rotate_left
        ·
         intro w'
         go_simp
         with_reducible rfl
        rotate_left
        ·
         exact ap_
        refine done_ (done_of HT_.out (by kernel_rfl)) ?_
        try go_wp2
        go_roundg k1
        case measure => have := HK1.out; omega
        case rel => exact ⟨(wrap64 (x7_1 + 1)), (x106000_1), qz0_, H', ⟨(by have := HK1.out; omega)⟩, ⟨(by (with_reducible repeat (first | apply Kd.R_alloc | apply Kd.R_drewN | apply Kd.R_drew)); exact HO_4.out)⟩, ⟨(by (with_reducible repeat (first | apply Kd.R_alloc | apply Kd.R_drewN | apply Kd.R_drew)); exact HO_6.out)⟩, ⟨qz7_⟩, ⟨qz12_⟩, ⟨qz11_⟩⟩
      ·
       rw [if_neg c18] at H
       exact absurd H (by simp)
     ·
      rw [if_neg c17] at H
      exact absurd H (by simp)
    ·
     rw [if_neg c16] at H
     have c16b0 : decide (x7_1 < (t106.length : Int)) = false := decide_eq_false c16
     clear c16
     obtain ⟨y111, hy111⟩ : ∃ y_ : List Int, y_ = (([] : List Int)) := ⟨_, rfl⟩
     replace H : (spec_l11Read.l1 k1 t102 y111 1 x106000_1 0 0 0) = some (r1, r2, r3, r4, r5) := by first | (rw [hy111]; with_reducible exact H) | (have H2_ := (Option.bind_some _ _).symm.trans H; rw [hy111]; with_reducible exact H2_) | (have H2_ := (Option.bind_some _ _).symm.trans H; with_reducible exact H2_) | with_reducible exact H | (rw [hy111]; exact H) | exact H
     have Ny111 := am_ hy111
     clear hy111
     have H' := am_ H
     clear H
     obtain ⟨Ao26, co26, eo26⟩ := Kd.R_slice HO_6.out
     subst eo26
     go_wp2_with (first | ((with_reducible refine gate_dst (N := 37) rfl ?_); (try (refine gate_guard (by rfl) ?_; dsimp only)); refine Kd.R_lit (Kd.int .i64) _ 3 ?hg (N := 37) ?hd (xs := ([] : List Int)) (inner := []) (ok := fun _ => True) (okp := fun _ => True) ?hr ?hp (fun _ hk => hk) trivial (Below.refl _ _) (Nat.le_refl _) (by simp) ?_; (case hd => rfl); (case hg => rfl); (case hr => first | (go_simp; done) | (go_simp; rfl)); (case hp => exact (Reps.none _ _)); intro v112 w27 ho28 hb hg_ hnew_; clear hg_ hnew_; (first | rw [← Ny111.out] at ho28 | (simp only [Int.reduceToNat] at ho28; rw [← Ny111.out] at ho28)); have n0_ := am_ (Kd.R_below (by (with_reducible repeat (first | apply Kd.R_alloc | apply Kd.R_drewN | apply Kd.R_drew)); exact HO_4.out) hb); have n1_ := am_ (Kd.R_below (by (with_reducible repeat (first | apply Kd.R_alloc | apply Kd.R_drewN | apply Kd.R_drew)); exact HO_6.out) hb); have n2_ := am_ (Kd.R_lower ho28 (below_size qz11_)); have n3_ := am_ (blk_below (g := gb101) (o := .cells #[.int .i64 0, .int .i64 0, .int .i64 0, .int .i64 0] 30 (0, 0)) qz7_ hb); have n4_ := am_ (blk_below (g := gb105) (o := .cells #[.int .i64 x106000_1, .int .i64 0, .int .i64 0, .int .i64 0] 30 (0, 0)) qz12_ hb); have n5_ := am_ (below_step qz11_ hb); clear HO_4; clear HO_6; clear BK101; clear BK105; clear HB; have HO_4 := n0_; have HO_6 := n1_; have HO113 := n2_; have BK101 := n3_; have BK105 := n4_; have HB := n5_; clear n0_ n1_ n2_ n3_ n4_ n5_; clear hb ho28))
     go_loopg [8, 9] k1 (fun kq v8 v9 w' => ∃ (x8_2 : List Int) (x9_2 : Int) (x102000_2 : Int) (x102001_2 : Int) (x102002_2 : Int) (x102003_2 : Int), v9 = .int .i64 x9_2 ∧ Aside0 (spec_l11Read.l1 kq t102 x8_2 x9_2 x106000_1 0 0 0 = some (r1, r2, r3, r4, r5)) ∧ Aside0 (kq ≤ k1) ∧ Aside0 (Kd.R Kd.string 9 w' w.heap.size (fun _ => True) (.slice Ao11 t102.length co11) t102) ∧ Aside0 (Kd.R (Kd.int .i64) 3 w' w.heap.size (fun _ => True) v8 x8_2) ∧ Aside0 (w'.heap[gb101]? = some (.cells #[.int .i64 x102000_2, .int .i64 x102001_2, .int .i64 x102002_2, .int .i64 x102003_2] 30 (0, 0))) ∧ Aside0 (w'.heap[gb105]? = some (.cells #[.int .i64 x106000_1, .int .i64 0, .int .i64 0, .int .i64 0] 30 (0, 0))) ∧ Aside0 (Below w.heap.size w w'))
     case atStart => exact ⟨(y111), (1), (0), (0), (0), (0), qz0_, H', ⟨Nat.le_refl _⟩, ⟨(by (with_reducible repeat (first | apply Kd.R_alloc | apply Kd.R_drewN | apply Kd.R_drew)); exact Kd.R_mono HO_4.out (fun _ hk => trivial))⟩, ⟨(by (with_reducible repeat (first | apply Kd.R_alloc | apply Kd.R_drewN | apply Kd.R_drew)); exact HO113.out)⟩, ⟨qz7_⟩, ⟨qz12_⟩, ⟨qz11_⟩⟩
     case round =>
      clear H'
      try clear c1
      try clear p1
      try clear q1
      try clear hx1
      try clear qi1
      try clear c2
      try clear p2
      try clear c3
      try clear c3b0
      try clear c3b1
      try clear c3b2
      try clear p6
      try clear p10
      try clear q10
      try clear hx10
      try clear p11
      try clear q11
      try clear hx11
      try clear qi11
      try clear c13
      try clear c16
      try clear c16b0
      try clear c17
      try clear c17b0
      try clear c18
      try clear c18b0
      try clear c18b1
      try clear c19
      try clear c19b0
      try clear c19b1
      try clear c22
      try clear c24
      try clear hcz14_0
      try clear hcz14_1
      try clear hcz14_2
      try clear hcz14_3
      try clear hcz23_0
      try clear hcz23_1
      try clear hcz23_2
      try clear hcz23_3
      try clear hcz7_0
      try clear hcz7_1
      try clear hcz7_2
      try clear hcz7_3
      try clear hfz14_0
      try clear hfz14_1
      try clear hfz14_2
      try clear hfz14_3
      try clear hfz23_0
      try clear hfz23_1
      try clear hfz23_2
      try clear hfz23_3
      try clear hfz7_0
      try clear hfz7_1
      try clear hfz7_2
      try clear hfz7_3
      try clear hx109_0
      try clear hx110_0
      try clear p109
      try clear p110
      try clear p2
      try clear q109
      try clear q110
      obtain ⟨x8_2, x9_2, x102000_2, x102001_2, x102002_2, x102003_2, rfl, HA, HK2, HO_4, HO_8, BK101, BK105, HB⟩ := hrel
      cases gk with
      | zero => exact absurd HA.out (by simp [spec_l11Read.l1])
      | succ k2 =>
       have H := HA.out
       clear HA
       simp only [spec_l11Read.l1] at H
       by_cases c29 : x9_2 < (t102.length : Int)
       ·
        rw [if_pos c29] at H
        have c29b0 : decide (x9_2 < (t102.length : Int)) = true := decide_eq_true c29
        clear c29
        by_cases c30 : 0 ≤ x9_2
        ·
         rw [if_pos c30] at H
         have c30b0 : decide (0 ≤ x9_2) = true := decide_eq_true c30
         clear c30
         replace H := Option.bind_eq_some_iff.mp H
         obtain ⟨⟨t115, t116⟩, A310, H⟩ := H
         replace H : (if t116 = true then (if x8_2.length < 17592186044416 then (spec_l11Read.l1 k2 t102 (x8_2 ++ [t115]) (wrap64 (x9_2 + 1)) x106000_1 0 0 0) else (none)) else (some (0, 0, 0, 0, false))) = some (r1, r2, r3, r4, r5) := H
         have A31 := am_ A310
         clear A310
         by_cases c32 : t116 = true
         ·
          subst c32
          have H1 : (if x8_2.length < 17592186044416 then (spec_l11Read.l1 k2 t102 (x8_2 ++ [t115]) (wrap64 (x9_2 + 1)) x106000_1 0 0 0) else (none)) = some (r1, r2, r3, r4, r5) := by rw [if_pos rfl] at H; exact H
          clear H
          have H := H1
          clear H1
          by_cases c33 : x8_2.length < 17592186044416
          ·
           rw [if_pos c33] at H
           have LMc33 := am_ c33
           clear c33
           obtain ⟨y117, hy117⟩ : ∃ y_ : List Int, y_ = (x8_2 ++ [t115]) := ⟨_, rfl⟩
           replace H : (spec_l11Read.l1 k2 t102 y117 (wrap64 (x9_2 + 1)) x106000_1 0 0 0) = some (r1, r2, r3, r4, r5) := by first | (rw [hy117]; with_reducible exact H) | (have H2_ := (Option.bind_some _ _).symm.trans H; rw [hy117]; with_reducible exact H2_) | (have H2_ := (Option.bind_some _ _).symm.trans H; with_reducible exact H2_) | with_reducible exact H | (rw [hy117]; exact H) | exact H
           have Ny117 := am_ hy117
           clear hy117
           have H' := am_ H
           clear H
           have p114 : 0 ≤ (x9_2 : Int) := of_decide_eq_true qz8_
           have q114 : x9_2 < (t102.length : Int) := of_decide_eq_true qz8_
           obtain ⟨ad114, e114, hx114_0⟩ := Kd.at_string (Kd.R_reads' HO_4.out).2.2 x9_2 p114 q114
           cases e114
           replace p114 := eq_true p114
           replace q114 := eq_true q114
           go_wp2_with (first | ((with_reducible refine gate_callee (f := 40) rfl ?_); refine goesL_ (some 49) rfl rfl Tryd.func40 (by kernel_rfl) rfl #[.string (rdOf ByteArray.empty t102 x9_2)] rfl qz2_ ?_; (with_reducible refine (spec_l00Number.calls k2 (rdOf ByteArray.empty t102 x9_2) t115 true _ A31.out).mono ?_); rintro e w' ⟨rfl, ⟨nd, rfl⟩⟩; refine ⟨_, rfl, ?_⟩) | ((with_reducible refine gate_builtin (b := .append) (xs := #[.tmp 55, .tmp 57]) rfl ?_); (try (refine gate_guard (by rfl) ?_; dsimp only)); at_builtin; refine Kd.R_append (Kd.int .i64) (w0 := w) w.heap.size rfl (.tmp 55) (.tmp 57) 56 3 (.int .i64 0) 8 rfl Tryd.underlying56 info3 rfl (by decide) (by omega) u8 x8_2 t115 [.int .i64 t115] (fun _ => True) (fun _ => False) rfl rfl ?aP (fun _ hk => hk.elim) ?aF ?aO ?aB ?aS ?aL ?_; (case aP => exact rfl); (case aB => exact qz11_); (case aF => exact (fun _ _ => trivial)); (case aO => exact qz14_); (case aS => exact (below_size qz11_)); (case aL => have := LMc33.out; omega); intro v118 w34 ho hb hg hat; rw [← Ny117.out] at ho; have n0_ := am_ (Kd.R_over' (by (with_reducible repeat (first | apply Kd.R_alloc | apply Kd.R_drewN | apply Kd.R_drew)); exact HO_4.out) (Kd.R_typed qz14_) (by decide) hg); have n1_ := am_ (blk_grown (g := gb101) (o := .cells #[.int .i64 x102000_2, .int .i64 x102001_2, .int .i64 x102002_2, .int .i64 x102003_2] 30 (0, 0)) qz7_ hg (Kd.R_ne HO_8.out BK101.out (by decide))); have n2_ := am_ (blk_grown (g := gb105) (o := .cells #[.int .i64 x106000_1, .int .i64 0, .int .i64 0, .int .i64 0] 30 (0, 0)) qz12_ hg (Kd.R_ne HO_8.out BK105.out (by decide))); have n3_ := am_ (hb); have n4_ := am_ (ho); clear HO_4; clear BK101; clear BK105; clear HB; clear HO_8; have HO_4 := n0_; have BK101 := n1_; have BK105 := n2_; have HB := n3_; have HO119 := n4_; clear n0_ n1_ n2_ n3_ n4_; clear ho hb hg hat))
           go_roundg k2
           case measure => have := HK1.out; have := HK2.out; omega
           case rel => exact ⟨(y117), (wrap64 (x9_2 + 1)), (x102000_2), (x102001_2), (x102002_2), (x102003_2), qz0_, H', ⟨(by have := HK1.out; have := HK2.out; omega)⟩, ⟨(by (with_reducible repeat (first | apply Kd.R_alloc | apply Kd.R_drewN | apply Kd.R_drew)); exact HO_4.out)⟩, ⟨(by (with_reducible repeat (first | apply Kd.R_alloc | apply Kd.R_drewN | apply Kd.R_drew)); exact HO119.out)⟩, ⟨qz7_⟩, ⟨qz12_⟩, ⟨qz11_⟩⟩
          ·
           rw [if_neg c33] at H
           exact absurd H (by simp)
         ·
          replace c32 := Bool.eq_false_iff.mpr c32
          subst c32
          have H1 : (some (0, 0, 0, 0, false)) = some (r1, r2, r3, r4, r5) := by rw [if_neg (show ¬ (false = true) by decide)] at H; exact H
          clear H
          have H := H1
          clear H1
          simp only [Option.some.injEq, Prod.mk.injEq] at H
          obtain ⟨rfl, rfl, rfl, rfl, rfl⟩ := H
          have p114 : 0 ≤ (x9_2 : Int) := of_decide_eq_true qz8_
          have q114 : x9_2 < (t102.length : Int) := of_decide_eq_true qz8_
          obtain ⟨ad114, e114, hx114_0⟩ := Kd.at_string (Kd.R_reads' HO_4.out).2.2 x9_2 p114 q114
          cases e114
          replace p114 := eq_true p114
          replace q114 := eq_true q114
          go_wp2_with (first | ((with_reducible refine gate_callee (f := 40) rfl ?_); refine goesL_ (some 49) rfl rfl Tryd.func40 (by kernel_rfl) rfl #[.string (rdOf ByteArray.empty t102 x9_2)] rfl qz2_ ?_; (with_reducible refine (spec_l00Number.calls k2 (rdOf ByteArray.empty t102 x9_2) t115 false _ A31.out).mono ?_); rintro e w' ⟨rfl, ⟨nd, rfl⟩⟩; refine ⟨_, rfl, ?_⟩; (try (rw [drewN_self wr]; generalize hq_ : World.drewN wr _ = wr; have n0_ : Aside0 (Kd.R Kd.string 9 wr w.heap.size (fun _ => True) (.slice (some ad114) t102.length co11) t102) := ⟨(by rw [← hq_]; exact (by (with_reducible repeat (first | apply Kd.R_alloc | apply Kd.R_drewN | apply Kd.R_drew)); exact HO_4.out))⟩; have n1_ : Aside0 (Kd.R (Kd.int .i64) 3 wr w.heap.size (fun _ => True) u8 x8_2) := ⟨(by rw [← hq_]; exact qz14_)⟩; have n2_ : Aside0 (wr.heap[gb101]? = some (.cells #[.int .i64 x102000_2, .int .i64 x102001_2, .int .i64 x102002_2, .int .i64 x102003_2] 30 (0, 0))) := ⟨(by rw [← hq_]; exact qz7_)⟩; have n3_ : Aside0 (wr.heap[gb105]? = some (.cells #[.int .i64 x106000_1, .int .i64 0, .int .i64 0, .int .i64 0] 30 (0, 0))) := ⟨(by rw [← hq_]; exact qz12_)⟩; have n4_ : Aside0 (Below w.heap.size w wr) := ⟨(by rw [← hq_]; exact qz11_)⟩; clear HO_4 HO_8 BK101 BK105 HB hq_; have HO_4 := n0_; have HO_8 := n1_; have BK101 := n2_; have BK105 := n3_; have HB := n4_; clear n0_ n1_ n2_ n3_ n4_)); have hnb35 := NB101_105.out; have hnc35 := NB105_101.out; have hcz36_0 : wr.cell? ⟨gb101, 0, none⟩ = some (.int .i64 x102000_2) := (blk_cell BK101.out 0).trans rfl; have hcz36_1 : wr.cell? ⟨gb101, 1, none⟩ = some (.int .i64 x102001_2) := (blk_cell BK101.out 1).trans rfl; have hcz36_2 : wr.cell? ⟨gb101, 2, none⟩ = some (.int .i64 x102002_2) := (blk_cell BK101.out 2).trans rfl; have hcz36_3 : wr.cell? ⟨gb101, 3, none⟩ = some (.int .i64 x102003_2) := (blk_cell BK101.out 3).trans rfl; have hfz36_0 := blk_frozen BK101.out 0; have hfz36_1 := blk_frozen BK101.out 1; have hfz36_2 := blk_frozen BK101.out 2; have hfz36_3 := blk_frozen BK101.out 3))
          refine bodyPost_ret (results_ct rfl _ _ gb101 30 #[.int .i64 0, .int .i64 0, .int .i64 0, .int .i64 0] (0, 0) _ rfl qz15_ Tryd.underlying30 rfl (by kernel_rfl)) rfl ?_
          exact ⟨qz4_, qz11_⟩
        ·
         rw [if_neg c30] at H
         exact absurd H (by simp)
       ·
        rw [if_neg c29] at H
        have c29b0 : decide (x9_2 < (t102.length : Int)) = false := decide_eq_false c29
        clear c29
        replace H := Option.bind_eq_some_iff.mp H
        obtain ⟨t120, A370, H⟩ := H
        replace H : ((spec_l01Bit.f (x106000_1 == 3)).bind fun t121 => (if x106000_1 = 0 then (spec_l11Read.j2 k2 x8_2 (wrap64 (t120 + t121)) true x106000_1 0 0 0) else (spec_l11Read.j2 k2 x8_2 (wrap64 (t120 + t121)) ((x8_2.length : Int) != (wrap64 (t120 + t121))) x106000_1 0 0 0))) = some (r1, r2, r3, r4, r5) := H
        have A37 := am_ A370
        clear A370
        replace H := Option.bind_eq_some_iff.mp H
        obtain ⟨t121, A380, H⟩ := H
        replace H : (if x106000_1 = 0 then (spec_l11Read.j2 k2 x8_2 (wrap64 (t120 + t121)) true x106000_1 0 0 0) else (spec_l11Read.j2 k2 x8_2 (wrap64 (t120 + t121)) ((x8_2.length : Int) != (wrap64 (t120 + t121))) x106000_1 0 0 0)) = some (r1, r2, r3, r4, r5) := H
        have A38 := am_ A380
        clear A380
        have HC39 := am_ H
        clear H
        try go_wp2
        have n0_ := am_ (Kd.R_drew HO_4.out)
        have n1_ := am_ (Kd.R_drew HO_8.out)
        have n2_ := am_ (blk_drew BK101.out)
        have n3_ := am_ (blk_drew BK105.out)
        have n4_ := am_ (below_drew1 HB.out)
        clear HO_4
        clear HO_8
        clear BK101
        clear BK105
        clear HB
        have HO_4 := n0_
        have HO_8 := n1_
        have BK101 := n2_
        have BK105 := n3_
        have HB := n4_
        clear n0_ n1_ n2_ n3_ n4_
        refine start_ (n := 9) (S := fun w' => w'.cell? ⟨gb105, 0, none⟩ = some (.int .i64 x106000_1) ∧ w'.cell? ⟨gb105, 1, none⟩ = some (.int .i64 0) ∧ w'.cell? ⟨gb105, 2, none⟩ = some (.int .i64 0) ∧ w'.cell? ⟨gb105, 3, none⟩ = some (.int .i64 0)) (ds := []) #[false, false, false, false, false, false, false, false, false] (by kernel_rfl) rfl rfl ⟨(blk_cell BK105.out 0).trans rfl, (blk_cell BK105.out 1).trans rfl, (blk_cell BK105.out 2).trans rfl, (blk_cell BK105.out 3).trans rfl⟩ (fun hHeld => ?_); refine with_tabW spec_l11Read.tab19 spec_l11Read.bits19 (fun HT_ HW_ => ?_)
        generalize wr.drew = w40 at HO_4 HO_8 BK101 BK105 HB hHeld ⊢
        refine pure_ (i := 0) (N := some 59) (v := ?_) (a' := ?_) #[true, false, false, false, false, false, false, false, false] rfl rfl (any_of HT_.out (by kernel_rfl)) (fun _ _ _ h => h) (Or.inl ⟨(by rfl), ?_⟩) ?_ ?_
        rotate_left
        ·
         intro w'
         go_simp
         with_reducible rfl
        rotate_left
        ·
         exact ap_
        refine pure_ (i := 3) (N := some 62) (v := ?_) (a' := ?_) #[true, false, false, true, false, false, false, false, false] rfl rfl (any_of HT_.out (by kernel_rfl)) (fun _ _ _ h => h) (Or.inl ⟨(by rfl), ?_⟩) ?_ ?_
        rotate_left
        ·
         intro w'
         go_simp
         with_reducible rfl
        rotate_left
        ·
         exact ap_
        refine take_ (i := 1) (N := some 60) (v := ?_) (a' := ?_) #[true, true, false, true, false, false, false, false, false] rfl rfl (take_ofW HT_.out HW_.out (by kernel_rfl)) (fun _ _ _ h => h) (Or.inl ⟨(by rfl), ?_⟩) hHeld ?_ ?_
        rotate_left
        ·
         rintro w' ⟨s0, s1, s2, s3⟩
         go_simp
         with_reducible rfl
        rotate_left
        ·
         exact ap_
        refine take_ (i := 4) (N := some 63) (v := ?_) (a' := ?_) #[true, true, false, true, true, false, false, false, false] rfl rfl (take_ofW HT_.out HW_.out (by kernel_rfl)) (fun _ _ _ h => h) (Or.inl ⟨(by rfl), ?_⟩) hHeld ?_ ?_
        rotate_left
        ·
         rintro w' ⟨s0, s1, s2, s3⟩
         go_simp
         with_reducible rfl
        rotate_left
        ·
         exact ap_
        refine pure_ (i := 5) (N := some 64) (v := ?_) (a' := ?_) #[true, true, false, true, true, true, false, false, false] rfl rfl (any_of HT_.out (by kernel_rfl)) (fun _ _ _ h => h) (Or.inl ⟨(by rfl), ?_⟩) ?_ ?_
        rotate_left
        ·
         intro w'
         go_simp
         with_reducible rfl
        rotate_left
        ·
         exact ap_
        refine one_ (i := 2) (N := some 61) #[true, true, true, true, true, true, false, false, false] rfl rfl (one_of HT_.out (by kernel_rfl)) (by decide) (fun K hK => ?_)
        refine goes_ Tryd.func19 (by kernel_rfl) rfl #[.int .i64 x106000_1] (by rfl) rfl rfl qz2_ ?_
        with_reducible refine (spec_l11Uses.calls x106000_1 t120 _ A37.out).mono ?_
        rintro e w' ⟨rfl, ⟨nd, rfl⟩⟩
        refine ⟨_, rfl, ?_⟩
        refine hK.out _ _ ⟨(blk_cell BK105.out 0).trans rfl, (blk_cell BK105.out 1).trans rfl, (blk_cell BK105.out 2).trans rfl, (blk_cell BK105.out 3).trans rfl⟩ (fun hHeld => ?_)
        clear hK K
        refine norm_ (a' := ?_) ?_ ?_
        rotate_left
        ·
         show Act.put _ (some 61) _ = _
         exact ap_
        refine one_ (i := 6) (N := some 65) #[true, true, true, true, true, true, true, false, false] rfl rfl (one_of HT_.out (by kernel_rfl)) (by decide) (fun K hK => ?_)
        refine goes_ Tryd.func41 (by kernel_rfl) rfl #[.bool (x106000_1 == 3)] (by rfl) rfl rfl qz2_ ?_
        with_reducible refine (spec_l01Bit.calls (x106000_1 == 3) t121 _ A38.out).mono ?_
        rintro e w' ⟨rfl, ⟨nd, rfl⟩⟩
        refine ⟨_, rfl, ?_⟩
        refine hK.out _ _ ⟨(blk_cell BK105.out 0).trans rfl, (blk_cell BK105.out 1).trans rfl, (blk_cell BK105.out 2).trans rfl, (blk_cell BK105.out 3).trans rfl⟩ (fun hHeld => ?_)
        clear hK K
        refine norm_ (a' := ?_) ?_ ?_
        rotate_left
        ·
         show Act.put _ (some 65) _ = _
         exact ap_
        refine pure_ (i := 7) (N := some 66) (v := ?_) (a' := ?_) #[true, true, true, true, true, true, true, true, false] rfl rfl (any_of HT_.out (by kernel_rfl)) (fun _ _ _ h => h) (Or.inl ⟨(by rfl), ?_⟩) ?_ ?_
        rotate_left
        ·
         intro w'
         go_simp
         with_reducible rfl
        rotate_left
        ·
         exact ap_
        refine pure_ (i := 8) (N := some 12) (v := ?_) (a' := ?_) #[true, true, true, true, true, true, true, true, true] rfl rfl (any_of HT_.out (by kernel_rfl)) (fun _ _ _ h => h) (Or.inl ⟨(by rfl), ?_⟩) ?_ ?_
        rotate_left
        ·
         intro w'
         go_simp
         with_reducible rfl
        rotate_left
        ·
         exact ap_
        refine done_ (done_of HT_.out (by kernel_rfl)) ?_
        go_upto_region 20 with (fail)
        go_cut [75] (fun v75 wc => ∃ (kq : Nat) (x75_38 : Bool), v75 = .bool x75_38 ∧ Aside0 (spec_l11Read.j2 kq x8_2 (wrap64 (t120 + t121)) x75_38 x106000_1 0 0 0 = some (r1, r2, r3, r4, r5)) ∧ Aside0 (kq ≤ k2) ∧ Aside0 (Kd.R (Kd.int .i64) 3 wc w.heap.size (fun _ => True) u8 x8_2) ∧ Aside0 (wc.heap[gb101]? = some (.cells #[.int .i64 x102000_2, .int .i64 x102001_2, .int .i64 x102002_2, .int .i64 x102003_2] 30 (0, 0))) ∧ Aside0 (wc.heap[gb105]? = some (.cells #[.int .i64 x106000_1, .int .i64 0, .int .i64 0, .int .i64 0] 30 (0, 0))) ∧ Aside0 (Below w.heap.size w wc))
        case first =>
         have H := HC39.out
         clear HC39
         by_cases c41 : x106000_1 = 0
         ·
          rw [if_pos c41] at H
          have c41b0 : (x106000_1 == 0) = true := beq_iff_eq.mpr c41
          have c41b1 : (x106000_1 != 0) = false := bne_eq_false_iff_eq.mpr c41
          clear c41
          (first | rw [c41b0] | (simp only [i64_w, i32_w]; rw [c41b0]) | skip)
          have H' := am_ H
          clear H
          have hnb42 := NB105_101.out
          have hnc42 := NB101_105.out
          have hcz43_0 : w40.cell? ⟨gb105, 0, none⟩ = some (.int .i64 x106000_1) := (blk_cell BK105.out 0).trans rfl
          have hcz43_1 : w40.cell? ⟨gb105, 1, none⟩ = some (.int .i64 0) := (blk_cell BK105.out 1).trans rfl
          have hcz43_2 : w40.cell? ⟨gb105, 2, none⟩ = some (.int .i64 0) := (blk_cell BK105.out 2).trans rfl
          have hcz43_3 : w40.cell? ⟨gb105, 3, none⟩ = some (.int .i64 0) := (blk_cell BK105.out 3).trans rfl
          have hfz43_0 := blk_frozen BK105.out 0
          have hfz43_1 := blk_frozen BK105.out 1
          have hfz43_2 := blk_frozen BK105.out 2
          have hfz43_3 := blk_frozen BK105.out 3
          go_wp2
          go_meet
          case rel => exact ⟨_, (true), qz0_, H', ⟨(by have := HK1.out; have := HK2.out; first | omega | exact Nat.le_refl _)⟩, ⟨qz14_⟩, ⟨qz7_⟩, ⟨qz12_⟩, ⟨qz11_⟩⟩
         ·
          rw [if_neg c41] at H
          have c41b0 : (x106000_1 == 0) = false := beq_eq_false_iff_ne.mpr c41
          have c41b1 : (x106000_1 != 0) = true := bne_iff_ne.mpr c41
          (first | rw [c41b0] | (simp only [i64_w, i32_w]; rw [c41b0]) | skip)
          have H' := am_ H
          clear H
          have hnb44 := NB105_101.out
          have hnc44 := NB101_105.out
          have hcz45_0 : w40.cell? ⟨gb105, 0, none⟩ = some (.int .i64 x106000_1) := (blk_cell BK105.out 0).trans rfl
          have hcz45_1 : w40.cell? ⟨gb105, 1, none⟩ = some (.int .i64 0) := (blk_cell BK105.out 1).trans rfl
          have hcz45_2 : w40.cell? ⟨gb105, 2, none⟩ = some (.int .i64 0) := (blk_cell BK105.out 2).trans rfl
          have hcz45_3 : w40.cell? ⟨gb105, 3, none⟩ = some (.int .i64 0) := (blk_cell BK105.out 3).trans rfl
          have hfz45_0 := blk_frozen BK105.out 0
          have hfz45_1 := blk_frozen BK105.out 1
          have hfz45_2 := blk_frozen BK105.out 2
          have hfz45_3 := blk_frozen BK105.out 3
          obtain ⟨Ao46, co46, eo46⟩ := Kd.R_slice HO_8.out
          subst eo46
          go_wp2
          go_meet
          case rel => exact ⟨_, (((x8_2.length : Int) != (wrap64 (t120 + t121)))), qz0_, H', ⟨(by have := HK1.out; have := HK2.out; first | omega | exact Nat.le_refl _)⟩, ⟨qz14_⟩, ⟨qz7_⟩, ⟨qz12_⟩, ⟨qz11_⟩⟩
        case rest =>
         clear HC39
         try clear c1
         try clear p1
         try clear q1
         try clear hx1
         try clear qi1
         try clear c2
         try clear p2
         try clear c3
         try clear c3b0
         try clear c3b1
         try clear c3b2
         try clear c4
         try clear p6
         try clear p10
         try clear q10
         try clear hx10
         try clear p11
         try clear q11
         try clear hx11
         try clear qi11
         try clear c13
         try clear c16
         try clear c16b0
         try clear c17
         try clear c17b0
         try clear c18
         try clear c18b0
         try clear c18b1
         try clear c19
         try clear c19b0
         try clear c19b1
         try clear c22
         try clear c24
         try clear c29
         try clear c29b0
         try clear c30
         try clear c30b0
         try clear c32
         try clear c33
         try clear c35
         try clear c39
         try clear c40
         try clear c41
         try clear c41b0
         try clear c41b1
         try clear c42
         try clear c44
         try clear hcz14_0
         try clear hcz14_1
         try clear hcz14_2
         try clear hcz14_3
         try clear hcz23_0
         try clear hcz23_1
         try clear hcz23_2
         try clear hcz23_3
         try clear hcz36_0
         try clear hcz36_1
         try clear hcz36_2
         try clear hcz36_3
         try clear hcz43_0
         try clear hcz43_1
         try clear hcz43_2
         try clear hcz43_3
         try clear hcz45_0
         try clear hcz45_1
         try clear hcz45_2
         try clear hcz45_3
         try clear hcz7_0
         try clear hcz7_1
         try clear hcz7_2
         try clear hcz7_3
         try clear hfz14_0
         try clear hfz14_1
         try clear hfz14_2
         try clear hfz14_3
         try clear hfz23_0
         try clear hfz23_1
         try clear hfz23_2
         try clear hfz23_3
         try clear hfz36_0
         try clear hfz36_1
         try clear hfz36_2
         try clear hfz36_3
         try clear hfz43_0
         try clear hfz43_1
         try clear hfz43_2
         try clear hfz43_3
         try clear hfz45_0
         try clear hfz45_1
         try clear hfz45_2
         try clear hfz45_3
         try clear hfz7_0
         try clear hfz7_1
         try clear hfz7_2
         try clear hfz7_3
         try clear hx109_0
         try clear hx110_0
         try clear hx114_0
         try clear p1
         try clear p10
         try clear p109
         try clear p11
         try clear p110
         try clear p114
         try clear p2
         try clear p6
         try clear q1
         try clear q10
         try clear q109
         try clear q11
         try clear q110
         try clear q114
         obtain ⟨kq, x75_38, rfl, HA, HJ38, HO_8, BK101, BK105, HB⟩ := hcut
         cases kq with
         | zero => exact absurd HA.out (by simp [spec_l11Read.j2])
         | succ kj38 =>
          have H := HA.out
          clear HA
          simp only [spec_l11Read.j2] at H
          by_cases c47 : x75_38 = true
          ·
           subst c47
           have H1 : (some (0, 0, 0, 0, false)) = some (r1, r2, r3, r4, r5) := by rw [if_pos rfl] at H; exact H
           clear H
           have H := H1
           clear H1
           simp only [Option.some.injEq, Prod.mk.injEq] at H
           obtain ⟨rfl, rfl, rfl, rfl, rfl⟩ := H
           have hnb48 := NB101_105.out
           have hnc48 := NB105_101.out
           have hcz49_0 : wc.cell? ⟨gb101, 0, none⟩ = some (.int .i64 x102000_2) := (blk_cell BK101.out 0).trans rfl
           have hcz49_1 : wc.cell? ⟨gb101, 1, none⟩ = some (.int .i64 x102001_2) := (blk_cell BK101.out 1).trans rfl
           have hcz49_2 : wc.cell? ⟨gb101, 2, none⟩ = some (.int .i64 x102002_2) := (blk_cell BK101.out 2).trans rfl
           have hcz49_3 : wc.cell? ⟨gb101, 3, none⟩ = some (.int .i64 x102003_2) := (blk_cell BK101.out 3).trans rfl
           have hfz49_0 := blk_frozen BK101.out 0
           have hfz49_1 := blk_frozen BK101.out 1
           have hfz49_2 := blk_frozen BK101.out 2
           have hfz49_3 := blk_frozen BK101.out 3
           go_wp2
           refine bodyPost_ret (results_ct rfl _ _ gb101 30 #[.int .i64 0, .int .i64 0, .int .i64 0, .int .i64 0] (0, 0) _ rfl qz15_ Tryd.underlying30 rfl (by kernel_rfl)) rfl ?_
           exact ⟨qz4_, qz11_⟩
          ·
           replace c47 := Bool.eq_false_iff.mpr c47
           subst c47
           have H1 : (if x106000_1 = 3 then (if 0 < (x8_2.length : Int) then ((spec_l11Gate.f kj38 x106000_1 0 0 (rd x8_2 0) 15).bind fun t123 => (some (x106000_1, 0, 0, rd x8_2 0, t123))) else (none)) else (if (wrap64 (t120 + t121)) = 2 then (if 0 < (x8_2.length : Int) then (if 1 < (x8_2.length : Int) then ((spec_l11Gate.f kj38 x106000_1 (rd x8_2 0) (rd x8_2 1) 0 15).bind fun t126 => (some (x106000_1, rd x8_2 0, rd x8_2 1, 0, t126))) else (none)) else (none)) else (if (wrap64 (t120 + t121)) = 1 then (if 0 < (x8_2.length : Int) then ((spec_l11Gate.f kj38 x106000_1 (rd x8_2 0) 0 0 15).bind fun t128 => (some (x106000_1, rd x8_2 0, 0, 0, t128))) else (none)) else ((spec_l11Gate.f kj38 x106000_1 0 0 0 15).bind fun t129 => (some (x106000_1, 0, 0, 0, t129)))))) = some (r1, r2, r3, r4, r5) := by rw [if_neg (show ¬ (false = true) by decide)] at H; exact H
           clear H
           have H := H1
           clear H1
           by_cases c50 : x106000_1 = 3
           ·
            rw [if_pos c50] at H
            have c50b0 : (x106000_1 == 3) = true := beq_iff_eq.mpr c50
            have c50b1 : (x106000_1 != 3) = false := bne_eq_false_iff_eq.mpr c50
            clear c50
            by_cases c51 : 0 < (x8_2.length : Int)
            ·
             rw [if_pos c51] at H
             have c51b0 : decide (0 < (x8_2.length : Int)) = true := decide_eq_true c51
             have c51b1 : decide (0 < x8_2.length) = true := decide_eq_true (by omega)
             clear c51
             replace H := Option.bind_eq_some_iff.mp H
             obtain ⟨t123, A520, H⟩ := H
             replace H : (some (x106000_1, 0, 0, rd x8_2 0, t123)) = some (r1, r2, r3, r4, r5) := H
             have A52 := am_ A520
             clear A520
             simp only [Option.some.injEq, Prod.mk.injEq] at H
             obtain ⟨rfl, rfl, rfl, rfl, rfl⟩ := H
             have hnb53 := NB105_101.out
             have hnc53 := NB101_105.out
             have hcz54_0 : wc.cell? ⟨gb105, 0, none⟩ = some (.int .i64 x106000_1) := (blk_cell BK105.out 0).trans rfl
             have hcz54_1 : wc.cell? ⟨gb105, 1, none⟩ = some (.int .i64 0) := (blk_cell BK105.out 1).trans rfl
             have hcz54_2 : wc.cell? ⟨gb105, 2, none⟩ = some (.int .i64 0) := (blk_cell BK105.out 2).trans rfl
             have hcz54_3 : wc.cell? ⟨gb105, 3, none⟩ = some (.int .i64 0) := (blk_cell BK105.out 3).trans rfl
             have hfz54_0 := blk_frozen BK105.out 0
             have hfz54_1 := blk_frozen BK105.out 1
             have hfz54_2 := blk_frozen BK105.out 2
             have hfz54_3 := blk_frozen BK105.out 3
             obtain ⟨Ao55, co55, eo55⟩ := Kd.R_slice HO_8.out
             subst eo55
             have p122 : 0 ≤ (0 : Int) := (by omega)
             have q122 : 0 < (x8_2.length : Int) := of_decide_eq_true qz8_
             obtain ⟨ad122, e122, hx122_0⟩ := Kd.at_int (Kd.R_reads' HO_8.out).2.2 0 p122 q122
             cases e122
             have qi122 : (0 < x8_2.length) = True := eq_true (by omega)
             (try rw [show ((0 : Int)).toNat = 0 from rfl] at hx122_0)
             (try rw [Addr.add_zero'] at hx122_0)
             replace p122 := eq_true p122
             replace q122 := eq_true q122
             try go_wp2
             have n0_ : Aside0 (Kd.R (Kd.int .i64) 3 (wc.setCell ⟨gb105, 3, none⟩ (.int .i64 (rd x8_2 0))) w.heap.size (fun _ => True) (.slice (some ad122) x8_2.length co55) x8_2) := ⟨by (with_reducible repeat (first | apply Kd.R_alloc | apply Kd.R_drewN | apply Kd.R_drew)); exact Kd.R_mono (Kd.R_far (p := ⟨gb105, 3, none⟩) (Kd.R_types HO_8.out BK105.out (by decide)) (fun _ hk => hk.2) (.int .i64 (rd x8_2 0))) (fun _ hk => trivial)⟩
             have n1_ : Aside0 ((wc.setCell ⟨gb105, 3, none⟩ (.int .i64 (rd x8_2 0))).heap[gb101]? = some (.cells #[.int .i64 x102000_2, .int .i64 x102001_2, .int .i64 x102002_2, .int .i64 x102003_2] 30 (0, 0))) := ⟨qz13_⟩
             have n2_ : Aside0 ((wc.setCell ⟨gb105, 3, none⟩ (.int .i64 (rd x8_2 0))).heap[gb105]? = some (.cells #[.int .i64 x106000_1, .int .i64 0, .int .i64 0, .int .i64 (rd x8_2 0)] 30 (0, 0))) := ⟨(by (with_reducible repeat (first | refine blk_drewN ?_ _ | refine blk_drew ?_ | refine blk_alloc ?_ _)); refine blk_put (cs := #[.int .i64 x106000_1, .int .i64 0, .int .i64 0, .int .i64 0]) ?_ 3 _ rfl; (with_reducible repeat (first | refine blk_drewN ?_ _ | refine blk_drew ?_ | refine blk_alloc ?_ _)); exact BK105.out)⟩
             have n3_ : Aside0 (Below w.heap.size w (wc.setCell ⟨gb105, 3, none⟩ (.int .i64 (rd x8_2 0)))) := ⟨qz11_⟩
             (try clear HO_8)
             (try clear BK101)
             (try clear BK105)
             (try clear HB)
             generalize (wc.setCell ⟨gb105, 3, none⟩ (.int .i64 (rd x8_2 0))) = w56 at n0_ n1_ n2_ n3_ ⊢
             have HO_8 := n0_
             have BK101 := n1_
             have BK105 := n2_
             have HB := n3_
             clear n0_ n1_ n2_ n3_
             have n0_ := am_ (Kd.R_drew HO_8.out)
             have n1_ := am_ (blk_drew BK101.out)
             have n2_ := am_ (blk_drew BK105.out)
             have n3_ := am_ (below_drew1 HB.out)
             clear HO_8
             clear BK101
             clear BK105
             clear HB
             have HO_8 := n0_
             have BK101 := n1_
             have BK105 := n2_
             have HB := n3_
             clear n0_ n1_ n2_ n3_
             refine start_ (n := 5) (S := fun w' => w'.cell? ⟨gb105, 0, none⟩ = some (.int .i64 x106000_1) ∧ w'.cell? ⟨gb105, 1, none⟩ = some (.int .i64 0) ∧ w'.cell? ⟨gb105, 2, none⟩ = some (.int .i64 0) ∧ w'.cell? ⟨gb105, 3, none⟩ = some (.int .i64 (rd x8_2 0))) (ds := []) #[false, false, false, false, false] (by kernel_rfl) rfl rfl ⟨(blk_cell BK105.out 0).trans rfl, (blk_cell BK105.out 1).trans rfl, (blk_cell BK105.out 2).trans rfl, (blk_cell BK105.out 3).trans rfl⟩ (fun hHeld => ?_)
             generalize w56.drew = w57 at HO_8 BK101 BK105 HB hHeld ⊢
             refine take_ (i := 0) (N := some 103) (v := ?_) (a' := ?_) #[true, false, false, false, false] rfl rfl (by kernel_rfl) (fun _ _ _ h => h) (Or.inl ⟨(by rfl), ?_⟩) hHeld ?_ ?_
             rotate_left
             ·
              rintro w' ⟨s0, s1, s2, s3⟩
              go_simp
              with_reducible rfl
             rotate_left
             ·
              exact ap_
             refine take_ (i := 1) (N := some 104) (v := ?_) (a' := ?_) #[true, true, false, false, false] rfl rfl (by kernel_rfl) (fun _ _ _ h => h) (Or.inl ⟨(by rfl), ?_⟩) hHeld ?_ ?_
             rotate_left
             ·
              rintro w' ⟨s0, s1, s2, s3⟩
              go_simp
              with_reducible rfl
             rotate_left
             ·
              exact ap_
             refine one_ (i := 2) (N := some 105) #[true, true, true, false, false] rfl rfl (by kernel_rfl) (by decide) (fun K hK => ?_)
             refine goes_ Tryd.func17 (by kernel_rfl) rfl #[.agg #[.int .i64 x106000_1, .int .i64 0, .int .i64 0, .int .i64 (rd x8_2 0)], .int .i64 15] (by rfl) rfl rfl qz2_ ?_
             with_reducible refine (spec_l11Gate.calls kj38 x106000_1 0 0 (rd x8_2 0) 15 t123 _ A52.out).mono ?_
             rintro e w58 ⟨rfl, hb⟩
             refine ⟨_, rfl, ?_⟩
             have n0_ := am_ (Kd.R_below qz14_ hb)
             have n1_ := am_ (blk_below (g := gb101) (o := .cells #[.int .i64 x102000_2, .int .i64 x102001_2, .int .i64 x102002_2, .int .i64 x102003_2] 30 (0, 0)) qz7_ hb)
             have n2_ := am_ (blk_below (g := gb105) (o := .cells #[.int .i64 x106000_1, .int .i64 0, .int .i64 0, .int .i64 (rd x8_2 0)] 30 (0, 0)) qz12_ hb)
             have n3_ := am_ (below_step qz11_ hb)
             clear HO_8
             clear BK101
             clear BK105
             clear HB
             have HO_8 := n0_
             have BK101 := n1_
             have BK105 := n2_
             have HB := n3_
             clear n0_ n1_ n2_ n3_
             (try clear hb)
             (try clear hb2)
             (try clear hk)
             (try clear hi)
             refine hK.out _ _ ⟨(blk_cell BK105.out 0).trans rfl, (blk_cell BK105.out 1).trans rfl, (blk_cell BK105.out 2).trans rfl, (blk_cell BK105.out 3).trans rfl⟩ (fun hHeld => ?_)
             clear hK K
             refine norm_ (a' := ?_) ?_ ?_
             rotate_left
             ·
              show Act.put _ (some 105) _ = _
              exact ap_
             refine one_ (i := 3) (N := none) #[true, true, true, true, false] rfl rfl (by kernel_rfl) (by decide) (fun K hK => ?_)
             have hs59 : w58.cell? ⟨gb101, 0, none⟩ = some (.int .i64 x102000_2) := (blk_cell BK101.out 0).trans rfl
             have hfs59 := blk_frozen BK101.out 0
             have hns59_1 := NB105_101.out
             have hms59_1 := NB101_105.out
             have hs60 : w58.cell? ⟨gb101, 1, none⟩ = some (.int .i64 x102001_2) := (blk_cell BK101.out 1).trans rfl
             have hfs60 := blk_frozen BK101.out 1
             have hns60_1 := NB105_101.out
             have hms60_1 := NB101_105.out
             have hs61 : w58.cell? ⟨gb101, 2, none⟩ = some (.int .i64 x102002_2) := (blk_cell BK101.out 2).trans rfl
             have hfs61 := blk_frozen BK101.out 2
             have hns61_1 := NB105_101.out
             have hms61_1 := NB101_105.out
             have hs62 : w58.cell? ⟨gb101, 3, none⟩ = some (.int .i64 x102003_2) := (blk_cell BK101.out 3).trans rfl
             have hfs62 := blk_frozen BK101.out 3
             have hns62_1 := NB105_101.out
             have hms62_1 := NB101_105.out
             refine skip_ (w1 := ?_) (by rfl) rfl ?_ ?_
             rotate_left
             ·
              go_simp
              rfl
             refine hK.out _ _ ⟨((cell_far (p := ⟨gb101, _, none⟩) NB105_101.out _).trans (((cell_far (p := ⟨gb101, _, none⟩) NB105_101.out _).trans (((cell_far (p := ⟨gb101, _, none⟩) NB105_101.out _).trans (((cell_far (p := ⟨gb101, _, none⟩) NB105_101.out _).trans (hHeld.1)))))))), ((cell_far (p := ⟨gb101, _, none⟩) NB105_101.out _).trans (((cell_far (p := ⟨gb101, _, none⟩) NB105_101.out _).trans (((cell_far (p := ⟨gb101, _, none⟩) NB105_101.out _).trans (((cell_far (p := ⟨gb101, _, none⟩) NB105_101.out _).trans (hHeld.2.1)))))))), ((cell_far (p := ⟨gb101, _, none⟩) NB105_101.out _).trans (((cell_far (p := ⟨gb101, _, none⟩) NB105_101.out _).trans (((cell_far (p := ⟨gb101, _, none⟩) NB105_101.out _).trans (((cell_far (p := ⟨gb101, _, none⟩) NB105_101.out _).trans (hHeld.2.2.1)))))))), ((cell_far (p := ⟨gb101, _, none⟩) NB105_101.out _).trans (((cell_far (p := ⟨gb101, _, none⟩) NB105_101.out _).trans (((cell_far (p := ⟨gb101, _, none⟩) NB105_101.out _).trans (((cell_far (p := ⟨gb101, _, none⟩) NB105_101.out _).trans (hHeld.2.2.2))))))))⟩ (fun hHeld => ?_)
             clear hK K
             refine pure_ (i := 4) (N := some 3) (v := ?_) (a' := ?_) #[true, true, true, true, true] rfl rfl (by kernel_rfl) (fun _ _ _ h => h) (Or.inl ⟨(by rfl), ?_⟩) ?_ ?_
             rotate_left
             ·
              intro w'
              go_simp
              with_reducible rfl
             rotate_left
             ·
              exact ap_
             refine done_ (by kernel_rfl) ?_
             try go_wp2
             refine bodyPost_ret (results_ct rfl _ _ gb101 30 #[.int .i64 x106000_1, .int .i64 0, .int .i64 0, .int .i64 (rd x8_2 0)] (0, 0) _ rfl qz16_ Tryd.underlying30 rfl (by kernel_rfl)) rfl ?_
             exact ⟨qz4_, qz11_⟩
            ·
             rw [if_neg c51] at H
             exact absurd H (by simp)
           ·
            rw [if_neg c50] at H
            have c50b0 : (x106000_1 == 3) = false := beq_eq_false_iff_ne.mpr c50
            have c50b1 : (x106000_1 != 3) = true := bne_iff_ne.mpr c50
            by_cases c63 : (wrap64 (t120 + t121)) = 2
            ·
             rw [if_pos c63] at H
             have c63b0 : ((wrap64 (t120 + t121)) == 2) = true := beq_iff_eq.mpr c63
             have c63b1 : ((wrap64 (t120 + t121)) != 2) = false := bne_eq_false_iff_eq.mpr c63
             clear c63
             by_cases c64 : 0 < (x8_2.length : Int)
             ·
              rw [if_pos c64] at H
              have c64b0 : decide (0 < (x8_2.length : Int)) = true := decide_eq_true c64
              have c64b1 : decide (0 < x8_2.length) = true := decide_eq_true (by omega)
              clear c64
              by_cases c65 : 1 < (x8_2.length : Int)
              ·
               rw [if_pos c65] at H
               have c65b0 : decide (1 < (x8_2.length : Int)) = true := decide_eq_true c65
               have c65b1 : decide (1 < x8_2.length) = true := decide_eq_true (by omega)
               clear c65
               replace H := Option.bind_eq_some_iff.mp H
               obtain ⟨t126, A660, H⟩ := H
               replace H : (some (x106000_1, rd x8_2 0, rd x8_2 1, 0, t126)) = some (r1, r2, r3, r4, r5) := H
               have A66 := am_ A660
               clear A660
               simp only [Option.some.injEq, Prod.mk.injEq] at H
               obtain ⟨rfl, rfl, rfl, rfl, rfl⟩ := H
               have hnb67 := NB105_101.out
               have hnc67 := NB101_105.out
               have hcz68_0 : wc.cell? ⟨gb105, 0, none⟩ = some (.int .i64 x106000_1) := (blk_cell BK105.out 0).trans rfl
               have hcz68_1 : wc.cell? ⟨gb105, 1, none⟩ = some (.int .i64 0) := (blk_cell BK105.out 1).trans rfl
               have hcz68_2 : wc.cell? ⟨gb105, 2, none⟩ = some (.int .i64 0) := (blk_cell BK105.out 2).trans rfl
               have hcz68_3 : wc.cell? ⟨gb105, 3, none⟩ = some (.int .i64 0) := (blk_cell BK105.out 3).trans rfl
               have hfz68_0 := blk_frozen BK105.out 0
               have hfz68_1 := blk_frozen BK105.out 1
               have hfz68_2 := blk_frozen BK105.out 2
               have hfz68_3 := blk_frozen BK105.out 3
               obtain ⟨Ao69, co69, eo69⟩ := Kd.R_slice HO_8.out
               subst eo69
               have p124 : 0 ≤ (0 : Int) := (by omega)
               have q124 : 0 < (x8_2.length : Int) := of_decide_eq_true qz8_
               obtain ⟨ad124, e124, hx124_0⟩ := Kd.at_int (Kd.R_reads' HO_8.out).2.2 0 p124 q124
               cases e124
               have qi124 : (0 < x8_2.length) = True := eq_true (by omega)
               (try rw [show ((0 : Int)).toNat = 0 from rfl] at hx124_0)
               (try rw [Addr.add_zero'] at hx124_0)
               replace p124 := eq_true p124
               replace q124 := eq_true q124
               have p125 : 0 ≤ (1 : Int) := (by omega)
               have q125 : 1 < (x8_2.length : Int) := of_decide_eq_true qz8_
               obtain ⟨ad125, e125, hx125_0⟩ := Kd.at_int (Kd.R_reads' HO_8.out).2.2 1 p125 q125
               obtain rfl : ad124 = ad125 := (by injection e125)
               (try simp only [show (1 : Int).toNat = 1 from rfl, Nat.reduceMul, Nat.reduceEqDiff, Go.Addr.add, ↓reduceIte] at hx125_0)
               have qi125 : (1 < x8_2.length) = True := eq_true (by omega)
               (try rw [show ((1 : Int)).toNat = 1 from rfl] at hx125_0)
               have hn125_0 : ad124.block ≠ gb105 := Kd.own_blk (Kd.R_ne HO_8.out BK105.out (by decide))
               replace hx125_0 := (cell_far (p := ⟨gb105, 1, none⟩) (by first | (rw [add_block]; exact hn125_0) | (show (Addr.add _ _).block ≠ _; rw [add_block]; exact hn125_0) | exact hn125_0) (.int .i64 (rd x8_2 0))).trans hx125_0
               clear hn125_0
               replace p125 := eq_true p125
               replace q125 := eq_true q125
               try go_wp2
               have n0_ : Aside0 (Kd.R (Kd.int .i64) 3 ((wc.setCell ⟨gb105, 1, none⟩ (.int .i64 (rd x8_2 0))).setCell ⟨gb105, 2, none⟩ (.int .i64 (rd x8_2 1))) w.heap.size (fun _ => True) (.slice (some ad124) x8_2.length co69) x8_2) := ⟨by (with_reducible repeat (first | apply Kd.R_alloc | apply Kd.R_drewN | apply Kd.R_drew)); exact Kd.R_mono (Kd.R_far (p := ⟨gb105, 2, none⟩) (Kd.R_far (p := ⟨gb105, 1, none⟩) (Kd.R_types HO_8.out BK105.out (by decide)) (fun _ hk => hk.2) (.int .i64 (rd x8_2 0))) (fun _ hk => hk.2) (.int .i64 (rd x8_2 1))) (fun _ hk => trivial)⟩
               have n1_ : Aside0 (((wc.setCell ⟨gb105, 1, none⟩ (.int .i64 (rd x8_2 0))).setCell ⟨gb105, 2, none⟩ (.int .i64 (rd x8_2 1))).heap[gb101]? = some (.cells #[.int .i64 x102000_2, .int .i64 x102001_2, .int .i64 x102002_2, .int .i64 x102003_2] 30 (0, 0))) := ⟨(by (with_reducible repeat (first | refine blk_drewN ?_ _ | refine blk_drew ?_ | refine blk_alloc ?_ _)); refine blk_far ?_ NB101_105.out _; (with_reducible repeat (first | refine blk_drewN ?_ _ | refine blk_drew ?_ | refine blk_alloc ?_ _)); refine blk_far ?_ NB101_105.out _; (with_reducible repeat (first | refine blk_drewN ?_ _ | refine blk_drew ?_ | refine blk_alloc ?_ _)); exact BK101.out)⟩
               have n2_ : Aside0 (((wc.setCell ⟨gb105, 1, none⟩ (.int .i64 (rd x8_2 0))).setCell ⟨gb105, 2, none⟩ (.int .i64 (rd x8_2 1))).heap[gb105]? = some (.cells #[.int .i64 x106000_1, .int .i64 (rd x8_2 0), .int .i64 (rd x8_2 1), .int .i64 0] 30 (0, 0))) := ⟨(by (with_reducible repeat (first | refine blk_drewN ?_ _ | refine blk_drew ?_ | refine blk_alloc ?_ _)); refine blk_put (cs := #[.int .i64 x106000_1, .int .i64 (rd x8_2 0), .int .i64 0, .int .i64 0]) ?_ 2 _ rfl; (with_reducible repeat (first | refine blk_drewN ?_ _ | refine blk_drew ?_ | refine blk_alloc ?_ _)); refine blk_put (cs := #[.int .i64 x106000_1, .int .i64 0, .int .i64 0, .int .i64 0]) ?_ 1 _ rfl; (with_reducible repeat (first | refine blk_drewN ?_ _ | refine blk_drew ?_ | refine blk_alloc ?_ _)); exact BK105.out)⟩
               have n3_ : Aside0 (Below w.heap.size w ((wc.setCell ⟨gb105, 1, none⟩ (.int .i64 (rd x8_2 0))).setCell ⟨gb105, 2, none⟩ (.int .i64 (rd x8_2 1)))) := ⟨qz11_⟩
               (try clear HO_8)
               (try clear BK101)
               (try clear BK105)
               (try clear HB)
               generalize ((wc.setCell ⟨gb105, 1, none⟩ (.int .i64 (rd x8_2 0))).setCell ⟨gb105, 2, none⟩ (.int .i64 (rd x8_2 1))) = w70 at n0_ n1_ n2_ n3_ ⊢
               have HO_8 := n0_
               have BK101 := n1_
               have BK105 := n2_
               have HB := n3_
               clear n0_ n1_ n2_ n3_
               have n0_ := am_ (Kd.R_drew HO_8.out)
               have n1_ := am_ (blk_drew BK101.out)
               have n2_ := am_ (blk_drew BK105.out)
               have n3_ := am_ (below_drew1 HB.out)
               clear HO_8
               clear BK101
               clear BK105
               clear HB
               have HO_8 := n0_
               have BK101 := n1_
               have BK105 := n2_
               have HB := n3_
               clear n0_ n1_ n2_ n3_
               refine start_ (n := 5) (S := fun w' => w'.cell? ⟨gb105, 0, none⟩ = some (.int .i64 x106000_1) ∧ w'.cell? ⟨gb105, 1, none⟩ = some (.int .i64 (rd x8_2 0)) ∧ w'.cell? ⟨gb105, 2, none⟩ = some (.int .i64 (rd x8_2 1)) ∧ w'.cell? ⟨gb105, 3, none⟩ = some (.int .i64 0)) (ds := []) #[false, false, false, false, false] (by kernel_rfl) rfl rfl ⟨(blk_cell BK105.out 0).trans rfl, (blk_cell BK105.out 1).trans rfl, (blk_cell BK105.out 2).trans rfl, (blk_cell BK105.out 3).trans rfl⟩ (fun hHeld => ?_)
               generalize w70.drew = w71 at HO_8 BK101 BK105 HB hHeld ⊢
               refine take_ (i := 0) (N := some 103) (v := ?_) (a' := ?_) #[true, false, false, false, false] rfl rfl (by kernel_rfl) (fun _ _ _ h => h) (Or.inl ⟨(by rfl), ?_⟩) hHeld ?_ ?_
               rotate_left
               ·
                rintro w' ⟨s0, s1, s2, s3⟩
                go_simp
                with_reducible rfl
               rotate_left
               ·
                exact ap_
               refine take_ (i := 1) (N := some 104) (v := ?_) (a' := ?_) #[true, true, false, false, false] rfl rfl (by kernel_rfl) (fun _ _ _ h => h) (Or.inl ⟨(by rfl), ?_⟩) hHeld ?_ ?_
               rotate_left
               ·
                rintro w' ⟨s0, s1, s2, s3⟩
                go_simp
                with_reducible rfl
               rotate_left
               ·
                exact ap_
               refine one_ (i := 2) (N := some 105) #[true, true, true, false, false] rfl rfl (by kernel_rfl) (by decide) (fun K hK => ?_)
               refine goes_ Tryd.func17 (by kernel_rfl) rfl #[.agg #[.int .i64 x106000_1, .int .i64 (rd x8_2 0), .int .i64 (rd x8_2 1), .int .i64 0], .int .i64 15] (by rfl) rfl rfl qz2_ ?_
               with_reducible refine (spec_l11Gate.calls kj38 x106000_1 (rd x8_2 0) (rd x8_2 1) 0 15 t126 _ A66.out).mono ?_
               rintro e w72 ⟨rfl, hb⟩
               refine ⟨_, rfl, ?_⟩
               have n0_ := am_ (Kd.R_below qz14_ hb)
               have n1_ := am_ (blk_below (g := gb101) (o := .cells #[.int .i64 x102000_2, .int .i64 x102001_2, .int .i64 x102002_2, .int .i64 x102003_2] 30 (0, 0)) qz7_ hb)
               have n2_ := am_ (blk_below (g := gb105) (o := .cells #[.int .i64 x106000_1, .int .i64 (rd x8_2 0), .int .i64 (rd x8_2 1), .int .i64 0] 30 (0, 0)) qz12_ hb)
               have n3_ := am_ (below_step qz11_ hb)
               clear HO_8
               clear BK101
               clear BK105
               clear HB
               have HO_8 := n0_
               have BK101 := n1_
               have BK105 := n2_
               have HB := n3_
               clear n0_ n1_ n2_ n3_
               (try clear hb)
               (try clear hb2)
               (try clear hk)
               (try clear hi)
               refine hK.out _ _ ⟨(blk_cell BK105.out 0).trans rfl, (blk_cell BK105.out 1).trans rfl, (blk_cell BK105.out 2).trans rfl, (blk_cell BK105.out 3).trans rfl⟩ (fun hHeld => ?_)
               clear hK K
               refine norm_ (a' := ?_) ?_ ?_
               rotate_left
               ·
                show Act.put _ (some 105) _ = _
                exact ap_
               refine one_ (i := 3) (N := none) #[true, true, true, true, false] rfl rfl (by kernel_rfl) (by decide) (fun K hK => ?_)
               have hs73 : w72.cell? ⟨gb101, 0, none⟩ = some (.int .i64 x102000_2) := (blk_cell BK101.out 0).trans rfl
               have hfs73 := blk_frozen BK101.out 0
               have hns73_1 := NB105_101.out
               have hms73_1 := NB101_105.out
               have hs74 : w72.cell? ⟨gb101, 1, none⟩ = some (.int .i64 x102001_2) := (blk_cell BK101.out 1).trans rfl
               have hfs74 := blk_frozen BK101.out 1
               have hns74_1 := NB105_101.out
               have hms74_1 := NB101_105.out
               have hs75 : w72.cell? ⟨gb101, 2, none⟩ = some (.int .i64 x102002_2) := (blk_cell BK101.out 2).trans rfl
               have hfs75 := blk_frozen BK101.out 2
               have hns75_1 := NB105_101.out
               have hms75_1 := NB101_105.out
               have hs76 : w72.cell? ⟨gb101, 3, none⟩ = some (.int .i64 x102003_2) := (blk_cell BK101.out 3).trans rfl
               have hfs76 := blk_frozen BK101.out 3
               have hns76_1 := NB105_101.out
               have hms76_1 := NB101_105.out
               refine skip_ (w1 := ?_) (by rfl) rfl ?_ ?_
               rotate_left
               ·
                go_simp
                rfl
               refine hK.out _ _ ⟨((cell_far (p := ⟨gb101, _, none⟩) NB105_101.out _).trans (((cell_far (p := ⟨gb101, _, none⟩) NB105_101.out _).trans (((cell_far (p := ⟨gb101, _, none⟩) NB105_101.out _).trans (((cell_far (p := ⟨gb101, _, none⟩) NB105_101.out _).trans (hHeld.1)))))))), ((cell_far (p := ⟨gb101, _, none⟩) NB105_101.out _).trans (((cell_far (p := ⟨gb101, _, none⟩) NB105_101.out _).trans (((cell_far (p := ⟨gb101, _, none⟩) NB105_101.out _).trans (((cell_far (p := ⟨gb101, _, none⟩) NB105_101.out _).trans (hHeld.2.1)))))))), ((cell_far (p := ⟨gb101, _, none⟩) NB105_101.out _).trans (((cell_far (p := ⟨gb101, _, none⟩) NB105_101.out _).trans (((cell_far (p := ⟨gb101, _, none⟩) NB105_101.out _).trans (((cell_far (p := ⟨gb101, _, none⟩) NB105_101.out _).trans (hHeld.2.2.1)))))))), ((cell_far (p := ⟨gb101, _, none⟩) NB105_101.out _).trans (((cell_far (p := ⟨gb101, _, none⟩) NB105_101.out _).trans (((cell_far (p := ⟨gb101, _, none⟩) NB105_101.out _).trans (((cell_far (p := ⟨gb101, _, none⟩) NB105_101.out _).trans (hHeld.2.2.2))))))))⟩ (fun hHeld => ?_)
               clear hK K
               refine pure_ (i := 4) (N := some 3) (v := ?_) (a' := ?_) #[true, true, true, true, true] rfl rfl (by kernel_rfl) (fun _ _ _ h => h) (Or.inl ⟨(by rfl), ?_⟩) ?_ ?_
               rotate_left
               ·
                intro w'
                go_simp
                with_reducible rfl
               rotate_left
               ·
                exact ap_
               refine done_ (by kernel_rfl) ?_
               try go_wp2
               refine bodyPost_ret (results_ct rfl _ _ gb101 30 #[.int .i64 x106000_1, .int .i64 (rd x8_2 0), .int .i64 (rd x8_2 1), .int .i64 0] (0, 0) _ rfl (by (with_reducible repeat (first | refine blk_drewN ?_ _ | refine blk_drew ?_ | refine blk_alloc ?_ _)); refine blk_put (cs := #[.int .i64 x106000_1, .int .i64 (rd x8_2 0), .int .i64 (rd x8_2 1), .int .i64 x102003_2]) ?_ 3 _ rfl; (with_reducible repeat (first | refine blk_drewN ?_ _ | refine blk_drew ?_ | refine blk_alloc ?_ _)); refine blk_put (cs := #[.int .i64 x106000_1, .int .i64 (rd x8_2 0), .int .i64 x102002_2, .int .i64 x102003_2]) ?_ 2 _ rfl; (with_reducible repeat (first | refine blk_drewN ?_ _ | refine blk_drew ?_ | refine blk_alloc ?_ _)); refine blk_put (cs := #[.int .i64 x106000_1, .int .i64 x102001_2, .int .i64 x102002_2, .int .i64 x102003_2]) ?_ 1 _ rfl; (with_reducible repeat (first | refine blk_drewN ?_ _ | refine blk_drew ?_ | refine blk_alloc ?_ _)); refine blk_put (cs := #[.int .i64 x102000_2, .int .i64 x102001_2, .int .i64 x102002_2, .int .i64 x102003_2]) ?_ 0 _ rfl; (with_reducible repeat (first | refine blk_drewN ?_ _ | refine blk_drew ?_ | refine blk_alloc ?_ _)); exact BK101.out) Tryd.underlying30 rfl (by kernel_rfl)) rfl ?_
               exact ⟨qz4_, qz11_⟩
              ·
               rw [if_neg c65] at H
               exact absurd H (by simp)
             ·
              rw [if_neg c64] at H
              exact absurd H (by simp)
            ·
             rw [if_neg c63] at H
             have c63b0 : ((wrap64 (t120 + t121)) == 2) = false := beq_eq_false_iff_ne.mpr c63
             have c63b1 : ((wrap64 (t120 + t121)) != 2) = true := bne_iff_ne.mpr c63
             by_cases c77 : (wrap64 (t120 + t121)) = 1
             ·
              rw [if_pos c77] at H
              have c77b0 : ((wrap64 (t120 + t121)) == 1) = true := beq_iff_eq.mpr c77
              have c77b1 : ((wrap64 (t120 + t121)) != 1) = false := bne_eq_false_iff_eq.mpr c77
              clear c77
              by_cases c78 : 0 < (x8_2.length : Int)
              ·
               rw [if_pos c78] at H
               have c78b0 : decide (0 < (x8_2.length : Int)) = true := decide_eq_true c78
               have c78b1 : decide (0 < x8_2.length) = true := decide_eq_true (by omega)
               clear c78
               replace H := Option.bind_eq_some_iff.mp H
               obtain ⟨t128, A790, H⟩ := H
               replace H : (some (x106000_1, rd x8_2 0, 0, 0, t128)) = some (r1, r2, r3, r4, r5) := H
               have A79 := am_ A790
               clear A790
               simp only [Option.some.injEq, Prod.mk.injEq] at H
               obtain ⟨rfl, rfl, rfl, rfl, rfl⟩ := H
               have hnb80 := NB105_101.out
               have hnc80 := NB101_105.out
               have hcz81_0 : wc.cell? ⟨gb105, 0, none⟩ = some (.int .i64 x106000_1) := (blk_cell BK105.out 0).trans rfl
               have hcz81_1 : wc.cell? ⟨gb105, 1, none⟩ = some (.int .i64 0) := (blk_cell BK105.out 1).trans rfl
               have hcz81_2 : wc.cell? ⟨gb105, 2, none⟩ = some (.int .i64 0) := (blk_cell BK105.out 2).trans rfl
               have hcz81_3 : wc.cell? ⟨gb105, 3, none⟩ = some (.int .i64 0) := (blk_cell BK105.out 3).trans rfl
               have hfz81_0 := blk_frozen BK105.out 0
               have hfz81_1 := blk_frozen BK105.out 1
               have hfz81_2 := blk_frozen BK105.out 2
               have hfz81_3 := blk_frozen BK105.out 3
               obtain ⟨Ao82, co82, eo82⟩ := Kd.R_slice HO_8.out
               subst eo82
               have p127 : 0 ≤ (0 : Int) := (by omega)
               have q127 : 0 < (x8_2.length : Int) := of_decide_eq_true qz8_
               obtain ⟨ad127, e127, hx127_0⟩ := Kd.at_int (Kd.R_reads' HO_8.out).2.2 0 p127 q127
               cases e127
               have qi127 : (0 < x8_2.length) = True := eq_true (by omega)
               (try rw [show ((0 : Int)).toNat = 0 from rfl] at hx127_0)
               (try rw [Addr.add_zero'] at hx127_0)
               replace p127 := eq_true p127
               replace q127 := eq_true q127
               try go_wp2
               have n0_ : Aside0 (Kd.R (Kd.int .i64) 3 (wc.setCell ⟨gb105, 1, none⟩ (.int .i64 (rd x8_2 0))) w.heap.size (fun _ => True) (.slice (some ad127) x8_2.length co82) x8_2) := ⟨by (with_reducible repeat (first | apply Kd.R_alloc | apply Kd.R_drewN | apply Kd.R_drew)); exact Kd.R_mono (Kd.R_far (p := ⟨gb105, 1, none⟩) (Kd.R_types HO_8.out BK105.out (by decide)) (fun _ hk => hk.2) (.int .i64 (rd x8_2 0))) (fun _ hk => trivial)⟩
               have n1_ : Aside0 ((wc.setCell ⟨gb105, 1, none⟩ (.int .i64 (rd x8_2 0))).heap[gb101]? = some (.cells #[.int .i64 x102000_2, .int .i64 x102001_2, .int .i64 x102002_2, .int .i64 x102003_2] 30 (0, 0))) := ⟨qz13_⟩
               have n2_ : Aside0 ((wc.setCell ⟨gb105, 1, none⟩ (.int .i64 (rd x8_2 0))).heap[gb105]? = some (.cells #[.int .i64 x106000_1, .int .i64 (rd x8_2 0), .int .i64 0, .int .i64 0] 30 (0, 0))) := ⟨(by (with_reducible repeat (first | refine blk_drewN ?_ _ | refine blk_drew ?_ | refine blk_alloc ?_ _)); refine blk_put (cs := #[.int .i64 x106000_1, .int .i64 0, .int .i64 0, .int .i64 0]) ?_ 1 _ rfl; (with_reducible repeat (first | refine blk_drewN ?_ _ | refine blk_drew ?_ | refine blk_alloc ?_ _)); exact BK105.out)⟩
               have n3_ : Aside0 (Below w.heap.size w (wc.setCell ⟨gb105, 1, none⟩ (.int .i64 (rd x8_2 0)))) := ⟨qz11_⟩
               (try clear HO_8)
               (try clear BK101)
               (try clear BK105)
               (try clear HB)
               generalize (wc.setCell ⟨gb105, 1, none⟩ (.int .i64 (rd x8_2 0))) = w83 at n0_ n1_ n2_ n3_ ⊢
               have HO_8 := n0_
               have BK101 := n1_
               have BK105 := n2_
               have HB := n3_
               clear n0_ n1_ n2_ n3_
               have n0_ := am_ (Kd.R_drew HO_8.out)
               have n1_ := am_ (blk_drew BK101.out)
               have n2_ := am_ (blk_drew BK105.out)
               have n3_ := am_ (below_drew1 HB.out)
               clear HO_8
               clear BK101
               clear BK105
               clear HB
               have HO_8 := n0_
               have BK101 := n1_
               have BK105 := n2_
               have HB := n3_
               clear n0_ n1_ n2_ n3_
               refine start_ (n := 5) (S := fun w' => w'.cell? ⟨gb105, 0, none⟩ = some (.int .i64 x106000_1) ∧ w'.cell? ⟨gb105, 1, none⟩ = some (.int .i64 (rd x8_2 0)) ∧ w'.cell? ⟨gb105, 2, none⟩ = some (.int .i64 0) ∧ w'.cell? ⟨gb105, 3, none⟩ = some (.int .i64 0)) (ds := []) #[false, false, false, false, false] (by kernel_rfl) rfl rfl ⟨(blk_cell BK105.out 0).trans rfl, (blk_cell BK105.out 1).trans rfl, (blk_cell BK105.out 2).trans rfl, (blk_cell BK105.out 3).trans rfl⟩ (fun hHeld => ?_)
               generalize w83.drew = w84 at HO_8 BK101 BK105 HB hHeld ⊢
               refine take_ (i := 0) (N := some 103) (v := ?_) (a' := ?_) #[true, false, false, false, false] rfl rfl (by kernel_rfl) (fun _ _ _ h => h) (Or.inl ⟨(by rfl), ?_⟩) hHeld ?_ ?_
               rotate_left
               ·
                rintro w' ⟨s0, s1, s2, s3⟩
                go_simp
                with_reducible rfl
               rotate_left
               ·
                exact ap_
               refine take_ (i := 1) (N := some 104) (v := ?_) (a' := ?_) #[true, true, false, false, false] rfl rfl (by kernel_rfl) (fun _ _ _ h => h) (Or.inl ⟨(by rfl), ?_⟩) hHeld ?_ ?_
               rotate_left
               ·
                rintro w' ⟨s0, s1, s2, s3⟩
                go_simp
                with_reducible rfl
               rotate_left
               ·
                exact ap_
               refine one_ (i := 2) (N := some 105) #[true, true, true, false, false] rfl rfl (by kernel_rfl) (by decide) (fun K hK => ?_)
               refine goes_ Tryd.func17 (by kernel_rfl) rfl #[.agg #[.int .i64 x106000_1, .int .i64 (rd x8_2 0), .int .i64 0, .int .i64 0], .int .i64 15] (by rfl) rfl rfl qz2_ ?_
               with_reducible refine (spec_l11Gate.calls kj38 x106000_1 (rd x8_2 0) 0 0 15 t128 _ A79.out).mono ?_
               rintro e w85 ⟨rfl, hb⟩
               refine ⟨_, rfl, ?_⟩
               have n0_ := am_ (Kd.R_below qz14_ hb)
               have n1_ := am_ (blk_below (g := gb101) (o := .cells #[.int .i64 x102000_2, .int .i64 x102001_2, .int .i64 x102002_2, .int .i64 x102003_2] 30 (0, 0)) qz7_ hb)
               have n2_ := am_ (blk_below (g := gb105) (o := .cells #[.int .i64 x106000_1, .int .i64 (rd x8_2 0), .int .i64 0, .int .i64 0] 30 (0, 0)) qz12_ hb)
               have n3_ := am_ (below_step qz11_ hb)
               clear HO_8
               clear BK101
               clear BK105
               clear HB
               have HO_8 := n0_
               have BK101 := n1_
               have BK105 := n2_
               have HB := n3_
               clear n0_ n1_ n2_ n3_
               (try clear hb)
               (try clear hb2)
               (try clear hk)
               (try clear hi)
               refine hK.out _ _ ⟨(blk_cell BK105.out 0).trans rfl, (blk_cell BK105.out 1).trans rfl, (blk_cell BK105.out 2).trans rfl, (blk_cell BK105.out 3).trans rfl⟩ (fun hHeld => ?_)
               clear hK K
               refine norm_ (a' := ?_) ?_ ?_
               rotate_left
               ·
                show Act.put _ (some 105) _ = _
                exact ap_
               refine one_ (i := 3) (N := none) #[true, true, true, true, false] rfl rfl (by kernel_rfl) (by decide) (fun K hK => ?_)
               have hs86 : w85.cell? ⟨gb101, 0, none⟩ = some (.int .i64 x102000_2) := (blk_cell BK101.out 0).trans rfl
               have hfs86 := blk_frozen BK101.out 0
               have hns86_1 := NB105_101.out
               have hms86_1 := NB101_105.out
               have hs87 : w85.cell? ⟨gb101, 1, none⟩ = some (.int .i64 x102001_2) := (blk_cell BK101.out 1).trans rfl
               have hfs87 := blk_frozen BK101.out 1
               have hns87_1 := NB105_101.out
               have hms87_1 := NB101_105.out
               have hs88 : w85.cell? ⟨gb101, 2, none⟩ = some (.int .i64 x102002_2) := (blk_cell BK101.out 2).trans rfl
               have hfs88 := blk_frozen BK101.out 2
               have hns88_1 := NB105_101.out
               have hms88_1 := NB101_105.out
               have hs89 : w85.cell? ⟨gb101, 3, none⟩ = some (.int .i64 x102003_2) := (blk_cell BK101.out 3).trans rfl
               have hfs89 := blk_frozen BK101.out 3
               have hns89_1 := NB105_101.out
               have hms89_1 := NB101_105.out
               refine skip_ (w1 := ?_) (by rfl) rfl ?_ ?_
               rotate_left
               ·
                go_simp
                rfl
               refine hK.out _ _ ⟨((cell_far (p := ⟨gb101, _, none⟩) NB105_101.out _).trans (((cell_far (p := ⟨gb101, _, none⟩) NB105_101.out _).trans (((cell_far (p := ⟨gb101, _, none⟩) NB105_101.out _).trans (((cell_far (p := ⟨gb101, _, none⟩) NB105_101.out _).trans (hHeld.1)))))))), ((cell_far (p := ⟨gb101, _, none⟩) NB105_101.out _).trans (((cell_far (p := ⟨gb101, _, none⟩) NB105_101.out _).trans (((cell_far (p := ⟨gb101, _, none⟩) NB105_101.out _).trans (((cell_far (p := ⟨gb101, _, none⟩) NB105_101.out _).trans (hHeld.2.1)))))))), ((cell_far (p := ⟨gb101, _, none⟩) NB105_101.out _).trans (((cell_far (p := ⟨gb101, _, none⟩) NB105_101.out _).trans (((cell_far (p := ⟨gb101, _, none⟩) NB105_101.out _).trans (((cell_far (p := ⟨gb101, _, none⟩) NB105_101.out _).trans (hHeld.2.2.1)))))))), ((cell_far (p := ⟨gb101, _, none⟩) NB105_101.out _).trans (((cell_far (p := ⟨gb101, _, none⟩) NB105_101.out _).trans (((cell_far (p := ⟨gb101, _, none⟩) NB105_101.out _).trans (((cell_far (p := ⟨gb101, _, none⟩) NB105_101.out _).trans (hHeld.2.2.2))))))))⟩ (fun hHeld => ?_)
               clear hK K
               refine pure_ (i := 4) (N := some 3) (v := ?_) (a' := ?_) #[true, true, true, true, true] rfl rfl (by kernel_rfl) (fun _ _ _ h => h) (Or.inl ⟨(by rfl), ?_⟩) ?_ ?_
               rotate_left
               ·
                intro w'
                go_simp
                with_reducible rfl
               rotate_left
               ·
                exact ap_
               refine done_ (by kernel_rfl) ?_
               try go_wp2
               refine bodyPost_ret (results_ct rfl _ _ gb101 30 #[.int .i64 x106000_1, .int .i64 (rd x8_2 0), .int .i64 0, .int .i64 0] (0, 0) _ rfl (by (with_reducible repeat (first | refine blk_drewN ?_ _ | refine blk_drew ?_ | refine blk_alloc ?_ _)); refine blk_put (cs := #[.int .i64 x106000_1, .int .i64 (rd x8_2 0), .int .i64 0, .int .i64 x102003_2]) ?_ 3 _ rfl; (with_reducible repeat (first | refine blk_drewN ?_ _ | refine blk_drew ?_ | refine blk_alloc ?_ _)); refine blk_put (cs := #[.int .i64 x106000_1, .int .i64 (rd x8_2 0), .int .i64 x102002_2, .int .i64 x102003_2]) ?_ 2 _ rfl; (with_reducible repeat (first | refine blk_drewN ?_ _ | refine blk_drew ?_ | refine blk_alloc ?_ _)); refine blk_put (cs := #[.int .i64 x106000_1, .int .i64 x102001_2, .int .i64 x102002_2, .int .i64 x102003_2]) ?_ 1 _ rfl; (with_reducible repeat (first | refine blk_drewN ?_ _ | refine blk_drew ?_ | refine blk_alloc ?_ _)); refine blk_put (cs := #[.int .i64 x102000_2, .int .i64 x102001_2, .int .i64 x102002_2, .int .i64 x102003_2]) ?_ 0 _ rfl; (with_reducible repeat (first | refine blk_drewN ?_ _ | refine blk_drew ?_ | refine blk_alloc ?_ _)); exact BK101.out) Tryd.underlying30 rfl (by kernel_rfl)) rfl ?_
               exact ⟨qz4_, qz11_⟩
              ·
               rw [if_neg c78] at H
               exact absurd H (by simp)
             ·
              rw [if_neg c77] at H
              have c77b0 : ((wrap64 (t120 + t121)) == 1) = false := beq_eq_false_iff_ne.mpr c77
              have c77b1 : ((wrap64 (t120 + t121)) != 1) = true := bne_iff_ne.mpr c77
              replace H := Option.bind_eq_some_iff.mp H
              obtain ⟨t129, A900, H⟩ := H
              replace H : (some (x106000_1, 0, 0, 0, t129)) = some (r1, r2, r3, r4, r5) := H
              have A90 := am_ A900
              clear A900
              simp only [Option.some.injEq, Prod.mk.injEq] at H
              obtain ⟨rfl, rfl, rfl, rfl, rfl⟩ := H
              have hnb91 := NB105_101.out
              have hnc91 := NB101_105.out
              have hcz92_0 : wc.cell? ⟨gb105, 0, none⟩ = some (.int .i64 x106000_1) := (blk_cell BK105.out 0).trans rfl
              have hcz92_1 : wc.cell? ⟨gb105, 1, none⟩ = some (.int .i64 0) := (blk_cell BK105.out 1).trans rfl
              have hcz92_2 : wc.cell? ⟨gb105, 2, none⟩ = some (.int .i64 0) := (blk_cell BK105.out 2).trans rfl
              have hcz92_3 : wc.cell? ⟨gb105, 3, none⟩ = some (.int .i64 0) := (blk_cell BK105.out 3).trans rfl
              have hfz92_0 := blk_frozen BK105.out 0
              have hfz92_1 := blk_frozen BK105.out 1
              have hfz92_2 := blk_frozen BK105.out 2
              have hfz92_3 := blk_frozen BK105.out 3
              try go_wp2
              have n0_ := am_ (Kd.R_drew HO_8.out)
              have n1_ := am_ (blk_drew BK101.out)
              have n2_ := am_ (blk_drew BK105.out)
              have n3_ := am_ (below_drew1 HB.out)
              clear HO_8
              clear BK101
              clear BK105
              clear HB
              have HO_8 := n0_
              have BK101 := n1_
              have BK105 := n2_
              have HB := n3_
              clear n0_ n1_ n2_ n3_
              refine start_ (n := 5) (S := fun w' => w'.cell? ⟨gb105, 0, none⟩ = some (.int .i64 x106000_1) ∧ w'.cell? ⟨gb105, 1, none⟩ = some (.int .i64 0) ∧ w'.cell? ⟨gb105, 2, none⟩ = some (.int .i64 0) ∧ w'.cell? ⟨gb105, 3, none⟩ = some (.int .i64 0)) (ds := []) #[false, false, false, false, false] (by kernel_rfl) rfl rfl ⟨(blk_cell BK105.out 0).trans rfl, (blk_cell BK105.out 1).trans rfl, (blk_cell BK105.out 2).trans rfl, (blk_cell BK105.out 3).trans rfl⟩ (fun hHeld => ?_)
              generalize wc.drew = w93 at HO_8 BK101 BK105 HB hHeld ⊢
              refine take_ (i := 0) (N := some 103) (v := ?_) (a' := ?_) #[true, false, false, false, false] rfl rfl (by kernel_rfl) (fun _ _ _ h => h) (Or.inl ⟨(by rfl), ?_⟩) hHeld ?_ ?_
              rotate_left
              ·
               rintro w' ⟨s0, s1, s2, s3⟩
               go_simp
               with_reducible rfl
              rotate_left
              ·
               exact ap_
              refine take_ (i := 1) (N := some 104) (v := ?_) (a' := ?_) #[true, true, false, false, false] rfl rfl (by kernel_rfl) (fun _ _ _ h => h) (Or.inl ⟨(by rfl), ?_⟩) hHeld ?_ ?_
              rotate_left
              ·
               rintro w' ⟨s0, s1, s2, s3⟩
               go_simp
               with_reducible rfl
              rotate_left
              ·
               exact ap_
              refine one_ (i := 2) (N := some 105) #[true, true, true, false, false] rfl rfl (by kernel_rfl) (by decide) (fun K hK => ?_)
              refine goes_ Tryd.func17 (by kernel_rfl) rfl #[.agg #[.int .i64 x106000_1, .int .i64 0, .int .i64 0, .int .i64 0], .int .i64 15] (by rfl) rfl rfl qz2_ ?_
              with_reducible refine (spec_l11Gate.calls kj38 x106000_1 0 0 0 15 t129 _ A90.out).mono ?_
              rintro e w94 ⟨rfl, hb⟩
              refine ⟨_, rfl, ?_⟩
              have n0_ := am_ (Kd.R_below qz14_ hb)
              have n1_ := am_ (blk_below (g := gb101) (o := .cells #[.int .i64 x102000_2, .int .i64 x102001_2, .int .i64 x102002_2, .int .i64 x102003_2] 30 (0, 0)) qz7_ hb)
              have n2_ := am_ (blk_below (g := gb105) (o := .cells #[.int .i64 x106000_1, .int .i64 0, .int .i64 0, .int .i64 0] 30 (0, 0)) qz12_ hb)
              have n3_ := am_ (below_step qz11_ hb)
              clear HO_8
              clear BK101
              clear BK105
              clear HB
              have HO_8 := n0_
              have BK101 := n1_
              have BK105 := n2_
              have HB := n3_
              clear n0_ n1_ n2_ n3_
              (try clear hb)
              (try clear hb2)
              (try clear hk)
              (try clear hi)
              refine hK.out _ _ ⟨(blk_cell BK105.out 0).trans rfl, (blk_cell BK105.out 1).trans rfl, (blk_cell BK105.out 2).trans rfl, (blk_cell BK105.out 3).trans rfl⟩ (fun hHeld => ?_)
              clear hK K
              refine norm_ (a' := ?_) ?_ ?_
              rotate_left
              ·
               show Act.put _ (some 105) _ = _
               exact ap_
              refine one_ (i := 3) (N := none) #[true, true, true, true, false] rfl rfl (by kernel_rfl) (by decide) (fun K hK => ?_)
              have hs95 : w94.cell? ⟨gb101, 0, none⟩ = some (.int .i64 x102000_2) := (blk_cell BK101.out 0).trans rfl
              have hfs95 := blk_frozen BK101.out 0
              have hns95_1 := NB105_101.out
              have hms95_1 := NB101_105.out
              have hs96 : w94.cell? ⟨gb101, 1, none⟩ = some (.int .i64 x102001_2) := (blk_cell BK101.out 1).trans rfl
              have hfs96 := blk_frozen BK101.out 1
              have hns96_1 := NB105_101.out
              have hms96_1 := NB101_105.out
              have hs97 : w94.cell? ⟨gb101, 2, none⟩ = some (.int .i64 x102002_2) := (blk_cell BK101.out 2).trans rfl
              have hfs97 := blk_frozen BK101.out 2
              have hns97_1 := NB105_101.out
              have hms97_1 := NB101_105.out
              have hs98 : w94.cell? ⟨gb101, 3, none⟩ = some (.int .i64 x102003_2) := (blk_cell BK101.out 3).trans rfl
              have hfs98 := blk_frozen BK101.out 3
              have hns98_1 := NB105_101.out
              have hms98_1 := NB101_105.out
              refine skip_ (w1 := ?_) (by rfl) rfl ?_ ?_
              rotate_left
              ·
               go_simp
               rfl
              refine hK.out _ _ ⟨((cell_far (p := ⟨gb101, _, none⟩) NB105_101.out _).trans (((cell_far (p := ⟨gb101, _, none⟩) NB105_101.out _).trans (((cell_far (p := ⟨gb101, _, none⟩) NB105_101.out _).trans (((cell_far (p := ⟨gb101, _, none⟩) NB105_101.out _).trans (hHeld.1)))))))), ((cell_far (p := ⟨gb101, _, none⟩) NB105_101.out _).trans (((cell_far (p := ⟨gb101, _, none⟩) NB105_101.out _).trans (((cell_far (p := ⟨gb101, _, none⟩) NB105_101.out _).trans (((cell_far (p := ⟨gb101, _, none⟩) NB105_101.out _).trans (hHeld.2.1)))))))), ((cell_far (p := ⟨gb101, _, none⟩) NB105_101.out _).trans (((cell_far (p := ⟨gb101, _, none⟩) NB105_101.out _).trans (((cell_far (p := ⟨gb101, _, none⟩) NB105_101.out _).trans (((cell_far (p := ⟨gb101, _, none⟩) NB105_101.out _).trans (hHeld.2.2.1)))))))), ((cell_far (p := ⟨gb101, _, none⟩) NB105_101.out _).trans (((cell_far (p := ⟨gb101, _, none⟩) NB105_101.out _).trans (((cell_far (p := ⟨gb101, _, none⟩) NB105_101.out _).trans (((cell_far (p := ⟨gb101, _, none⟩) NB105_101.out _).trans (hHeld.2.2.2))))))))⟩ (fun hHeld => ?_)
              clear hK K
              refine pure_ (i := 4) (N := some 3) (v := ?_) (a' := ?_) #[true, true, true, true, true] rfl rfl (by kernel_rfl) (fun _ _ _ h => h) (Or.inl ⟨(by rfl), ?_⟩) ?_ ?_
              rotate_left
              ·
               intro w'
               go_simp
               with_reducible rfl
              rotate_left
              ·
               exact ap_
              refine done_ (by kernel_rfl) ?_
              try go_wp2
              refine bodyPost_ret (results_ct rfl _ _ gb101 30 #[.int .i64 x106000_1, .int .i64 0, .int .i64 0, .int .i64 0] (0, 0) _ rfl qz16_ Tryd.underlying30 rfl (by kernel_rfl)) rfl ?_
              exact ⟨qz4_, qz11_⟩

end Go.Proofs.YtokljkneflejdaaDoor.PT
end
