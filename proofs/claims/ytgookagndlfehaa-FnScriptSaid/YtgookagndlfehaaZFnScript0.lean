/- Part 0 of the proof of FnScript: what functions compute, shown step by step, and what that says (the claim's last text states the law). -/
import Derived.Test.YtgookagndlfehaaProg
import Derived.Test.YtgookagndlfehaaVMore
import Derived.Test.YtgookagndlfehaaVWords
import Derived.Test.YtgookagndlfehaaVLast
import Derived.Test.YtgookagndlfehaaVTab
import Derived.Test.YtgookagndlfehaaVFour
import Derived.Test.YtgookagndlfehaaVQPut
import Derived.Test.YtgookagndlfehaaVApart
import Derived.Test.YtgookagndlfehaaVArr
import Derived.Test.YtgookagndlfehaaVZeros
import Derived.Test.YtgookagndlfehaaVFoot
import Derived.Test.YtgookagndlfehaaVKept
import Derived.Test.YtgookagndlfehaaVShare
import Derived.Test.YtgookagndlfehaaVN
import Derived.Test.YtgookagndlfehaaVFootNe
import Derived.Test.YtgookagndlfehaaVAt
import Derived.Test.YtgookagndlfehaaVRepsOne
import Derived.Test.YtgookagndlfehaaVGuard
import Derived.Test.YtgookagndlfehaaVNEv
import Derived.Test.YtgookagndlfehaaRows
import Derived.JoinedOf
import Derived.WalkKit
import Derived.ProofKit
import Derived.Below
import Derived.Deep.Draws
import Derived.Deep.AppendLies
import Derived.Maps.AppendAt
import Derived.OwnWalk
import Derived.Laws.BytesArg
import Derived.Laws.MakeOwn
import Derived.Laws.OwnMore
import Derived.Deep.OwnRows
import Derived.Tactics
import Derived.Lib.ConvBytes
import Derived.Laws.Slices
import Derived.KernelRfl
import Derived.RowKit3
import Derived.Deep.LoopGhost
import Derived.Deep.QuietTactic
import Derived.BigQuiet
import Derived.WideLaws
import Derived.Deep.DeepCutAuto
import Derived.Deep.CutBlock
import Derived.Deep.RegionHeld3
import Derived.Laws.Rows
import Derived.Lib.AppendStr
import Derived.ArgAppend
import Derived.Laws.IdiomCopy
import Derived.OrdersHeld
import Derived.Laws.BitsLemmas
import Derived.RowKit
import Derived.StillTailTactics
import Derived.Lib.BufferMore
import Derived.Lib.SliceRun
import Derived.Deep.DeepMust
import Derived.Laws.CopyOwn
import Derived.OpenShut
import Derived.ShutString
import Derived.ChangeOld
import Derived.SizedLaws
import Derived.Deep.Slices
import Derived.ChangeArms
namespace Go.Proofs
theorem qz0_ {p : Prop} (h : p := by first | rfl | (simp; done) | (simp [*]; done)) : p := h
theorem qz1_ {p : Prop} (h : p := by repeat (first | exact Drawn0.refl _ | apply Drawn0.step)) : p := h
theorem qz2_ {p : Prop} (h : p := by repeat (first | (with_reducible first | exact HB.out | apply below_alloc | apply pw_below_drewN | apply below_drew1) | exact HB.out)) : p := h
theorem qz3_ {p : Prop} (h : p := by (with_reducible repeat (first | refine blk_drewN ?_ _ | refine blk_drew ?_ | refine blk_alloc ?_ _)); exact BK101.out) : p := h
theorem qz4_ {p : Prop} (h : p := by first | rfl | (simp [errW_none, errW_some] <;> rfl) | (simp [*, errW_none, errW_some] <;> rfl)) : p := h
theorem qz5_ {p : Prop} (h : p := by repeat (first | (with_reducible first | exact HI0.out | apply IsS116.alloc | apply IsS116.drewN | apply IsS116.drew | apply IsS116.set_1 | apply IsS116.set_2) | exact HI0.out)) : p := h
theorem qz6_ {p : Prop} (h : p := by repeat (first | (with_reducible first | exact HB.out | apply below_alloc | apply pw_below_drewN | apply below_drew1 | refine below_set ?_ (IsS116.ge HI0.out)) | exact HB.out)) : p := h
theorem qz7_ {p : Prop} (h : p := by repeat (first | (with_reducible first | exact HK.out | apply KeepBut.set_ | apply keep_drewN | apply keep_drew | apply keep_alloc) | exact HK.out)) : p := h
theorem qz8_ {p : Prop} (h : p := by (try simp only [List.map_toArray, List.map_cons, List.map_nil]); first | done | rfl | (simp only [List.length_drop, List.length_take]; rfl)) : p := h
theorem qz9_ {p : Prop} (h : p := by repeat (first | (with_reducible first | exact HK.out | apply KeepBut.set_ | apply keep_drewN | apply keep_drew | apply keep_alloc | refine keep_far ?_ GW101.out _) | exact HK.out)) : p := h
theorem qz10_ {p : Prop} (h : p := by (with_reducible repeat (first | apply Kd.R_alloc | apply Kd.R_drewN | apply Kd.R_drew)); exact HO_5.out) : p := h
theorem qz11_ {p : Prop} (h : p := by first | rfl | (go_simp; rfl)) : p := h
theorem qz12_ {p : Prop} (h : p := by first | rfl | (rw [uarr_size, uarr_size]; first | omega | (simp only [lanes_length]; rfl))) : p := h
theorem qz13_ {p : Prop} (h : p := by (try simp only [List.map_toArray, List.map_cons, List.map_nil]); first | done | rfl) : p := h
theorem qz14_ {p : Prop} (h : p := by (with_reducible repeat (first | apply Kd.R_alloc | apply Kd.R_drewN | apply Kd.R_drew)); exact HO_3.out) : p := h
theorem qz15_ {p : Prop} (h : p := by repeat (first | (with_reducible first | exact HB.out | apply below_alloc | apply pw_below_drewN | apply below_drew1 | refine below_set ?_ GE101.out) | exact HB.out)) : p := h
theorem qz16_ {p : Prop} (h : p := by (with_reducible repeat (first | refine blk_drewN ?_ _ | refine blk_drew ?_ | refine blk_alloc ?_ _)); refine blk_put (cs := #[.slice none 0 0, .int .i64 0, .string (⟨#[]⟩ : ByteArray), .int .i64 0]) ?_ 3 _ rfl; (with_reducible repeat (first | refine blk_drewN ?_ _ | refine blk_drew ?_ | refine blk_alloc ?_ _)); refine blk_put (cs := #[.slice none 0 0, .int .i64 0, .string (⟨#[]⟩ : ByteArray), .int .i64 0]) ?_ 2 _ rfl; (with_reducible repeat (first | refine blk_drewN ?_ _ | refine blk_drew ?_ | refine blk_alloc ?_ _)); refine blk_put (cs := #[.slice none 0 0, .int .i64 0, .string (⟨#[]⟩ : ByteArray), .int .i64 0]) ?_ 1 _ rfl; (with_reducible repeat (first | refine blk_drewN ?_ _ | refine blk_drew ?_ | refine blk_alloc ?_ _)); refine blk_put (cs := #[.slice none 0 0, .int .i64 0, .string (⟨#[]⟩ : ByteArray), .int .i64 0]) ?_ 0 _ rfl; (with_reducible repeat (first | refine blk_drewN ?_ _ | refine blk_drew ?_ | refine blk_alloc ?_ _)); exact BK101.out) : p := h
theorem qz17_ {p : Prop} (h : p := by first | exact Kd.R_nil _ _ _ _ _ | exact Kd.N_nil _ _ _ _ _ | exact Kd.V_nil _ _ _ _ _ | exact Kd.Q_nil _ _ _ _ _ | exact Kd.S_nil _ _ _ _ _) : p := h
theorem qz18_ {p : Prop} (h : p := by first | (go_simp; done) | (go_simp; rfl)) : p := h
theorem qz19_ {p : Prop} (h : p := by repeat (first | (with_reducible first | exact HI0.out | apply IsS27.alloc | apply IsS27.drewN | apply IsS27.drew | apply IsS27.set_1 | apply IsS27.set_2 | apply IsS27.set_3) | exact HI0.out)) : p := h
theorem qz20_ {p : Prop} (h : p := by repeat (first | (with_reducible first | exact HB.out | apply below_alloc | apply pw_below_drewN | apply below_drew1 | refine below_set ?_ (IsS27.ge HI0.out)) | exact HB.out)) : p := h
theorem qc_ {p q : Prop} (h : p) (e : p → q := by intro h_; repeat (first | exact h_ | (with_reducible refine Kd.C_alloc ?_ _) | (with_reducible refine Kd.C_drewN ?_ _) | (with_reducible refine Kd.C_drew ?_))) : q := e h
theorem qd1_ {w : World} {m n : Nat} : (w.drewN m).drewN n = w.drewN (m + n) := World.drewN_drewN _ _ _
theorem qd2_ {w : World} {a b c : Nat} : (w.drewN (a + b)).drewN c = w.drewN (a + (b + c)) := Eq.trans (World.drewN_drewN _ _ _) (congrArg (World.drewN _) (Nat.add_assoc _ _ _))
theorem am_ {p : Prop} (h : p) : Go.Proofs.YtgookagndlfehaaW.PrintWords.Aside0 p := ⟨h⟩
theorem ap_ {α : Sort _} {a b : α} (h : a = b := by simp only [Act.put, List.setIfInBounds_toArray, List.set_cons_zero, List.set_cons_succ, Go.Proofs.YtgookagndlfehaaW.PrintLast.i64_w, Go.Proofs.YtgookagndlfehaaW.PrintLast.i32_w]; rfl) : a = b := h
end Go.Proofs
section
/- The closed facts of the program's head row, each by its own. -/
namespace Go.Proofs.Ytgookagndlfehaa
open Go.RowKit
theorem wordsSigns_word (r : List Char) : ∀ w : List Char, w.all (fun c => c != Char.ofNat 32) = true → wordsSigns (w ++ Char.ofNat 32 :: r) = w :: wordsSigns r
 | [], _ => by rfl
 | c :: w, h => by
  simp only [List.all_cons, Bool.and_eq_true, bne_iff_ne, ne_eq] at h
  rw [List.cons_append, wordsSigns]
  ·
   rw [wordsSigns_word r w h.2]
  ·
   intro e; exact h.1 e
theorem headWords {P : Program} {s r : List Char} (hs : s.all (fun c => c != Char.ofNat 32) = true) (hsum : isSumSigns s = true)
  (h : P.initOrder = String.ofList ([104, 97, 114, 110, 101, 115, 115].map Char.ofNat ++ Char.ofNat 32 :: (s ++ Char.ofNat 32 :: ([99, 117, 116].map Char.ofNat ++ Char.ofNat 32 :: r)))) :
  behindMainWord (wordsSigns P.initOrder.toList) = [99, 117, 116].map Char.ofNat :: wordsSigns r := by
 rw [h, String.toList_ofList, wordsSigns_word _ _ (by decide), wordsSigns_word _ _ hs, wordsSigns_word _ _ (by decide), behindMainWord, if_pos]
 rw [hsum]
 decide
set_option maxRecDepth 100000
def headTail : List Char := List.map Char.ofNat [97, 116, 32, 108, 111, 111, 112, 46, 101, 120, 97, 109, 112, 108, 101, 47, 103, 48, 48, 51, 52, 56, 47, 108, 97, 119, 115, 46, 70, 110, 83, 99, 114, 105, 112, 116, 32, 108, 111, 111, 112, 46, 101, 120, 97, 109, 112, 108, 101, 47, 103, 48, 48, 51, 52, 56, 47, 108, 97, 119, 115, 46, 70, 110, 69, 120, 97, 99, 116, 83, 121, 115, 116, 101, 109, 68, 105, 103, 101, 115, 116, 32, 108, 111, 111, 112, 46, 101, 120, 97, 109, 112, 108, 101, 47, 103, 48, 48, 51, 52, 56, 47, 108, 97, 119, 115, 46, 70, 110, 69, 120, 97, 99, 116, 67, 111, 109, 109, 105, 116, 84, 97, 98, 108, 101, 32, 108, 111, 111, 112, 46, 101, 120, 97, 109, 112, 108, 101, 47, 103, 48, 48, 51, 52, 56, 47, 108, 97, 119, 115, 46, 70, 110, 69, 120, 97, 99, 116, 83, 117, 109, 86, 101, 114, 105, 102, 121]
theorem order : Try.prog.initOrder = String.ofList ([104, 97, 114, 110, 101, 115, 115].map Char.ofNat ++ Char.ofNat 32 :: ((List.map Char.ofNat [100, 57, 55, 98, 48, 57, 49, 55, 97, 49, 53, 100, 52, 51, 98, 100, 102, 57, 50, 50, 55, 56, 52, 100, 51, 49, 51, 52, 97, 100, 97, 102, 50, 98, 54, 50, 55, 57, 99, 102, 50, 57, 56, 99, 98, 57, 97, 54, 49, 99, 50, 101, 97, 53, 97, 52, 98, 54, 101, 101, 57, 51, 51, 56]) ++ Char.ofNat 32 :: ([99, 117, 116].map Char.ofNat ++ Char.ofNat 32 :: headTail))) := by kernel_rfl
theorem headIs : behindMainWord (wordsSigns Try.prog.initOrder.toList) = [99, 117, 116].map Char.ofNat :: wordsSigns headTail := headWords (by decide +kernel) (by decide +kernel) order
theorem enters_of {P : Program} {ws : List (List Char)} (h : behindMainWord (wordsSigns P.initOrder.toList) = [99, 117, 116].map Char.ofNat :: ws) (h1 : P.laysLater = false) (h2 : P.bearsReflect = false) (h3 : P.doorFits [] = true) : P.mayEnter = true := by
 have e : stripLifts liftWords ([99, 117, 116].map Char.ofNat :: ws) = ([], [99, 117, 116].map Char.ofNat :: ws) := rfl
 unfold Program.mayEnter
 rw [h]
 simp only [e, h1, h2, h3]
 rfl
theorem liftsNot_of {P : Program} {ws : List (List Char)} (h : behindMainWord (wordsSigns P.initOrder.toList) = [99, 117, 116].map Char.ofNat :: ws) : P.liftsFinal = false := by
 have e : stripLifts liftWords ([99, 117, 116].map Char.ofNat :: ws) = ([], [99, 117, 116].map Char.ofNat :: ws) := rfl
 unfold Program.liftsFinal Program.headLifts
 rw [h]
 simp only [e]
 rfl
theorem makes_of {P : Program} {ws : List (List Char)} (h : behindMainWord (wordsSigns P.initOrder.toList) = [99, 117, 116].map Char.ofNat :: ws) : P.make = some .cut := by
 unfold Program.make
 rw [h]
 rfl
theorem allOf {b1 b2 b3 b4 b5 b6 b7 b8 b9 b10 b11 b12 b13 b14 b15 b16 b17 b18 b19 b20 b21 b22 b23 b24 b25 b26 b27 b28 b29 b30 b31 b32 : Bool} (h1 : b1 = true) (h2 : b2 = true) (h3 : b3 = true) (h4 : b4 = true) (h5 : b5 = true) (h6 : b6 = true) (h7 : b7 = true) (h8 : b8 = true) (h9 : b9 = true) (h10 : b10 = true) (h11 : b11 = true) (h12 : b12 = true) (h13 : b13 = true) (h14 : b14 = true) (h15 : b15 = true) (h16 : b16 = true) (h17 : b17 = true) (h18 : b18 = true) (h19 : b19 = true) (h20 : b20 = true) (h21 : b21 = true) (h22 : b22 = true) (h23 : b23 = true) (h24 : b24 = true) (h25 : b25 = true) (h26 : b26 = true) (h27 : b27 = true) (h28 : b28 = true) (h29 : b29 = true) (h30 : b30 = true) (h31 : b31 = true) (h32 : b32 = true) : (b1 && b2 && b3 && b4 && b5 && b6 && b7 && b8 && b9 && b10 && b11 && b12 && b13 && b14 && b15 && b16 && b17 && b18 && b19 && b20 && b21 && b22 && b23 && b24 && b25 && b26 && b27 && b28 && b29 && b30 && b31 && b32) = true := by subst h1 h2 h3 h4 h5 h6 h7 h8 h9 h10 h11 h12 h13 h14 h15 h16 h17 h18 h19 h20 h21 h22 h23 h24 h25 h26 h27 h28 h29 h30 h31 h32; rfl
theorem sameNo {a b : Bool} (ha : a = false) (h : b = false) : (a == b) = true := by subst ha; subst h; rfl
theorem sameCut {x : Option Make} (h : x = some .cut) : (x == some Make.cut) = true := by subst h; rfl
theorem notMain {P : Program} {fn : Func} (h : decide (Check.packageOf fn.name = "main") = false) : fn.isWrapper P false "" := by
 unfold Func.isWrapper; rw [if_neg (of_decide_eq_false h)]; exact ⟨rfl, rfl⟩
theorem own : ownKnob Try.prog.godebug = none := by kernel_rfl
theorem laidOut : laidOutB Try.prog = true := by kernel_rfl
theorem mapsAre : mapsRowed Try.prog = true := by kernel_rfl
theorem enters : Try.prog.mayEnter = true := enters_of headIs (by as_aux_lemma => kernel_rfl) (by as_aux_lemma => kernel_rfl) (by as_aux_lemma => kernel_rfl)
theorem liftsNot : Try.prog.liftsFinal = false := liftsNot_of headIs
theorem makes : Try.prog.make = some .cut := makes_of headIs
end Go.Proofs.Ytgookagndlfehaa
end
section
/- A call of a function value that is known: words of this session beside the print's own (Ytgookagndlfehaa: the seat's name). -/
namespace Go.Proofs.YtgookagndlfehaaW.PrintLast
open Go.RowKit Go.Proofs.YtgookagndlfehaaW.PrintWords
section
variable {P : Program} {ops : Array Oper} {Q : Exit → Act → World → Prop}
theorem goesV_ {oi : Oper} {N : Option Tmp} {a : Act} {w : World} {K : Act → World → Prop} {f : FuncId} {fn : Func} {s : Operand} {ops_ : Array Operand} {ts : Array TypeId} (hf : P.funcs[f]? = some fn) (hname : (fn.name == "runtime.NumGoroutine") = false) (hb : fn.body.isSome = true) (args : Array Value)
  (hw : Region.wanted oi (yielded ops a.tmps) = true) (hN : oi.dst = N) (hop : oi.op = .call { callee := .value s, args := ops_, argTypes := ts }) (hs : a.eval s = .func (.func f) #[] #[]) (hargs : ops_.map a.eval = args)
  (h : Calls P f args w fun e w' => ∃ v, e = .returned v ∧ K (a.put N v) w') : if Region.wanted oi (yielded ops a.tmps) = true then Oper.wp P oi a w K Q else K (a.put N undef) w := by
 refine call_ f args hw hN ?_ h
 have he := enters_ hf hname hb args w
 unfold execOp
 simp [hop, resolve, Deferred.ofValue, invoke, hs, hargs, he]
end
end Go.Proofs.YtgookagndlfehaaW.PrintLast
end
section
namespace Go.Proofs.Ytgookagndlfehaa.PT
open Go.RowKit Go.Proofs.YtgookagndlfehaaW.PrintWords Go.Proofs.YtgookagndlfehaaW.PrintLast Go.Proofs.YtgookagndlfehaaW.PrintMore
attribute [local go_sem] max2_int min2_int max_two min_two max_three min_three max_four min_four   -- for this text's walks alone
set_option linter.unusedVariables false
set_option linter.unusedSimpArgs false



def errW : Option Int → Value
 | none => .nilIface
 | some c => .iface 0 (.int .i64 c)
theorem errW_none : errW none = .nilIface := rfl
theorem errW_some (c : Int) : errW (some c) = .iface 0 (.int .i64 c) := rfl

theorem info3 : (Try.prog.info? 3).map (fun i => (i.zero, i.size, i.bytes)) = some (some (.int .i64 0), 1, 8) := by kernel_rfl
theorem info5 : (Try.prog.info? 5).map (fun i => (i.zero, i.size, i.bytes)) = some (some (.int .u8 0), 1, 1) := by kernel_rfl
theorem info9 : (Try.prog.info? 9).map (fun i => (i.zero, i.size, i.bytes)) = some (some (.string ⟨#[]⟩), 1, 16) := by kernel_rfl
theorem info22 : (Try.prog.info? 22).map (fun i => (i.zero, i.size, i.bytes)) = some (some (.slice none 0 0), 1, 24) := by kernel_rfl
theorem info24 : (Try.prog.info? 24).map (fun i => (i.zero, i.size, i.bytes)) = some (some (.slice none 0 0), 1, 24) := by kernel_rfl
theorem info34 : (Try.prog.info? 34).map (fun i => (i.zero, i.size, i.bytes)) = some (some (.agg #[(.int .i64 0), (.int .i64 0)]), 2, 16) := by kernel_rfl
theorem info44 : (Try.prog.info? 44).map (fun i => (i.zero, i.size, i.bytes)) = some (some (.slice none 0 0), 1, 24) := by kernel_rfl
theorem info126 : (Try.prog.info? 126).map (fun i => (i.zero, i.size, i.bytes)) = some (some (.agg #[(.int .i64 0), (.int .i64 0), (.int .i64 0)]), 3, 24) := by kernel_rfl
-- the values' own types
structure S34 where
 f0 : Int
 f1 : Int
def z34 : S34 := ⟨(0 : Int), (0 : Int)⟩
def k34 : Kd S34 := Kd.iso (Kd.pair (Kd.int .i64) (Kd.int .i64)) (fun x : S34 => (x.f0, x.f1))
theorem k34_heap : Kd.Heap k34 := Kd.heap_iso _ (Kd.heap_pair (Kd.heap_int .i64) (Kd.heap_int .i64))
theorem k34_open {w : World} {x : S34} {cs : List Value} (h : k34.K w x cs) : cs = [.int .i64 x.f0, .int .i64 x.f1] := by
 obtain ⟨_, _, rfl, rfl, rfl⟩ := h
 exact rfl
theorem k34_openM {w : World} {base : Nat} {ok : Nat → Prop} {x : S34} {cs : List Value} (h : k34.M w base ok x cs) : cs = [.int .i64 x.f0, .int .i64 x.f1] := by
 obtain ⟨_, _, rfl, rfl, rfl⟩ := h
 exact rfl
theorem k34_mk (w : World) (x : S34)  : k34.K w x [.int .i64 x.f0, .int .i64 x.f1] := ⟨[.int .i64 x.f0], [.int .i64 x.f1], rfl, rfl, rfl⟩
theorem k34_mkM (w : World) (base : Nat) (ok : Nat → Prop) (x : S34)  : k34.M w base ok x [.int .i64 x.f0, .int .i64 x.f1] := ⟨[.int .i64 x.f0], [.int .i64 x.f1], rfl, rfl, rfl⟩
theorem k34_mkF (W : World) (ok : Nat → Prop) (x : S34) : Kd.FK k34 W ok x [.int .i64 x.f0, .int .i64 x.f1] := fun W2 _ => k34_mk W2 x
def rd_T34 (xs : List S34) (i : Int) : S34 := xs.getD i.toNat z34
theorem at_T34 {w : World} {A : Option Addr} {n : Nat} {xs : List S34} (h : Kd.C k34 w A n xs) (i : Int) (h0 : 0 ≤ i) (h1 : i < n) : ∃ ad , A = some ad ∧ w.cell? (ad.add (i.toNat * 2)) = some (.int .i64 (rd_T34 xs i).f0) ∧ w.cell? ⟨(ad.add (i.toNat * 2)).block, (ad.add (i.toNat * 2)).off + 1, none⟩ = some (.int .i64 (rd_T34 xs i).f1) := by
 obtain ⟨ad, c, e, _, hK, hc0⟩ := Kd.C_get h z34 i h0 h1
 have hc : ∀ j u, c[j]? = some u → w.cell? (ad.add (i.toNat * 2 + j)) = some u := hc0
 obtain rfl := k34_open hK
 exact ⟨ad, e, hc 0 _ rfl, (by rw [← add_field _ _ 1 (by omega)]; exact hc 1 _ rfl)⟩
structure S128 where
 f0 : Int
 f1 : Int
 f2 : Int
def z128 : S128 := ⟨(0 : Int), (0 : Int), (0 : Int)⟩
def k128 : Kd S128 := Kd.iso (Kd.pair (Kd.int .i64) (Kd.pair (Kd.int .i64) (Kd.int .i64))) (fun x : S128 => (x.f0, x.f1, x.f2))
theorem k128_heap : Kd.Heap k128 := Kd.heap_iso _ (Kd.heap_pair (Kd.heap_int .i64) (Kd.heap_pair (Kd.heap_int .i64) (Kd.heap_int .i64)))
theorem k128_open {w : World} {x : S128} {cs : List Value} (h : k128.K w x cs) : cs = [.int .i64 x.f0, .int .i64 x.f1, .int .i64 x.f2] := by
 obtain ⟨_, _, rfl, rfl, ⟨_, _, rfl, rfl, rfl⟩⟩ := h
 exact rfl
theorem k128_openM {w : World} {base : Nat} {ok : Nat → Prop} {x : S128} {cs : List Value} (h : k128.M w base ok x cs) : cs = [.int .i64 x.f0, .int .i64 x.f1, .int .i64 x.f2] := by
 obtain ⟨_, _, rfl, rfl, ⟨_, _, rfl, rfl, rfl⟩⟩ := h
 exact rfl
theorem k128_mk (w : World) (x : S128)  : k128.K w x [.int .i64 x.f0, .int .i64 x.f1, .int .i64 x.f2] := ⟨[.int .i64 x.f0], [.int .i64 x.f1, .int .i64 x.f2], rfl, rfl, ⟨[.int .i64 x.f1], [.int .i64 x.f2], rfl, rfl, rfl⟩⟩
theorem k128_mkM (w : World) (base : Nat) (ok : Nat → Prop) (x : S128)  : k128.M w base ok x [.int .i64 x.f0, .int .i64 x.f1, .int .i64 x.f2] := ⟨[.int .i64 x.f0], [.int .i64 x.f1, .int .i64 x.f2], rfl, rfl, ⟨[.int .i64 x.f1], [.int .i64 x.f2], rfl, rfl, rfl⟩⟩
theorem k128_mkF (W : World) (ok : Nat → Prop) (x : S128) : Kd.FK k128 W ok x [.int .i64 x.f0, .int .i64 x.f1, .int .i64 x.f2] := fun W2 _ => k128_mk W2 x
def rd_T128 (xs : List S128) (i : Int) : S128 := xs.getD i.toNat z128
theorem at_T128 {w : World} {A : Option Addr} {n : Nat} {xs : List S128} (h : Kd.C k128 w A n xs) (i : Int) (h0 : 0 ≤ i) (h1 : i < n) : ∃ ad , A = some ad ∧ w.cell? (ad.add (i.toNat * 3)) = some (.int .i64 (rd_T128 xs i).f0) ∧ w.cell? ⟨(ad.add (i.toNat * 3)).block, (ad.add (i.toNat * 3)).off + 1, none⟩ = some (.int .i64 (rd_T128 xs i).f1) ∧ w.cell? ⟨(ad.add (i.toNat * 3)).block, (ad.add (i.toNat * 3)).off + 2, none⟩ = some (.int .i64 (rd_T128 xs i).f2) := by
 obtain ⟨ad, c, e, _, hK, hc0⟩ := Kd.C_get h z128 i h0 h1
 have hc : ∀ j u, c[j]? = some u → w.cell? (ad.add (i.toNat * 3 + j)) = some u := hc0
 obtain rfl := k128_open hK
 exact ⟨ad, e, hc 0 _ rfl, (by rw [← add_field _ _ 1 (by omega)]; exact hc 1 _ rfl), (by rw [← add_field _ _ 2 (by omega)]; exact hc 2 _ rfl)⟩
structure S126 where
 f0 : Int
 f1 : Int
 f2 : Int
def z126 : S126 := ⟨(0 : Int), (0 : Int), (0 : Int)⟩
def k126 : Kd S126 := Kd.iso (Kd.pair (Kd.int .i64) (Kd.pair (Kd.int .i64) (Kd.int .i64))) (fun x : S126 => (x.f0, x.f1, x.f2))
theorem k126_heap : Kd.Heap k126 := Kd.heap_iso _ (Kd.heap_pair (Kd.heap_int .i64) (Kd.heap_pair (Kd.heap_int .i64) (Kd.heap_int .i64)))
theorem k126_open {w : World} {x : S126} {cs : List Value} (h : k126.K w x cs) : cs = [.int .i64 x.f0, .int .i64 x.f1, .int .i64 x.f2] := by
 obtain ⟨_, _, rfl, rfl, ⟨_, _, rfl, rfl, rfl⟩⟩ := h
 exact rfl
theorem k126_openM {w : World} {base : Nat} {ok : Nat → Prop} {x : S126} {cs : List Value} (h : k126.M w base ok x cs) : cs = [.int .i64 x.f0, .int .i64 x.f1, .int .i64 x.f2] := by
 obtain ⟨_, _, rfl, rfl, ⟨_, _, rfl, rfl, rfl⟩⟩ := h
 exact rfl
theorem k126_mk (w : World) (x : S126)  : k126.K w x [.int .i64 x.f0, .int .i64 x.f1, .int .i64 x.f2] := ⟨[.int .i64 x.f0], [.int .i64 x.f1, .int .i64 x.f2], rfl, rfl, ⟨[.int .i64 x.f1], [.int .i64 x.f2], rfl, rfl, rfl⟩⟩
theorem k126_mkM (w : World) (base : Nat) (ok : Nat → Prop) (x : S126)  : k126.M w base ok x [.int .i64 x.f0, .int .i64 x.f1, .int .i64 x.f2] := ⟨[.int .i64 x.f0], [.int .i64 x.f1, .int .i64 x.f2], rfl, rfl, ⟨[.int .i64 x.f1], [.int .i64 x.f2], rfl, rfl, rfl⟩⟩
theorem k126_mkF (W : World) (ok : Nat → Prop) (x : S126) : Kd.FK k126 W ok x [.int .i64 x.f0, .int .i64 x.f1, .int .i64 x.f2] := fun W2 _ => k126_mk W2 x
def rd_T126 (xs : List S126) (i : Int) : S126 := xs.getD i.toNat z126
theorem at_T126 {w : World} {A : Option Addr} {n : Nat} {xs : List S126} (h : Kd.C k126 w A n xs) (i : Int) (h0 : 0 ≤ i) (h1 : i < n) : ∃ ad , A = some ad ∧ w.cell? (ad.add (i.toNat * 3)) = some (.int .i64 (rd_T126 xs i).f0) ∧ w.cell? ⟨(ad.add (i.toNat * 3)).block, (ad.add (i.toNat * 3)).off + 1, none⟩ = some (.int .i64 (rd_T126 xs i).f1) ∧ w.cell? ⟨(ad.add (i.toNat * 3)).block, (ad.add (i.toNat * 3)).off + 2, none⟩ = some (.int .i64 (rd_T126 xs i).f2) := by
 obtain ⟨ad, c, e, _, hK, hc0⟩ := Kd.C_get h z126 i h0 h1
 have hc : ∀ j u, c[j]? = some u → w.cell? (ad.add (i.toNat * 3 + j)) = some u := hc0
 obtain rfl := k126_open hK
 exact ⟨ad, e, hc 0 _ rfl, (by rw [← add_field _ _ 1 (by omega)]; exact hc 1 _ rfl), (by rw [← add_field _ _ 2 (by omega)]; exact hc 2 _ rfl)⟩

def rd_L5 (xs : List (List S126)) (i : Int) : (List S126) := xs.getD i.toNat ([] : List S126)
theorem at_L5 {w : World} {A : Option Addr} {n : Nat} {xs : List (List S126)} (h : Kd.C (Kd.slice 126 k126) w A n xs) (i : Int) (h0 : 0 ≤ i) (h1 : i < n) : ∃ ad A0 c0, A = some ad ∧ w.cell? (ad.add i.toNat) = some (.slice A0 (rd_L5 xs i).length c0) ∧ (rd_L5 xs i).length ≤ c0 ∧ k126.C w A0 (rd_L5 xs i).length (rd_L5 xs i) := by
 obtain ⟨ad, c, e, _, hK, hc0⟩ := Kd.C_get h ([] : List S126) i h0 h1
 have hc : ∀ j u, c[j]? = some u → w.cell? (ad.add (i.toNat * 1 + j)) = some u := hc0
 obtain ⟨A0, c0, rfl, l0, g0⟩ := hK
 exact ⟨ad, A0, c0, e, (by have hq := hc 0 _ rfl; rwa [Nat.mul_one, Nat.add_zero] at hq), l0, g0⟩

def rd_L6 (xs : List (List Int)) (i : Int) : (List Int) := xs.getD i.toNat ([] : List Int)
theorem at_L6 {w : World} {A : Option Addr} {n : Nat} {xs : List (List Int)} (h : Kd.C (Kd.slice 5 (Kd.int .u8)) w A n xs) (i : Int) (h0 : 0 ≤ i) (h1 : i < n) : ∃ ad A0 c0, A = some ad ∧ w.cell? (ad.add i.toNat) = some (.slice A0 (rd_L6 xs i).length c0) ∧ (rd_L6 xs i).length ≤ c0 ∧ (Kd.int .u8).C w A0 (rd_L6 xs i).length (rd_L6 xs i) := by
 obtain ⟨ad, c, e, _, hK, hc0⟩ := Kd.C_get h ([] : List Int) i h0 h1
 have hc : ∀ j u, c[j]? = some u → w.cell? (ad.add (i.toNat * 1 + j)) = some u := hc0
 obtain ⟨A0, c0, rfl, l0, g0⟩ := hK
 exact ⟨ad, A0, c0, e, (by have hq := hc 0 _ rfl; rwa [Nat.mul_one, Nat.add_zero] at hq), l0, g0⟩
structure S56 where
 f0 : Int
 f1 : Int
def z56 : S56 := ⟨(0 : Int), (0 : Int)⟩
def k56 : Kd S56 := Kd.iso (Kd.pair (Kd.int .i64) (Kd.int .i64)) (fun x : S56 => (x.f0, x.f1))
theorem k56_heap : Kd.Heap k56 := Kd.heap_iso _ (Kd.heap_pair (Kd.heap_int .i64) (Kd.heap_int .i64))
theorem k56_open {w : World} {x : S56} {cs : List Value} (h : k56.K w x cs) : cs = [.int .i64 x.f0, .int .i64 x.f1] := by
 obtain ⟨_, _, rfl, rfl, rfl⟩ := h
 exact rfl
theorem k56_openM {w : World} {base : Nat} {ok : Nat → Prop} {x : S56} {cs : List Value} (h : k56.M w base ok x cs) : cs = [.int .i64 x.f0, .int .i64 x.f1] := by
 obtain ⟨_, _, rfl, rfl, rfl⟩ := h
 exact rfl
theorem k56_mk (w : World) (x : S56)  : k56.K w x [.int .i64 x.f0, .int .i64 x.f1] := ⟨[.int .i64 x.f0], [.int .i64 x.f1], rfl, rfl, rfl⟩
theorem k56_mkM (w : World) (base : Nat) (ok : Nat → Prop) (x : S56)  : k56.M w base ok x [.int .i64 x.f0, .int .i64 x.f1] := ⟨[.int .i64 x.f0], [.int .i64 x.f1], rfl, rfl, rfl⟩
theorem k56_mkF (W : World) (ok : Nat → Prop) (x : S56) : Kd.FK k56 W ok x [.int .i64 x.f0, .int .i64 x.f1] := fun W2 _ => k56_mk W2 x
def rd_T56 (xs : List S56) (i : Int) : S56 := xs.getD i.toNat z56
theorem at_T56 {w : World} {A : Option Addr} {n : Nat} {xs : List S56} (h : Kd.C k56 w A n xs) (i : Int) (h0 : 0 ≤ i) (h1 : i < n) : ∃ ad , A = some ad ∧ w.cell? (ad.add (i.toNat * 2)) = some (.int .i64 (rd_T56 xs i).f0) ∧ w.cell? ⟨(ad.add (i.toNat * 2)).block, (ad.add (i.toNat * 2)).off + 1, none⟩ = some (.int .i64 (rd_T56 xs i).f1) := by
 obtain ⟨ad, c, e, _, hK, hc0⟩ := Kd.C_get h z56 i h0 h1
 have hc : ∀ j u, c[j]? = some u → w.cell? (ad.add (i.toNat * 2 + j)) = some u := hc0
 obtain rfl := k56_open hK
 exact ⟨ad, e, hc 0 _ rfl, (by rw [← add_field _ _ 1 (by omega)]; exact hc 1 _ rfl)⟩

def rd_L9 (xs : List (List ByteArray)) (i : Int) : (List ByteArray) := xs.getD i.toNat ([] : List ByteArray)
theorem at_L9 {w : World} {A : Option Addr} {n : Nat} {xs : List (List ByteArray)} (h : Kd.C (Kd.slice 9 Kd.string) w A n xs) (i : Int) (h0 : 0 ≤ i) (h1 : i < n) : ∃ ad A0 c0, A = some ad ∧ w.cell? (ad.add i.toNat) = some (.slice A0 (rd_L9 xs i).length c0) ∧ (rd_L9 xs i).length ≤ c0 ∧ Kd.string.C w A0 (rd_L9 xs i).length (rd_L9 xs i) := by
 obtain ⟨ad, c, e, _, hK, hc0⟩ := Kd.C_get h ([] : List ByteArray) i h0 h1
 have hc : ∀ j u, c[j]? = some u → w.cell? (ad.add (i.toNat * 1 + j)) = some u := hc0
 obtain ⟨A0, c0, rfl, l0, g0⟩ := hK
 exact ⟨ad, A0, c0, e, (by have hq := hc 0 _ rfl; rwa [Nat.mul_one, Nat.add_zero] at hq), l0, g0⟩

def rd_L10 (xs : List (List S56)) (i : Int) : (List S56) := xs.getD i.toNat ([] : List S56)
theorem at_L10 {w : World} {A : Option Addr} {n : Nat} {xs : List (List S56)} (h : Kd.C (Kd.slice 56 k56) w A n xs) (i : Int) (h0 : 0 ≤ i) (h1 : i < n) : ∃ ad A0 c0, A = some ad ∧ w.cell? (ad.add i.toNat) = some (.slice A0 (rd_L10 xs i).length c0) ∧ (rd_L10 xs i).length ≤ c0 ∧ k56.C w A0 (rd_L10 xs i).length (rd_L10 xs i) := by
 obtain ⟨ad, c, e, _, hK, hc0⟩ := Kd.C_get h ([] : List S56) i h0 h1
 have hc : ∀ j u, c[j]? = some u → w.cell? (ad.add (i.toNat * 1 + j)) = some u := hc0
 obtain ⟨A0, c0, rfl, l0, g0⟩ := hK
 exact ⟨ad, A0, c0, e, (by have hq := hc 0 _ rfl; rwa [Nat.mul_one, Nat.add_zero] at hq), l0, g0⟩

def rd_L11 (xs : List (List S34)) (i : Int) : (List S34) := xs.getD i.toNat ([] : List S34)
theorem at_L11 {w : World} {A : Option Addr} {n : Nat} {xs : List (List S34)} (h : Kd.C (Kd.slice 34 k34) w A n xs) (i : Int) (h0 : 0 ≤ i) (h1 : i < n) : ∃ ad A0 c0, A = some ad ∧ w.cell? (ad.add i.toNat) = some (.slice A0 (rd_L11 xs i).length c0) ∧ (rd_L11 xs i).length ≤ c0 ∧ k34.C w A0 (rd_L11 xs i).length (rd_L11 xs i) := by
 obtain ⟨ad, c, e, _, hK, hc0⟩ := Kd.C_get h ([] : List S34) i h0 h1
 have hc : ∀ j u, c[j]? = some u → w.cell? (ad.add (i.toNat * 1 + j)) = some u := hc0
 obtain ⟨A0, c0, rfl, l0, g0⟩ := hK
 exact ⟨ad, A0, c0, e, (by have hq := hc 0 _ rfl; rwa [Nat.mul_one, Nat.add_zero] at hq), l0, g0⟩

def rd_L12 (xs : List (List S128)) (i : Int) : (List S128) := xs.getD i.toNat ([] : List S128)
theorem at_L12 {w : World} {A : Option Addr} {n : Nat} {xs : List (List S128)} (h : Kd.C (Kd.slice 128 k128) w A n xs) (i : Int) (h0 : 0 ≤ i) (h1 : i < n) : ∃ ad A0 c0, A = some ad ∧ w.cell? (ad.add i.toNat) = some (.slice A0 (rd_L12 xs i).length c0) ∧ (rd_L12 xs i).length ≤ c0 ∧ k128.C w A0 (rd_L12 xs i).length (rd_L12 xs i) := by
 obtain ⟨ad, c, e, _, hK, hc0⟩ := Kd.C_get h ([] : List S128) i h0 h1
 have hc : ∀ j u, c[j]? = some u → w.cell? (ad.add (i.toNat * 1 + j)) = some u := hc0
 obtain ⟨A0, c0, rfl, l0, g0⟩ := hK
 exact ⟨ad, A0, c0, e, (by have hq := hc 0 _ rfl; rwa [Nat.mul_one, Nat.add_zero] at hq), l0, g0⟩
structure S40 where
 f0 : Int
 f1 : Int
 f2 : Int
 f3 : (List S128)
 f4 : (List S128)
 f5 : (List S128)
def z40 : S40 := ⟨(0 : Int), (0 : Int), (0 : Int), ([] : List S128), ([] : List S128), ([] : List S128)⟩
def k40 : Kd S40 := Kd.iso (Kd.pair (Kd.int .i64) (Kd.pair (Kd.int .i64) (Kd.pair (Kd.int .i64) (Kd.pair (Kd.slice 128 k128) (Kd.pair (Kd.slice 128 k128) (Kd.slice 128 k128)))))) (fun x : S40 => (x.f0, x.f1, x.f2, x.f3, x.f4, x.f5))
theorem k40_heap : Kd.Heap k40 := Kd.heap_iso _ (Kd.heap_pair (Kd.heap_int .i64) (Kd.heap_pair (Kd.heap_int .i64) (Kd.heap_pair (Kd.heap_int .i64) (Kd.heap_pair (Kd.heap_slice 128 k128_heap) (Kd.heap_pair (Kd.heap_slice 128 k128_heap) (Kd.heap_slice 128 k128_heap))))))
theorem k40_open {w : World} {x : S40} {cs : List Value} (h : k40.K w x cs) : ∃ A3 c3 A4 c4 A5 c5, cs = [.int .i64 x.f0, .int .i64 x.f1, .int .i64 x.f2, .slice A3 x.f3.length c3, .slice A4 x.f4.length c4, .slice A5 x.f5.length c5] ∧ x.f3.length ≤ c3 ∧ k128.C w A3 x.f3.length x.f3 ∧ x.f4.length ≤ c4 ∧ k128.C w A4 x.f4.length x.f4 ∧ x.f5.length ≤ c5 ∧ k128.C w A5 x.f5.length x.f5 := by
 obtain ⟨_, _, rfl, rfl, ⟨_, _, rfl, rfl, ⟨_, _, rfl, rfl, ⟨_, _, rfl, ⟨A3, c3, rfl, l3, g3⟩, ⟨_, _, rfl, ⟨A4, c4, rfl, l4, g4⟩, ⟨A5, c5, rfl, l5, g5⟩⟩⟩⟩⟩⟩ := h
 exact ⟨A3, c3, A4, c4, A5, c5, rfl, l3, g3, l4, g4, l5, g5⟩
theorem k40_openM {w : World} {base : Nat} {ok : Nat → Prop} {x : S40} {cs : List Value} (h : k40.M w base ok x cs) : ∃ v3 v4 v5, cs = [.int .i64 x.f0, .int .i64 x.f1, .int .i64 x.f2, v3, v4, v5] ∧ k128.R 128 w base ok v3 x.f3 ∧ k128.R 128 w base ok v4 x.f4 ∧ k128.R 128 w base ok v5 x.f5 := by
 obtain ⟨_, _, rfl, rfl, ⟨_, _, rfl, rfl, ⟨_, _, rfl, rfl, ⟨_, _, rfl, ⟨v3, rfl, g3⟩, ⟨_, _, rfl, ⟨v4, rfl, g4⟩, ⟨v5, rfl, g5⟩⟩⟩⟩⟩⟩ := h
 exact ⟨v3, v4, v5, rfl, g3, g4, g5⟩
theorem k40_mk (w : World) (x : S40) {A3 : Option Addr} {c3 : Nat} (l3 : x.f3.length ≤ c3) (g3 : k128.C w A3 x.f3.length x.f3) {A4 : Option Addr} {c4 : Nat} (l4 : x.f4.length ≤ c4) (g4 : k128.C w A4 x.f4.length x.f4) {A5 : Option Addr} {c5 : Nat} (l5 : x.f5.length ≤ c5) (g5 : k128.C w A5 x.f5.length x.f5) : k40.K w x [.int .i64 x.f0, .int .i64 x.f1, .int .i64 x.f2, .slice A3 x.f3.length c3, .slice A4 x.f4.length c4, .slice A5 x.f5.length c5] := ⟨[.int .i64 x.f0], [.int .i64 x.f1, .int .i64 x.f2, .slice A3 x.f3.length c3, .slice A4 x.f4.length c4, .slice A5 x.f5.length c5], rfl, rfl, ⟨[.int .i64 x.f1], [.int .i64 x.f2, .slice A3 x.f3.length c3, .slice A4 x.f4.length c4, .slice A5 x.f5.length c5], rfl, rfl, ⟨[.int .i64 x.f2], [.slice A3 x.f3.length c3, .slice A4 x.f4.length c4, .slice A5 x.f5.length c5], rfl, rfl, ⟨[.slice A3 x.f3.length c3], [.slice A4 x.f4.length c4, .slice A5 x.f5.length c5], rfl, ⟨A3, c3, rfl, l3, g3⟩, ⟨[.slice A4 x.f4.length c4], [.slice A5 x.f5.length c5], rfl, ⟨A4, c4, rfl, l4, g4⟩, ⟨A5, c5, rfl, l5, g5⟩⟩⟩⟩⟩⟩
theorem k40_mkM (w : World) (base : Nat) (ok : Nat → Prop) (x : S40) {v3 : Value} (g3 : k128.R 128 w base ok v3 x.f3) {v4 : Value} (g4 : k128.R 128 w base ok v4 x.f4) {v5 : Value} (g5 : k128.R 128 w base ok v5 x.f5) : k40.M w base ok x [.int .i64 x.f0, .int .i64 x.f1, .int .i64 x.f2, v3, v4, v5] := ⟨[.int .i64 x.f0], [.int .i64 x.f1, .int .i64 x.f2, v3, v4, v5], rfl, rfl, ⟨[.int .i64 x.f1], [.int .i64 x.f2, v3, v4, v5], rfl, rfl, ⟨[.int .i64 x.f2], [v3, v4, v5], rfl, rfl, ⟨[v3], [v4, v5], rfl, ⟨v3, rfl, g3⟩, ⟨[v4], [v5], rfl, ⟨v4, rfl, g4⟩, ⟨v5, rfl, g5⟩⟩⟩⟩⟩⟩
theorem k40_openF {W : World} {ok : Nat → Prop} {x : S40} {cs : List Value} (h : Kd.FK k40 W ok x cs) : ∃ A3 c3 A4 c4 A5 c5, cs = [.int .i64 x.f0, .int .i64 x.f1, .int .i64 x.f2, .slice A3 x.f3.length c3, .slice A4 x.f4.length c4, .slice A5 x.f5.length c5] ∧ x.f3.length ≤ c3 ∧ Kd.F k128 W ok A3 x.f3.length x.f3 ∧ x.f4.length ≤ c4 ∧ Kd.F k128 W ok A4 x.f4.length x.f4 ∧ x.f5.length ≤ c5 ∧ Kd.F k128 W ok A5 x.f5.length x.f5 := by
 obtain ⟨A3, c3, A4, c4, A5, c5, rfl, l3, _, l4, _, l5, _⟩ := k40_open (Kd.FK_now h)
 exact ⟨A3, c3, A4, c4, A5, c5, rfl, l3, (fun W' hW => by obtain ⟨A3_, c3_, A4_, c4_, A5_, c5_, he, l3_, g3_, l4_, g4_, l5_, g5_⟩ := k40_open (h W' hW); injection (Option.some.inj (show some (Value.slice A3 x.f3.length c3) = some (Value.slice A3_ x.f3.length c3_) from congrArg (fun l => l[3]?) he)) with ha_ _ _; rw [ha_]; exact g3_), l4, (fun W' hW => by obtain ⟨A3_, c3_, A4_, c4_, A5_, c5_, he, l3_, g3_, l4_, g4_, l5_, g5_⟩ := k40_open (h W' hW); injection (Option.some.inj (show some (Value.slice A4 x.f4.length c4) = some (Value.slice A4_ x.f4.length c4_) from congrArg (fun l => l[4]?) he)) with ha_ _ _; rw [ha_]; exact g4_), l5, (fun W' hW => by obtain ⟨A3_, c3_, A4_, c4_, A5_, c5_, he, l3_, g3_, l4_, g4_, l5_, g5_⟩ := k40_open (h W' hW); injection (Option.some.inj (show some (Value.slice A5 x.f5.length c5) = some (Value.slice A5_ x.f5.length c5_) from congrArg (fun l => l[5]?) he)) with ha_ _ _; rw [ha_]; exact g5_)⟩
theorem k40_mkF (W : World) (ok : Nat → Prop) (x : S40) {A3 : Option Addr} {c3 : Nat} (l3 : x.f3.length ≤ c3) (g3 : Kd.F k128 W ok A3 x.f3.length x.f3) {A4 : Option Addr} {c4 : Nat} (l4 : x.f4.length ≤ c4) (g4 : Kd.F k128 W ok A4 x.f4.length x.f4) {A5 : Option Addr} {c5 : Nat} (l5 : x.f5.length ≤ c5) (g5 : Kd.F k128 W ok A5 x.f5.length x.f5) : Kd.FK k40 W ok x [.int .i64 x.f0, .int .i64 x.f1, .int .i64 x.f2, .slice A3 x.f3.length c3, .slice A4 x.f4.length c4, .slice A5 x.f5.length c5] := fun W2 hW => k40_mk W2 x l3 (g3 W2 hW) l4 (g4 W2 hW) l5 (g5 W2 hW)
def rd_T40 (xs : List S40) (i : Int) : S40 := xs.getD i.toNat z40
theorem at_T40 {w : World} {A : Option Addr} {n : Nat} {xs : List S40} (h : Kd.C k40 w A n xs) (i : Int) (h0 : 0 ≤ i) (h1 : i < n) : ∃ ad A3 c3 A4 c4 A5 c5, A = some ad ∧ w.cell? (ad.add (i.toNat * 6)) = some (.int .i64 (rd_T40 xs i).f0) ∧ w.cell? ⟨(ad.add (i.toNat * 6)).block, (ad.add (i.toNat * 6)).off + 1, none⟩ = some (.int .i64 (rd_T40 xs i).f1) ∧ w.cell? ⟨(ad.add (i.toNat * 6)).block, (ad.add (i.toNat * 6)).off + 2, none⟩ = some (.int .i64 (rd_T40 xs i).f2) ∧ w.cell? ⟨(ad.add (i.toNat * 6)).block, (ad.add (i.toNat * 6)).off + 3, none⟩ = some (.slice A3 (rd_T40 xs i).f3.length c3) ∧ w.cell? ⟨(ad.add (i.toNat * 6)).block, (ad.add (i.toNat * 6)).off + 4, none⟩ = some (.slice A4 (rd_T40 xs i).f4.length c4) ∧ w.cell? ⟨(ad.add (i.toNat * 6)).block, (ad.add (i.toNat * 6)).off + 5, none⟩ = some (.slice A5 (rd_T40 xs i).f5.length c5) ∧ (rd_T40 xs i).f3.length ≤ c3 ∧ k128.C w A3 (rd_T40 xs i).f3.length (rd_T40 xs i).f3 ∧ (rd_T40 xs i).f4.length ≤ c4 ∧ k128.C w A4 (rd_T40 xs i).f4.length (rd_T40 xs i).f4 ∧ (rd_T40 xs i).f5.length ≤ c5 ∧ k128.C w A5 (rd_T40 xs i).f5.length (rd_T40 xs i).f5 := by
 obtain ⟨ad, c, e, _, hK, hc0⟩ := Kd.C_get h z40 i h0 h1
 have hc : ∀ j u, c[j]? = some u → w.cell? (ad.add (i.toNat * 6 + j)) = some u := hc0
 obtain ⟨A3, c3, A4, c4, A5, c5, rfl, l3, g3, l4, g4, l5, g5⟩ := k40_open hK
 exact ⟨ad, A3, c3, A4, c4, A5, c5, e, hc 0 _ rfl, (by rw [← add_field _ _ 1 (by omega)]; exact hc 1 _ rfl), (by rw [← add_field _ _ 2 (by omega)]; exact hc 2 _ rfl), (by rw [← add_field _ _ 3 (by omega)]; exact hc 3 _ rfl), (by rw [← add_field _ _ 4 (by omega)]; exact hc 4 _ rfl), (by rw [← add_field _ _ 5 (by omega)]; exact hc 5 _ rfl), l3, g3, l4, g4, l5, g5⟩

def laws_at.f (l0 : List Int) (a1 : Int) (a2 : Int) : Option (Int) := if a2 ≤ 1 then (some 0) else (if (l0.length : Int) = 0 then (if a2 = 0 then (none) else (some (Int.tmod (wrap64 (a1 * 7)) a2))) else (if 0 ≤ (Int.tmod a1 (l0.length : Int)) then (if (Int.tmod a1 (l0.length : Int)) < (l0.length : Int) then (if 0 ≤ (Int.tmod (wrap64 (a1 + 1)) (l0.length : Int)) then (if (Int.tmod (wrap64 (a1 + 1)) (l0.length : Int)) < (l0.length : Int) then (if a2 = 0 then (none) else (some (Int.tmod (wrap64 ((wrap64 ((wrap64 ((wrap64 (rd l0 (Int.tmod a1 (l0.length : Int)))) * 31)) + (wrap64 (rd l0 (Int.tmod (wrap64 (a1 + 1)) (l0.length : Int)))))) + (wrap64 (Int.tdiv a1 (l0.length : Int))))) a2))) else (none)) else (none)) else (none)) else (none)))
set_option maxHeartbeats 8000000 in
set_option maxRecDepth 100000 in
theorem laws_at.calls (A0 : Option Addr) (c0 : Nat) (l0 : List Int) (a1 : Int) (a2 : Int) (r : Int) (w : World) (hr0 : Kd.C (Kd.int .u8) w A0 l0.length l0) (hc0 : l0.length ≤ c0) (h : laws_at.f l0 a1 a2 = some r) :
  Calls Try.prog 7 #[.slice A0 l0.length c0, .int .i64 a1, .int .i64 a2] w fun e w' => e = .returned (.int .i64 r) ∧ Drawn0 w w' := by
 have HR0 := am_ hr0
 have HC0 := am_ hc0
 clear hr0 hc0
 have H : (if a2 ≤ 1 then (some 0) else (if (l0.length : Int) = 0 then (if a2 = 0 then (none) else (some (Int.tmod (wrap64 (a1 * 7)) a2))) else (if 0 ≤ (Int.tmod a1 (l0.length : Int)) then (if (Int.tmod a1 (l0.length : Int)) < (l0.length : Int) then (if 0 ≤ (Int.tmod (wrap64 (a1 + 1)) (l0.length : Int)) then (if (Int.tmod (wrap64 (a1 + 1)) (l0.length : Int)) < (l0.length : Int) then (if a2 = 0 then (none) else (some (Int.tmod (wrap64 ((wrap64 ((wrap64 ((wrap64 (rd l0 (Int.tmod a1 (l0.length : Int)))) * 31)) + (wrap64 (rd l0 (Int.tmod (wrap64 (a1 + 1)) (l0.length : Int)))))) + (wrap64 (Int.tdiv a1 (l0.length : Int))))) a2))) else (none)) else (none)) else (none)) else (none)))) = some r := h
 clear h
 by_cases c4 : a2 ≤ 1
 ·
  rw [if_pos c4] at H
  have c4b0 : decide (a2 ≤ 1) = true := decide_eq_true c4
  clear c4
  obtain rfl := Option.some.inj H
  go_enter Try.func7, Try.ntmps7
  go_wp2
  repeat (go_quiet (fail); try go_wp2)
  go_ret
  exact ⟨qz0_, qz1_⟩
 ·
  rw [if_neg c4] at H
  have c4b0 : decide (a2 ≤ 1) = false := decide_eq_false c4
  clear c4
  by_cases c5 : (l0.length : Int) = 0
  ·
   rw [if_pos c5] at H
   have c5b0 : ((l0.length : Int) == 0) = true := beq_iff_eq.mpr c5
   have c5b1 : ((l0.length : Int) != 0) = false := bne_eq_false_iff_eq.mpr c5
   clear c5
   by_cases c6 : a2 = 0
   ·
    rw [if_pos c6] at H
    exact absurd H (by simp)
   ·
    rw [if_neg c6] at H
    have c6b0 : (a2 == 0) = false := beq_eq_false_iff_ne.mpr c6
    have c6b1 : (a2 != 0) = true := bne_iff_ne.mpr c6
    obtain rfl := Option.some.inj H
    go_enter Try.func7, Try.ntmps7
    go_wp2
    repeat (go_quiet (fail); try go_wp2)
    go_ret
    exact ⟨qz0_, qz1_⟩
  ·
   rw [if_neg c5] at H
   have c5b0 : ((l0.length : Int) == 0) = false := beq_eq_false_iff_ne.mpr c5
   have c5b1 : ((l0.length : Int) != 0) = true := bne_iff_ne.mpr c5
   have c5b2 : ¬ (l0 = []) := fun h_ => c5 (by rw [h_]; rfl)
   obtain ⟨ji7, hji7⟩ : ∃ j_ : Int, (Int.tmod a1 (l0.length : Int)) = j_ := ⟨_, rfl⟩
   replace H : (if 0 ≤ (ji7) then (if (ji7) < (l0.length : Int) then (if 0 ≤ (Int.tmod (wrap64 (a1 + 1)) (l0.length : Int)) then (if (Int.tmod (wrap64 (a1 + 1)) (l0.length : Int)) < (l0.length : Int) then (if a2 = 0 then (none) else (some (Int.tmod (wrap64 ((wrap64 ((wrap64 ((wrap64 (rd l0 (ji7))) * 31)) + (wrap64 (rd l0 (Int.tmod (wrap64 (a1 + 1)) (l0.length : Int)))))) + (wrap64 (Int.tdiv a1 (l0.length : Int))))) a2))) else (none)) else (none)) else (none)) else (none)) = some r := by first | (rw [hji7] at H; exact H) | (simp only [hji7] at H ⊢; exact H)
   by_cases c8 : 0 ≤ (ji7)
   ·
    rw [if_pos c8] at H
    have c8b0 : decide (0 ≤ (ji7)) = true := decide_eq_true c8
    clear c8
    by_cases c9 : (ji7) < (l0.length : Int)
    ·
     rw [if_pos c9] at H
     have c9b0 : decide ((ji7) < (l0.length : Int)) = true := decide_eq_true c9
     clear c9
     obtain ⟨ji10, hji10⟩ : ∃ j_ : Int, (Int.tmod (wrap64 (a1 + 1)) (l0.length : Int)) = j_ := ⟨_, rfl⟩
     replace H : (if 0 ≤ (ji10) then (if (ji10) < (l0.length : Int) then (if a2 = 0 then (none) else (some (Int.tmod (wrap64 ((wrap64 ((wrap64 ((wrap64 (rd l0 (ji7))) * 31)) + (wrap64 (rd l0 (ji10))))) + (wrap64 (Int.tdiv a1 (l0.length : Int))))) a2))) else (none)) else (none)) = some r := by first | (rw [hji10] at H; exact H) | (simp only [hji10] at H ⊢; exact H)
     by_cases c11 : 0 ≤ (ji10)
     ·
      rw [if_pos c11] at H
      have c11b0 : decide (0 ≤ (ji10)) = true := decide_eq_true c11
      clear c11
      by_cases c12 : (ji10) < (l0.length : Int)
      ·
       rw [if_pos c12] at H
       have c12b0 : decide ((ji10) < (l0.length : Int)) = true := decide_eq_true c12
       clear c12
       by_cases c13 : a2 = 0
       ·
        rw [if_pos c13] at H
        exact absurd H (by simp)
       ·
        rw [if_neg c13] at H
        have c13b0 : (a2 == 0) = false := beq_eq_false_iff_ne.mpr c13
        have c13b1 : (a2 != 0) = true := bne_iff_ne.mpr c13
        obtain rfl := Option.some.inj H
        have p101 : 0 ≤ ((ji7) : Int) := of_decide_eq_true (by first | (with_reducible assumption) | assumption)
        have q101 : (ji7) < (l0.length : Int) := of_decide_eq_true (by first | (with_reducible assumption) | assumption)
        obtain ⟨ad101, e101, hx101_0⟩ := Kd.at_int HR0.out (ji7) p101 q101
        cases e101
        replace p101 := eq_true p101
        replace q101 := eq_true q101
        have p102 : 0 ≤ ((ji10) : Int) := of_decide_eq_true (by first | (with_reducible assumption) | assumption)
        have q102 : (ji10) < (l0.length : Int) := of_decide_eq_true (by first | (with_reducible assumption) | assumption)
        obtain ⟨ad102, e102, hx102_0⟩ := Kd.at_int HR0.out (ji10) p102 q102
        obtain rfl : ad101 = ad102 := (by injection e102)
        replace p102 := eq_true p102
        replace q102 := eq_true q102
        go_enter Try.func7, Try.ntmps7
        go_wp2
        repeat (go_quiet (fail); try go_wp2)
        go_ret
        exact ⟨(by first | rfl | (simp; done) | (simp only [← hji7, ← hji10] <;> (first | rfl | simp)) | (simp [*]; done)), qz1_⟩
      ·
       rw [if_neg c12] at H
       exact absurd H (by simp)
     ·
      rw [if_neg c11] at H
      exact absurd H (by simp)
    ·
     rw [if_neg c9] at H
     exact absurd H (by simp)
   ·
    rw [if_neg c8] at H
    exact absurd H (by simp)

def IsS116 (w0 W : World) (g : Nat) (f0 : List Int) (f1 : Int) (f2 : Int) : Prop := ∃ A0 c0, W.heap[g]? = some (.cells #[.slice A0 f0.length c0, .int .i64 f1, .int .i64 f2] 116 (0, 0)) ∧ w0.heap.size ≤ g ∧ Kd.C (Kd.int .u8) w0 A0 f0.length f0
theorem IsS116.grown {w0 W : World} {g : Nat} {f0 : List Int} {f1 : Int} {f2 : Int} {W1 : World} {row : Option Nat} (h : IsS116 w0 W g f0 f1 f2) (hw : W.grownBy W1 row) (hne : some g ≠ row) : IsS116 w0 W1 g f0 f1 f2 := by
 obtain ⟨A0, c0, hb, hg, hr0⟩ := h
 exact ⟨A0, c0, blk_grown hb hw hne, hg, hr0⟩
theorem IsS116.own_neN {w0 W : World} {g : Nat} {f0 : List Int} {f1 : Int} {f2 : Int} {α : Type} {d : Kd α} {e : Nat} {base : Nat} {ok : Nat → Prop} {v : Value} {xs : List α} (h : IsS116 w0 W g f0 f1 f2) (ho : Kd.N d e W base ok v xs) (ht : e ≠ 116) : some g ≠ v.ownBlock := by
 obtain ⟨A0, c0, hb, hg, hr0⟩ := h
 exact Kd.N_ne ho hb ht
theorem IsS116.fresh {w0 W : World} {g : Nat} {f0 : List Int} {f1 : Int} {f2 : Int} (h : IsS116 w0 W g f0 f1 f2) : ∀ k, W.heap.size ≤ k → k ≠ g := by
 obtain ⟨A0, c0, hb, hg, hr0⟩ := h
 exact Kd.freshB hb
theorem IsS116.kept {w0 W : World} {g : Nat} {f0 : List Int} {f1 : Int} {f2 : Int} {W1 : World} {S : Nat → Prop} (h : IsS116 w0 W g f0 f1 f2) (hk : Kept W W1 S) (hne : ¬ S g) : IsS116 w0 W1 g f0 f1 f2 := by
 obtain ⟨A0, c0, hb, hg, hr0⟩ := h
 exact ⟨A0, c0, blk_kept hb hk hne, hg, hr0⟩
theorem IsS116.below {w0 W : World} {g : Nat} {f0 : List Int} {f1 : Int} {f2 : Int} {W1 : World} (h : IsS116 w0 W g f0 f1 f2) (hw : Below W.heap.size W W1) : IsS116 w0 W1 g f0 f1 f2 := h.grown (grown_of_below hw none) (by simp)
theorem IsS116.alloc {w0 W : World} {g : Nat} {f0 : List Int} {f1 : Int} {f2 : Int} (h : IsS116 w0 W g f0 f1 f2) (o : Obj) : IsS116 w0 (W.alloc o) g f0 f1 f2 := h.below (below_alloc (Below.refl _ _) o)
theorem IsS116.drewN {w0 W : World} {g : Nat} {f0 : List Int} {f1 : Int} {f2 : Int} (h : IsS116 w0 W g f0 f1 f2) (m : Nat) : IsS116 w0 (W.drewN m) g f0 f1 f2 := h
theorem IsS116.drew {w0 W : World} {g : Nat} {f0 : List Int} {f1 : Int} {f2 : Int} (h : IsS116 w0 W g f0 f1 f2) : IsS116 w0 W.drew g f0 f1 f2 := h
theorem IsS116.at_ {w0 W : World} {g : Nat} {f0 : List Int} {f1 : Int} {f2 : Int} {w' : World} {m : Nat} (hq : W.drewN m = w') (h : IsS116 w0 W g f0 f1 f2) : IsS116 w0 w' g f0 f1 f2 := by subst hq; exact IsS116.drewN h m
theorem IsS116.apart {w0 W : World} {g : Nat} {f0 : List Int} {f1 : Int} {f2 : Int} {α : Type} {d : Kd α} {e : Nat} {base : Nat} {ok : Nat → Prop} {v : Value} {xs : List α} (h : IsS116 w0 W g f0 f1 f2) (ho : d.R e W base ok v xs) (ht : ∀ q, q ∈ e :: d.E → q ≠ 116) : d.R e W base (fun k => ok k ∧ k ≠ g) v xs := by
 obtain ⟨A0, c0, hb, hg, hr0⟩ := h
 exact Kd.R_types ho hb ht
theorem IsS116.own_ne {w0 W : World} {g : Nat} {f0 : List Int} {f1 : Int} {f2 : Int} {α : Type} {d : Kd α} {e : Nat} {base : Nat} {ok : Nat → Prop} {v : Value} {xs : List α} (h : IsS116 w0 W g f0 f1 f2) (ho : d.R e W base ok v xs) (ht : e ≠ 116) : some g ≠ v.ownBlock := by
 obtain ⟨A0, c0, hb, hg, hr0⟩ := h
 exact Kd.R_ne ho hb ht
theorem IsS116.apartQ {w0 W : World} {g : Nat} {f0 : List Int} {f1 : Int} {f2 : Int} {α : Type} {d : Kd α} {e : Nat} {base : Nat} {ok : Nat → Prop} {v : Value} {xs : List α} (h : IsS116 w0 W g f0 f1 f2) (ho : d.Q e W base ok v xs) (ht : ∀ q, q ∈ e :: d.E → q ≠ 116) : d.Q e W base (fun k => ok k ∧ k ≠ g) v xs := by
 obtain ⟨A0, c0, hb, hg, hr0⟩ := h
 exact Kd.Q_types ho hb ht
theorem IsS116.own_neQ {w0 W : World} {g : Nat} {f0 : List Int} {f1 : Int} {f2 : Int} {α : Type} {d : Kd α} {e : Nat} {base : Nat} {ok : Nat → Prop} {v : Value} {xs : List α} (h : IsS116 w0 W g f0 f1 f2) (ho : d.Q e W base ok v xs) (ht : e ≠ 116) : some g ≠ v.ownBlock := by
 obtain ⟨A0, c0, hb, hg, hr0⟩ := h
 exact Kd.Q_ne ho hb ht
theorem IsS116.apartS {w0 W : World} {g : Nat} {f0 : List Int} {f1 : Int} {f2 : Int} {α : Type} {d : Kd α} {e : Nat} {base : Nat} {ok : Nat → Prop} {v : Value} {xs : List α} (h : IsS116 w0 W g f0 f1 f2) (ho : d.S e W base ok v xs) (ht : ∀ q, q ∈ e :: d.E → q ≠ 116) : d.S e W base (fun k => ok k ∧ k ≠ g) v xs := by
 obtain ⟨A0, c0, hb, hg, hr0⟩ := h
 exact Kd.S_types ho hb ht
theorem IsS116.own_neS {w0 W : World} {g : Nat} {f0 : List Int} {f1 : Int} {f2 : Int} {α : Type} {d : Kd α} {e : Nat} {base : Nat} {ok : Nat → Prop} {v : Value} {xs : List α} (h : IsS116 w0 W g f0 f1 f2) (ho : d.S e W base ok v xs) (ht : e ≠ 116) : some g ≠ v.ownBlock := by
 obtain ⟨A0, c0, hb, hg, hr0⟩ := h
 exact Kd.S_ne ho hb ht
theorem IsS116.lt {w0 W : World} {g : Nat} {f0 : List Int} {f1 : Int} {f2 : Int} (h : IsS116 w0 W g f0 f1 f2) : g < W.heap.size := by
 obtain ⟨A0, c0, hb, hg, hr0⟩ := h
 exact blk_lt hb
theorem IsS116.ge {w0 W : World} {g : Nat} {f0 : List Int} {f1 : Int} {f2 : Int} (h : IsS116 w0 W g f0 f1 f2) : w0.heap.size ≤ g := by
 obtain ⟨A0, c0, hb, hg, hr0⟩ := h
 exact hg
theorem IsS116.ne_blk {w0 W : World} {g : Nat} {f0 : List Int} {f1 : Int} {f2 : Int} {a : Nat} {cs : Array Value} {t : TypeId} {fr : Nat × Nat} (h : IsS116 w0 W g f0 f1 f2) (hb2 : W.heap[a]? = some (.cells cs t fr)) (ht : t ≠ 116) : g ≠ a := by
 obtain ⟨A0, c0, hb, hg, hr0⟩ := h
 rintro rfl
 rw [hb] at hb2
 injection hb2 with hb2
 injection hb2 with _ ht2
 exact ht ht2.symm
theorem IsS116.far {w0 W : World} {g : Nat} {f0 : List Int} {f1 : Int} {f2 : Int} {p : Addr} (h : IsS116 w0 W g f0 f1 f2) (hne : g ≠ p.block) (u : Value) : IsS116 w0 (W.setCell p u) g f0 f1 f2 := by
 obtain ⟨A0, c0, hb, hg, hr0⟩ := h
 exact ⟨A0, c0, blk_far hb hne u, hg, hr0⟩
theorem cellS116_0 {W : World} {g : Nat} {A0 : Option Addr} {c0 : Nat} {f0 : List Int} {f1 : Int} {f2 : Int} (h : W.heap[g]? = some (.cells #[.slice A0 f0.length c0, .int .i64 f1, .int .i64 f2] 116 (0, 0))) : W.cell? ⟨g, 0, none⟩ = some (.slice A0 f0.length c0) := (blk_cell h 0).trans rfl
theorem cellS116_1 {W : World} {g : Nat} {A0 : Option Addr} {c0 : Nat} {f0 : List Int} {f1 : Int} {f2 : Int} (h : W.heap[g]? = some (.cells #[.slice A0 f0.length c0, .int .i64 f1, .int .i64 f2] 116 (0, 0))) : W.cell? ⟨g, 1, none⟩ = some (.int .i64 f1) := (blk_cell h 1).trans rfl
theorem IsS116.set_1 {w0 W : World} {g : Nat} {f0 : List Int} {f1 : Int} {f2 : Int} (h : IsS116 w0 W g f0 f1 f2) (x : Int) : IsS116 w0 (W.setCell ⟨g, 1, none⟩ (.int .i64 x)) g f0 x f2 := by
 obtain ⟨A0, c0, hb, hg, hr0⟩ := h
 exact ⟨A0, c0, (by simpa using blk_set hb 1 (.int .i64 x)), hg, hr0⟩
theorem cellS116_2 {W : World} {g : Nat} {A0 : Option Addr} {c0 : Nat} {f0 : List Int} {f1 : Int} {f2 : Int} (h : W.heap[g]? = some (.cells #[.slice A0 f0.length c0, .int .i64 f1, .int .i64 f2] 116 (0, 0))) : W.cell? ⟨g, 2, none⟩ = some (.int .i64 f2) := (blk_cell h 2).trans rfl
theorem IsS116.set_2 {w0 W : World} {g : Nat} {f0 : List Int} {f1 : Int} {f2 : Int} (h : IsS116 w0 W g f0 f1 f2) (x : Int) : IsS116 w0 (W.setCell ⟨g, 2, none⟩ (.int .i64 x)) g f0 f1 x := by
 obtain ⟨A0, c0, hb, hg, hr0⟩ := h
 exact ⟨A0, c0, (by simpa using blk_set hb 2 (.int .i64 x)), hg, hr0⟩
theorem IsS116.new (w0 W : World) (A0 : Option Addr) (c0 : Nat) (f0 : List Int) (f1 : Int) (f2 : Int) (hB : Below w0.heap.size w0 W) (hr0 : Kd.C (Kd.int .u8) w0 A0 f0.length f0) : IsS116 w0 (W.alloc (.cells #[.slice A0 f0.length c0, .int .i64 f1, .int .i64 f2] 116)) W.heap.size f0 f1 f2 := ⟨A0, c0, (by simpa using heap_alloc_new W _), hB.size, hr0⟩
def spec_l00Source.f (l0 : List Int) : Option (List Int × Int × Int) := some (l0, 0, (l0.length : Int) % 1000)
set_option maxHeartbeats 8000000 in
set_option maxRecDepth 100000 in
theorem spec_l00Source.calls (A0 : Option Addr) (c0 : Nat) (l0 : List Int) (r1 : List Int) (r2 : Int) (r3 : Int) (w0 w : World) (hB : Below w0.heap.size w0 w) (hr0 : Kd.C (Kd.int .u8) w0 A0 l0.length l0) (hc0 : l0.length ≤ c0) (h : spec_l00Source.f l0 = some (r1, r2, r3)) :
  Calls Try.prog 39 #[.slice A0 l0.length c0] w fun e w' => ∃ g_ : Nat, e = .returned (.pointer (some ⟨g_, 0, none⟩)) ∧ IsS116 w0 w' g_ r1 r2 r3 ∧ Below w0.heap.size w0 w' ∧ Below w.heap.size w w' := by
 have hu116 := Try.underlying116
 have HR0 := am_ hr0
 have HC0 := am_ hc0
 clear hr0 hc0
 have HBW := am_ (Below.refl w.heap.size w)
 have HW0 := am_ hB.size
 have HB := am_ hB
 clear hB
 have H : (some (l0, 0, (l0.length : Int) % 1000)) = some (r1, r2, r3) := h
 clear h
 simp only [Option.some.injEq, Prod.mk.injEq] at H
 obtain ⟨rfl, rfl, rfl⟩ := H
 go_enter Try.func39, Try.ntmps39
 go_wp2_with (first | ((with_reducible refine gate_dst (N := 8) rfl ?_); refine box_event ?hg (N := 8) ?hd (cs := #[.slice A0 l0.length c0, .int .i64 0, .int .i64 ((l0.length : Int) % 1000)]) (t := 116) ?hr ?_; (case hd => rfl); (case hg => rfl); (case hr => first | (go_simp; done) | (go_simp; rfl)); intro gb101 hg w2 hbox hb; have n0_ := am_ (below_step HBW.out hb); have n1_ := am_ (below_step qz2_ hb); have n2_ := am_ (hbox); have n3_ := am_ ((by rw [hg]; exact (below_size (by repeat (first | (with_reducible first | exact HBW.out | apply below_alloc | apply pw_below_drewN | apply below_drew1) | exact HBW.out))) : w.heap.size ≤ gb101)); have n4_ := am_ ((Nat.le_trans HW0.out (by rw [hg]; exact (below_size (by repeat (first | (with_reducible first | exact HBW.out | apply below_alloc | apply pw_below_drewN | apply below_drew1) | exact HBW.out))) : w.heap.size ≤ gb101) : w0.heap.size ≤ gb101)); clear HBW; clear HB; have HBW := n0_; have HB := n1_; have BK101 := n2_; have GW101 := n3_; have GE101 := n4_; clear n0_ n1_ n2_ n3_ n4_; clear hb hbox hg))
 go_ret
 exact ⟨_, rfl, (show IsS116 w0 _ gb101 l0 0 ((l0.length : Int) % 1000) from ⟨_, _, qz3_, GE101.out, HR0.out⟩), by repeat (first | (with_reducible first | exact HB.out | apply below_alloc | apply pw_below_drewN | apply below_drew1 | refine below_set ?_ GE101.out) | exact HB.out), by repeat (first | (with_reducible first | exact HBW.out | apply below_alloc | apply pw_below_drewN | apply below_drew1 | refine below_set ?_ GW101.out) | exact HBW.out)⟩

def spec_l00Src_byte.next (s : Int) : Int := (s * 1103515245 + 12345) % 2147483648
def spec_l00Src_byte.f (s0_0 : List Int) (s0_1 s0_2 : Int) : Option (Int × Int × Int) :=
 if 0 ≤ s0_1 ∧ s0_1 ≤ 1000000000000 ∧ 0 ≤ s0_2 ∧ s0_2 < 2147483648 then
  (if s0_1 < (s0_0.length : Int) then (if 0 ≤ rd s0_0 s0_1 ∧ rd s0_0 s0_1 ≤ 255 then some (rd s0_0 s0_1, s0_1 + 1, (s0_2 * 31 + rd s0_0 s0_1 + 7) % 2147483648) else none)
  else if 2999 < s0_1 then some (0, s0_1 + 1, s0_2) else some (spec_l00Src_byte.next s0_2 / 65536 % 256, s0_1 + 1, spec_l00Src_byte.next s0_2))
 else none
set_option maxHeartbeats 8000000 in
set_option maxRecDepth 100000 in
theorem spec_l00Src_byte.calls (g : Nat) (s0_0 : List Int) (s0_1 s0_2 : Int) (r1 r2 r3 : Int) (w0 w : World) (hI : IsS116 w0 w g s0_0 s0_1 s0_2) (hB : Below w0.heap.size w0 w) (h : spec_l00Src_byte.f s0_0 s0_1 s0_2 = some (r1, r2, r3)) :
  Calls Try.prog 169 #[.pointer (some ⟨g, 0, none⟩)] w fun e w' => e = .returned (.int .i64 r1) ∧ IsS116 w0 w' g s0_0 r2 r3 ∧ Below w0.heap.size w0 w' ∧ KeepBut w w' g none := by
 unfold spec_l00Src_byte.f at h
 by_cases hd : 0 ≤ s0_1 ∧ s0_1 ≤ 1000000000000 ∧ 0 ≤ s0_2 ∧ s0_2 < 2147483648
 ·
  rw [if_pos hd] at h
  obtain ⟨d1, d2, d3, d4⟩ := hd
  have HI := am_ hI
  have HB := am_ hB
  have HK := am_ (KeepBut.refl w g none)
  obtain ⟨A0, c0, hb, hge, hr0⟩ := hI
  have q0 := cellS116_0 hb
  have q1 := cellS116_1 hb
  have q2 := cellS116_2 hb
  have z0 := blk_frozen hb 0
  have z1 := blk_frozen hb 1
  have z2 := blk_frozen hb 2
  clear hB
  go_enter Try.func169, Try.ntmps169
  go_wp2_with fail
  have hI1 := HI.out.set_1 (s0_1 + 1)
  have hB1 : Below w0.heap.size w0 (w.setCell ⟨g, 1, none⟩ (.int .i64 (s0_1 + 1))) := below_set HB.out hge
  have hK1 := HK.out.set_ 1 (.int .i64 (s0_1 + 1))
  clear HI HB HK hb hr0 q0 q1 q2 z0 z1 z2
  generalize w.setCell ⟨g, 1, none⟩ (.int .i64 (s0_1 + 1)) = W1 at hI1 hB1 hK1 ⊢
  have HI := am_ hI1
  have HB := am_ hB1
  have HK := am_ hK1
  clear hB1 hK1
  obtain ⟨A1, c1, hb, _, hr0⟩ := hI1
  have q0 := cellS116_0 hb
  have q1 := cellS116_1 hb
  have q2 := cellS116_2 hb
  have z0 := blk_frozen hb 0
  have z1 := blk_frozen hb 1
  have z2 := blk_frozen hb 2
  have HR0 := am_ hr0
  clear hr0 hb
  by_cases hlt : s0_1 < (s0_0.length : Int)
  ·
   rw [if_pos hlt] at h
   by_cases hbyte : 0 ≤ rd s0_0 s0_1 ∧ rd s0_0 s0_1 ≤ 255
   ·
    rw [if_pos hbyte] at h
    simp only [Option.some.injEq, Prod.mk.injEq] at h
    obtain ⟨rfl, rfl, rfl⟩ := h
    obtain ⟨hb0, hb1⟩ := hbyte
    obtain ⟨ad, e_, hx⟩ := Kd.at_int HR0.out s0_1 d1 hlt
    cases e_
    have hx0 := am_ hx
    replace hx := (HB.out.cell (World.block_lt_of_cell? w0 _ hx)).trans hx
    have t1 : decide (s0_1 + 1 ≤ (s0_0.length : Int)) = true := decide_eq_true (by omega)
    have t2 : s0_1 + 1 - 1 = s0_1 := by omega
    go_quiet (fail)
    go_wp2_with fail
    refine wp_region_still_tail 23 (by kernel_rfl) (by kernel_rfl) ?_
    have q0' : (W1.drewN nq).drew.cell? ⟨g, 0, none⟩ = _ := q0
    have q1' : (W1.drewN nq).drew.cell? ⟨g, 1, none⟩ = _ := q1
    have q2' : (W1.drewN nq).drew.cell? ⟨g, 2, none⟩ = _ := q2
    have hx' : (W1.drewN nq).drew.cell? (ad.add s0_1.toNat) = _ := hx
    have z1' : (W1.drewN nq).drew.frozen? ⟨g, 1, none⟩ = _ := z1
    have z2' : (W1.drewN nq).drew.frozen? ⟨g, 2, none⟩ = _ := z2
    have hI1 : IsS116 w0 (W1.drewN nq).drew g s0_0 (s0_1 + 1) s0_2 := HI.out
    have hB1 : Below w0.heap.size w0 (W1.drewN nq).drew := by repeat (first | (with_reducible first | exact HB.out | apply below_alloc | apply pw_below_drewN | apply below_drew1) | exact HB.out)
    have hK1 : KeepBut w (W1.drewN nq).drew g none := HK.out
    clear q0 q1 q2 z0 z1 z2 hx HI HB HK
    change wpStill Try.prog _ (W1.drewN nq).drew (fun a' => wpList Try.prog _ _ _ a' (W1.drewN nq).drew) _ _
    generalize (W1.drewN nq).drew = W2 at q0' q1' q2' hx' z1' z2' hI1 hB1 hK1 ⊢
    have HI := am_ hI1
    have HB := am_ hB1
    have HK := am_ hK1
    clear hI1 hB1 hK1
    simp only [List.take_succ_cons, List.take_zero, List.drop_succ_cons, List.drop_zero]
    have v1 : IntKind.i64.wrap s0_1 = s0_1 := IntWalk.i64_in _ (by omega)
    have v2 : IntKind.i64.wrap (s0_2 * 31) = s0_2 * 31 := IntWalk.i64_in _ (by omega)
    have v3 : IntKind.i64.wrap (rd s0_0 s0_1) = rd s0_0 s0_1 := IntWalk.i64_in _ (by omega)
    have v4 : IntKind.i64.wrap (s0_2 * 31 + rd s0_0 s0_1) = s0_2 * 31 + rd s0_0 s0_1 := IntWalk.i64_in _ (by omega)
    have v5 : IntKind.i64.wrap (s0_2 * 31 + rd s0_0 s0_1 + 7) = s0_2 * 31 + rd s0_0 s0_1 + 7 := IntWalk.i64_in _ (by omega)
    have v6 : (s0_2 * 31 + rd s0_0 s0_1 + 7).tmod 2147483648 = (s0_2 * 31 + rd s0_0 s0_1 + 7) % 2147483648 := Int.tmod_eq_emod_of_nonneg (by omega)
    repeat still_step
    refine wpStill_nil ?_
    clear v1 v2 v3 v4 v5 v6
    go_wp2_with fail
    have hI2 := HI.out.set_2 ((s0_2 * 31 + rd s0_0 s0_1 + 7) % 2147483648)
    have hB2 : Below w0.heap.size w0 (W2.setCell ⟨g, 2, none⟩ (.int .i64 ((s0_2 * 31 + rd s0_0 s0_1 + 7) % 2147483648))) := below_set HB.out hge
    have hK2 := HK.out.set_ 2 (.int .i64 ((s0_2 * 31 + rd s0_0 s0_1 + 7) % 2147483648))
    have hx2 : (W2.setCell ⟨g, 2, none⟩ (.int .i64 ((s0_2 * 31 + rd s0_0 s0_1 + 7) % 2147483648))).cell? (ad.add s0_1.toNat) = some (.int .u8 (rd s0_0 s0_1)) := (hB2.cell (World.block_lt_of_cell? w0 _ hx0.out)).trans hx0.out
    clear q0' q1' q2' z1' z2' hx' HI HB HK
    generalize W2.setCell ⟨g, 2, none⟩ (.int .i64 ((s0_2 * 31 + rd s0_0 s0_1 + 7) % 2147483648)) = W3 at hI2 hB2 hK2 hx2 ⊢
    have HI := am_ hI2
    have HB := am_ hB2
    have HK := am_ hK2
    clear hB2 hK2
    obtain ⟨A3, c3, hb, _, hr3⟩ := hI2
    have q0 := cellS116_0 hb
    have q1 := cellS116_1 hb
    have HR3 := am_ hr3
    clear hr3 hb
    obtain ⟨ad3, e3, hx3⟩ := Kd.at_int HR3.out s0_1 d1 hlt
    cases e3
    replace hx3 := (HB.out.cell (World.block_lt_of_cell? w0 _ hx3)).trans hx3
    clear hx2
    have v1 : IntKind.i64.wrap s0_1 = s0_1 := IntWalk.i64_in _ (by omega)
    have v3 : IntKind.i64.wrap (rd s0_0 s0_1) = rd s0_0 s0_1 := IntWalk.i64_in _ (by omega)
    go_quiet (fail)
    clear v1 v3
    go_wp2_with fail
    go_ret
    exact ⟨(by first | rfl | simp), HI.out.drewN _, qz2_, HK.out⟩
   ·
    rw [if_neg hbyte] at h; exact absurd h (by simp)
  ·
   rw [if_neg hlt] at h
   have t1 : decide (s0_1 + 1 ≤ (s0_0.length : Int)) = false := decide_eq_false (by omega)
   by_cases h3 : 2999 < s0_1
   ·
    rw [if_pos h3] at h
    simp only [Option.some.injEq, Prod.mk.injEq] at h
    obtain ⟨rfl, rfl, rfl⟩ := h
    have t3 : decide (3000 < s0_1 + 1) = true := decide_eq_true (by omega)
    go_quiet (fail)
    go_wp2_with fail
    go_ret
    exact ⟨(by first | rfl | simp), HI.out.drewN _, qz2_, HK.out⟩
   ·
    rw [if_neg h3] at h
    simp only [Option.some.injEq, Prod.mk.injEq] at h
    obtain ⟨rfl, rfl, rfl⟩ := h
    have t3 : decide (3000 < s0_1 + 1) = false := decide_eq_false (by omega)
    go_quiet (fail)
    go_wp2_with fail
    go_ret
    exact ⟨rfl, (HI.out.drewN _).set_2 _, below_set qz2_ hge, HK.out.set_ 2 _⟩
 ·
  rw [if_neg hd] at h; exact absurd h (by simp)

def spec_l00Src_next.f (s0_0 : List Int) (s0_1 : Int) (s0_2 : Int) (a1 : Int) : Option (Int × Int × Int) := if a1 ≤ 1 then (some (0, s0_1, s0_2)) else (if a1 ≤ 256 then ((spec_l00Src_byte.f s0_0 s0_1 s0_2).bind fun bt101 => (if a1 = 0 then (none) else (some (Int.tmod bt101.1 a1, bt101.2.1, bt101.2.2)))) else ((spec_l00Src_byte.f s0_0 s0_1 s0_2).bind fun bt104 => ((spec_l00Src_byte.f s0_0 bt104.2.1 bt104.2.2).bind fun bt107 => ((spec_l00Src_byte.f s0_0 bt107.2.1 bt107.2.2).bind fun bt110 => (if a1 = 0 then (none) else (some (Int.tmod (wrap64 ((wrap64 ((wrap64 (bt104.1 * 65536)) + (wrap64 (bt107.1 * 256)))) + bt110.1)) a1, bt110.2.1, bt110.2.2)))))))
set_option maxHeartbeats 8000000 in
set_option maxRecDepth 100000 in
theorem spec_l00Src_next.calls (g : Nat) (s0_0 : List Int) (s0_1 : Int) (s0_2 : Int) (a1 : Int) (r1 : Int) (r2 : Int) (r3 : Int) (w0 w : World) (hI : IsS116 w0 w g s0_0 s0_1 s0_2) (hB : Below w0.heap.size w0 w) (h : spec_l00Src_next.f s0_0 s0_1 s0_2 a1 = some (r1, r2, r3)) :
  Calls Try.prog 159 #[.pointer (some ⟨g, 0, none⟩), .int .i64 a1] w fun e w' => e = .returned (.int .i64 r1) ∧ IsS116 w0 w' g s0_0 r2 r3 ∧ Below w0.heap.size w0 w' ∧ KeepBut w w' g none := by
 have HI0 := am_ hI
 have HK := am_ (KeepBut.refl w g none)
 have HL := am_ hB.size
 clear hI
 have HW0 := am_ hB.size
 have HB := am_ hB
 clear hB
 have H : (if a1 ≤ 1 then (some (0, s0_1, s0_2)) else (if a1 ≤ 256 then ((spec_l00Src_byte.f s0_0 s0_1 s0_2).bind fun bt101 => (if a1 = 0 then (none) else (some (Int.tmod bt101.1 a1, bt101.2.1, bt101.2.2)))) else ((spec_l00Src_byte.f s0_0 s0_1 s0_2).bind fun bt104 => ((spec_l00Src_byte.f s0_0 bt104.2.1 bt104.2.2).bind fun bt107 => ((spec_l00Src_byte.f s0_0 bt107.2.1 bt107.2.2).bind fun bt110 => (if a1 = 0 then (none) else (some (Int.tmod (wrap64 ((wrap64 ((wrap64 (bt104.1 * 65536)) + (wrap64 (bt107.1 * 256)))) + bt110.1)) a1, bt110.2.1, bt110.2.2)))))))) = some (r1, r2, r3) := h
 clear h
 by_cases c3 : a1 ≤ 1
 ·
  rw [if_pos c3] at H
  have c3b0 : decide (a1 ≤ 1) = true := decide_eq_true c3
  clear c3
  simp only [Option.some.injEq, Prod.mk.injEq] at H
  obtain ⟨rfl, rfl, rfl⟩ := H
  go_enter Try.func159, Try.ntmps159
  go_wp2
  go_ret
  exact ⟨qz4_, qz5_, qz6_, qz7_⟩
 ·
  rw [if_neg c3] at H
  have c3b0 : decide (a1 ≤ 1) = false := decide_eq_false c3
  clear c3
  by_cases c4 : a1 ≤ 256
  ·
   rw [if_pos c4] at H
   have c4b0 : decide (a1 ≤ 256) = true := decide_eq_true c4
   clear c4
   replace H := Option.bind_eq_some_iff.mp H
   obtain ⟨⟨t101, t102, t103⟩, A50, H⟩ := H
   replace H : (if a1 = 0 then (none) else (some (Int.tmod t101 a1, t102, t103))) = some (r1, r2, r3) := H
   have A5 := am_ A50
   clear A50
   by_cases c6 : a1 = 0
   ·
    rw [if_pos c6] at H
    exact absurd H (by simp)
   ·
    rw [if_neg c6] at H
    have c6b0 : (a1 == 0) = false := beq_eq_false_iff_ne.mpr c6
    have c6b1 : (a1 != 0) = true := bne_iff_ne.mpr c6
    simp only [Option.some.injEq, Prod.mk.injEq] at H
    obtain ⟨rfl, rfl, rfl⟩ := H
    go_enter Try.func159, Try.ntmps159
    go_wp2_with (first | ((with_reducible refine gate_callee (f := 169) rfl ?_); refine goesL_ (some 13) rfl rfl Try.func169 (by kernel_rfl) rfl #[.pointer (some ⟨g, 0, none⟩)] rfl qz8_ ?_; (with_reducible refine (spec_l00Src_byte.calls g s0_0 s0_1 s0_2 t101 t102 t103 w0 _ ?side1 ?side2 A5.out).mono ?_); (case side1 => repeat (first | (with_reducible first | exact HI0.out | apply IsS116.alloc | apply IsS116.drewN | apply IsS116.drew | apply IsS116.set_1 | apply IsS116.set_2) | exact HI0.out)); (case side2 => repeat (first | (with_reducible first | exact HB.out | apply below_alloc | apply pw_below_drewN | apply below_drew1 | refine below_set ?_ (IsS116.ge HI0.out)) | exact HB.out)); rintro e w7 ⟨rfl, hi, hb, hk⟩; refine ⟨_, rfl, ?_⟩; have n0_ := am_ (KeepBut.trans qz7_ hk (.inl rfl)); have n1_ := am_ (hb); have n2_ := am_ (hi); clear HK; clear HB; clear HI0; have HK := n0_; have HB := n1_; have HI0 := n2_; clear n0_ n1_ n2_; (try clear hb); (try clear hb2); (try clear hk); (try clear hi)))
    go_ret
    exact ⟨qz4_, qz5_, qz6_, qz7_⟩
  ·
   rw [if_neg c4] at H
   have c4b0 : decide (a1 ≤ 256) = false := decide_eq_false c4
   clear c4
   replace H := Option.bind_eq_some_iff.mp H
   obtain ⟨⟨t104, t105, t106⟩, A80, H⟩ := H
   replace H : ((spec_l00Src_byte.f s0_0 t105 t106).bind fun bt107 => ((spec_l00Src_byte.f s0_0 bt107.2.1 bt107.2.2).bind fun bt110 => (if a1 = 0 then (none) else (some (Int.tmod (wrap64 ((wrap64 ((wrap64 (t104 * 65536)) + (wrap64 (bt107.1 * 256)))) + bt110.1)) a1, bt110.2.1, bt110.2.2))))) = some (r1, r2, r3) := H
   have A8 := am_ A80
   clear A80
   replace H := Option.bind_eq_some_iff.mp H
   obtain ⟨⟨t107, t108, t109⟩, A90, H⟩ := H
   replace H : ((spec_l00Src_byte.f s0_0 t108 t109).bind fun bt110 => (if a1 = 0 then (none) else (some (Int.tmod (wrap64 ((wrap64 ((wrap64 (t104 * 65536)) + (wrap64 (t107 * 256)))) + bt110.1)) a1, bt110.2.1, bt110.2.2)))) = some (r1, r2, r3) := H
   have A9 := am_ A90
   clear A90
   replace H := Option.bind_eq_some_iff.mp H
   obtain ⟨⟨t110, t111, t112⟩, A100, H⟩ := H
   replace H : (if a1 = 0 then (none) else (some (Int.tmod (wrap64 ((wrap64 ((wrap64 (t104 * 65536)) + (wrap64 (t107 * 256)))) + t110)) a1, t111, t112))) = some (r1, r2, r3) := H
   have A10 := am_ A100
   clear A100
   by_cases c11 : a1 = 0
   ·
    rw [if_pos c11] at H
    exact absurd H (by simp)
   ·
    rw [if_neg c11] at H
    have c11b0 : (a1 == 0) = false := beq_eq_false_iff_ne.mpr c11
    have c11b1 : (a1 != 0) = true := bne_iff_ne.mpr c11
    simp only [Option.some.injEq, Prod.mk.injEq] at H
    obtain ⟨rfl, rfl, rfl⟩ := H
    go_enter Try.func159, Try.ntmps159
    go_wp2_with (first | ((with_reducible refine gate_callee (f := 169) rfl ?_); refine goesL_ (some 17) rfl rfl Try.func169 (by kernel_rfl) rfl #[.pointer (some ⟨g, 0, none⟩)] rfl qz8_ ?_; (with_reducible refine (spec_l00Src_byte.calls g s0_0 s0_1 s0_2 t104 t105 t106 w0 _ ?side1 ?side2 A8.out).mono ?_); (case side1 => repeat (first | (with_reducible first | exact HI0.out | apply IsS116.alloc | apply IsS116.drewN | apply IsS116.drew | apply IsS116.set_1 | apply IsS116.set_2) | exact HI0.out)); (case side2 => repeat (first | (with_reducible first | exact HB.out | apply below_alloc | apply pw_below_drewN | apply below_drew1 | refine below_set ?_ (IsS116.ge HI0.out)) | exact HB.out)); rintro e w12 ⟨rfl, hi, hb, hk⟩; refine ⟨_, rfl, ?_⟩; have n0_ := am_ (KeepBut.trans qz7_ hk (.inl rfl)); have n1_ := am_ (hb); have n2_ := am_ (hi); clear HK; clear HB; clear HI0; have HK := n0_; have HB := n1_; have HI0 := n2_; clear n0_ n1_ n2_; (try clear hb); (try clear hb2); (try clear hk); (try clear hi)) | ((with_reducible refine gate_callee (f := 169) rfl ?_); refine goesL_ (some 19) rfl rfl Try.func169 (by kernel_rfl) rfl #[.pointer (some ⟨g, 0, none⟩)] rfl qz8_ ?_; (with_reducible refine (spec_l00Src_byte.calls g s0_0 t105 t106 t107 t108 t109 w0 _ ?side1 ?side2 A9.out).mono ?_); (case side1 => repeat (first | (with_reducible first | exact HI0.out | apply IsS116.alloc | apply IsS116.drewN | apply IsS116.drew | apply IsS116.set_1 | apply IsS116.set_2) | exact HI0.out)); (case side2 => repeat (first | (with_reducible first | exact HB.out | apply below_alloc | apply pw_below_drewN | apply below_drew1 | refine below_set ?_ (IsS116.ge HI0.out)) | exact HB.out)); rintro e w13 ⟨rfl, hi, hb, hk⟩; refine ⟨_, rfl, ?_⟩; have n0_ := am_ (KeepBut.trans qz7_ hk (.inl rfl)); have n1_ := am_ (hb); have n2_ := am_ (hi); clear HK; clear HB; clear HI0; have HK := n0_; have HB := n1_; have HI0 := n2_; clear n0_ n1_ n2_; (try clear hb); (try clear hb2); (try clear hk); (try clear hi)) | ((with_reducible refine gate_callee (f := 169) rfl ?_); refine goesL_ (some 21) rfl rfl Try.func169 (by kernel_rfl) rfl #[.pointer (some ⟨g, 0, none⟩)] rfl qz8_ ?_; (with_reducible refine (spec_l00Src_byte.calls g s0_0 t108 t109 t110 t111 t112 w0 _ ?side1 ?side2 A10.out).mono ?_); (case side1 => repeat (first | (with_reducible first | exact HI0.out | apply IsS116.alloc | apply IsS116.drewN | apply IsS116.drew | apply IsS116.set_1 | apply IsS116.set_2) | exact HI0.out)); (case side2 => repeat (first | (with_reducible first | exact HB.out | apply below_alloc | apply pw_below_drewN | apply below_drew1 | refine below_set ?_ (IsS116.ge HI0.out)) | exact HB.out)); rintro e w14 ⟨rfl, hi, hb, hk⟩; refine ⟨_, rfl, ?_⟩; have n0_ := am_ (KeepBut.trans qz7_ hk (.inl rfl)); have n1_ := am_ (hb); have n2_ := am_ (hi); clear HK; clear HB; clear HI0; have HK := n0_; have HB := n1_; have HI0 := n2_; clear n0_ n1_ n2_; (try clear hb); (try clear hb2); (try clear hk); (try clear hi)))
    go_ret
    exact ⟨qz4_, qz5_, qz6_, qz7_⟩

def spec_l00Src_chance.f (s0_0 : List Int) (s0_1 : Int) (s0_2 : Int) (a1 : Int) : Option (Bool × Int × Int) := (spec_l00Src_next.f s0_0 s0_1 s0_2 a1).bind fun bt101 => (some ((bt101.1 == (wrap64 (a1 - 1))), bt101.2.1, bt101.2.2))
set_option maxHeartbeats 8000000 in
set_option maxRecDepth 100000 in
theorem spec_l00Src_chance.calls (g : Nat) (s0_0 : List Int) (s0_1 : Int) (s0_2 : Int) (a1 : Int) (r1 : Bool) (r2 : Int) (r3 : Int) (w0 w : World) (hI : IsS116 w0 w g s0_0 s0_1 s0_2) (hB : Below w0.heap.size w0 w) (h : spec_l00Src_chance.f s0_0 s0_1 s0_2 a1 = some (r1, r2, r3)) :
  Calls Try.prog 125 #[.pointer (some ⟨g, 0, none⟩), .int .i64 a1] w fun e w' => e = .returned (.bool r1) ∧ IsS116 w0 w' g s0_0 r2 r3 ∧ Below w0.heap.size w0 w' ∧ KeepBut w w' g none := by
 have HI0 := am_ hI
 have HK := am_ (KeepBut.refl w g none)
 have HL := am_ hB.size
 clear hI
 have HW0 := am_ hB.size
 have HB := am_ hB
 clear hB
 have H : ((spec_l00Src_next.f s0_0 s0_1 s0_2 a1).bind fun bt101 => (some ((bt101.1 == (wrap64 (a1 - 1))), bt101.2.1, bt101.2.2))) = some (r1, r2, r3) := h
 clear h
 replace H := Option.bind_eq_some_iff.mp H
 obtain ⟨⟨t101, t102, t103⟩, A30, H⟩ := H
 replace H : (some ((t101 == (wrap64 (a1 - 1))), t102, t103)) = some (r1, r2, r3) := H
 have A3 := am_ A30
 clear A30
 simp only [Option.some.injEq, Prod.mk.injEq] at H
 obtain ⟨rfl, rfl, rfl⟩ := H
 go_enter Try.func125, Try.ntmps125
 go_wp2_with (first | ((with_reducible refine gate_callee (f := 159) rfl ?_); refine goesL_ (some 7) rfl rfl Try.func159 (by kernel_rfl) rfl #[.pointer (some ⟨g, 0, none⟩), .int .i64 a1] rfl qz8_ ?_; (with_reducible refine (spec_l00Src_next.calls g s0_0 s0_1 s0_2 a1 t101 t102 t103 w0 _ ?side1 ?side2 A3.out).mono ?_); (case side1 => repeat (first | (with_reducible first | exact HI0.out | apply IsS116.alloc | apply IsS116.drewN | apply IsS116.drew | apply IsS116.set_1 | apply IsS116.set_2) | exact HI0.out)); (case side2 => repeat (first | (with_reducible first | exact HB.out | apply below_alloc | apply pw_below_drewN | apply below_drew1 | refine below_set ?_ (IsS116.ge HI0.out)) | exact HB.out)); rintro e w4 ⟨rfl, hi, hb, hk⟩; refine ⟨_, rfl, ?_⟩; have n0_ := am_ (KeepBut.trans qz7_ hk (.inl rfl)); have n1_ := am_ (hb); have n2_ := am_ (hi); clear HK; clear HB; clear HI0; have HK := n0_; have HB := n1_; have HI0 := n2_; clear n0_ n1_ n2_; (try clear hb); (try clear hb2); (try clear hk); (try clear hi)))
 go_ret
 exact ⟨qz4_, qz5_, qz6_, qz7_⟩

def spec_l00Src_field.l0 : Nat → Int → Int → List Int → Int → Int → Option (Int × Int × Int)
 | 0, _, _, _, _, _ => none
 | k + 1, x3, x4, x1000, x1001, x1002 => if x4 < 5 then ((spec_l00Src_next.f x1000 x1001 x1002 256).bind fun bt110 => (spec_l00Src_field.l0 k (Int.tmod (wrap64 ((wrap64 (x3 * 256)) + bt110.1)) 2130706433) (wrap64 (x4 + 1)) x1000 bt110.2.1 bt110.2.2)) else (some (x3, x1001, x1002))
def spec_l00Src_field.f (k : Nat) (s0_0 : List Int) (s0_1 : Int) (s0_2 : Int) : Option (Int × Int × Int) := (spec_l00Src_next.f s0_0 s0_1 s0_2 5).bind fun bt101 => (if bt101.1 = 0 then ((spec_l00Src_next.f s0_0 bt101.2.1 bt101.2.2 4).bind fun bt104 => (some (bt104.1, bt104.2.1, bt104.2.2))) else (if bt101.1 = 1 then ((spec_l00Src_next.f s0_0 bt101.2.1 bt101.2.2 3).bind fun bt107 => (some (wrap64 (2130706432 - bt107.1), bt107.2.1, bt107.2.2))) else (spec_l00Src_field.l0 k 0 0 s0_0 bt101.2.1 bt101.2.2)))
theorem spec_l00Src_field.mono_l : ∀ k, (∀ y0 y1 y2 y3 y4, LeO (spec_l00Src_field.l0 k y0 y1 y2 y3 y4) (spec_l00Src_field.l0 (k + 1) y0 y1 y2 y3 y4))
 | 0 => fun _ _ _ _ _ r h => by simp [spec_l00Src_field.l0] at h
 | k + 1 => by
  have ih0 := spec_l00Src_field.mono_l k
  ·
   intro y0 y1 y2 y3 y4
   unfold spec_l00Src_field.l0
   repeat' first
   | (with_reducible exact ih0 _ _ _ _ _)
   | (with_reducible exact LeO.refl _)
   | (with_reducible exact LeO.none _)
   | (with_reducible refine LeO.ite ?_ ?_)
   | (with_reducible refine LeO.bind ?_ (fun _ => ?_))
   | exact ih0 _ _ _ _ _
   | exact LeO.none _
   | refine LeO.ite ?_ ?_
   | refine LeO.bind ?_ (fun _ => ?_)
theorem spec_l00Src_field.mono : ∀ a0 a1 a2 k, LeO (spec_l00Src_field.f k a0 a1 a2) (spec_l00Src_field.f (k + 1) a0 a1 a2) := by
 intro a0 a1 a2 k
 have ih0 := spec_l00Src_field.mono_l k
 unfold spec_l00Src_field.f
 repeat' first
   | (with_reducible exact ih0 _ _ _ _ _)
   | (with_reducible exact LeO.refl _)
   | (with_reducible exact LeO.none _)
   | (with_reducible refine LeO.ite ?_ ?_)
   | (with_reducible refine LeO.bind ?_ (fun _ => ?_))
   | exact ih0 _ _ _ _ _
   | exact LeO.none _
   | refine LeO.ite ?_ ?_
   | refine LeO.bind ?_ (fun _ => ?_)
set_option maxHeartbeats 8000000 in
set_option maxRecDepth 100000 in
theorem spec_l00Src_field.calls (k : Nat) (g : Nat) (s0_0 : List Int) (s0_1 : Int) (s0_2 : Int) (r1 : Int) (r2 : Int) (r3 : Int) (w0 w : World) (hI : IsS116 w0 w g s0_0 s0_1 s0_2) (hB : Below w0.heap.size w0 w) (h : spec_l00Src_field.f k s0_0 s0_1 s0_2 = some (r1, r2, r3)) :
  Calls Try.prog 126 #[.pointer (some ⟨g, 0, none⟩)] w fun e w' => e = .returned (.int .i64 r1) ∧ IsS116 w0 w' g s0_0 r2 r3 ∧ Below w0.heap.size w0 w' ∧ KeepBut w w' g none := by
 have HI0 := am_ hI
 have HK := am_ (KeepBut.refl w g none)
 have HL := am_ hB.size
 clear hI
 have HW0 := am_ hB.size
 have HB := am_ hB
 clear hB
 have H : ((spec_l00Src_next.f s0_0 s0_1 s0_2 5).bind fun bt101 => (if bt101.1 = 0 then ((spec_l00Src_next.f s0_0 bt101.2.1 bt101.2.2 4).bind fun bt104 => (some (bt104.1, bt104.2.1, bt104.2.2))) else (if bt101.1 = 1 then ((spec_l00Src_next.f s0_0 bt101.2.1 bt101.2.2 3).bind fun bt107 => (some (wrap64 (2130706432 - bt107.1), bt107.2.1, bt107.2.2))) else (spec_l00Src_field.l0 k 0 0 s0_0 bt101.2.1 bt101.2.2)))) = some (r1, r2, r3) := h
 clear h
 replace H := Option.bind_eq_some_iff.mp H
 obtain ⟨⟨t101, t102, t103⟩, A20, H⟩ := H
 replace H : (if t101 = 0 then ((spec_l00Src_next.f s0_0 t102 t103 4).bind fun bt104 => (some (bt104.1, bt104.2.1, bt104.2.2))) else (if t101 = 1 then ((spec_l00Src_next.f s0_0 t102 t103 3).bind fun bt107 => (some (wrap64 (2130706432 - bt107.1), bt107.2.1, bt107.2.2))) else (spec_l00Src_field.l0 k 0 0 s0_0 t102 t103))) = some (r1, r2, r3) := H
 have A2 := am_ A20
 clear A20
 by_cases c3 : t101 = 0
 ·
  rw [if_pos c3] at H
  have c3b0 : (t101 == 0) = true := beq_iff_eq.mpr c3
  have c3b1 : (t101 != 0) = false := bne_eq_false_iff_eq.mpr c3
  clear c3
  replace H := Option.bind_eq_some_iff.mp H
  obtain ⟨⟨t104, t105, t106⟩, A40, H⟩ := H
  replace H : (some (t104, t105, t106)) = some (r1, r2, r3) := H
  have A4 := am_ A40
  clear A40
  simp only [Option.some.injEq, Prod.mk.injEq] at H
  obtain ⟨rfl, rfl, rfl⟩ := H
  go_enter Try.func126, Try.ntmps126
  go_wp2_with (first | ((with_reducible refine gate_callee (f := 159) rfl ?_); refine goesL_ (some 6) rfl rfl Try.func159 (by kernel_rfl) rfl #[.pointer (some ⟨g, 0, none⟩), .int .i64 5] rfl qz8_ ?_; (with_reducible refine (spec_l00Src_next.calls g s0_0 s0_1 s0_2 5 t101 t102 t103 w0 _ ?side1 ?side2 A2.out).mono ?_); (case side1 => repeat (first | (with_reducible first | exact HI0.out | apply IsS116.alloc | apply IsS116.drewN | apply IsS116.drew | apply IsS116.set_1 | apply IsS116.set_2) | exact HI0.out)); (case side2 => repeat (first | (with_reducible first | exact HB.out | apply below_alloc | apply pw_below_drewN | apply below_drew1 | refine below_set ?_ (IsS116.ge HI0.out)) | exact HB.out)); rintro e w5 ⟨rfl, hi, hb, hk⟩; refine ⟨_, rfl, ?_⟩; have n0_ := am_ (KeepBut.trans qz7_ hk (.inl rfl)); have n1_ := am_ (hb); have n2_ := am_ (hi); clear HK; clear HB; clear HI0; have HK := n0_; have HB := n1_; have HI0 := n2_; clear n0_ n1_ n2_; (try clear hb); (try clear hb2); (try clear hk); (try clear hi)) | ((with_reducible refine gate_callee (f := 159) rfl ?_); refine goesL_ (some 10) rfl rfl Try.func159 (by kernel_rfl) rfl #[.pointer (some ⟨g, 0, none⟩), .int .i64 4] rfl qz8_ ?_; (with_reducible refine (spec_l00Src_next.calls g s0_0 t102 t103 4 t104 t105 t106 w0 _ ?side1 ?side2 A4.out).mono ?_); (case side1 => repeat (first | (with_reducible first | exact HI0.out | apply IsS116.alloc | apply IsS116.drewN | apply IsS116.drew | apply IsS116.set_1 | apply IsS116.set_2) | exact HI0.out)); (case side2 => repeat (first | (with_reducible first | exact HB.out | apply below_alloc | apply pw_below_drewN | apply below_drew1 | refine below_set ?_ (IsS116.ge HI0.out)) | exact HB.out)); rintro e w6 ⟨rfl, hi, hb, hk⟩; refine ⟨_, rfl, ?_⟩; have n0_ := am_ (KeepBut.trans qz7_ hk (.inl rfl)); have n1_ := am_ (hb); have n2_ := am_ (hi); clear HK; clear HB; clear HI0; have HK := n0_; have HB := n1_; have HI0 := n2_; clear n0_ n1_ n2_; (try clear hb); (try clear hb2); (try clear hk); (try clear hi)))
  go_ret
  exact ⟨qz4_, qz5_, qz6_, qz7_⟩
 ·
  rw [if_neg c3] at H
  have c3b0 : (t101 == 0) = false := beq_eq_false_iff_ne.mpr c3
  have c3b1 : (t101 != 0) = true := bne_iff_ne.mpr c3
  by_cases c7 : t101 = 1
  ·
   rw [if_pos c7] at H
   have c7b0 : (t101 == 1) = true := beq_iff_eq.mpr c7
   have c7b1 : (t101 != 1) = false := bne_eq_false_iff_eq.mpr c7
   clear c7
   replace H := Option.bind_eq_some_iff.mp H
   obtain ⟨⟨t107, t108, t109⟩, A80, H⟩ := H
   replace H : (some (wrap64 (2130706432 - t107), t108, t109)) = some (r1, r2, r3) := H
   have A8 := am_ A80
   clear A80
   simp only [Option.some.injEq, Prod.mk.injEq] at H
   obtain ⟨rfl, rfl, rfl⟩ := H
   go_enter Try.func126, Try.ntmps126
   go_wp2_with (first | ((with_reducible refine gate_callee (f := 159) rfl ?_); refine goesL_ (some 6) rfl rfl Try.func159 (by kernel_rfl) rfl #[.pointer (some ⟨g, 0, none⟩), .int .i64 5] rfl qz8_ ?_; (with_reducible refine (spec_l00Src_next.calls g s0_0 s0_1 s0_2 5 t101 t102 t103 w0 _ ?side1 ?side2 A2.out).mono ?_); (case side1 => repeat (first | (with_reducible first | exact HI0.out | apply IsS116.alloc | apply IsS116.drewN | apply IsS116.drew | apply IsS116.set_1 | apply IsS116.set_2) | exact HI0.out)); (case side2 => repeat (first | (with_reducible first | exact HB.out | apply below_alloc | apply pw_below_drewN | apply below_drew1 | refine below_set ?_ (IsS116.ge HI0.out)) | exact HB.out)); rintro e w9 ⟨rfl, hi, hb, hk⟩; refine ⟨_, rfl, ?_⟩; have n0_ := am_ (KeepBut.trans qz7_ hk (.inl rfl)); have n1_ := am_ (hb); have n2_ := am_ (hi); clear HK; clear HB; clear HI0; have HK := n0_; have HB := n1_; have HI0 := n2_; clear n0_ n1_ n2_; (try clear hb); (try clear hb2); (try clear hk); (try clear hi)) | ((with_reducible refine gate_callee (f := 159) rfl ?_); refine goesL_ (some 14) rfl rfl Try.func159 (by kernel_rfl) rfl #[.pointer (some ⟨g, 0, none⟩), .int .i64 3] rfl qz8_ ?_; (with_reducible refine (spec_l00Src_next.calls g s0_0 t102 t103 3 t107 t108 t109 w0 _ ?side1 ?side2 A8.out).mono ?_); (case side1 => repeat (first | (with_reducible first | exact HI0.out | apply IsS116.alloc | apply IsS116.drewN | apply IsS116.drew | apply IsS116.set_1 | apply IsS116.set_2) | exact HI0.out)); (case side2 => repeat (first | (with_reducible first | exact HB.out | apply below_alloc | apply pw_below_drewN | apply below_drew1 | refine below_set ?_ (IsS116.ge HI0.out)) | exact HB.out)); rintro e w10 ⟨rfl, hi, hb, hk⟩; refine ⟨_, rfl, ?_⟩; have n0_ := am_ (KeepBut.trans qz7_ hk (.inl rfl)); have n1_ := am_ (hb); have n2_ := am_ (hi); clear HK; clear HB; clear HI0; have HK := n0_; have HB := n1_; have HI0 := n2_; clear n0_ n1_ n2_; (try clear hb); (try clear hb2); (try clear hk); (try clear hi)))
   go_ret
   exact ⟨qz4_, qz5_, qz6_, qz7_⟩
  ·
   rw [if_neg c7] at H
   have c7b0 : (t101 == 1) = false := beq_eq_false_iff_ne.mpr c7
   have c7b1 : (t101 != 1) = true := bne_iff_ne.mpr c7
   have H' := am_ H
   clear H
   go_enter Try.func126, Try.ntmps126
   go_wp2_with (first | ((with_reducible refine gate_callee (f := 159) rfl ?_); refine goesL_ (some 6) rfl rfl Try.func159 (by kernel_rfl) rfl #[.pointer (some ⟨g, 0, none⟩), .int .i64 5] rfl qz8_ ?_; (with_reducible refine (spec_l00Src_next.calls g s0_0 s0_1 s0_2 5 t101 t102 t103 w0 _ ?side1 ?side2 A2.out).mono ?_); (case side1 => repeat (first | (with_reducible first | exact HI0.out | apply IsS116.alloc | apply IsS116.drewN | apply IsS116.drew | apply IsS116.set_1 | apply IsS116.set_2) | exact HI0.out)); (case side2 => repeat (first | (with_reducible first | exact HB.out | apply below_alloc | apply pw_below_drewN | apply below_drew1 | refine below_set ?_ (IsS116.ge HI0.out)) | exact HB.out)); rintro e w11 ⟨rfl, hi, hb, hk⟩; refine ⟨_, rfl, ?_⟩; have n0_ := am_ (KeepBut.trans qz7_ hk (.inl rfl)); have n1_ := am_ (hb); have n2_ := am_ (hi); clear HK; clear HB; clear HI0; have HK := n0_; have HB := n1_; have HI0 := n2_; clear n0_ n1_ n2_; (try clear hb); (try clear hb2); (try clear hk); (try clear hi)))
   go_loopg [3, 4] k (fun kq v3 v4 w' => ∃ (x3_1 : Int) (x4_1 : Int) (x1001_1 : Int) (x1002_1 : Int), v3 = .int .i64 x3_1 ∧ v4 = .int .i64 x4_1 ∧ Aside0 (spec_l00Src_field.l0 kq x3_1 x4_1 s0_0 x1001_1 x1002_1 = some (r1, r2, r3)) ∧ Aside0 (kq ≤ k) ∧ Aside0 (IsS116 w0 w' g s0_0 x1001_1 x1002_1) ∧ Aside0 (KeepBut w w' g none) ∧ Aside0 (Below w0.heap.size w0 w'))
   case atStart => exact ⟨(0), (0), (t102), (t103), qz0_, qz0_, H', ⟨Nat.le_refl _⟩, ⟨qz5_⟩, ⟨qz7_⟩, ⟨qz6_⟩⟩
   case round =>
    clear H'
    try clear c1
    try clear p2
    try clear c3
    try clear c3b0
    try clear c3b1
    try clear p6
    try clear c7
    try clear c7b0
    try clear c7b1
    obtain ⟨x3_1, x4_1, x1001_1, x1002_1, rfl, rfl, HA, HK1, HI0, HK, HB⟩ := hrel
    cases gk with
    | zero => exact absurd HA.out (by simp [spec_l00Src_field.l0])
    | succ k1 =>
     have H := HA.out
     clear HA
     simp only [spec_l00Src_field.l0] at H
     by_cases c12 : x4_1 < 5
     ·
      rw [if_pos c12] at H
      have c12b0 : decide (x4_1 < 5) = true := decide_eq_true c12
      clear c12
      replace H := Option.bind_eq_some_iff.mp H
      obtain ⟨⟨t110, t111, t112⟩, A130, H⟩ := H
      replace H : (spec_l00Src_field.l0 k1 (Int.tmod (wrap64 ((wrap64 (x3_1 * 256)) + t110)) 2130706433) (wrap64 (x4_1 + 1)) s0_0 t111 t112) = some (r1, r2, r3) := H
      have A13 := am_ A130
      clear A130
      have H' := am_ H
      clear H
      go_wp2_with (first | ((with_reducible refine gate_callee (f := 159) rfl ?_); refine goesL_ (some 23) rfl rfl Try.func159 (by kernel_rfl) rfl #[.pointer (some ⟨g, 0, none⟩), .int .i64 256] rfl qz8_ ?_; (with_reducible refine (spec_l00Src_next.calls g s0_0 x1001_1 x1002_1 256 t110 t111 t112 w0 _ ?side1 ?side2 A13.out).mono ?_); (case side1 => repeat (first | (with_reducible first | exact HI0.out | apply IsS116.alloc | apply IsS116.drewN | apply IsS116.drew | apply IsS116.set_1 | apply IsS116.set_2) | exact HI0.out)); (case side2 => repeat (first | (with_reducible first | exact HB.out | apply below_alloc | apply pw_below_drewN | apply below_drew1 | refine below_set ?_ (IsS116.ge HI0.out)) | exact HB.out)); rintro e w14 ⟨rfl, hi, hb, hk⟩; refine ⟨_, rfl, ?_⟩; have n0_ := am_ (KeepBut.trans qz7_ hk (.inl rfl)); have n1_ := am_ (hb); have n2_ := am_ (hi); clear HK; clear HB; clear HI0; have HK := n0_; have HB := n1_; have HI0 := n2_; clear n0_ n1_ n2_; (try clear hb); (try clear hb2); (try clear hk); (try clear hi)))
      go_roundg k1
      case measure => have := HK1.out; omega
      case rel => exact ⟨(Int.tmod (wrap64 ((wrap64 (x3_1 * 256)) + t110)) 2130706433), (wrap64 (x4_1 + 1)), (t111), (t112), qz0_, qz0_, H', ⟨(by have := HK1.out; omega)⟩, ⟨qz5_⟩, ⟨qz7_⟩, ⟨qz6_⟩⟩
     ·
      rw [if_neg c12] at H
      have c12b0 : decide (x4_1 < 5) = false := decide_eq_false c12
      clear c12
      simp only [Option.some.injEq, Prod.mk.injEq] at H
      obtain ⟨rfl, rfl, rfl⟩ := H
      go_wp2
      go_ret
      exact ⟨qz4_, qz5_, qz6_, qz7_⟩

def spec_l00Src_ext.f (k : Nat) (s0_0 : List Int) (s0_1 : Int) (s0_2 : Int) : Option (Int × Int × Int × Int) := (spec_l00Src_chance.f s0_0 s0_1 s0_2 4).bind fun bt102 => (if bt102.1 = true then ((spec_l00Src_field.f k s0_0 bt102.2.1 bt102.2.2).bind fun bt105 => (some (bt105.1, 0, bt105.2.1, bt105.2.2))) else ((spec_l00Src_field.f k s0_0 bt102.2.1 bt102.2.2).bind fun bt108 => ((spec_l00Src_field.f k s0_0 bt108.2.1 bt108.2.2).bind fun bt111 => (some (bt108.1, bt111.1, bt111.2.1, bt111.2.2)))))
theorem spec_l00Src_ext.mono : ∀ a0 a1 a2 k, LeO (spec_l00Src_ext.f k a0 a1 a2) (spec_l00Src_ext.f (k + 1) a0 a1 a2) := by
 intro a0 a1 a2 k
 unfold spec_l00Src_ext.f
 repeat' first
   | (with_reducible exact spec_l00Src_field.mono _ _ _ _)
   | (with_reducible exact LeO.refl _)
   | (with_reducible exact LeO.none _)
   | (with_reducible refine LeO.ite ?_ ?_)
   | (with_reducible refine LeO.bind ?_ (fun _ => ?_))
   | exact spec_l00Src_field.mono _ _ _ _
   | exact LeO.none _
   | refine LeO.ite ?_ ?_
   | refine LeO.bind ?_ (fun _ => ?_)
set_option maxHeartbeats 8000000 in
set_option maxRecDepth 100000 in
theorem spec_l00Src_ext.calls (k : Nat) (g : Nat) (s0_0 : List Int) (s0_1 : Int) (s0_2 : Int) (r1 : Int) (r2 : Int) (r3 : Int) (r4 : Int) (w0 w : World) (hI : IsS116 w0 w g s0_0 s0_1 s0_2) (hB : Below w0.heap.size w0 w) (h : spec_l00Src_ext.f k s0_0 s0_1 s0_2 = some (r1, r2, r3, r4)) :
  Calls Try.prog 83 #[.pointer (some ⟨g, 0, none⟩)] w fun e w' => e = .returned (.agg #[.int .i64 r1, .int .i64 r2]) ∧ IsS116 w0 w' g s0_0 r3 r4 ∧ Below w0.heap.size w0 w' ∧ KeepBut w w' g none := by
 have hu34 := Try.underlying34
 have HI0 := am_ hI
 have HK := am_ (KeepBut.refl w g none)
 have HL := am_ hB.size
 clear hI
 have HW0 := am_ hB.size
 have HB := am_ hB
 clear hB
 have H : ((spec_l00Src_chance.f s0_0 s0_1 s0_2 4).bind fun bt102 => (if bt102.1 = true then ((spec_l00Src_field.f k s0_0 bt102.2.1 bt102.2.2).bind fun bt105 => (some (bt105.1, 0, bt105.2.1, bt105.2.2))) else ((spec_l00Src_field.f k s0_0 bt102.2.1 bt102.2.2).bind fun bt108 => ((spec_l00Src_field.f k s0_0 bt108.2.1 bt108.2.2).bind fun bt111 => (some (bt108.1, bt111.1, bt111.2.1, bt111.2.2)))))) = some (r1, r2, r3, r4) := h
 clear h
 replace H := Option.bind_eq_some_iff.mp H
 obtain ⟨⟨t102, t103, t104⟩, A20, H⟩ := H
 replace H : (if t102 = true then ((spec_l00Src_field.f k s0_0 t103 t104).bind fun bt105 => (some (bt105.1, 0, bt105.2.1, bt105.2.2))) else ((spec_l00Src_field.f k s0_0 t103 t104).bind fun bt108 => ((spec_l00Src_field.f k s0_0 bt108.2.1 bt108.2.2).bind fun bt111 => (some (bt108.1, bt111.1, bt111.2.1, bt111.2.2))))) = some (r1, r2, r3, r4) := H
 have A2 := am_ A20
 clear A20
 by_cases c3 : t102 = true
 ·
  subst c3
  have H1 : ((spec_l00Src_field.f k s0_0 t103 t104).bind fun bt105 => (some (bt105.1, 0, bt105.2.1, bt105.2.2))) = some (r1, r2, r3, r4) := by rw [if_pos rfl] at H; exact H
  clear H
  have H := H1
  clear H1
  replace H := Option.bind_eq_some_iff.mp H
  obtain ⟨⟨t105, t106, t107⟩, A40, H⟩ := H
  replace H : (some (t105, 0, t106, t107)) = some (r1, r2, r3, r4) := H
  have A4 := am_ A40
  clear A40
  simp only [Option.some.injEq, Prod.mk.injEq] at H
  obtain ⟨rfl, rfl, rfl, rfl⟩ := H
  go_enter Try.func83, Try.ntmps83
  go_wp2_with (first | ((with_reducible refine gate_dst (N := 2) rfl ?_); refine box_event ?hg (N := 2) ?hd (cs := #[.int .i64 0, .int .i64 0]) (t := 34) ?hr ?_; (case hd => rfl); (case hg => rfl); (case hr => first | (go_simp; done) | (go_simp; rfl)); intro gb101 hg w5 hbox hb; have n0_ := am_ (IsS116.below qz5_ hb); have n1_ := am_ (KeepBut.trans qz7_ (KeepBut.of_below hb g none) (.inl rfl)); have n2_ := am_ (below_step qz6_ hb); have n3_ := am_ (hbox); have n4_ := am_ ((by rw [hg]; exact (keep_size (w := w) (g := g) (row := none) qz7_) : w.heap.size ≤ gb101)); have n5_ := am_ ((Nat.le_trans HW0.out (by rw [hg]; exact (keep_size (w := w) (g := g) (row := none) qz7_) : w.heap.size ≤ gb101) : w0.heap.size ≤ gb101)); have n6_ := am_ ((by rw [hg]; exact Nat.ne_of_lt (IsS116.lt (show IsS116 w0 _ g s0_0 s0_1 s0_2 from by repeat (first | (with_reducible first | exact HI0.out | apply IsS116.alloc | apply IsS116.drewN | apply IsS116.drew | apply IsS116.set_1 | apply IsS116.set_2) | exact HI0.out))) : g ≠ gb101)); have n7_ := am_ ((by rw [hg]; exact Nat.ne_of_gt (IsS116.lt (show IsS116 w0 _ g s0_0 s0_1 s0_2 from by repeat (first | (with_reducible first | exact HI0.out | apply IsS116.alloc | apply IsS116.drewN | apply IsS116.drew | apply IsS116.set_1 | apply IsS116.set_2) | exact HI0.out))) : gb101 ≠ g)); clear HI0; clear HK; clear HB; have HI0 := n0_; have HK := n1_; have HB := n2_; have BK101 := n3_; have GW101 := n4_; have GE101 := n5_; have NB0_101 := n6_; have NB101_0 := n7_; clear n0_ n1_ n2_ n3_ n4_ n5_ n6_ n7_; clear hb hbox hg) | ((with_reducible refine gate_callee (f := 125) rfl ?_); refine goesL_ (some 4) rfl rfl Try.func125 (by kernel_rfl) rfl #[.pointer (some ⟨g, 0, none⟩), .int .i64 4] rfl qz8_ ?_; (with_reducible refine (spec_l00Src_chance.calls g s0_0 s0_1 s0_2 4 true t103 t104 w0 _ ?side1 ?side2 A2.out).mono ?_); (case side1 => repeat (first | (with_reducible first | exact HI0.out | apply IsS116.alloc | apply IsS116.drewN | apply IsS116.drew | apply IsS116.set_1 | apply IsS116.set_2 | refine IsS116.far ?_ NB0_101.out _) | exact HI0.out)); (case side2 => repeat (first | (with_reducible first | exact HB.out | apply below_alloc | apply pw_below_drewN | apply below_drew1 | refine below_set ?_ (IsS116.ge HI0.out) | refine below_set ?_ GE101.out) | exact HB.out)); rintro e w6 ⟨rfl, hi, hb, hk⟩; refine ⟨_, rfl, ?_⟩; have n0_ := am_ (KeepBut.blk hk (g' := gb101) (o := .cells #[.int .i64 0, .int .i64 0] 34 (0, 0)) qz3_ NB101_0.out (by simp)); have n1_ := am_ (KeepBut.trans qz9_ hk (.inl rfl)); have n2_ := am_ (hb); have n3_ := am_ (hi); clear BK101; clear HK; clear HB; clear HI0; have BK101 := n0_; have HK := n1_; have HB := n2_; have HI0 := n3_; clear n0_ n1_ n2_ n3_; (try clear hb); (try clear hb2); (try clear hk); (try clear hi)) | ((with_reducible refine gate_callee (f := 126) rfl ?_); refine goesL_ (some 6) rfl rfl Try.func126 (by kernel_rfl) rfl #[.pointer (some ⟨g, 0, none⟩)] rfl qz8_ ?_; (with_reducible refine (spec_l00Src_field.calls k g s0_0 t103 t104 t105 t106 t107 w0 _ ?side1 ?side2 A4.out).mono ?_); (case side1 => repeat (first | (with_reducible first | exact HI0.out | apply IsS116.alloc | apply IsS116.drewN | apply IsS116.drew | apply IsS116.set_1 | apply IsS116.set_2 | refine IsS116.far ?_ NB0_101.out _) | exact HI0.out)); (case side2 => repeat (first | (with_reducible first | exact HB.out | apply below_alloc | apply pw_below_drewN | apply below_drew1 | refine below_set ?_ (IsS116.ge HI0.out) | refine below_set ?_ GE101.out) | exact HB.out)); rintro e w7 ⟨rfl, hi, hb, hk⟩; refine ⟨_, rfl, ?_⟩; have n0_ := am_ (KeepBut.blk hk (g' := gb101) (o := .cells #[.int .i64 0, .int .i64 0] 34 (0, 0)) qz3_ NB101_0.out (by simp)); have n1_ := am_ (KeepBut.trans qz9_ hk (.inl rfl)); have n2_ := am_ (hb); have n3_ := am_ (hi); clear BK101; clear HK; clear HB; clear HI0; have BK101 := n0_; have HK := n1_; have HB := n2_; have HI0 := n3_; clear n0_ n1_ n2_ n3_; (try clear hb); (try clear hb2); (try clear hk); (try clear hi); have hnb8 := NB101_0.out; have hnc8 := NB0_101.out; have hcz9_0 : w7.cell? ⟨gb101, 0, none⟩ = some (.int .i64 0) := (blk_cell BK101.out 0).trans rfl; have hcz9_1 : w7.cell? ⟨gb101, 1, none⟩ = some (.int .i64 0) := (blk_cell BK101.out 1).trans rfl; have hfz9_0 := blk_frozen BK101.out 0; have hfz9_1 := blk_frozen BK101.out 1))
  refine bodyPost_ret (results_cell_row rfl _ _ gb101 34 #[.int .i64 t105, .int .i64 0] (0, 0) _ rfl (by (with_reducible repeat (first | refine blk_drewN ?_ _ | refine blk_drew ?_ | refine blk_alloc ?_ _)); refine blk_put (cs := #[.int .i64 t105, .int .i64 0]) ?_ 1 _ rfl; (with_reducible repeat (first | refine blk_drewN ?_ _ | refine blk_drew ?_ | refine blk_alloc ?_ _)); refine blk_put (cs := #[.int .i64 0, .int .i64 0]) ?_ 0 _ rfl; (with_reducible repeat (first | refine blk_drewN ?_ _ | refine blk_drew ?_ | refine blk_alloc ?_ _)); exact BK101.out) Try.underlying34 rfl (by kernel_rfl)) rfl ?_
  exact ⟨qz4_, (by repeat (first | (with_reducible first | exact HI0.out | apply IsS116.alloc | apply IsS116.drewN | apply IsS116.drew | apply IsS116.set_1 | apply IsS116.set_2 | refine IsS116.far ?_ NB0_101.out _) | exact HI0.out)), (by repeat (first | (with_reducible first | exact HB.out | apply below_alloc | apply pw_below_drewN | apply below_drew1 | refine below_set ?_ (IsS116.ge HI0.out) | refine below_set ?_ GE101.out) | exact HB.out)), qz9_⟩
 ·
  replace c3 := Bool.eq_false_iff.mpr c3
  subst c3
  have H1 : ((spec_l00Src_field.f k s0_0 t103 t104).bind fun bt108 => ((spec_l00Src_field.f k s0_0 bt108.2.1 bt108.2.2).bind fun bt111 => (some (bt108.1, bt111.1, bt111.2.1, bt111.2.2)))) = some (r1, r2, r3, r4) := by rw [if_neg (show ¬ (false = true) by decide)] at H; exact H
  clear H
  have H := H1
  clear H1
  replace H := Option.bind_eq_some_iff.mp H
  obtain ⟨⟨t108, t109, t110⟩, A100, H⟩ := H
  replace H : ((spec_l00Src_field.f k s0_0 t109 t110).bind fun bt111 => (some (t108, bt111.1, bt111.2.1, bt111.2.2))) = some (r1, r2, r3, r4) := H
  have A10 := am_ A100
  clear A100
  replace H := Option.bind_eq_some_iff.mp H
  obtain ⟨⟨t111, t112, t113⟩, A110, H⟩ := H
  replace H : (some (t108, t111, t112, t113)) = some (r1, r2, r3, r4) := H
  have A11 := am_ A110
  clear A110
  simp only [Option.some.injEq, Prod.mk.injEq] at H
  obtain ⟨rfl, rfl, rfl, rfl⟩ := H
  go_enter Try.func83, Try.ntmps83
  go_wp2_with (first | ((with_reducible refine gate_dst (N := 2) rfl ?_); refine box_event ?hg (N := 2) ?hd (cs := #[.int .i64 0, .int .i64 0]) (t := 34) ?hr ?_; (case hd => rfl); (case hg => rfl); (case hr => first | (go_simp; done) | (go_simp; rfl)); intro gb101 hg w12 hbox hb; have n0_ := am_ (IsS116.below qz5_ hb); have n1_ := am_ (KeepBut.trans qz7_ (KeepBut.of_below hb g none) (.inl rfl)); have n2_ := am_ (below_step qz6_ hb); have n3_ := am_ (hbox); have n4_ := am_ ((by rw [hg]; exact (keep_size (w := w) (g := g) (row := none) qz7_) : w.heap.size ≤ gb101)); have n5_ := am_ ((Nat.le_trans HW0.out (by rw [hg]; exact (keep_size (w := w) (g := g) (row := none) qz7_) : w.heap.size ≤ gb101) : w0.heap.size ≤ gb101)); have n6_ := am_ ((by rw [hg]; exact Nat.ne_of_lt (IsS116.lt (show IsS116 w0 _ g s0_0 s0_1 s0_2 from by repeat (first | (with_reducible first | exact HI0.out | apply IsS116.alloc | apply IsS116.drewN | apply IsS116.drew | apply IsS116.set_1 | apply IsS116.set_2) | exact HI0.out))) : g ≠ gb101)); have n7_ := am_ ((by rw [hg]; exact Nat.ne_of_gt (IsS116.lt (show IsS116 w0 _ g s0_0 s0_1 s0_2 from by repeat (first | (with_reducible first | exact HI0.out | apply IsS116.alloc | apply IsS116.drewN | apply IsS116.drew | apply IsS116.set_1 | apply IsS116.set_2) | exact HI0.out))) : gb101 ≠ g)); clear HI0; clear HK; clear HB; have HI0 := n0_; have HK := n1_; have HB := n2_; have BK101 := n3_; have GW101 := n4_; have GE101 := n5_; have NB0_101 := n6_; have NB101_0 := n7_; clear n0_ n1_ n2_ n3_ n4_ n5_ n6_ n7_; clear hb hbox hg) | ((with_reducible refine gate_callee (f := 125) rfl ?_); refine goesL_ (some 4) rfl rfl Try.func125 (by kernel_rfl) rfl #[.pointer (some ⟨g, 0, none⟩), .int .i64 4] rfl qz8_ ?_; (with_reducible refine (spec_l00Src_chance.calls g s0_0 s0_1 s0_2 4 false t103 t104 w0 _ ?side1 ?side2 A2.out).mono ?_); (case side1 => repeat (first | (with_reducible first | exact HI0.out | apply IsS116.alloc | apply IsS116.drewN | apply IsS116.drew | apply IsS116.set_1 | apply IsS116.set_2 | refine IsS116.far ?_ NB0_101.out _) | exact HI0.out)); (case side2 => repeat (first | (with_reducible first | exact HB.out | apply below_alloc | apply pw_below_drewN | apply below_drew1 | refine below_set ?_ (IsS116.ge HI0.out) | refine below_set ?_ GE101.out) | exact HB.out)); rintro e w13 ⟨rfl, hi, hb, hk⟩; refine ⟨_, rfl, ?_⟩; have n0_ := am_ (KeepBut.blk hk (g' := gb101) (o := .cells #[.int .i64 0, .int .i64 0] 34 (0, 0)) qz3_ NB101_0.out (by simp)); have n1_ := am_ (KeepBut.trans qz9_ hk (.inl rfl)); have n2_ := am_ (hb); have n3_ := am_ (hi); clear BK101; clear HK; clear HB; clear HI0; have BK101 := n0_; have HK := n1_; have HB := n2_; have HI0 := n3_; clear n0_ n1_ n2_ n3_; (try clear hb); (try clear hb2); (try clear hk); (try clear hi)) | ((with_reducible refine gate_callee (f := 126) rfl ?_); refine goesL_ (some 9) rfl rfl Try.func126 (by kernel_rfl) rfl #[.pointer (some ⟨g, 0, none⟩)] rfl qz8_ ?_; (with_reducible refine (spec_l00Src_field.calls k g s0_0 t103 t104 t108 t109 t110 w0 _ ?side1 ?side2 A10.out).mono ?_); (case side1 => repeat (first | (with_reducible first | exact HI0.out | apply IsS116.alloc | apply IsS116.drewN | apply IsS116.drew | apply IsS116.set_1 | apply IsS116.set_2 | refine IsS116.far ?_ NB0_101.out _) | exact HI0.out)); (case side2 => repeat (first | (with_reducible first | exact HB.out | apply below_alloc | apply pw_below_drewN | apply below_drew1 | refine below_set ?_ (IsS116.ge HI0.out) | refine below_set ?_ GE101.out) | exact HB.out)); rintro e w14 ⟨rfl, hi, hb, hk⟩; refine ⟨_, rfl, ?_⟩; have n0_ := am_ (KeepBut.blk hk (g' := gb101) (o := .cells #[.int .i64 0, .int .i64 0] 34 (0, 0)) qz3_ NB101_0.out (by simp)); have n1_ := am_ (KeepBut.trans qz9_ hk (.inl rfl)); have n2_ := am_ (hb); have n3_ := am_ (hi); clear BK101; clear HK; clear HB; clear HI0; have BK101 := n0_; have HK := n1_; have HB := n2_; have HI0 := n3_; clear n0_ n1_ n2_ n3_; (try clear hb); (try clear hb2); (try clear hk); (try clear hi)) | ((with_reducible refine gate_callee (f := 126) rfl ?_); refine goesL_ (some 11) rfl rfl Try.func126 (by kernel_rfl) rfl #[.pointer (some ⟨g, 0, none⟩)] rfl qz8_ ?_; (with_reducible refine (spec_l00Src_field.calls k g s0_0 t109 t110 t111 t112 t113 w0 _ ?side1 ?side2 A11.out).mono ?_); (case side1 => repeat (first | (with_reducible first | exact HI0.out | apply IsS116.alloc | apply IsS116.drewN | apply IsS116.drew | apply IsS116.set_1 | apply IsS116.set_2 | refine IsS116.far ?_ NB0_101.out _) | exact HI0.out)); (case side2 => repeat (first | (with_reducible first | exact HB.out | apply below_alloc | apply pw_below_drewN | apply below_drew1 | refine below_set ?_ (IsS116.ge HI0.out) | refine below_set ?_ GE101.out) | exact HB.out)); rintro e w15 ⟨rfl, hi, hb, hk⟩; refine ⟨_, rfl, ?_⟩; have n0_ := am_ (KeepBut.blk hk (g' := gb101) (o := .cells #[.int .i64 0, .int .i64 0] 34 (0, 0)) qz3_ NB101_0.out (by simp)); have n1_ := am_ (KeepBut.trans qz9_ hk (.inl rfl)); have n2_ := am_ (hb); have n3_ := am_ (hi); clear BK101; clear HK; clear HB; clear HI0; have BK101 := n0_; have HK := n1_; have HB := n2_; have HI0 := n3_; clear n0_ n1_ n2_ n3_; (try clear hb); (try clear hb2); (try clear hk); (try clear hi); have hnb16 := NB101_0.out; have hnc16 := NB0_101.out; have hcz17_0 : w15.cell? ⟨gb101, 0, none⟩ = some (.int .i64 0) := (blk_cell BK101.out 0).trans rfl; have hcz17_1 : w15.cell? ⟨gb101, 1, none⟩ = some (.int .i64 0) := (blk_cell BK101.out 1).trans rfl; have hfz17_0 := blk_frozen BK101.out 0; have hfz17_1 := blk_frozen BK101.out 1))
  refine bodyPost_ret (results_cell_row rfl _ _ gb101 34 #[.int .i64 t108, .int .i64 t111] (0, 0) _ rfl (by (with_reducible repeat (first | refine blk_drewN ?_ _ | refine blk_drew ?_ | refine blk_alloc ?_ _)); refine blk_put (cs := #[.int .i64 t108, .int .i64 0]) ?_ 1 _ rfl; (with_reducible repeat (first | refine blk_drewN ?_ _ | refine blk_drew ?_ | refine blk_alloc ?_ _)); refine blk_put (cs := #[.int .i64 0, .int .i64 0]) ?_ 0 _ rfl; (with_reducible repeat (first | refine blk_drewN ?_ _ | refine blk_drew ?_ | refine blk_alloc ?_ _)); exact BK101.out) Try.underlying34 rfl (by kernel_rfl)) rfl ?_
  exact ⟨qz4_, (by repeat (first | (with_reducible first | exact HI0.out | apply IsS116.alloc | apply IsS116.drewN | apply IsS116.drew | apply IsS116.set_1 | apply IsS116.set_2 | refine IsS116.far ?_ NB0_101.out _) | exact HI0.out)), (by repeat (first | (with_reducible first | exact HB.out | apply below_alloc | apply pw_below_drewN | apply below_drew1 | refine below_set ?_ (IsS116.ge HI0.out) | refine below_set ?_ GE101.out) | exact HB.out)), qz9_⟩

def spec_l00Src_exts.l0 : Nat → Int → List (S34) → Int → List Int → Int → Int → Option ((List (S34)) × Int × Int)
 | 0, _, _, _, _, _, _ => none
 | k + 1, x1, x5, x6, x1000, x1001, x1002 => if x6 < x1 then ((spec_l00Src_ext.f k x1000 x1001 x1002).bind fun bt104 => (if x5.length < 8796093022208 then (spec_l00Src_exts.l0 k x1 (x5 ++ [(⟨bt104.1, bt104.2.1⟩ : S34)]) (wrap64 (x6 + 1)) x1000 bt104.2.2.1 bt104.2.2.2) else (none))) else (some (x5, x1001, x1002))
def spec_l00Src_exts.f (k : Nat) (s0_0 : List Int) (s0_1 : Int) (s0_2 : Int) (a1 : Int) : Option ((List (S34)) × Int × Int) := spec_l00Src_exts.l0 k a1 (([] : List (S34))) 0 s0_0 s0_1 s0_2
theorem spec_l00Src_exts.mono_l : ∀ k, (∀ y0 y1 y2 y3 y4 y5, LeO (spec_l00Src_exts.l0 k y0 y1 y2 y3 y4 y5) (spec_l00Src_exts.l0 (k + 1) y0 y1 y2 y3 y4 y5))
 | 0 => fun _ _ _ _ _ _ r h => by simp [spec_l00Src_exts.l0] at h
 | k + 1 => by
  have ih0 := spec_l00Src_exts.mono_l k
  ·
   intro y0 y1 y2 y3 y4 y5
   unfold spec_l00Src_exts.l0
   repeat' first
   | (with_reducible exact ih0 _ _ _ _ _ _)
   | (with_reducible exact spec_l00Src_ext.mono _ _ _ _)
   | (with_reducible exact LeO.refl _)
   | (with_reducible exact LeO.none _)
   | (with_reducible refine LeO.ite ?_ ?_)
   | (with_reducible refine LeO.bind ?_ (fun _ => ?_))
   | exact ih0 _ _ _ _ _ _
   | exact spec_l00Src_ext.mono _ _ _ _
   | exact LeO.none _
   | refine LeO.ite ?_ ?_
   | refine LeO.bind ?_ (fun _ => ?_)
theorem spec_l00Src_exts.mono : ∀ a0 a1 a2 a3 k, LeO (spec_l00Src_exts.f k a0 a1 a2 a3) (spec_l00Src_exts.f (k + 1) a0 a1 a2 a3) := by
 intro a0 a1 a2 a3 k
 have ih0 := spec_l00Src_exts.mono_l k
 unfold spec_l00Src_exts.f
 repeat' first
   | (with_reducible exact ih0 _ _ _ _ _ _)
   | (with_reducible exact spec_l00Src_ext.mono _ _ _ _)
   | (with_reducible exact LeO.refl _)
   | (with_reducible exact LeO.none _)
   | (with_reducible refine LeO.ite ?_ ?_)
   | (with_reducible refine LeO.bind ?_ (fun _ => ?_))
   | exact ih0 _ _ _ _ _ _
   | exact spec_l00Src_ext.mono _ _ _ _
   | exact LeO.none _
   | refine LeO.ite ?_ ?_
   | refine LeO.bind ?_ (fun _ => ?_)
set_option maxHeartbeats 8000000 in
set_option maxRecDepth 100000 in
theorem spec_l00Src_exts.calls (k : Nat) (g : Nat) (s0_0 : List Int) (s0_1 : Int) (s0_2 : Int) (a1 : Int) (r1 : List (S34)) (r2 : Int) (r3 : Int) (w0 w : World) (hI : IsS116 w0 w g s0_0 s0_1 s0_2) (hB : Below w0.heap.size w0 w) (h : spec_l00Src_exts.f k s0_0 s0_1 s0_2 a1 = some (r1, r2, r3)) :
  Calls Try.prog 40 #[.pointer (some ⟨g, 0, none⟩), .int .i64 a1] w fun e w' => ∃ v0_ : Value, e = .returned (v0_) ∧ Kd.R k34 34 w' w.heap.size (fun _ => True) v0_ r1 ∧ IsS116 w0 w' g s0_0 r2 r3 ∧ Below w0.heap.size w0 w' ∧ KeepBut w w' g none := by
 have HI0 := am_ hI
 have HK := am_ (KeepBut.refl w g none)
 have HL := am_ hB.size
 clear hI
 have HW0 := am_ hB.size
 have HB := am_ hB
 clear hB
 have H : (spec_l00Src_exts.l0 k a1 (([] : List (S34))) 0 s0_0 s0_1 s0_2) = some (r1, r2, r3) := h
 clear h
 obtain ⟨y101, hy101⟩ : ∃ y_ : List (S34), y_ = (([] : List (S34))) := ⟨_, rfl⟩
 replace H : (spec_l00Src_exts.l0 k a1 y101 0 s0_0 s0_1 s0_2) = some (r1, r2, r3) := by first | (rw [hy101]; with_reducible exact H) | (have H2_ := (Option.bind_some _ _).symm.trans H; rw [hy101]; with_reducible exact H2_) | (have H2_ := (Option.bind_some _ _).symm.trans H; with_reducible exact H2_) | with_reducible exact H | (rw [hy101]; exact H) | exact H
 have Ny101 := am_ hy101
 clear hy101
 have H' := am_ H
 clear H
 go_enter Try.func40, Try.ntmps40
 go_wp2_with (first | ((with_reducible refine gate_dst (N := 7) rfl ?_); refine Kd.R_lit k34 _ 34 ?hg (N := 7) ?hd (xs := ([] : List (S34))) (inner := []) (ok := fun _ => True) (okp := fun _ => True) ?hr ?hp (fun _ hk => hk) trivial (Below.refl _ _) (Nat.le_refl _) (by simp) ?_; (case hd => rfl); (case hg => rfl); (case hr => first | (go_simp; done) | (go_simp; rfl)); (case hp => exact (Reps.none _ _)); intro v102 w3 ho4 hb hg_ hnew_; clear hg_ hnew_; (first | rw [← Ny101.out] at ho4 | (simp only [Int.reduceToNat] at ho4; rw [← Ny101.out] at ho4)); have n0_ := am_ (Kd.R_lower ho4 (keep_size (w := w) (g := g) (row := none) qz7_)); have n1_ := am_ (IsS116.below qz5_ hb); have n2_ := am_ (KeepBut.trans qz7_ (KeepBut.of_below hb g none) (.inl rfl)); have n3_ := am_ (below_step qz6_ hb); clear HI0; clear HK; clear HB; have HO103 := n0_; have HI0 := n1_; have HK := n2_; have HB := n3_; clear n0_ n1_ n2_ n3_; clear hb ho4))
 go_loopg [5, 6] k (fun kq v5 v6 w' => ∃ (x5_1 : List (S34)) (x6_1 : Int) (x1001_1 : Int) (x1002_1 : Int), v6 = .int .i64 x6_1 ∧ Aside0 (spec_l00Src_exts.l0 kq a1 x5_1 x6_1 s0_0 x1001_1 x1002_1 = some (r1, r2, r3)) ∧ Aside0 (kq ≤ k) ∧ Aside0 (Kd.R k34 34 w' w.heap.size (fun _ => True) v5 x5_1) ∧ Aside0 (IsS116 w0 w' g s0_0 x1001_1 x1002_1) ∧ Aside0 (KeepBut w w' g none) ∧ Aside0 (Below w0.heap.size w0 w'))
 case atStart => exact ⟨(y101), (0), (s0_1), (s0_2), qz0_, H', ⟨Nat.le_refl _⟩, ⟨(by (with_reducible repeat (first | apply Kd.R_alloc | apply Kd.R_drewN | apply Kd.R_drew)); exact HO103.out)⟩, ⟨qz5_⟩, ⟨qz7_⟩, ⟨qz6_⟩⟩
 case round =>
  clear H'
  try clear p2
  try clear c4
  obtain ⟨x5_1, x6_1, x1001_1, x1002_1, rfl, HA, HK1, HO_5, HI0, HK, HB⟩ := hrel
  cases gk with
  | zero => exact absurd HA.out (by simp [spec_l00Src_exts.l0])
  | succ k1 =>
   have H := HA.out
   clear HA
   simp only [spec_l00Src_exts.l0] at H
   by_cases c5 : x6_1 < a1
   ·
    rw [if_pos c5] at H
    have c5b0 : decide (x6_1 < a1) = true := decide_eq_true c5
    clear c5
    replace H := Option.bind_eq_some_iff.mp H
    obtain ⟨⟨t104, t105, t106, t107⟩, A60, H⟩ := H
    replace H : (if x5_1.length < 8796093022208 then (spec_l00Src_exts.l0 k1 a1 (x5_1 ++ [(⟨t104, t105⟩ : S34)]) (wrap64 (x6_1 + 1)) s0_0 t106 t107) else (none)) = some (r1, r2, r3) := H
    have A6 := am_ A60
    clear A60
    by_cases c7 : x5_1.length < 8796093022208
    ·
     rw [if_pos c7] at H
     have LMc7 := am_ c7
     clear c7
     obtain ⟨y108, hy108⟩ : ∃ y_ : List (S34), y_ = (x5_1 ++ [(⟨t104, t105⟩ : S34)]) := ⟨_, rfl⟩
     replace H : (spec_l00Src_exts.l0 k1 a1 y108 (wrap64 (x6_1 + 1)) s0_0 t106 t107) = some (r1, r2, r3) := by first | (rw [hy108]; with_reducible exact H) | (have H2_ := (Option.bind_some _ _).symm.trans H; rw [hy108]; with_reducible exact H2_) | (have H2_ := (Option.bind_some _ _).symm.trans H; with_reducible exact H2_) | with_reducible exact H | (rw [hy108]; exact H) | exact H
     have Ny108 := am_ hy108
     clear hy108
     have H' := am_ H
     clear H
     go_wp2_with (first | ((with_reducible refine gate_callee (f := 83) rfl ?_); refine goesL_ (some 15) rfl rfl Try.func83 (by kernel_rfl) rfl #[.pointer (some ⟨g, 0, none⟩)] rfl qz8_ ?_; (with_reducible refine (spec_l00Src_ext.calls k1 g s0_0 x1001_1 x1002_1 t104 t105 t106 t107 w0 _ ?side1 ?side2 A6.out).mono ?_); (case side1 => repeat (first | (with_reducible first | exact HI0.out | apply IsS116.alloc | apply IsS116.drewN | apply IsS116.drew | apply IsS116.set_1 | apply IsS116.set_2) | exact HI0.out)); (case side2 => repeat (first | (with_reducible first | exact HB.out | apply below_alloc | apply pw_below_drewN | apply below_drew1 | refine below_set ?_ (IsS116.ge HI0.out)) | exact HB.out)); rintro e w8 ⟨rfl, hi, hb, hk⟩; refine ⟨_, rfl, ?_⟩; have n0_ := am_ (Kd.R_mono (Kd.R_keep (IsS116.apart (show IsS116 w0 _ g s0_0 x1001_1 x1002_1 from by repeat (first | (with_reducible first | exact HI0.out | apply IsS116.alloc | apply IsS116.drewN | apply IsS116.drew | apply IsS116.set_1 | apply IsS116.set_2) | exact HI0.out)) qz10_ (by decide)) hk (fun _ h => h.2)) (fun _ h => h.1)); have n1_ := am_ (KeepBut.trans qz7_ hk (.inl rfl)); have n2_ := am_ (hb); have n3_ := am_ (hi); clear HO_5; clear HK; clear HB; clear HI0; have HO_5 := n0_; have HK := n1_; have HB := n2_; have HI0 := n3_; clear n0_ n1_ n2_ n3_; (try clear hb); (try clear hb2); (try clear hk); (try clear hi)) | ((with_reducible refine gate_builtin (b := .append) (xs := #[.tmp 13, .tmp 16]) rfl ?_); at_builtin; refine Kd.R_append k34 w.heap.size rfl (.tmp 13) (.tmp 16) 24 34 (.agg #[(.int .i64 0), (.int .i64 0)]) 16 rfl Try.underlying24 info34 rfl (by decide) (by omega) u5 x5_1 (⟨t104, t105⟩ : S34) [.int .i64 t104, .int .i64 t105] (fun _ => True) (fun _ => False) rfl rfl ?aP (fun _ hk => hk.elim) ?aF ?aO (Below.refl _ _) ?aS ?aL ?_; (case aP => exact k34_mkM _ _ _ (⟨t104, t105⟩ : S34)); (case aF => exact (fun _ _ => trivial)); (case aO => exact qz10_); (case aS => exact (keep_size (w := w) (g := g) (row := none) qz7_)); (case aL => have := LMc7.out; omega); intro v109 w9 ho hb hg hat; rw [← Ny108.out] at ho; have n0_ := am_ (IsS116.grown qz5_ hg (IsS116.own_ne HI0.out HO_5.out (by decide))); have n1_ := am_ (below_weaken qz6_ HL.out hb); have n2_ := am_ (KeepBut.trans qz7_ (KeepBut.of_grown hg g) (Kd.R_base2 HO_5.out)); have n3_ := am_ (ho); clear HI0; clear HB; clear HK; clear HO_5; have HI0 := n0_; have HB := n1_; have HK := n2_; have HO110 := n3_; clear n0_ n1_ n2_ n3_; clear ho hb hg hat))
     go_roundg k1
     case measure => have := HK1.out; omega
     case rel => exact ⟨(y108), (wrap64 (x6_1 + 1)), (t106), (t107), qz0_, H', ⟨(by have := HK1.out; omega)⟩, ⟨(by (with_reducible repeat (first | apply Kd.R_alloc | apply Kd.R_drewN | apply Kd.R_drew)); exact HO110.out)⟩, ⟨qz5_⟩, ⟨qz7_⟩, ⟨qz6_⟩⟩
    ·
     rw [if_neg c7] at H
     exact absurd H (by simp)
   ·
    rw [if_neg c5] at H
    have c5b0 : decide (x6_1 < a1) = false := decide_eq_false c5
    clear c5
    simp only [Option.some.injEq, Prod.mk.injEq] at H
    obtain ⟨rfl, rfl, rfl⟩ := H
    go_wp2
    go_ret
    exact ⟨_, qz4_, qz10_, qz5_, qz6_, qz7_⟩

def spec_ExtsOf.f (k : Nat) (l0 : List Int) (a1 : Int) : Option ((List (S34))) := (spec_l00Source.f l0).bind fun bt101 => ((spec_l00Src_exts.f k bt101.1 bt101.2.1 bt101.2.2 a1).bind fun bt105 => (some bt105.1))
theorem spec_ExtsOf.mono : ∀ a0 a1 k, LeO (spec_ExtsOf.f k a0 a1) (spec_ExtsOf.f (k + 1) a0 a1) := by
 intro a0 a1 k
 unfold spec_ExtsOf.f
 repeat' first
   | (with_reducible exact spec_l00Src_exts.mono _ _ _ _ _)
   | (with_reducible exact LeO.refl _)
   | (with_reducible exact LeO.none _)
   | (with_reducible refine LeO.ite ?_ ?_)
   | (with_reducible refine LeO.bind ?_ (fun _ => ?_))
   | exact spec_l00Src_exts.mono _ _ _ _ _
   | exact LeO.none _
   | refine LeO.ite ?_ ?_
   | refine LeO.bind ?_ (fun _ => ?_)
set_option maxHeartbeats 8000000 in
set_option maxRecDepth 100000 in
theorem spec_ExtsOf.calls (k : Nat) (A0 : Option Addr) (c0 : Nat) (l0 : List Int) (a1 : Int) (r : List (S34)) (w : World) (hr0 : Kd.C (Kd.int .u8) w A0 l0.length l0) (hc0 : l0.length ≤ c0) (h : spec_ExtsOf.f k l0 a1 = some r) :
  Calls Try.prog 8 #[.slice A0 l0.length c0, .int .i64 a1] w fun e w' => ∃ v0_ : Value, e = .returned (v0_) ∧ Kd.R k34 34 w' w.heap.size (fun _ => True) v0_ r ∧ Below w.heap.size w w' := by
 have HR0 := am_ hr0
 have HC0 := am_ hc0
 clear hr0 hc0
 have HB := am_ (Below.refl w.heap.size w)
 have H : ((spec_l00Source.f l0).bind fun bt101 => ((spec_l00Src_exts.f k bt101.1 bt101.2.1 bt101.2.2 a1).bind fun bt105 => (some bt105.1))) = some r := h
 clear h
 replace H := Option.bind_eq_some_iff.mp H
 obtain ⟨⟨t101, t102, t103⟩, A30, H⟩ := H
 replace H : ((spec_l00Src_exts.f k t101 t102 t103 a1).bind fun bt105 => (some bt105.1)) = some r := H
 have A3 := am_ A30
 clear A30
 replace H := Option.bind_eq_some_iff.mp H
 obtain ⟨⟨t105, t108, t109⟩, A40, H⟩ := H
 replace H : (some t105) = some r := H
 have A4 := am_ A40
 clear A40
 obtain rfl := Option.some.inj H
 go_enter Try.func8, Try.ntmps8
 go_wp2_with (first | ((with_reducible refine gate_callee (f := 39) rfl ?_); refine goesL_ (some 6) rfl rfl Try.func39 (by kernel_rfl) rfl #[.slice A0 l0.length c0] rfl qz8_ ?_; (with_reducible refine (spec_l00Source.calls _ _ l0 t101 t102 t103 w _ ?side1 ?side2 ?side3 A3.out).mono ?_); (case side1 => repeat (first | (with_reducible first | exact HB.out | apply below_alloc | apply pw_below_drewN | apply below_drew1) | exact HB.out)); (case side2 => exact HR0.out); (case side3 => exact HC0.out); rintro e w5 ⟨g104, rfl, hi, hb, hb2⟩; refine ⟨_, rfl, ?_⟩; have n0_ := am_ (hb); have n1_ := am_ (hi); clear HB; have HB := n0_; have HI104 := n1_; clear n0_ n1_; (try clear hb); (try clear hb2); (try clear hk); (try clear hi)) | ((with_reducible refine gate_callee (f := 40) rfl ?_); refine goesL_ (some 8) rfl rfl Try.func40 (by kernel_rfl) rfl #[.pointer (some ⟨g104, 0, none⟩), .int .i64 a1] rfl qz8_ ?_; (with_reducible refine (spec_l00Src_exts.calls k g104 t101 t102 t103 a1 t105 t108 t109 w _ ?side1 ?side2 A4.out).mono ?_); (case side1 => repeat (first | (with_reducible first | exact HI104.out | apply IsS116.alloc | apply IsS116.drewN | apply IsS116.drew | apply IsS116.set_1 | apply IsS116.set_2) | exact HI104.out)); (case side2 => repeat (first | (with_reducible first | exact HB.out | apply below_alloc | apply pw_below_drewN | apply below_drew1 | refine below_set ?_ (IsS116.ge HI104.out)) | exact HB.out)); rintro e w6 ⟨v106, rfl, ho0, hi, hb, hk⟩; refine ⟨_, rfl, ?_⟩; have n0_ := am_ (Kd.R_lower ho0 (below_size (by repeat (first | (with_reducible first | exact HB.out | apply below_alloc | apply pw_below_drewN | apply below_drew1 | refine below_set ?_ (IsS116.ge HI104.out)) | exact HB.out)))); have n1_ := am_ (hb); have n2_ := am_ (hi); clear HB; clear HI104; have HO107 := n0_; have HB := n1_; have HI104 := n2_; clear n0_ n1_ n2_; (try clear hb); (try clear hb2); (try clear hk); (try clear hi); (try clear ho0)))
 go_ret
 exact ⟨_, qz4_, (by (with_reducible repeat (first | apply Kd.R_alloc | apply Kd.R_drewN | apply Kd.R_drew)); exact HO107.out), (by repeat (first | (with_reducible first | exact HB.out | apply below_alloc | apply pw_below_drewN | apply below_drew1 | refine below_set ?_ (IsS116.ge HI104.out)) | exact HB.out))⟩

def impl_isLong.f (a0 : ByteArray) : Option (Bool) := some (decide ((a0.size : Int) > 65536))
set_option maxHeartbeats 8000000 in
set_option maxRecDepth 100000 in
theorem impl_isLong.calls (a0 : ByteArray) (r : Bool) (w : World) (h : impl_isLong.f a0 = some r) :
  Calls Try.prog 41 #[.string a0] w fun e w' => e = .returned (.bool r) ∧ Drawn0 w w' := by
 have H : (some (decide ((a0.size : Int) > 65536))) = some r := h
 clear h
 obtain rfl := Option.some.inj H
 go_enter Try.func41, Try.ntmps41
 go_wp2
 go_ret
 exact ⟨qz0_, qz1_⟩

def impl_in.f (a0 : Int) (a1 : Int) (a2 : Int) : Option (Bool) := if a1 ≤ a0 then (some (decide (a0 ≤ a2))) else (some false)
set_option maxHeartbeats 8000000 in
set_option maxRecDepth 100000 in
theorem impl_in.calls (a0 : Int) (a1 : Int) (a2 : Int) (r : Bool) (w : World) (h : impl_in.f a0 a1 a2 = some r) :
  Calls Try.prog 44 #[.int .i64 a0, .int .i64 a1, .int .i64 a2] w fun e w' => e = .returned (.bool r) ∧ Drawn0 w w' := by
 have H : (if a1 ≤ a0 then (some (decide (a0 ≤ a2))) else (some false)) = some r := h
 clear h
 by_cases c4 : a1 ≤ a0
 ·
  rw [if_pos c4] at H
  have c4b0 : decide (a1 ≤ a0) = true := decide_eq_true c4
  clear c4
  obtain rfl := Option.some.inj H
  go_enter Try.func44, Try.ntmps44
  go_wp2
  go_ret
  exact ⟨qz0_, qz1_⟩
 ·
  rw [if_neg c4] at H
  have c4b0 : decide (a1 ≤ a0) = false := decide_eq_false c4
  clear c4
  obtain rfl := Option.some.inj H
  go_enter Try.func44, Try.ntmps44
  go_wp2
  go_ret
  exact ⟨qz0_, qz1_⟩

def impl_Ext_45.f (l0 : List (S34)) : Option (List (S34)) := if l0.length < 8796093022208 then some l0 else none
set_option maxHeartbeats 8000000 in
set_option maxRecDepth 100000 in
theorem impl_Ext_45.calls (A0 : Option Addr) (c0 : Nat) (l0 : List (S34)) (r : List (S34)) (w : World) (hr0 : Kd.C k34 w A0 l0.length l0) (hc0 : l0.length ≤ c0) (h : impl_Ext_45.f l0 = some r) :
  Calls Try.prog 45 #[.slice A0 l0.length c0] w fun e w' => ∃ v0_ : Value, e = .returned (v0_) ∧ Kd.R k34 34 w' w.heap.size (fun _ => True) v0_ r ∧ Below w.heap.size w w' := by
 unfold impl_Ext_45.f at h
 by_cases c4 : l0.length < 8796093022208
 ·
  rw [if_pos c4] at h
  obtain rfl := Option.some.inj h
  clear h
  have LMc4 := am_ c4
  clear c4
  cases A0 with
  | none =>
   have hl : l0 = [] := by
    cases l0 with
    | nil => rfl
    | cons x t => obtain ⟨ad, h1, _⟩ := hr0.2.2 (by simp); cases h1
   subst hl
   have HB := am_ (Below.refl w.heap.size w)
   have hq : ∀ W : World, (binOp .eql 24 (.slice none 0 c0) (.slice none 0 0)).run Try.prog W = .ok (.bool true) W := fun W => Lib.run_eql_slice_nil_nil W 0 c0 Try.underlying24
   go_enter Try.func45, Try.ntmps45
   go_wp2
   go_ret
   exact ⟨_, (by first | rfl | (simp; done)), Kd.R_nil _ _ _ _ _, qz2_⟩
  | some ad0 =>
   have HR0 := am_ hr0
   have HC0 := am_ hc0
   clear hr0 hc0
   have hq : ∀ W : World, (binOp .eql 24 (.slice (some ad0) l0.length c0) (.slice none 0 0)).run Try.prog W = .ok (.bool false) W := fun W => Lib.run_eql_slice_nil W 24 34 (some ad0) l0.length c0 0 0 Try.underlying24
   have HB := am_ (Below.refl w.heap.size w)
   obtain ⟨y101, hy101⟩ : ∃ y_ : List (S34), y_ = ([] : List (S34)) := ⟨_, rfl⟩
   have Ny101 := am_ hy101
   obtain ⟨y104, hy104⟩ : ∃ y_ : List (S34), y_ = y101 ++ l0 := ⟨_, rfl⟩
   have Ny104 := am_ hy104
   have Nend := am_ (show y104 = l0 by rw [hy104, hy101]; rfl)
   have Nlim := am_ (show y101.length + l0.length < 8796093022208 by rw [hy101]; simpa using LMc4.out)
   clear hy101 hy104
   go_enter Try.func45, Try.ntmps45
   go_wp2_with (first | ((with_reducible refine gate_dst (N := 5) rfl ?_); refine Kd.R_lit k34 _ 34 ?hg (N := 5) ?hd (xs := ([] : List (S34))) (inner := []) (ok := fun _ => True) (okp := fun _ => True) ?hr ?hp (fun _ hk => hk) trivial (Below.refl _ _) (Nat.le_refl _) (by simp) ?_; (case hd => rfl); (case hg => rfl); (case hr => first | (go_simp; done) | (go_simp; rfl)); (case hp => exact (Reps.none _ _)); intro v102 w5 ho6 hb hg_ hnew_; clear hg_ hnew_; (first | rw [← Ny101.out] at ho6 | (simp only [Int.reduceToNat] at ho6; rw [← Ny101.out] at ho6)); have n0_ := am_ (Kd.R_lower ho6 (below_size qz2_)); have n1_ := am_ (below_step qz2_ hb); clear HB; have HO103 := n0_; have HB := n1_; clear n0_ n1_; clear hb ho6) | ((with_reducible refine gate_builtin (b := .append) (xs := #[.tmp 5, .tmp 6]) rfl ?_); at_builtin; refine Kd.R_append_rows k34 (w0 := w) w.heap.size rfl (.tmp 5) (.tmp 6) 24 34 (.agg #[(.int .i64 0), (.int .i64 0)]) 16 rfl Try.underlying24 info34 rfl (by decide) (by omega) v102 y101 l0 _ _ _ (fun _ => True) (fun _ => False) rfl rfl ?aO ?aR (fun _ _ h => h) (fun _ h => h.elim) ?aF ?aB ?aS ?aL ?_; (case aR => exact qc_ (Kd.C_below HR0.out HB.out)); (case aB => exact qz2_); (case aF => exact (fun _ _ => trivial)); (case aO => exact (by (with_reducible repeat (first | apply Kd.R_alloc | apply Kd.R_drewN | apply Kd.R_drew)); exact HO103.out)); (case aS => exact (below_size qz2_)); (case aL => have := Nlim.out; omega); intro v105 w7 ho hb hg hat; rw [← Ny104.out] at ho; have n0_ := am_ (hb); have n1_ := am_ (ho); clear HB; clear HO103; have HB := n0_; have HO106 := n1_; clear n0_ n1_; clear ho hb hg hat))
   go_ret
   exact ⟨_, (by first | rfl | (simp; done)), (by rw [← Nend.out]; (with_reducible repeat (first | apply Kd.R_alloc | apply Kd.R_drewN | apply Kd.R_drew)); exact HO106.out), qz2_⟩
 ·
  rw [if_neg c4] at h; exact absurd h (by simp)

end Go.Proofs.Ytgookagndlfehaa.PT
end
section
/- Rows of 64-bit words, as a block of memory holds them. -/
namespace Go.Proofs.Ytgookagndlfehaa.PT
open Go.RowKit Go.Proofs.YtgookagndlfehaaW.PrintWords Go.Proofs.YtgookagndlfehaaW.PrintLast Go.Proofs.YtgookagndlfehaaW.PrintMore
set_option linter.unusedVariables false
set_option linter.unusedSimpArgs false
def uarr (k : IntKind) (xs : List Int) : Array Value := (xs.map fun x => Value.int k x).toArray
theorem uarr_size (k : IntKind) (xs : List Int) : (uarr k xs).size = xs.length := by simp [uarr]
theorem uarr_get {k : IntKind} {xs : List Int} {i : Nat} (h : i < xs.length) : (uarr k xs)[i]? = some (.int k (xs.getD i 0)) := by
 simp [uarr, List.getD, h]
theorem uarr_put (k : IntKind) (xs : List Int) (i : Nat) (v : Int) : (uarr k xs).setIfInBounds i (.int k v) = uarr k (xs.set i v) := by
 simp [uarr, List.map_set]
theorem uarr_one (k : IntKind) (xs : List Int) : (uarr k xs).all (·.oneCell') = true := by
 rw [Array.all_eq_true_iff_forall_mem]
 intro v hv
 simp only [uarr, List.mem_toArray, List.mem_map] at hv
 obtain ⟨x, _, rfl⟩ := hv
 rfl
theorem row_cell {w : World} {g : Nat} {t : TypeId} {k : IntKind} {xs : List Int} (h : w.heap[g]? = some (.cells (uarr k xs) t (0, 0))) {i : Nat} (hi : i < xs.length) : w.cell? ⟨g, i, none⟩ = some (.int k (xs.getD i 0)) := (blk_cell h i).trans (uarr_get hi)
theorem row_put {w : World} {g : Nat} {t : TypeId} {k : IntKind} {xs : List Int} (h : w.heap[g]? = some (.cells (uarr k xs) t (0, 0))) (i : Nat) (v : Int) : (w.setCell ⟨g, i, none⟩ (.int k v)).heap[g]? = some (.cells (uarr k (xs.set i v)) t (0, 0)) := blk_put h i _ (uarr_put k xs i v)
def iter {α : Type} (f : Nat → α → α) : Nat → Nat → α → α
 | 0, _, x => x
 | k + 1, j, x => iter f k (j + 1) (f j x)
end Go.Proofs.Ytgookagndlfehaa.PT
end
section
/- lanesOf: bytes as words. -/
namespace Go.Proofs.Ytgookagndlfehaa.PT
open Go.RowKit Go.Proofs.YtgookagndlfehaaW.PrintWords Go.Proofs.YtgookagndlfehaaW.PrintLast Go.Proofs.YtgookagndlfehaaW.PrintMore
set_option linter.unusedVariables false
set_option linter.unusedSimpArgs false
def z25 : List Int := [0, 0, 0, 0, 0, 0, 0, 0, 0, 0, 0, 0, 0, 0, 0, 0, 0, 0, 0, 0, 0, 0, 0, 0, 0]
def laneStep (xs : List Int) (j : Nat) (out : List Int) : List Int := out.set (j / 8) (Go.bits .or .u64 (out.getD (j / 8) 0) (IntKind.u64.wrap (IntKind.u64.wrap (rd xs j) * 2 ^ min (8 * (j % 8)) 64)))
theorem laneStep_length (xs : List Int) (j : Nat) (out : List Int) : (laneStep xs j out).length = out.length := by simp [laneStep]
theorem w64_ {n : Int} (h0 : -9223372036854775808 ≤ n) (h1 : n ≤ 9223372036854775807) : wrap64 n = n := by unfold wrap64; omega
theorem iter_length {f : Nat → List Int → List Int} (h : ∀ j x, (f j x).length = x.length) : ∀ k j x, (iter f k j x).length = x.length
 | 0, _, _ => rfl
 | k + 1, j, x => (iter_length h k (j + 1) (f j x)).trans (h j x)
def lanes_ (xs : List Int) : List Int := iter (laneStep xs) xs.length 0 z25
theorem lanes_length (xs : List Int) : (lanes_ xs).length = 25 := iter_length (laneStep_length xs) _ _ _
set_option maxHeartbeats 8000000 in
set_option maxRecDepth 100000 in
theorem impl_lanesOf.calls (A0 : Option Addr) (c0 : Nat) (xs : List Int) (w : World) (hr0 : Kd.C (Kd.int .u8) w A0 xs.length xs) (hc0 : xs.length ≤ c0) (hlen : xs.length ≤ 200) :
  Calls Try.prog 97 #[.slice A0 xs.length c0] w fun e w' => e = .returned (.agg (uarr .u64 (lanes_ xs))) ∧ Below w.heap.size w w' := by
 have HR0 := am_ hr0
 have HLEN := am_ hlen
 have HB := am_ (Below.refl w.heap.size w)
 have hu91 := Try.underlying134
 clear hr0 hc0 hlen
 go_enter Try.func97, Try.ntmps97
 go_wp2_with (first | ((with_reducible refine gate_dst (N := 2) rfl ?_); refine box_event ?hg (N := 2) ?hd (cs := uarr .u64 z25) (t := 134) ?hr ?_; (case hd => rfl); (case hg => rfl); (case hr => first | (go_simp; done) | (go_simp; rfl)); intro g2 hg w2 hbox hb; have n0_ := am_ (below_step HB.out hb); have n1_ := am_ (hbox); have n2_ := am_ ((by rw [hg]; exact (below_size HB.out)) : w.heap.size ≤ g2); clear HB; have HB := n0_; have BK2 := n1_; have GE2 := n2_; clear n0_ n1_ n2_; clear hb hbox hg) | ((with_reducible refine gate_dst (N := 3) rfl ?_); refine box_event ?hg (N := 3) ?hd (cs := uarr .u64 z25) (t := 134) ?hr ?_; (case hd => rfl); (case hg => rfl); (case hr => first | (go_simp; done) | (go_simp; rfl)); intro g3 hg w3 hbox hb; have n0_ := am_ (below_step HB.out hb); have n1_ := am_ (hbox); have n2_ := am_ ((by rw [hg]; exact (below_size HB.out)) : w.heap.size ≤ g3); have n3_ := am_ (show g3 ≠ g2 by have := blk_lt BK2.out; omega); have n4_ := am_ (blk_below BK2.out hb); clear HB BK2; have HB := n0_; have BK3 := n1_; have GE3 := n2_; have NE := n3_; have BK2 := n4_; clear n0_ n1_ n2_ n3_ n4_; clear hb hbox hg) | ((with_reducible refine gate_store (p := 3) (v := .tmp 6) (t := 134) rfl ?_); go_must (refine wpList_store_row rfl 134 _ _ rfl g3 (uarr .u64 z25) rfl qz11_ 134 (uarr .u64 z25) BK3.out (by first | (rw [uarr_size, lanes_length]; kernel_rfl) | kernel_rfl) qz12_ (uarr_one _ _) ?_; generalize hw4 : World.setRow w3 g3 (uarr .u64 z25) = w4; have n0_ := am_ (show w4.heap[g3]? = some (.cells (uarr .u64 z25) 134 (0, 0)) by rw [← hw4]; exact setRow_heap _ _ _ _ _ _ BK3.out); have n1_ := am_ (show w4.heap[g2]? = some (.cells (uarr .u64 z25) 134 (0, 0)) by rw [← hw4]; exact (setRow_other _ _ _ _ (Ne.symm NE.out)).trans BK2.out); have n2_ := am_ (show Below w.heap.size w w4 by rw [← hw4]; exact below_setRow HB.out GE3.out _); clear hw4 BK3 BK2 HB; have BK3 := n0_; have BK2 := n1_; have HB := n2_; clear n0_ n1_ n2_)))
 go_loopg [9] xs.length (fun kq v9 w' => ∃ (j : Nat) (out : List Int), v9 = .int .i64 j ∧ Aside0 (j + kq = xs.length) ∧ Aside0 (iter (laneStep xs) kq j out = lanes_ xs) ∧ Aside0 (out.length = 25) ∧ Aside0 (w'.heap[g3]? = some (.cells (uarr .u64 out) 134 (0, 0))) ∧ Aside0 (w'.heap[g2]? = some (.cells (uarr .u64 z25) 134 (0, 0))) ∧ Aside0 (Below w.heap.size w w'))
 case atStart => exact ⟨0, z25, rfl, ⟨(by omega)⟩, ⟨rfl⟩, ⟨rfl⟩, BK3, BK2, HB⟩
 case round =>
  clear BK3 BK2 HB
  obtain ⟨j, out, rfl, HJ, HI, HO, BK3, BK2, HB⟩ := hrel
  cases gk with
  | zero =>
   have hj := HJ.out
   have c1 : decide ((j : Int) < (xs.length : Int)) = false := decide_eq_false (by omega)
   have c2 : decide (j < xs.length) = false := decide_eq_false (by omega)
   have hi : out = lanes_ xs := HI.out
   subst hi
   clear HI hj
   go_wp2_with (first | ((with_reducible refine gate_dst (N := 27) rfl ?_); go_must (refine wpList_load_row rfl 134 _ rfl g3 rfl 134 _ (0, 0) _ BK3.out hu91 rfl (by rw [uarr_size, lanes_length]; kernel_rfl) ?_)) | ((with_reducible refine gate_store (p := 2) (v := .tmp 27) (t := 134) rfl ?_); go_must (refine wpList_store_row rfl 134 _ _ rfl g2 (uarr .u64 (lanes_ xs)) rfl qz11_ 134 (uarr .u64 z25) BK2.out (by first | (rw [uarr_size, lanes_length]; kernel_rfl) | kernel_rfl) qz12_ (uarr_one _ _) ?_; generalize hw4 : World.setRow wr g2 (uarr .u64 (lanes_ xs)) = w5; have n0_ := am_ (show w5.heap[g2]? = some (.cells (uarr .u64 (lanes_ xs)) 134 (0, 0)) by rw [← hw4]; exact setRow_heap _ _ _ _ _ _ BK2.out); have n1_ := am_ (show Below w.heap.size w w5 by rw [← hw4]; exact below_setRow HB.out GE2.out _); clear hw4 BK3 BK2 HB; have BK2 := n0_; have HB := n1_; clear n0_ n1_)))
   simp only [Act.put, List.setIfInBounds_toArray, List.set_cons_zero, List.set_cons_succ]
   refine bodyPost_ret (v := .agg (uarr .u64 (lanes_ xs))) ?hres rfl ?_
   case hres => exact results_cell_row (fn := Try.f97) (p := 2) rfl _ _ g2 134 (uarr .u64 (lanes_ xs)) (0, 0) _ (by first | rfl | (simp; done)) BK2.out hu91 rfl (by rw [uarr_size, lanes_length]; kernel_rfl)
   exact ⟨rfl, HB.out⟩
  | succ k1 =>
   have hj := HJ.out
   have hl := HLEN.out
   have c1 : decide ((j : Int) < (xs.length : Int)) = true := decide_eq_true (by omega)
   have c2 : decide (j < xs.length) = true := decide_eq_true (by omega)
   have p5 : 0 ≤ (j : Int) := by omega
   have q5 : (j : Int) < (xs.length : Int) := by omega
   have q5n : j < xs.length := by omega
   obtain ⟨ad, hA, hc0⟩ := Kd.at_int HR0.out (j : Int) p5 q5
   subst hA
   rw [Int.toNat_natCast] at hc0
   have hx := (HB.out.cell (World.block_lt_of_cell? _ _ hc0)).trans hc0
   clear hc0
   have p6 := eq_true p5
   have q6 := eq_true q5
   have q6n := eq_true q5n
   have ho := HO.out
   obtain ⟨q, hq⟩ : ∃ q : Nat, j / 8 = q := ⟨_, rfl⟩
   obtain ⟨m, hm⟩ : ∃ m : Nat, 8 * (j % 8) = m := ⟨_, rfl⟩
   have hs : wr.cell? ⟨g3, q, none⟩ = some (.int .u64 (out.getD q 0)) := row_cell BK3.out (by omega)
   have hfs := blk_frozen BK3.out q
   have e1 : wrap64 ((j : Int) / 8) = (q : Int) := by unfold wrap64; omega
   have e2 : wrap64 (8 * ((j : Int) % 8)) = (m : Int) := by unfold wrap64; omega
   have e3 : wrap64 (8 * ((j : Int).tmod 8)) = (m : Int) := by rw [Int.tmod_eq_emod_of_nonneg p5]; exact e2
   have qq : ((q : Int) < 25) = True := eq_true (by omega)
   have qn : (q < 25) = True := eq_true (by omega)
   have HQ := am_ hq
   have HM := am_ hm
   clear hq hm ho hl
   go_wp2
   generalize hji0 : rd xs ↑j = b at hx ⊢
   refine start_ (n := 13) (S := fun w' => w'.cell? ⟨g3, q, none⟩ = some (.int .u64 (out.getD q 0))) (ds := [12]) #[false, false, false, false, false, false, false, false, false, false, false, false, false] (by kernel_rfl) rfl rfl (row_cell BK3.out (by have := HQ.out; have := HO.out; have := HLEN.out; omega)) (fun hHeld => ?_)
   refine pure_ (i := 0) (N := some 14) (v := ?_) (a' := ?_) #[true, false, false, false, false, false, false, false, false, false, false, false, false] rfl rfl (by kernel_rfl) (fun _ _ _ h => h) (Or.inl ⟨(by rfl), ?_⟩) ?_ ?_
   rotate_left
   ·
    intro w'
    go_simp
    with_reducible rfl
   rotate_left
   ·
    exact ap_
   refine pure_ (i := 1) (N := some 15) (v := ?_) (a' := ?_) #[true, true, false, false, false, false, false, false, false, false, false, false, false] rfl rfl (by kernel_rfl) (fun _ _ _ h => h) (Or.inl ⟨(by rfl), ?_⟩) ?_ ?_
   rotate_left
   ·
    intro w'
    go_simp
    with_reducible rfl
   rotate_left
   ·
    exact ap_
   refine pure_ (i := 2) (N := some 16) (v := ?_) (a' := ?_) #[true, true, true, false, false, false, false, false, false, false, false, false, false] rfl rfl (by kernel_rfl) (fun _ _ _ h => h) (Or.inl ⟨(by rfl), ?_⟩) ?_ ?_
   rotate_left
   ·
    intro w'
    go_simp
    with_reducible rfl
   rotate_left
   ·
    exact ap_
   refine take_ (i := 3) (N := some 17) (v := ?_) (a' := ?_) #[true, true, true, true, false, false, false, false, false, false, false, false, false] rfl rfl (by kernel_rfl) (fun _ _ _ h => h) (Or.inl ⟨(by rfl), ?_⟩) hHeld ?_ ?_
   rotate_left
   ·
    rintro w' s0
    go_simp
    with_reducible rfl
   rotate_left
   ·
    exact ap_
   refine pure_ (i := 4) (N := some 18) (v := ?_) (a' := ?_) #[true, true, true, true, true, false, false, false, false, false, false, false, false] rfl rfl (by kernel_rfl) (fun _ _ _ h => h) (Or.inl ⟨(by rfl), ?_⟩) ?_ ?_
   rotate_left
   ·
    intro w'
    go_simp
    with_reducible rfl
   rotate_left
   ·
    exact ap_
   refine pure_ (i := 5) (N := some 19) (v := ?_) (a' := ?_) #[true, true, true, true, true, true, false, false, false, false, false, false, false] rfl rfl (by kernel_rfl) (fun _ _ _ h => h) (Or.inl ⟨(by rfl), ?_⟩) ?_ ?_
   rotate_left
   ·
    intro w'
    go_simp
    with_reducible rfl
   rotate_left
   ·
    exact ap_
   refine pure_ (i := 6) (N := some 20) (v := ?_) (a' := ?_) #[true, true, true, true, true, true, true, false, false, false, false, false, false] rfl rfl (by kernel_rfl) (fun _ _ _ h => h) (Or.inl ⟨(by rfl), ?_⟩) ?_ ?_
   rotate_left
   ·
    intro w'
    go_simp
    with_reducible rfl
   rotate_left
   ·
    exact ap_
   refine pure_ (i := 7) (N := some 21) (v := ?_) (a' := ?_) #[true, true, true, true, true, true, true, true, false, false, false, false, false] rfl rfl (by kernel_rfl) (fun _ _ _ h => h) (Or.inl ⟨(by rfl), ?_⟩) ?_ ?_
   rotate_left
   ·
    intro w'
    go_simp
    with_reducible rfl
   rotate_left
   ·
    exact ap_
   refine pure_ (i := 8) (N := some 22) (v := ?_) (a' := ?_) #[true, true, true, true, true, true, true, true, true, false, false, false, false] rfl rfl (by kernel_rfl) (fun _ _ _ h => h) (Or.inl ⟨(by rfl), ?_⟩) ?_ ?_
   rotate_left
   ·
    intro w'
    go_simp
    with_reducible rfl
   rotate_left
   ·
    exact ap_
   refine pure_ (i := 9) (N := some 23) (v := ?_) (a' := ?_) #[true, true, true, true, true, true, true, true, true, true, false, false, false] rfl rfl (by kernel_rfl) (fun _ _ _ h => h) (Or.inl ⟨(by rfl), ?_⟩) ?_ ?_
   rotate_left
   ·
    intro w'
    go_simp
    with_reducible rfl
   rotate_left
   ·
    exact ap_
   refine pure_ (i := 10) (N := some 24) (v := ?_) (a' := ?_) #[true, true, true, true, true, true, true, true, true, true, true, false, false] rfl rfl (by kernel_rfl) (fun _ _ _ h => h) (Or.inl ⟨(by rfl), ?_⟩) ?_ ?_
   rotate_left
   ·
    intro w'
    go_simp
    with_reducible rfl
   rotate_left
   ·
    exact ap_
   refine pure_ (i := 11) (N := some 25) (v := ?_) (a' := ?_) #[true, true, true, true, true, true, true, true, true, true, true, true, false] rfl rfl (by kernel_rfl) (fun _ _ _ h => h) (Or.inl ⟨(by rfl), ?_⟩) ?_ ?_
   rotate_left
   ·
    intro w'
    go_simp
    with_reducible rfl
   rotate_left
   ·
    exact ap_
   refine last_ (i := 12) (N := none) #[true, true, true, true, true, true, true, true, true, true, true, true, true] rfl rfl (by kernel_rfl) (by decide) (fun K hK => ?_)
   refine skip_ (w1 := ?_) (by rfl) rfl ?_ ?_
   rotate_left
   ·
    go_simp
    rfl
   refine hK.out _ _ ?_
   clear hK K
   refine done_ (by kernel_rfl) ?_
   have n0_ := am_ (blk_drew (row_put BK3.out q (Go.bits .or .u64 (out.getD q 0) (IntKind.u64.wrap (IntKind.u64.wrap b * 2 ^ min m 64)))))
   have n1_ := am_ (blk_drew (blk_far BK2.out (p := ⟨g3, q, none⟩) (Ne.symm NE.out) (.int .u64 (Go.bits .or .u64 (out.getD q 0) (IntKind.u64.wrap (IntKind.u64.wrap b * 2 ^ min m 64))))))
   have n2_ := am_ (below_drew1 (below_set (g := g3) (j := q) HB.out GE3.out (v := (.int .u64 (Go.bits .or .u64 (out.getD q 0) (IntKind.u64.wrap (IntKind.u64.wrap b * 2 ^ min m 64)))))))
   have hstep : laneStep xs j out = out.set q (Go.bits .or .u64 (out.getD q 0) (IntKind.u64.wrap (IntKind.u64.wrap b * 2 ^ min m 64))) := by unfold laneStep; rw [HQ.out, HM.out, hji0]
   have HI2 := am_ (show iter (laneStep xs) k1 (j + 1) (laneStep xs j out) = lanes_ xs from HI.out)
   have HO2 := am_ (show (laneStep xs j out).length = 25 from (laneStep_length xs j out).trans HO.out)
   rw [hstep] at HI2 HO2
   clear BK3 BK2 HB HI HO hs hfs e1 e2 e3 qq qn hstep hx hji0 HQ HM
   generalize out.set q (Go.bits .or .u64 (out.getD q 0) (IntKind.u64.wrap (IntKind.u64.wrap b * 2 ^ min m 64))) = out2 at n0_ HI2 HO2
   try go_wp2
   go_roundg k1
   case measure => omega
   case rel => exact ⟨j + 1, out2, by have := HLEN.out; rw [w64_ (by omega) (by omega)]; rfl, ⟨(by omega)⟩, HI2, HO2, n0_, n1_, n2_⟩
def bits_RotateLeft64.f (a0 : Int) (a1 : Int) : Option (Int) := if 0 ≤ (Go.bits .and .u64 (IntKind.u64.wrap (a1)) 63) then (if 0 ≤ (IntKind.u64.wrap (64 - (Go.bits .and .u64 (IntKind.u64.wrap (a1)) 63))) then (some (Go.bits .or .u64 (shl .u64 a0 (Go.bits .and .u64 (IntKind.u64.wrap (a1)) 63)) (shr .u64 a0 (IntKind.u64.wrap (64 - (Go.bits .and .u64 (IntKind.u64.wrap (a1)) 63)))))) else (none)) else (none)
set_option maxHeartbeats 8000000 in
set_option maxRecDepth 100000 in
theorem bits_RotateLeft64.calls (a0 : Int) (a1 : Int) (r : Int) (w : World) (h : bits_RotateLeft64.f a0 a1 = some r) :
  Calls Try.prog 132 #[.int .u64 a0, .int .i64 a1] w fun e w' => e = .returned (.int .u64 r) ∧ Drawn0 w w' := by
 have H : (if 0 ≤ (Go.bits .and .u64 (IntKind.u64.wrap (a1)) 63) then (if 0 ≤ (IntKind.u64.wrap (64 - (Go.bits .and .u64 (IntKind.u64.wrap (a1)) 63))) then (some (Go.bits .or .u64 (shl .u64 a0 (Go.bits .and .u64 (IntKind.u64.wrap (a1)) 63)) (shr .u64 a0 (IntKind.u64.wrap (64 - (Go.bits .and .u64 (IntKind.u64.wrap (a1)) 63)))))) else (none)) else (none)) = some r := h
 clear h
 obtain ⟨ji3, hji3⟩ : ∃ j_ : Int, (Go.bits .and .u64 (IntKind.u64.wrap (a1)) 63) = j_ := ⟨_, rfl⟩
 replace H : (if 0 ≤ (ji3) then (if 0 ≤ (IntKind.u64.wrap (64 - (ji3))) then (some (Go.bits .or .u64 (shl .u64 a0 (ji3)) (shr .u64 a0 (IntKind.u64.wrap (64 - (ji3)))))) else (none)) else (none)) = some r := by first | (rw [hji3] at H; exact H) | (simp only [hji3] at H ⊢; exact H)
 by_cases c4 : 0 ≤ (ji3)
 ·
  rw [if_pos c4] at H
  have c4b0 := eq_true c4
  have c4b1 : decide (0 ≤ (ji3)) = true := decide_eq_true c4
  clear c4
  obtain ⟨ji5, hji5⟩ : ∃ j_ : Int, (shl .u64 a0 (ji3)) = j_ := ⟨_, rfl⟩
  replace H : (if 0 ≤ (IntKind.u64.wrap (64 - (ji3))) then (some (Go.bits .or .u64 (ji5) (shr .u64 a0 (IntKind.u64.wrap (64 - (ji3)))))) else (none)) = some r := by first | (rw [hji5] at H; exact H) | (simp only [hji5] at H ⊢; exact H)
  have hji5_ : (IntKind.u64.wrap (a0 * 2 ^ min (ji3).toNat 64)) = ji5 := hji5
  have hji5z : (ji3) ≤ 64 → (IntKind.u64.wrap (a0 * 2 ^ (ji3).toNat)) = ji5 := shl_small hji5
  obtain ⟨ji6, hji6⟩ : ∃ j_ : Int, (IntKind.u64.wrap (64 - (ji3))) = j_ := ⟨_, rfl⟩
  replace H : (if 0 ≤ (ji6) then (some (Go.bits .or .u64 (ji5) (shr .u64 a0 (ji6)))) else (none)) = some r := by first | (rw [hji6] at H; exact H) | (simp only [hji6] at H ⊢; exact H)
  by_cases c7 : 0 ≤ (ji6)
  ·
   rw [if_pos c7] at H
   have c7b0 := eq_true c7
   have c7b1 : decide (0 ≤ (ji6)) = true := decide_eq_true c7
   clear c7
   obtain ⟨ji8, hji8⟩ : ∃ j_ : Int, (shr .u64 a0 (ji6)) = j_ := ⟨_, rfl⟩
   replace H : (some (Go.bits .or .u64 (ji5) (ji8))) = some r := by first | (rw [hji8] at H; exact H) | (simp only [hji8] at H ⊢; exact H)
   have hji8_ : (a0 / 2 ^ min (ji6).toNat 64) = ji8 := hji8
   have hji8z : (ji6) ≤ 64 → (a0 / 2 ^ (ji6).toNat) = ji8 := shr_small hji8
   obtain rfl := Option.some.inj H
   go_enter Try.func132, Try.ntmps132
   go_wp2
   go_ret
   exact ⟨(by first | rfl | (simp; done) | (simp only [← hji3, ← hji5, ← hji6, ← hji8] <;> (first | rfl | simp)) | (simp [*]; done)), qz1_⟩
  ·
   rw [if_neg c7] at H
   exact absurd H (by simp)
 ·
  rw [if_neg c4] at H
  exact absurd H (by simp)

end Go.Proofs.Ytgookagndlfehaa.PT
end
section
/- permute: a state permuted. -/
namespace Go.Proofs.Ytgookagndlfehaa.PT
open Go.RowKit Go.Proofs.YtgookagndlfehaaW.PrintWords Go.Proofs.YtgookagndlfehaaW.PrintLast Go.Proofs.YtgookagndlfehaaW.PrintMore
set_option linter.unusedVariables false
set_option linter.unusedSimpArgs false
theorem rot_some (x k : Int) : ∃ r, bits_RotateLeft64.f x k = some r := by
 unfold bits_RotateLeft64.f
 have h1 : ∀ n : Int, 0 ≤ IntKind.u64.wrap n := fun n => by rw [IntKind.wrap_u64]; omega
 have h2 : 0 ≤ Go.bits .and .u64 (IntKind.u64.wrap k) 63 := by unfold Go.bits; exact h1 _
 rw [if_pos h2, if_pos (h1 _)]
 exact ⟨_, rfl⟩
def rot (x k : Int) : Int := (bits_RotateLeft64.f x k).getD 0
theorem rot_eq (x k : Int) : bits_RotateLeft64.f x k = some (rot x k) := by
 obtain ⟨r, h⟩ := rot_some x k
 unfold rot
 rw [h]
 rfl
def z5 : List Int := [0, 0, 0, 0, 0]
def z24 : List Int := [0, 0, 0, 0, 0, 0, 0, 0, 0, 0, 0, 0, 0, 0, 0, 0, 0, 0, 0, 0, 0, 0, 0, 0]
def shifts_ : List Int := [0, 1, 62, 28, 27, 36, 44, 6, 55, 20, 3, 10, 43, 25, 39, 41, 45, 15, 21, 8, 18, 2, 61, 56, 14]
def consts_ : List Int := [1, 32898, 9223372036854808714, 9223372039002292224, 32907, 2147483649, 9223372039002292353, 9223372036854808585, 138, 136, 2147516425, 2147483658, 2147516555, 9223372036854775947, 9223372036854808713, 9223372036854808579, 9223372036854808578, 9223372036854775936, 32778, 9223372039002259466, 9223372039002292353, 9223372036854808704, 2147483649, 9223372039002292232]
def xr (x y : Int) : Int := Go.bits .xor .u64 x y
def an (x y : Int) : Int := Go.bits .andNot .u64 x y
def sumStep (ls : List Int) (i : Nat) (s : List Int) : List Int := s.set (i % 5) (xr (s.getD (i % 5) 0) (ls.getD i 0))
def movStep (ls s : List Int) (i : Nat) (m : List Int) : List Int := m.set (i / 5 + 5 * ((2 * (i % 5) + 3 * (i / 5)) % 5)) (rot (xr (ls.getD i 0) (xr (s.getD ((i % 5 + 4) % 5) 0) (rot (s.getD ((i % 5 + 1) % 5) 0) 1))) (shifts_.getD i 0))
def newStep (m : List Int) (i : Nat) (l : List Int) : List Int := l.set i (xr (m.getD i 0) (an (m.getD (i - i % 5 + (i % 5 + 2) % 5) 0) (m.getD (i - i % 5 + (i % 5 + 1) % 5) 0)))
def roundEnd (r : Nat) (l : List Int) : List Int := l.set 0 (xr (l.getD 0 0) (consts_.getD r 0))
def sums_ (ls : List Int) : List Int := iter (sumStep ls) 25 0 z5
def moved_ (ls s : List Int) : List Int := iter (movStep ls s) 25 0 z25
def new_ (m ls : List Int) : List Int := iter (newStep m) 25 0 ls
def roundStep (r : Nat) (ls : List Int) : List Int := roundEnd r (new_ (moved_ ls (sums_ ls)) ls)
def perm (ls : List Int) : List Int := iter roundStep 24 0 ls
theorem iter_succ {α : Type} (f : Nat → α → α) (k j : Nat) (x : α) : iter f (k + 1) j x = iter f k (j + 1) (f j x) := rfl
theorem movStep_def (ls s : List Int) (i : Nat) (m : List Int) : movStep ls s i m = m.set (i / 5 + 5 * ((2 * (i % 5) + 3 * (i / 5)) % 5)) (rot (xr (ls.getD i 0) (xr (s.getD ((i % 5 + 4) % 5) 0) (rot (s.getD ((i % 5 + 1) % 5) 0) 1))) (shifts_.getD i 0)) := rfl
theorem newStep_def (m : List Int) (i : Nat) (l : List Int) : newStep m i l = l.set i (xr (m.getD i 0) (an (m.getD (i - i % 5 + (i % 5 + 2) % 5) 0) (m.getD (i - i % 5 + (i % 5 + 1) % 5) 0))) := rfl
theorem mv1 {i : Nat} (h : i < 25) : wrap64 ((i : Int) % 5 + 4) = (i : Int) % 5 + 4 := by unfold wrap64; omega
theorem mv2 {i p : Nat} (h : i < 25) (hp : (i % 5 + 4) % 5 = p) : Int.tmod ((i : Int) % 5 + 4) 5 = (p : Int) := by rw [Int.tmod_eq_emod_of_nonneg (by omega)]; omega
theorem mv3 {i : Nat} (h : i < 25) : wrap64 ((i : Int) % 5 + 1) = (i : Int) % 5 + 1 := by unfold wrap64; omega
theorem mv4 {i p : Nat} (h : i < 25) (hp : (i % 5 + 1) % 5 = p) : Int.tmod ((i : Int) % 5 + 1) 5 = (p : Int) := by rw [Int.tmod_eq_emod_of_nonneg (by omega)]; omega
theorem mv6_ : ∀ i : Fin 25, wrap64 (wrap64 ((i.val : Int) / 5) + wrap64 (5 * Int.tmod (wrap64 (2 * ((i.val : Int) % 5) + wrap64 (3 * wrap64 ((i.val : Int) / 5)))) 5)) = ((i.val / 5 + 5 * ((2 * (i.val % 5) + 3 * (i.val / 5)) % 5) : Nat) : Int) := by decide +kernel
theorem mv7_ : ∀ i : Fin 25, i.val / 5 + 5 * ((2 * (i.val % 5) + 3 * (i.val / 5)) % 5) < 25 := by decide +kernel
theorem mv6 {i d : Nat} (h : i < 25) (hd : i / 5 + 5 * ((2 * (i % 5) + 3 * (i / 5)) % 5) = d) : wrap64 (wrap64 ((i : Int) / 5) + wrap64 (5 * Int.tmod (wrap64 (2 * ((i : Int) % 5) + wrap64 (3 * wrap64 ((i : Int) / 5)))) 5)) = (d : Int) := by rw [← hd]; exact mv6_ ⟨i, h⟩
theorem mv7 {i d : Nat} (h : i < 25) (hd : i / 5 + 5 * ((2 * (i % 5) + 3 * (i / 5)) % 5) = d) : d < 25 := by rw [← hd]; exact mv7_ ⟨i, h⟩
theorem lt25 {p : Nat} (h : p < 25) : ((p : Int) < 25) = True := eq_true (by omega)
theorem mw_ : ∀ i : Fin 25, (wrap64 ((i.val : Int) % 5 + 2) = (i.val : Int) % 5 + 2 ∧ wrap64 ((i.val : Int) - (i.val : Int) % 5 + (((i.val % 5 + 2) % 5 : Nat) : Int)) = ((i.val - i.val % 5 + (i.val % 5 + 2) % 5 : Nat) : Int) ∧ i.val - i.val % 5 + (i.val % 5 + 2) % 5 < 25) ∧ (wrap64 ((i.val : Int) - (i.val : Int) % 5 + (((i.val % 5 + 1) % 5 : Nat) : Int)) = ((i.val - i.val % 5 + (i.val % 5 + 1) % 5 : Nat) : Int) ∧ i.val - i.val % 5 + (i.val % 5 + 1) % 5 < 25) := by decide +kernel
theorem mw {i : Nat} (h : i < 25) : (wrap64 ((i : Int) % 5 + 2) = (i : Int) % 5 + 2 ∧ wrap64 ((i : Int) - (i : Int) % 5 + (((i % 5 + 2) % 5 : Nat) : Int)) = ((i - i % 5 + (i % 5 + 2) % 5 : Nat) : Int) ∧ i - i % 5 + (i % 5 + 2) % 5 < 25) ∧ (wrap64 ((i : Int) - (i : Int) % 5 + (((i % 5 + 1) % 5 : Nat) : Int)) = ((i - i % 5 + (i % 5 + 1) % 5 : Nat) : Int) ∧ i - i % 5 + (i % 5 + 1) % 5 < 25) := mw_ ⟨i, h⟩
theorem mw0 {i : Nat} (h : i < 25) : wrap64 ((i : Int) - (i : Int) % 5) = (i : Int) - (i : Int) % 5 := by unfold wrap64; omega
theorem mw2 {i p : Nat} (h : i < 25) (hp : (i % 5 + 2) % 5 = p) : Int.tmod ((i : Int) % 5 + 2) 5 = (p : Int) := by rw [Int.tmod_eq_emod_of_nonneg (by omega)]; omega
theorem mv5 {n p : Nat} (hp : n % 5 = p) : p < 5 := hp ▸ Nat.mod_lt _ (by decide)
theorem lt5 {p : Nat} (h : p < 5) : ((p : Int) < 5) = True := eq_true (by omega)
theorem sums_length (ls : List Int) : (sums_ ls).length = 5 := iter_length (fun j x => by simp [sumStep]) 25 0 z5
theorem moved_length (ls s : List Int) : (moved_ ls s).length = 25 := iter_length (fun j x => by simp [movStep]) 25 0 z25
theorem new_length (m ls : List Int) : (new_ m ls).length = ls.length := iter_length (fun j x => by simp [newStep]) 25 0 ls
theorem round_length (r : Nat) (ls : List Int) : (roundStep r ls).length = ls.length := by unfold roundStep roundEnd; rw [List.length_set, new_length]
theorem perm_length (ls : List Int) : (perm ls).length = ls.length := iter_length round_length 24 0 ls
theorem index_row {t n : Nat} (ht : Try.prog.underlying t = some (.array n 132)) {xs : List Int} (hn : xs.length = n) {i : Nat} (hi : i < n) (W : World) : (Instr.index t (.agg (uarr .u64 xs)) (.int .i64 (i : Int))).run Try.prog W = .ok (.int .u64 (xs.getD i 0)) W := by
 have h2 : (Try.prog.info? 132).map (fun i => i.size) = some 1 := by kernel_rfl
 obtain ⟨z, hz, hs⟩ := Option.map_eq_some_iff.1 h2
 have hu := run_underlying (P := Try.prog) ht
 have hv := run_underlying (P := Try.prog) Try.underlying132
 have hg : (uarr .u64 xs)[i]? = some (.int .u64 (xs.getD i 0)) := uarr_get (by omega)
 simp [Instr.index, asIntOf, hu, hv, sizeOf, typeInfo, hz, hs, part, isAgg, hi, hg]
structure KB (w w' : World) (g : Nat) : Prop where
 os : w'.os = w.os
 tape : w'.tape = w.tape
 output : w'.output = w.output
 size : w.heap.size ≤ w'.heap.size
 block : ∀ i, i < w.heap.size → i ≠ g → w'.heap[i]? = w.heap[i]?
theorem KB.refl (w : World) (g : Nat) : KB w w g := ⟨rfl, rfl, rfl, Nat.le_refl _, fun _ _ _ => rfl⟩
theorem KB.drew {w W : World} {g : Nat} (h : KB w W g) : KB w W.drew g := ⟨h.os, h.tape, h.output, h.size, h.block⟩
theorem KB.drewN {w W : World} {g : Nat} (h : KB w W g) (n : Nat) : KB w (W.drewN n) g := ⟨h.os, h.tape, h.output, h.size, h.block⟩
theorem KB.below {w W W' : World} {g : Nat} (h : KB w W g) (hb : Below W.heap.size W W') : KB w W' g := ⟨hb.os.trans h.os, hb.tape.trans h.tape, hb.output.trans h.output, Nat.le_trans h.size hb.size, fun i hi hg => (hb.block i (Nat.lt_of_lt_of_le hi h.size)).trans (h.block i hi hg)⟩
theorem KB.set {w W : World} {g b i : Nat} {v : Value} (h : KB w W g) (hb : b = g ∨ w.heap.size ≤ b) : KB w (W.setCell ⟨b, i, none⟩ v) g :=
 ⟨h.os, h.tape, h.output, (by simpa [World.setCell] using h.size), fun j hj hg => (Below.heap_setCell W _ v j (by rcases hb with rfl | hb <;> simp <;> omega)).trans (h.block j hj hg)⟩
theorem KB.row {w W : World} {g b : Nat} {cs : Array Value} (h : KB w W g) (hb : b = g ∨ w.heap.size ≤ b) : KB w (W.setRow b cs) g :=
 ⟨h.os, h.tape, h.output, (by simpa using h.size), fun j hj hg => (setRow_other W b j cs (by rcases hb with rfl | hb <;> omega)).trans (h.block j hj hg)⟩
theorem KB.trans {w w1 w2 : World} {g : Nat} (h : KB w w1 g) (k : KB w1 w2 g) : KB w w2 g :=
 ⟨k.os.trans h.os, k.tape.trans h.tape, k.output.trans h.output, Nat.le_trans h.size k.size, fun i hi hg => (k.block i (Nat.lt_of_lt_of_le hi h.size) hg).trans (h.block i hi hg)⟩
theorem KB.keep {w w' : World} {g : Nat} (h : KB w w' g) : KeepBut w w' g none := ⟨h.size, fun i hi hg _ => h.block i hi hg⟩
theorem KB.onto {B : Nat} {w0 w w' : World} {g : Nat} (h : KB w w' g) (hB : Below B w0 w) (hl : B ≤ w0.heap.size) (hg : B ≤ g) : Below B w0 w' :=
 ⟨h.os.trans hB.os, h.tape.trans hB.tape, h.output.trans hB.output, Nat.le_trans hB.size h.size, fun i hi => (h.block i (Nat.lt_of_lt_of_le (Nat.lt_of_lt_of_le hi hl) hB.size) (by omega)).trans (hB.block i hi)⟩
set_option maxHeartbeats 8000000 in
set_option maxRecDepth 100000 in
theorem impl_lanes_permute.calls (gs : Nat) (ls : List Int) (w : World) (hb0 : w.heap[gs]? = some (.cells (uarr .u64 ls) 134 (0, 0))) (hlen : ls.length = 25) :
  Calls Try.prog 98 #[.pointer (some ⟨gs, 0, none⟩)] w fun e w' => e = .returned (.tuple #[]) ∧ w'.heap[gs]? = some (.cells (uarr .u64 (perm ls)) 134 (0, 0)) ∧ KB w w' gs := by
 have BKs := am_ hb0
 have HLEN := am_ hlen
 have HK := am_ (KB.refl w gs)
 have hu91 := Try.underlying134
 have hu101 := Try.underlying157
 clear hb0 hlen
 generalize htt : perm ls = tt
 unfold perm at htt
 have HTT := am_ htt
 clear htt
 go_enter Try.func98, Try.ntmps98
 go_wp2_with (first | ((with_reducible refine gate_dst (N := 2) rfl ?_); refine box_event ?hg (N := 2) ?hd (cs := uarr .i64 z25) (t := 156) ?hr ?_; (case hd => rfl); (case hg => rfl); (case hr => first | (go_simp; done) | (go_simp; rfl)); intro g2 hg w2 hbox hb; have n0_ := am_ (HK.out.below hb); have n1_ := am_ (hbox); have n2_ := am_ ((by rw [hg]; exact HK.out.size) : w.heap.size ≤ g2); have n3_ := am_ (show g2 ≠ gs by have := blk_lt BKs.out; omega); have n4_ := am_ (blk_below BKs.out hb); clear HK BKs; have HK := n0_; have BK2 := n1_; have GE2 := n2_; have NE2_s := n3_; have BKs := n4_; clear n0_ n1_ n2_ n3_ n4_; clear hb hbox hg) | ((with_reducible refine gate_store (p := 2) (v := .tmp 18) (t := 156) rfl ?_); go_must (refine wpList_store_row rfl 156 _ _ rfl g2 (uarr .i64 shifts_) rfl qz11_ 156 (uarr .i64 z25) BK2.out (by first | (rw [uarr_size, lanes_length]; kernel_rfl) | kernel_rfl) qz12_ (uarr_one _ _) ?_; generalize hw4 : World.setRow w2 g2 (uarr .i64 shifts_) = w3; have n0_ := am_ (show KB w w3 gs by rw [← hw4]; exact HK.out.row (.inr GE2.out)); have n1_ := am_ (show w3.heap[g2]? = some (.cells (uarr .i64 shifts_) 156 (0, 0)) by rw [← hw4]; exact setRow_heap _ _ _ _ _ _ BK2.out); have n2_ := am_ (show w3.heap[gs]? = some (.cells (uarr .u64 ls) 134 (0, 0)) by rw [← hw4]; exact (setRow_other _ _ _ _ (Ne.symm NE2_s.out)).trans BKs.out); clear hw4 HK BK2 BKs; have HK := n0_; have BK2 := n1_; have BKs := n2_; clear n0_ n1_ n2_)) | ((with_reducible refine gate_dst (N := 3) rfl ?_); refine box_event ?hg (N := 3) ?hd (cs := uarr .u64 z24) (t := 157) ?hr ?_; (case hd => rfl); (case hg => rfl); (case hr => first | (go_simp; done) | (go_simp; rfl)); intro g3 hg w4 hbox hb; have n0_ := am_ (HK.out.below hb); have n1_ := am_ (hbox); have n2_ := am_ ((by rw [hg]; exact HK.out.size) : w.heap.size ≤ g3); have n3_ := am_ (show g3 ≠ gs by have := blk_lt BKs.out; omega); have n4_ := am_ (show g3 ≠ g2 by have := blk_lt BK2.out; omega); have n5_ := am_ (blk_below BKs.out hb); have n6_ := am_ (blk_below BK2.out hb); clear HK BKs BK2; have HK := n0_; have BK3 := n1_; have GE3 := n2_; have NE3_s := n3_; have NE3_2 := n4_; have BKs := n5_; have BK2 := n6_; clear n0_ n1_ n2_ n3_ n4_ n5_ n6_; clear hb hbox hg) | ((with_reducible refine gate_store (p := 3) (v := .tmp 19) (t := 157) rfl ?_); go_must (refine wpList_store_row rfl 157 _ _ rfl g3 (uarr .u64 consts_) rfl qz11_ 157 (uarr .u64 z24) BK3.out (by first | (rw [uarr_size, lanes_length]; kernel_rfl) | kernel_rfl) qz12_ (uarr_one _ _) ?_; generalize hw4 : World.setRow w4 g3 (uarr .u64 consts_) = w5; have n0_ := am_ (show KB w w5 gs by rw [← hw4]; exact HK.out.row (.inr GE3.out)); have n1_ := am_ (show w5.heap[g3]? = some (.cells (uarr .u64 consts_) 157 (0, 0)) by rw [← hw4]; exact setRow_heap _ _ _ _ _ _ BK3.out); have n2_ := am_ (show w5.heap[gs]? = some (.cells (uarr .u64 ls) 134 (0, 0)) by rw [← hw4]; exact (setRow_other _ _ _ _ (Ne.symm NE3_s.out)).trans BKs.out); have n3_ := am_ (show w5.heap[g2]? = some (.cells (uarr .i64 shifts_) 156 (0, 0)) by rw [← hw4]; exact (setRow_other _ _ _ _ (Ne.symm NE3_2.out)).trans BK2.out); clear hw4 HK BK3 BKs BK2; have HK := n0_; have BK3 := n1_; have BKs := n2_; have BK2 := n3_; clear n0_ n1_ n2_ n3_)) | ((with_reducible refine gate_dst (N := 20) rfl ?_); go_must (refine wpList_load_row rfl 157 _ rfl g3 rfl 157 (uarr .u64 consts_) (0, 0) _ BK3.out hu101 rfl (by kernel_rfl) ?_)))
 go_loopg [21] 24 (fun kq v21 w' => ∃ (r : Nat) (ls : List Int), v21 = .int .i64 r ∧ Aside0 (r + kq = 24) ∧ Aside0 (iter roundStep kq r ls = tt) ∧ Aside0 (ls.length = 25) ∧ Aside0 (w'.heap[gs]? = some (.cells (uarr .u64 ls) 134 (0, 0))) ∧ Aside0 (w'.heap[g2]? = some (.cells (uarr .i64 shifts_) 156 (0, 0))) ∧ Aside0 (KB w w' gs))
 case atStart => exact ⟨0, ls, rfl, ⟨(by omega)⟩, HTT, HLEN, BKs, BK2, HK⟩
 case round =>
  clear HTT HLEN BKs BK2 BK3 HK ls
  obtain ⟨r, ls, rfl, HJ, HI, HLEN, BKs, BK2, HK⟩ := hrel
  cases gk with
  | zero =>
   have hj := HJ.out
   have c1 : decide ((r : Int) < 24) = false := decide_eq_false (by omega)
   have c2 : decide (r < 24) = false := decide_eq_false (by omega)
   have hi : ls = tt := HI.out
   subst hi
   clear HI hj
   go_wp2
   exact bodyPost_end (v := .tuple #[]) (by first | rfl | (simp [results]; done)) rfl ⟨rfl, BKs.out, HK.out⟩
  | succ k1 =>
   have hj := HJ.out
   have c1 : decide ((r : Int) < 24) = true := decide_eq_true (by omega)
   have c2 : decide (r < 24) = true := decide_eq_true (by omega)
   have HI2 := am_ (show iter roundStep k1 (r + 1) (roundStep r ls) = tt from HI.out)
   clear HI
   have hix := index_row hu101 (xs := consts_) rfl (show r < 24 by omega) wr
   go_wp2_with (first | ((with_reducible refine gate_dst (N := 6) rfl ?_); refine box_event ?hg (N := 6) ?hd (cs := uarr .u64 z5) (t := 158) ?hr ?_; (case hd => rfl); (case hg => rfl); (case hr => first | (go_simp; done) | (go_simp; rfl)); intro g6 hg w6 hbox hb; have n0_ := am_ (HK.out.below hb); have n1_ := am_ (hbox); have n2_ := am_ ((by rw [hg]; exact HK.out.size) : w.heap.size ≤ g6); have n3_ := am_ (show g6 ≠ gs by have := blk_lt BKs.out; omega); have n4_ := am_ (show g6 ≠ g2 by have := blk_lt BK2.out; omega); have n5_ := am_ (blk_below BKs.out hb); have n6_ := am_ (blk_below BK2.out hb); clear HK BKs BK2; have HK := n0_; have BK6 := n1_; have GE6 := n2_; have NE6_s := n3_; have NE6_2 := n4_; have BKs := n5_; have BK2 := n6_; clear n0_ n1_ n2_ n3_ n4_ n5_ n6_; clear hb hbox hg) | ((with_reducible refine gate_dst (N := 7) rfl ?_); refine box_event ?hg (N := 7) ?hd (cs := uarr .u64 z25) (t := 134) ?hr ?_; (case hd => rfl); (case hg => rfl); (case hr => first | (go_simp; done) | (go_simp; rfl)); intro g7 hg w7 hbox hb; have n0_ := am_ (HK.out.below hb); have n1_ := am_ (hbox); have n2_ := am_ ((by rw [hg]; exact HK.out.size) : w.heap.size ≤ g7); have n3_ := am_ (show g7 ≠ gs by have := blk_lt BKs.out; omega); have n4_ := am_ (show g7 ≠ g2 by have := blk_lt BK2.out; omega); have n5_ := am_ (show g7 ≠ g6 by have := blk_lt BK6.out; omega); have n6_ := am_ (blk_below BKs.out hb); have n7_ := am_ (blk_below BK2.out hb); have n8_ := am_ (blk_below BK6.out hb); clear HK BKs BK2 BK6; have HK := n0_; have BK7 := n1_; have GE7 := n2_; have NE7_s := n3_; have NE7_2 := n4_; have NE7_6 := n5_; have BKs := n6_; have BK2 := n7_; have BK6 := n8_; clear n0_ n1_ n2_ n3_ n4_ n5_ n6_ n7_ n8_; clear hb hbox hg) | ((with_reducible refine gate_store (p := 6) (v := .tmp 24) (t := 158) rfl ?_); go_must (refine wpList_store_row rfl 158 _ _ rfl g6 (uarr .u64 z5) rfl qz11_ 158 (uarr .u64 z5) BK6.out (by first | (rw [uarr_size, lanes_length]; kernel_rfl) | kernel_rfl) qz12_ (uarr_one _ _) ?_; generalize hw4 : World.setRow w7 g6 (uarr .u64 z5) = w8; have n0_ := am_ (show KB w w8 gs by rw [← hw4]; exact HK.out.row (.inr GE6.out)); have n1_ := am_ (show w8.heap[g6]? = some (.cells (uarr .u64 z5) 158 (0, 0)) by rw [← hw4]; exact setRow_heap _ _ _ _ _ _ BK6.out); have n2_ := am_ (show w8.heap[gs]? = some (.cells (uarr .u64 ls) 134 (0, 0)) by rw [← hw4]; exact (setRow_other _ _ _ _ (Ne.symm NE6_s.out)).trans BKs.out); have n3_ := am_ (show w8.heap[g2]? = some (.cells (uarr .i64 shifts_) 156 (0, 0)) by rw [← hw4]; exact (setRow_other _ _ _ _ (Ne.symm NE6_2.out)).trans BK2.out); have n4_ := am_ (show w8.heap[g7]? = some (.cells (uarr .u64 z25) 134 (0, 0)) by rw [← hw4]; exact (setRow_other _ _ _ _ (NE7_6.out)).trans BK7.out); clear hw4 HK BK6 BKs BK2 BK7; have HK := n0_; have BK6 := n1_; have BKs := n2_; have BK2 := n3_; have BK7 := n4_; clear n0_ n1_ n2_ n3_ n4_)) | ((with_reducible refine gate_store (p := 7) (v := .tmp 25) (t := 134) rfl ?_); go_must (refine wpList_store_row rfl 134 _ _ rfl g7 (uarr .u64 z25) rfl qz11_ 134 (uarr .u64 z25) BK7.out (by first | (rw [uarr_size, lanes_length]; kernel_rfl) | kernel_rfl) qz12_ (uarr_one _ _) ?_; generalize hw4 : World.setRow w8 g7 (uarr .u64 z25) = w9; have n0_ := am_ (show KB w w9 gs by rw [← hw4]; exact HK.out.row (.inr GE7.out)); have n1_ := am_ (show w9.heap[g7]? = some (.cells (uarr .u64 z25) 134 (0, 0)) by rw [← hw4]; exact setRow_heap _ _ _ _ _ _ BK7.out); have n2_ := am_ (show w9.heap[gs]? = some (.cells (uarr .u64 ls) 134 (0, 0)) by rw [← hw4]; exact (setRow_other _ _ _ _ (Ne.symm NE7_s.out)).trans BKs.out); have n3_ := am_ (show w9.heap[g2]? = some (.cells (uarr .i64 shifts_) 156 (0, 0)) by rw [← hw4]; exact (setRow_other _ _ _ _ (Ne.symm NE7_2.out)).trans BK2.out); have n4_ := am_ (show w9.heap[g6]? = some (.cells (uarr .u64 z5) 158 (0, 0)) by rw [← hw4]; exact (setRow_other _ _ _ _ (Ne.symm NE7_6.out)).trans BK6.out); clear hw4 HK BK7 BKs BK2 BK6; have HK := n0_; have BK7 := n1_; have BKs := n2_; have BK2 := n3_; have BK6 := n4_; clear n0_ n1_ n2_ n3_ n4_)))
   clear hix
   generalize hS : sums_ ls = S
   have HSD := am_ hS
   have HSL := am_ (show S.length = 5 from hS ▸ sums_length ls)
   unfold sums_ at hS
   have HS0 := am_ hS
   clear hS
   generalize hcst : consts_[r]?.getD 0 = cst
   have HCST := am_ hcst
   clear hcst
   go_loopg [27] 25 (fun kq v27 w' => ∃ (i : Nat) (s : List Int), v27 = .int .i64 i ∧ Aside0 (i + kq = 25) ∧ Aside0 (iter (sumStep ls) kq i s = S) ∧ Aside0 (s.length = 5) ∧ Aside0 (w'.heap[gs]? = some (.cells (uarr .u64 ls) 134 (0, 0))) ∧ Aside0 (w'.heap[g2]? = some (.cells (uarr .i64 shifts_) 156 (0, 0))) ∧ Aside0 (w'.heap[g6]? = some (.cells (uarr .u64 s) 158 (0, 0))) ∧ Aside0 (w'.heap[g7]? = some (.cells (uarr .u64 z25) 134 (0, 0))) ∧ Aside0 (KB w w' gs))
   case atStart => exact ⟨0, z5, rfl, ⟨(by omega)⟩, HS0, ⟨rfl⟩, BKs, BK2, BK6, BK7, HK⟩
   case round =>
    clear HS0 BKs BK2 BK6 BK7 HK hj c1 c2
    obtain ⟨i, s, rfl, HJ1, HI1, HL1, BKs, BK2, BK6, BK7, HK⟩ := hrel
    cases gk with
    | zero =>
     have hj := HJ1.out
     have c1 : decide ((i : Int) < 25) = false := decide_eq_false (by omega)
     have c2 : decide (i < 25) = false := decide_eq_false (by omega)
     have hi : s = S := HI1.out
     subst hi
     clear HI1 hj HL1 HJ1
     go_wp2
     clear c1 c2
     generalize hM : moved_ ls s = M
     have HMD := am_ hM
     have HML := am_ (show M.length = 25 from hM ▸ moved_length ls s)
     unfold moved_ at hM
     have HM0 := am_ hM
     clear hM
     go_loopg [42] 25 (fun kq v42 w' => ∃ (i : Nat) (m : List Int), v42 = .int .i64 i ∧ Aside0 (i + kq = 25) ∧ Aside0 (iter (movStep ls s) kq i m = M) ∧ Aside0 (m.length = 25) ∧ Aside0 (w'.heap[gs]? = some (.cells (uarr .u64 ls) 134 (0, 0))) ∧ Aside0 (w'.heap[g2]? = some (.cells (uarr .i64 shifts_) 156 (0, 0))) ∧ Aside0 (w'.heap[g6]? = some (.cells (uarr .u64 s) 158 (0, 0))) ∧ Aside0 (w'.heap[g7]? = some (.cells (uarr .u64 m) 134 (0, 0))) ∧ Aside0 (KB w w' gs))
     case atStart => exact ⟨0, z25, rfl, ⟨(by omega)⟩, HM0, ⟨rfl⟩, BKs, BK2, BK6, BK7, HK⟩
     case round =>
      clear HM0 BKs BK2 BK6 BK7 HK
      obtain ⟨i, m, rfl, HJ1, HI1, HL1, BKs, BK2, BK6, BK7, HK⟩ := hrel
      cases gk with
      | zero =>
       have hj := HJ1.out
       have c1 : decide ((i : Int) < 25) = false := decide_eq_false (by omega)
       have c2 : decide (i < 25) = false := decide_eq_false (by omega)
       have hi : m = M := HI1.out
       subst hi
       have hml := HML.out
       clear HI1 hj HL1 HJ1
       go_wp2_with (first | ((with_reducible refine gate_dst (N := 82) rfl ?_); go_must (refine wpList_load_row rfl 134 _ rfl g7 rfl 134 (uarr .u64 m) (0, 0) _ BK7.out hu91 rfl (by rw [uarr_size, hml]; kernel_rfl) ?_)))
       clear c1 c2 BK6
       generalize hN : new_ m ls = L2
       have HND := am_ hN
       have HNL := am_ (show L2.length = 25 from hN ▸ (new_length m ls).trans HLEN.out)
       unfold new_ at hN
       have HN0 := am_ hN
       clear hN
       go_loopg [83] 25 (fun kq v83 w' => ∃ (i : Nat) (l : List Int), v83 = .int .i64 i ∧ Aside0 (i + kq = 25) ∧ Aside0 (iter (newStep m) kq i l = L2) ∧ Aside0 (l.length = 25) ∧ Aside0 (w'.heap[gs]? = some (.cells (uarr .u64 l) 134 (0, 0))) ∧ Aside0 (w'.heap[g2]? = some (.cells (uarr .i64 shifts_) 156 (0, 0))) ∧ Aside0 (w'.heap[g7]? = some (.cells (uarr .u64 m) 134 (0, 0))) ∧ Aside0 (KB w w' gs))
       case atStart => exact ⟨0, ls, rfl, ⟨(by omega)⟩, HN0, HLEN, BKs, BK2, BK7, HK⟩
       case round =>
        clear HN0 BKs BK2 BK7 HK
        obtain ⟨i, l, rfl, HJ1, HI1, HL1, BKs, BK2, BK7, HK⟩ := hrel
        cases gk with
        | zero =>
         have hj := HJ1.out
         have c1 : decide ((i : Int) < 25) = false := decide_eq_false (by omega)
         have c2 : decide (i < 25) = false := decide_eq_false (by omega)
         have hi : l = L2 := HI1.out
         subst hi
         clear HI1 hj HJ1
         have hl1 := HL1.out
         have hs0 := row_cell BKs.out (i := 0) (by rw [hl1]; decide)
         have hf0 := blk_frozen BKs.out 0
         have hr : roundStep r ls = l.set 0 (Go.bits .xor .u64 (l.getD 0 0) cst) := by
          unfold roundStep roundEnd
          rw [HSD.out, HMD.out, HND.out, ← HCST.out]
          rfl
         have hh := HI2.out
         rw [hr] at hh
         have HI3 := am_ hh
         have HL3 := am_ (show (l.set 0 (Go.bits .xor .u64 (l.getD 0 0) cst)).length = 25 by rw [List.length_set]; exact hl1)
         clear hr hh hl1 HL1
         go_wp2
         clear c1 c2
         refine start_ (n := 9) (S := fun w' => w'.cell? ⟨gs, 0, none⟩ = some (.int .u64 (l.getD 0 0))) (ds := [8]) #[false, false, false, false, false, false, false, false, false] (by kernel_rfl) rfl rfl hs0 (fun hHeld => ?_)
         refine pure_ (i := 0) (N := some 115) (v := ?_) (a' := ?_) #[true, false, false, false, false, false, false, false, false] rfl rfl (by kernel_rfl) (fun _ _ _ h => h) (Or.inl ⟨(by rfl), ?_⟩) ?_ ?_
         rotate_left
         ·
          intro w'
          go_simp
          with_reducible rfl
         rotate_left
         ·
          exact ap_
         refine pure_ (i := 1) (N := some 116) (v := ?_) (a' := ?_) #[true, true, false, false, false, false, false, false, false] rfl rfl (by kernel_rfl) (fun _ _ _ h => h) (Or.inl ⟨(by rfl), ?_⟩) ?_ ?_
         rotate_left
         ·
          intro w'
          go_simp
          with_reducible rfl
         rotate_left
         ·
          exact ap_
         refine pure_ (i := 2) (N := some 117) (v := ?_) (a' := ?_) #[true, true, true, false, false, false, false, false, false] rfl rfl (by kernel_rfl) (fun _ _ _ h => h) (Or.inl ⟨(by rfl), ?_⟩) ?_ ?_
         rotate_left
         ·
          intro w'
          go_simp
          with_reducible rfl
         rotate_left
         ·
          exact ap_
         refine take_ (i := 3) (N := some 118) (v := ?_) (a' := ?_) #[true, true, true, true, false, false, false, false, false] rfl rfl (by kernel_rfl) (fun _ _ _ h => h) (Or.inl ⟨(by rfl), ?_⟩) hHeld ?_ ?_
         rotate_left
         ·
          rintro w' s0
          go_simp
          with_reducible rfl
         rotate_left
         ·
          exact ap_
         refine pure_ (i := 4) (N := some 119) (v := ?_) (a' := ?_) #[true, true, true, true, true, false, false, false, false] rfl rfl (by kernel_rfl) (fun _ _ _ h => h) (Or.inl ⟨(by rfl), ?_⟩) ?_ ?_
         rotate_left
         ·
          intro w'
          go_simp
          with_reducible rfl
         rotate_left
         ·
          exact ap_
         refine pure_ (i := 5) (N := some 120) (v := ?_) (a' := ?_) #[true, true, true, true, true, true, false, false, false] rfl rfl (by kernel_rfl) (fun _ _ _ h => h) (Or.inl ⟨(by rfl), ?_⟩) ?_ ?_
         rotate_left
         ·
          intro w'
          go_simp
          with_reducible rfl
         rotate_left
         ·
          exact ap_
         refine pure_ (i := 6) (N := some 121) (v := ?_) (a' := ?_) #[true, true, true, true, true, true, true, false, false] rfl rfl (by kernel_rfl) (fun _ _ _ h => h) (Or.inl ⟨(by rfl), ?_⟩) ?_ ?_
         rotate_left
         ·
          intro w'
          go_simp
          with_reducible rfl
         rotate_left
         ·
          exact ap_
         refine pure_ (i := 7) (N := some 122) (v := ?_) (a' := ?_) #[true, true, true, true, true, true, true, true, false] rfl rfl (by kernel_rfl) (fun _ _ _ h => h) (Or.inl ⟨(by rfl), ?_⟩) ?_ ?_
         rotate_left
         ·
          intro w'
          go_simp
          with_reducible rfl
         rotate_left
         ·
          exact ap_
         refine last_ (i := 8) (N := none) #[true, true, true, true, true, true, true, true, true] rfl rfl (by kernel_rfl) (by decide) (fun K hK => ?_)
         refine skip_ (w1 := ?_) (by rfl) rfl ?_ ?_
         rotate_left
         ·
          go_simp
          rfl
         refine hK.out _ _ ?_
         clear hK K
         refine done_ (by kernel_rfl) ?_
         go_wp2
         go_roundg k1
         case measure => omega
         case rel => exact ⟨r + 1, _, by first | rfl | go_num | (rw [w64_ (by have := HJ.out; omega) (by have := HJ.out; omega)]; rfl), ⟨(by have := HJ.out; omega)⟩, HI3, HL3, ⟨(by (with_reducible repeat (first | refine blk_drewN ?_ _ | refine blk_drew ?_)); exact row_put (by exact BKs.out) _ _)⟩, ⟨by (with_reducible repeat (first | refine blk_drewN ?_ _ | refine blk_drew ?_)); exact blk_far (by exact BK2.out) (p := ⟨gs, _, none⟩) NE2_s.out _⟩, ⟨(by first | exact (HK.out.set (.inl rfl)).drew | exact HK.out.set (.inl rfl))⟩⟩
        | succ k2 =>
         have hj := HJ1.out
         have hl1 := HL1.out
         have hml := HML.out
         have c1 : decide ((i : Int) < 25) = true := decide_eq_true (by omega)
         have c2 : decide (i < 25) = true := decide_eq_true (by omega)
         have ci : ((i : Int) < 25) = True := eq_true (by omega)
         have cn : (i < 25) = True := eq_true (by omega)
         have hi25 : i < 25 := by omega
         have hix := index_row hu91 (xs := m) hml hi25 wr
         have hss := row_cell BKs.out (i := i) (by omega)
         have hfs := blk_frozen BKs.out i
         have hi := HI1.out
         rw [iter_succ, newStep_def] at hi
         clear HI1 hj
         obtain ⟨⟨f1, f2, hp⟩, f3, hq⟩ := mw hi25
         have f4 := mv3 hi25
         have f0 := mw0 hi25
         generalize hx : (i % 5 + 2) % 5 = x at hi f2 hp
         have f5 := mw2 hi25 hx
         clear hx
         generalize hy : (i % 5 + 1) % 5 = y at hi f3 hq
         have f6 := mv4 hi25 hy
         clear hy
         generalize i - i % 5 + x = p at hi f2 hp
         generalize i - i % 5 + y = q at hi f3 hq
         have hsp := row_cell BK7.out (i := p) (by rw [hml]; exact hp)
         have hsq := row_cell BK7.out (i := q) (by rw [hml]; exact hq)
         have HL2 := am_ (show ∀ v, (l.set i v).length = 25 from fun v => by rw [List.length_set]; exact hl1)
         generalize m.getD i 0 = A at hix hi
         generalize m.getD p 0 = B at hsp hi
         generalize m.getD q 0 = C at hsq hi
         have HI4 := am_ hi
         have pp := lt25 hp
         have pq := lt25 hq
         have pn := eq_true hp
         have qn := eq_true hq
         clear HL1 hl1 hml hi hp hq hi25
         go_wp2
         refine start_ (n := 22) (S := fun w' => w'.cell? ⟨g7, p, none⟩ = some (.int .u64 B) ∧ w'.cell? ⟨g7, q, none⟩ = some (.int .u64 C)) (ds := [21]) #[false, false, false, false, false, false, false, false, false, false, false, false, false, false, false, false, false, false, false, false, false, false] (by kernel_rfl) rfl rfl ⟨hsp, hsq⟩ (fun hHeld => ?_)
         refine pure_ (i := 0) (N := some 93) (v := ?_) (a' := ?_) #[true, false, false, false, false, false, false, false, false, false, false, false, false, false, false, false, false, false, false, false, false, false] rfl rfl (by kernel_rfl) (fun _ _ _ h => h) (Or.inl ⟨(by rfl), ?_⟩) ?_ ?_
         rotate_left
         ·
          intro w'
          go_simp
          with_reducible rfl
         rotate_left
         ·
          exact ap_
         refine pure_ (i := 1) (N := some 94) (v := ?_) (a' := ?_) #[true, true, false, false, false, false, false, false, false, false, false, false, false, false, false, false, false, false, false, false, false, false] rfl rfl (by kernel_rfl) (fun _ _ _ h => h) (Or.inl ⟨(by rfl), ?_⟩) ?_ ?_
         rotate_left
         ·
          intro w'
          go_simp
          with_reducible rfl
         rotate_left
         ·
          exact ap_
         refine pure_ (i := 2) (N := some 95) (v := ?_) (a' := ?_) #[true, true, true, false, false, false, false, false, false, false, false, false, false, false, false, false, false, false, false, false, false, false] rfl rfl (by kernel_rfl) (fun _ _ _ h => h) (Or.inl ⟨(by rfl), ?_⟩) ?_ ?_
         rotate_left
         ·
          intro w'
          go_simp
          with_reducible rfl
         rotate_left
         ·
          exact ap_
         refine pure_ (i := 3) (N := some 96) (v := ?_) (a' := ?_) #[true, true, true, true, false, false, false, false, false, false, false, false, false, false, false, false, false, false, false, false, false, false] rfl rfl (by kernel_rfl) (fun _ _ _ h => h) (Or.inl ⟨(by rfl), ?_⟩) ?_ ?_
         rotate_left
         ·
          intro w'
          go_simp
          with_reducible rfl
         rotate_left
         ·
          exact ap_
         refine pure_ (i := 4) (N := some 97) (v := ?_) (a' := ?_) #[true, true, true, true, true, false, false, false, false, false, false, false, false, false, false, false, false, false, false, false, false, false] rfl rfl (by kernel_rfl) (fun _ _ _ h => h) (Or.inl ⟨(by rfl), ?_⟩) ?_ ?_
         rotate_left
         ·
          intro w'
          go_simp
          with_reducible rfl
         rotate_left
         ·
          exact ap_
         refine pure_ (i := 5) (N := some 98) (v := ?_) (a' := ?_) #[true, true, true, true, true, true, false, false, false, false, false, false, false, false, false, false, false, false, false, false, false, false] rfl rfl (by kernel_rfl) (fun _ _ _ h => h) (Or.inl ⟨(by rfl), ?_⟩) ?_ ?_
         rotate_left
         ·
          intro w'
          go_simp
          with_reducible rfl
         rotate_left
         ·
          exact ap_
         refine pure_ (i := 6) (N := some 99) (v := ?_) (a' := ?_) #[true, true, true, true, true, true, true, false, false, false, false, false, false, false, false, false, false, false, false, false, false, false] rfl rfl (by kernel_rfl) (fun _ _ _ h => h) (Or.inl ⟨(by rfl), ?_⟩) ?_ ?_
         rotate_left
         ·
          intro w'
          go_simp
          with_reducible rfl
         rotate_left
         ·
          exact ap_
         refine pure_ (i := 7) (N := some 100) (v := ?_) (a' := ?_) #[true, true, true, true, true, true, true, true, false, false, false, false, false, false, false, false, false, false, false, false, false, false] rfl rfl (by kernel_rfl) (fun _ _ _ h => h) (Or.inl ⟨(by rfl), ?_⟩) ?_ ?_
         rotate_left
         ·
          intro w'
          go_simp
          with_reducible rfl
         rotate_left
         ·
          exact ap_
         refine pure_ (i := 8) (N := some 101) (v := ?_) (a' := ?_) #[true, true, true, true, true, true, true, true, true, false, false, false, false, false, false, false, false, false, false, false, false, false] rfl rfl (by kernel_rfl) (fun _ _ _ h => h) (Or.inl ⟨(by rfl), ?_⟩) ?_ ?_
         rotate_left
         ·
          intro w'
          go_simp
          with_reducible rfl
         rotate_left
         ·
          exact ap_
         refine take_ (i := 9) (N := some 102) (v := ?_) (a' := ?_) #[true, true, true, true, true, true, true, true, true, true, false, false, false, false, false, false, false, false, false, false, false, false] rfl rfl (by kernel_rfl) (fun _ _ _ h => h) (Or.inl ⟨(by rfl), ?_⟩) hHeld ?_ ?_
         rotate_left
         ·
          rintro w' ⟨s0, s1⟩
          go_simp
          with_reducible rfl
         rotate_left
         ·
          exact ap_
         refine pure_ (i := 10) (N := some 103) (v := ?_) (a' := ?_) #[true, true, true, true, true, true, true, true, true, true, true, false, false, false, false, false, false, false, false, false, false, false] rfl rfl (by kernel_rfl) (fun _ _ _ h => h) (Or.inl ⟨(by rfl), ?_⟩) ?_ ?_
         rotate_left
         ·
          intro w'
          go_simp
          with_reducible rfl
         rotate_left
         ·
          exact ap_
         refine pure_ (i := 11) (N := some 104) (v := ?_) (a' := ?_) #[true, true, true, true, true, true, true, true, true, true, true, true, false, false, false, false, false, false, false, false, false, false] rfl rfl (by kernel_rfl) (fun _ _ _ h => h) (Or.inl ⟨(by rfl), ?_⟩) ?_ ?_
         rotate_left
         ·
          intro w'
          go_simp
          with_reducible rfl
         rotate_left
         ·
          exact ap_
         refine pure_ (i := 12) (N := some 105) (v := ?_) (a' := ?_) #[true, true, true, true, true, true, true, true, true, true, true, true, true, false, false, false, false, false, false, false, false, false] rfl rfl (by kernel_rfl) (fun _ _ _ h => h) (Or.inl ⟨(by rfl), ?_⟩) ?_ ?_
         rotate_left
         ·
          intro w'
          go_simp
          with_reducible rfl
         rotate_left
         ·
          exact ap_
         refine pure_ (i := 13) (N := some 106) (v := ?_) (a' := ?_) #[true, true, true, true, true, true, true, true, true, true, true, true, true, true, false, false, false, false, false, false, false, false] rfl rfl (by kernel_rfl) (fun _ _ _ h => h) (Or.inl ⟨(by rfl), ?_⟩) ?_ ?_
         rotate_left
         ·
          intro w'
          go_simp
          with_reducible rfl
         rotate_left
         ·
          exact ap_
         refine pure_ (i := 14) (N := some 107) (v := ?_) (a' := ?_) #[true, true, true, true, true, true, true, true, true, true, true, true, true, true, true, false, false, false, false, false, false, false] rfl rfl (by kernel_rfl) (fun _ _ _ h => h) (Or.inl ⟨(by rfl), ?_⟩) ?_ ?_
         rotate_left
         ·
          intro w'
          go_simp
          with_reducible rfl
         rotate_left
         ·
          exact ap_
         refine pure_ (i := 15) (N := some 108) (v := ?_) (a' := ?_) #[true, true, true, true, true, true, true, true, true, true, true, true, true, true, true, true, false, false, false, false, false, false] rfl rfl (by kernel_rfl) (fun _ _ _ h => h) (Or.inl ⟨(by rfl), ?_⟩) ?_ ?_
         rotate_left
         ·
          intro w'
          go_simp
          with_reducible rfl
         rotate_left
         ·
          exact ap_
         refine take_ (i := 16) (N := some 109) (v := ?_) (a' := ?_) #[true, true, true, true, true, true, true, true, true, true, true, true, true, true, true, true, true, false, false, false, false, false] rfl rfl (by kernel_rfl) (fun _ _ _ h => h) (Or.inl ⟨(by rfl), ?_⟩) hHeld ?_ ?_
         rotate_left
         ·
          rintro w' ⟨s0, s1⟩
          go_simp
          with_reducible rfl
         rotate_left
         ·
          exact ap_
         refine pure_ (i := 17) (N := some 110) (v := ?_) (a' := ?_) #[true, true, true, true, true, true, true, true, true, true, true, true, true, true, true, true, true, true, false, false, false, false] rfl rfl (by kernel_rfl) (fun _ _ _ h => h) (Or.inl ⟨(by rfl), ?_⟩) ?_ ?_
         rotate_left
         ·
          intro w'
          go_simp
          with_reducible rfl
         rotate_left
         ·
          exact ap_
         refine pure_ (i := 18) (N := some 111) (v := ?_) (a' := ?_) #[true, true, true, true, true, true, true, true, true, true, true, true, true, true, true, true, true, true, true, false, false, false] rfl rfl (by kernel_rfl) (fun _ _ _ h => h) (Or.inl ⟨(by rfl), ?_⟩) ?_ ?_
         rotate_left
         ·
          intro w'
          go_simp
          with_reducible rfl
         rotate_left
         ·
          exact ap_
         refine pure_ (i := 19) (N := some 112) (v := ?_) (a' := ?_) #[true, true, true, true, true, true, true, true, true, true, true, true, true, true, true, true, true, true, true, true, false, false] rfl rfl (by kernel_rfl) (fun _ _ _ h => h) (Or.inl ⟨(by rfl), ?_⟩) ?_ ?_
         rotate_left
         ·
          intro w'
          go_simp
          with_reducible rfl
         rotate_left
         ·
          exact ap_
         refine pure_ (i := 20) (N := some 113) (v := ?_) (a' := ?_) #[true, true, true, true, true, true, true, true, true, true, true, true, true, true, true, true, true, true, true, true, true, false] rfl rfl (by kernel_rfl) (fun _ _ _ h => h) (Or.inl ⟨(by rfl), ?_⟩) ?_ ?_
         rotate_left
         ·
          intro w'
          go_simp
          with_reducible rfl
         rotate_left
         ·
          exact ap_
         refine last_ (i := 21) (N := none) #[true, true, true, true, true, true, true, true, true, true, true, true, true, true, true, true, true, true, true, true, true, true] rfl rfl (by kernel_rfl) (by decide) (fun K hK => ?_)
         refine skip_ (w1 := ?_) (by rfl) rfl ?_ ?_
         rotate_left
         ·
          go_simp
          rfl
         refine hK.out _ _ ?_
         clear hK K
         refine done_ (by kernel_rfl) ?_
         clear f0 f1 f2 f3 f4 f5 f6
         go_wp2
         go_roundg k2
         case measure => omega
         case rel => exact ⟨i + 1, _, by first | rfl | (rw [w64_ (by have := HJ1.out; omega) (by have := HJ1.out; omega)]; rfl) | go_num, ⟨(by have := HJ1.out; omega)⟩, HI4, ⟨HL2.out _⟩, ⟨(by (with_reducible repeat (first | refine blk_drewN ?_ _ | refine blk_drew ?_)); exact row_put (by exact BKs.out) _ _)⟩, ⟨by (with_reducible repeat (first | refine blk_drewN ?_ _ | refine blk_drew ?_)); exact blk_far (by exact BK2.out) (p := ⟨gs, _, none⟩) NE2_s.out _⟩, ⟨by (with_reducible repeat (first | refine blk_drewN ?_ _ | refine blk_drew ?_)); exact blk_far (by exact BK7.out) (p := ⟨gs, _, none⟩) NE7_s.out _⟩, ⟨(by first | exact (HK.out.set (.inl rfl)).drew | exact HK.out.set (.inl rfl))⟩⟩
      | succ k2 =>
       have hj := HJ1.out
       have hl := HLEN.out
       have hl1 := HL1.out
       have hl6 := HSL.out
       have c1 : decide ((i : Int) < 25) = true := decide_eq_true (by omega)
       have c2 : decide (i < 25) = true := decide_eq_true (by omega)
       have ci : ((i : Int) < 25) = True := eq_true (by omega)
       have cn : (i < 25) = True := eq_true (by omega)
       have hi25 : i < 25 := by omega
       have hs := row_cell BKs.out (i := i) (by omega)
       have hi := HI1.out
       rw [iter_succ, movStep_def] at hi
       clear HI1 hj hl
       have f1 := mv1 hi25
       have f3 := mv3 hi25
       generalize hp : (i % 5 + 4) % 5 = p at hi
       have f2 := mv2 hi25 hp
       have hp5 := mv5 hp
       clear hp
       generalize hu : (i % 5 + 1) % 5 = u at hi
       have f4 := mv4 hi25 hu
       have hu5 := mv5 hu
       clear hu
       generalize hd : i / 5 + 5 * ((2 * (i % 5) + 3 * (i / 5)) % 5) = d at hi
       have f5 := mv6 hi25 hd
       have hd25 := mv7 hi25 hd
       clear hd
       have hs7 := row_cell BK7.out (i := d) (by rw [hl1]; exact hd25)
       have hf7 := blk_frozen BK7.out d
       have pd := lt25 hd25
       have dn := eq_true hd25
       have hs6p := row_cell BK6.out (i := p) (by rw [hl6]; exact hp5)
       have hs6u := row_cell BK6.out (i := u) (by rw [hl6]; exact hu5)
       have hs2 := row_cell BK2.out (i := i) hi25
       have HL2 := am_ (show ∀ v, (m.set d v).length = 25 from fun v => by rw [List.length_set]; exact hl1)
       generalize ls.getD i 0 = A at hs hi
       generalize s.getD p 0 = B at hs6p hi
       generalize s.getD u 0 = C at hs6u hi
       generalize shifts_.getD i 0 = D at hs2 hi
       have HI2 := am_ hi
       have pp := lt5 hp5
       have pu := lt5 hu5
       have pn := eq_true hp5
       have un := eq_true hu5
       clear HL1 hl1 hl6 hi hp5 hu5 hi25 hd25
       go_wp2
       refine start_ (n := 6) (S := fun w' => w'.cell? ⟨gs, i, none⟩ = some (.int .u64 A)) (ds := []) #[false, false, false, false, false, false] (by kernel_rfl) rfl rfl hs (fun hHeld => ?_)
       refine pure_ (i := 0) (N := some 44) (v := ?_) (a' := ?_) #[true, false, false, false, false, false] rfl rfl (by kernel_rfl) (fun _ _ _ h => h) (Or.inl ⟨(by rfl), ?_⟩) ?_ ?_
       rotate_left
       ·
        intro w'
        go_simp
        with_reducible rfl
       rotate_left
       ·
        exact ap_
       refine pure_ (i := 1) (N := some 45) (v := ?_) (a' := ?_) #[true, true, false, false, false, false] rfl rfl (by kernel_rfl) (fun _ _ _ h => h) (Or.inl ⟨(by rfl), ?_⟩) ?_ ?_
       rotate_left
       ·
        intro w'
        go_simp
        with_reducible rfl
       rotate_left
       ·
        exact ap_
       refine pure_ (i := 2) (N := some 46) (v := ?_) (a' := ?_) #[true, true, true, false, false, false] rfl rfl (by kernel_rfl) (fun _ _ _ h => h) (Or.inl ⟨(by rfl), ?_⟩) ?_ ?_
       rotate_left
       ·
        intro w'
        go_simp
        with_reducible rfl
       rotate_left
       ·
        exact ap_
       refine take_ (i := 3) (N := some 47) (v := ?_) (a' := ?_) #[true, true, true, true, false, false] rfl rfl (by kernel_rfl) (fun _ _ _ h => h) (Or.inl ⟨(by rfl), ?_⟩) hHeld ?_ ?_
       rotate_left
       ·
        rintro w' s0
        go_simp
        with_reducible rfl
       rotate_left
       ·
        exact ap_
       refine pure_ (i := 4) (N := some 10) (v := ?_) (a' := ?_) #[true, true, true, true, true, false] rfl rfl (by kernel_rfl) (fun _ _ _ h => h) (Or.inl ⟨(by rfl), ?_⟩) ?_ ?_
       rotate_left
       ·
        intro w'
        go_simp
        with_reducible rfl
       rotate_left
       ·
        exact ap_
       refine pure_ (i := 5) (N := some 11) (v := ?_) (a' := ?_) #[true, true, true, true, true, true] rfl rfl (by kernel_rfl) (fun _ _ _ h => h) (Or.inl ⟨(by rfl), ?_⟩) ?_ ?_
       rotate_left
       ·
        intro w'
        go_simp
        with_reducible rfl
       rotate_left
       ·
        exact ap_
       refine done_ (by kernel_rfl) ?_
       go_wp2
       refine start_ (n := 15) (S := fun w' => w'.cell? ⟨g6, p, none⟩ = some (.int .u64 B) ∧ w'.cell? ⟨g6, u, none⟩ = some (.int .u64 C)) (ds := []) #[false, false, false, false, false, false, false, false, false, false, false, false, false, false, false] (by kernel_rfl) rfl rfl ⟨hs6p, hs6u⟩ (fun hHeld => ?_)
       refine pure_ (i := 0) (N := some 52) (v := ?_) (a' := ?_) #[true, false, false, false, false, false, false, false, false, false, false, false, false, false, false] rfl rfl (by kernel_rfl) (fun _ _ _ h => h) (Or.inl ⟨(by rfl), ?_⟩) ?_ ?_
       rotate_left
       ·
        intro w'
        go_simp
        with_reducible rfl
       rotate_left
       ·
        exact ap_
       refine pure_ (i := 1) (N := some 53) (v := ?_) (a' := ?_) #[true, true, false, false, false, false, false, false, false, false, false, false, false, false, false] rfl rfl (by kernel_rfl) (fun _ _ _ h => h) (Or.inl ⟨(by rfl), ?_⟩) ?_ ?_
       rotate_left
       ·
        intro w'
        go_simp
        with_reducible rfl
       rotate_left
       ·
        exact ap_
       refine pure_ (i := 2) (N := some 54) (v := ?_) (a' := ?_) #[true, true, true, false, false, false, false, false, false, false, false, false, false, false, false] rfl rfl (by kernel_rfl) (fun _ _ _ h => h) (Or.inl ⟨(by rfl), ?_⟩) ?_ ?_
       rotate_left
       ·
        intro w'
        go_simp
        with_reducible rfl
       rotate_left
       ·
        exact ap_
       refine pure_ (i := 3) (N := some 55) (v := ?_) (a' := ?_) #[true, true, true, true, false, false, false, false, false, false, false, false, false, false, false] rfl rfl (by kernel_rfl) (fun _ _ _ h => h) (Or.inl ⟨(by rfl), ?_⟩) ?_ ?_
       rotate_left
       ·
        intro w'
        go_simp
        with_reducible rfl
       rotate_left
       ·
        exact ap_
       refine pure_ (i := 4) (N := some 56) (v := ?_) (a' := ?_) #[true, true, true, true, true, false, false, false, false, false, false, false, false, false, false] rfl rfl (by kernel_rfl) (fun _ _ _ h => h) (Or.inl ⟨(by rfl), ?_⟩) ?_ ?_
       rotate_left
       ·
        intro w'
        go_simp
        with_reducible rfl
       rotate_left
       ·
        exact ap_
       refine take_ (i := 5) (N := some 57) (v := ?_) (a' := ?_) #[true, true, true, true, true, true, false, false, false, false, false, false, false, false, false] rfl rfl (by kernel_rfl) (fun _ _ _ h => h) (Or.inl ⟨(by rfl), ?_⟩) hHeld ?_ ?_
       rotate_left
       ·
        rintro w' ⟨s0, s1⟩
        go_simp
        with_reducible rfl
       rotate_left
       ·
        exact ap_
       refine pure_ (i := 6) (N := some 58) (v := ?_) (a' := ?_) #[true, true, true, true, true, true, true, false, false, false, false, false, false, false, false] rfl rfl (by kernel_rfl) (fun _ _ _ h => h) (Or.inl ⟨(by rfl), ?_⟩) ?_ ?_
       rotate_left
       ·
        intro w'
        go_simp
        with_reducible rfl
       rotate_left
       ·
        exact ap_
       refine pure_ (i := 7) (N := some 59) (v := ?_) (a' := ?_) #[true, true, true, true, true, true, true, true, false, false, false, false, false, false, false] rfl rfl (by kernel_rfl) (fun _ _ _ h => h) (Or.inl ⟨(by rfl), ?_⟩) ?_ ?_
       rotate_left
       ·
        intro w'
        go_simp
        with_reducible rfl
       rotate_left
       ·
        exact ap_
       refine pure_ (i := 8) (N := some 60) (v := ?_) (a' := ?_) #[true, true, true, true, true, true, true, true, true, false, false, false, false, false, false] rfl rfl (by kernel_rfl) (fun _ _ _ h => h) (Or.inl ⟨(by rfl), ?_⟩) ?_ ?_
       rotate_left
       ·
        intro w'
        go_simp
        with_reducible rfl
       rotate_left
       ·
        exact ap_
       refine pure_ (i := 9) (N := some 61) (v := ?_) (a' := ?_) #[true, true, true, true, true, true, true, true, true, true, false, false, false, false, false] rfl rfl (by kernel_rfl) (fun _ _ _ h => h) (Or.inl ⟨(by rfl), ?_⟩) ?_ ?_
       rotate_left
       ·
        intro w'
        go_simp
        with_reducible rfl
       rotate_left
       ·
        exact ap_
       refine take_ (i := 10) (N := some 62) (v := ?_) (a' := ?_) #[true, true, true, true, true, true, true, true, true, true, true, false, false, false, false] rfl rfl (by kernel_rfl) (fun _ _ _ h => h) (Or.inl ⟨(by rfl), ?_⟩) hHeld ?_ ?_
       rotate_left
       ·
        rintro w' ⟨s0, s1⟩
        go_simp
        with_reducible rfl
       rotate_left
       ·
        exact ap_
       refine one_ (i := 11) (N := some 63) #[true, true, true, true, true, true, true, true, true, true, true, true, false, false, false] rfl rfl (by kernel_rfl) (by decide) (fun K hK => ?_)
       refine goes_ Try.func132 (by kernel_rfl) rfl #[.int .u64 C, .int .i64 1] (by rfl) rfl rfl qz13_ ?_
       with_reducible refine (bits_RotateLeft64.calls C 1 (rot C 1) _ (rot_eq C 1)).mono ?_
       rintro e w12 ⟨rfl, ⟨m1, rfl⟩⟩
       refine ⟨_, rfl, ?_⟩
       refine hK.out _ _ ⟨hs6p, hs6u⟩ (fun hHeld => ?_)
       clear hK K
       refine norm_ (a' := ?_) ?_ ?_
       rotate_left
       ·
        show Act.put _ (some 63) _ = _
        exact ap_
       refine pure_ (i := 12) (N := some 64) (v := ?_) (a' := ?_) #[true, true, true, true, true, true, true, true, true, true, true, true, true, false, false] rfl rfl (by kernel_rfl) (fun _ _ _ h => h) (Or.inl ⟨(by rfl), ?_⟩) ?_ ?_
       rotate_left
       ·
        intro w'
        go_simp
        with_reducible rfl
       rotate_left
       ·
        exact ap_
       refine pure_ (i := 13) (N := some 65) (v := ?_) (a' := ?_) #[true, true, true, true, true, true, true, true, true, true, true, true, true, true, false] rfl rfl (by kernel_rfl) (fun _ _ _ h => h) (Or.inl ⟨(by rfl), ?_⟩) ?_ ?_
       rotate_left
       ·
        intro w'
        go_simp
        with_reducible rfl
       rotate_left
       ·
        exact ap_
       refine pure_ (i := 14) (N := some 11) (v := ?_) (a' := ?_) #[true, true, true, true, true, true, true, true, true, true, true, true, true, true, true] rfl rfl (by kernel_rfl) (fun _ _ _ h => h) (Or.inl ⟨(by rfl), ?_⟩) ?_ ?_
       rotate_left
       ·
        intro w'
        go_simp
        with_reducible rfl
       rotate_left
       ·
        exact ap_
       refine done_ (by kernel_rfl) ?_
       clear f1 f2 f3 f4
       go_wp2_with (first | (go_at_call 132; (with_reducible refine (bits_RotateLeft64.calls _ _ _ _ (rot_eq _ _)).mono ?_); rintro e w13 ⟨rfl, ⟨m2, rfl⟩⟩))
       go_roundg k2
       case measure => omega
       case rel => exact ⟨i + 1, _, by first | rfl | (rw [w64_ (by have := HJ1.out; omega) (by have := HJ1.out; omega)]; rfl), ⟨(by have := HJ1.out; omega)⟩, HI2, ⟨HL2.out _⟩, ⟨by (with_reducible repeat (first | refine blk_drewN ?_ _ | refine blk_drew ?_)); exact blk_far (by exact BKs.out) (p := ⟨g7, _, none⟩) (Ne.symm NE7_s.out) _⟩, ⟨by (with_reducible repeat (first | refine blk_drewN ?_ _ | refine blk_drew ?_)); exact blk_far (by exact BK2.out) (p := ⟨g7, _, none⟩) (Ne.symm NE7_2.out) _⟩, ⟨by (with_reducible repeat (first | refine blk_drewN ?_ _ | refine blk_drew ?_)); exact blk_far (by exact BK6.out) (p := ⟨g7, _, none⟩) (Ne.symm NE7_6.out) _⟩, ⟨(by (with_reducible repeat (first | refine blk_drewN ?_ _ | refine blk_drew ?_)); exact row_put (by exact BK7.out) _ _)⟩, ⟨(by first | exact (HK.out.drewN _).set (.inr GE7.out) | exact ((HK.out.drewN _).set (.inr GE7.out)).drew | exact ((HK.out.drewN _).set (.inr GE7.out)).drewN _)⟩⟩
    | succ k2 =>
     have hj := HJ1.out
     have hl := HLEN.out
     have hl1 := HL1.out
     have c1 : decide ((i : Int) < 25) = true := decide_eq_true (by omega)
     have c2 : decide (i < 25) = true := decide_eq_true (by omega)
     have ci : ((i : Int) < 25) = True := eq_true (by omega)
     have cn : (i < 25) = True := eq_true (by omega)
     have hs := row_cell BKs.out (i := i) (by omega)
     have hs6 := row_cell BK6.out (i := i % 5) (by omega)
     have hf6 := blk_frozen BK6.out (i % 5)
     have q6 : ((i : Int) % 5 < 5) = True := eq_true (by omega)
     have HI2 := am_ (show iter (sumStep ls) k2 (i + 1) (s.set (i % 5) (xr (s.getD (i % 5) 0) (ls.getD i 0))) = S from HI1.out)
     have HL2 := am_ (show (s.set (i % 5) (xr (s.getD (i % 5) 0) (ls.getD i 0))).length = 5 by rw [List.length_set]; exact hl1)
     clear HI1 HL1 hl hl1
     generalize hA : ls.getD i 0 = A at hs HI2 HL2
     generalize hB : s.getD (i % 5) 0 = B at hs6 HI2 HL2
     clear hA hB
     go_wp2
     refine start_ (n := 6) (S := fun w' => w'.cell? ⟨gs, i, none⟩ = some (.int .u64 A)) (ds := []) #[false, false, false, false, false, false] (by kernel_rfl) rfl rfl hs (fun hHeld => ?_)
     refine pure_ (i := 0) (N := some 29) (v := ?_) (a' := ?_) #[true, false, false, false, false, false] rfl rfl (by kernel_rfl) (fun _ _ _ h => h) (Or.inl ⟨(by rfl), ?_⟩) ?_ ?_
     rotate_left
     ·
      intro w'
      go_simp
      with_reducible rfl
     rotate_left
     ·
      exact ap_
     refine pure_ (i := 1) (N := some 30) (v := ?_) (a' := ?_) #[true, true, false, false, false, false] rfl rfl (by kernel_rfl) (fun _ _ _ h => h) (Or.inl ⟨(by rfl), ?_⟩) ?_ ?_
     rotate_left
     ·
      intro w'
      go_simp
      with_reducible rfl
     rotate_left
     ·
      exact ap_
     refine pure_ (i := 2) (N := some 31) (v := ?_) (a' := ?_) #[true, true, true, false, false, false] rfl rfl (by kernel_rfl) (fun _ _ _ h => h) (Or.inl ⟨(by rfl), ?_⟩) ?_ ?_
     rotate_left
     ·
      intro w'
      go_simp
      with_reducible rfl
     rotate_left
     ·
      exact ap_
     refine take_ (i := 3) (N := some 32) (v := ?_) (a' := ?_) #[true, true, true, true, false, false] rfl rfl (by kernel_rfl) (fun _ _ _ h => h) (Or.inl ⟨(by rfl), ?_⟩) hHeld ?_ ?_
     rotate_left
     ·
      rintro w' s0
      go_simp
      with_reducible rfl
     rotate_left
     ·
      exact ap_
     refine pure_ (i := 4) (N := some 8) (v := ?_) (a' := ?_) #[true, true, true, true, true, false] rfl rfl (by kernel_rfl) (fun _ _ _ h => h) (Or.inl ⟨(by rfl), ?_⟩) ?_ ?_
     rotate_left
     ·
      intro w'
      go_simp
      with_reducible rfl
     rotate_left
     ·
      exact ap_
     refine pure_ (i := 5) (N := some 9) (v := ?_) (a' := ?_) #[true, true, true, true, true, true] rfl rfl (by kernel_rfl) (fun _ _ _ h => h) (Or.inl ⟨(by rfl), ?_⟩) ?_ ?_
     rotate_left
     ·
      intro w'
      go_simp
      with_reducible rfl
     rotate_left
     ·
      exact ap_
     refine done_ (by kernel_rfl) ?_
     go_wp2
     go_roundg k2
     case measure => omega
     case rel => exact ⟨i + 1, _, by first | rfl | go_num, ⟨(by omega)⟩, HI2, HL2, ⟨blk_drew (blk_far BKs.out (p := ⟨g6, _, none⟩) (Ne.symm NE6_s.out) _)⟩, ⟨blk_drew (blk_far BK2.out (p := ⟨g6, _, none⟩) (Ne.symm NE6_2.out) _)⟩, ⟨blk_drew (row_put BK6.out _ _)⟩, ⟨blk_drew (blk_far BK7.out (p := ⟨g6, _, none⟩) NE7_6.out _)⟩, ⟨(HK.out.set (.inr GE6.out)).drew⟩⟩
end Go.Proofs.Ytgookagndlfehaa.PT
end
section
/- text: words as bytes. -/
namespace Go.Proofs.Ytgookagndlfehaa.PT
open Go.RowKit Go.Proofs.YtgookagndlfehaaW.PrintWords Go.Proofs.YtgookagndlfehaaW.PrintLast Go.Proofs.YtgookagndlfehaaW.PrintMore
set_option linter.unusedVariables false
set_option linter.unusedSimpArgs false
def textStep (ls : List Int) (j : Nat) (out : List Int) : List Int := out ++ [(ls.getD (j / 8) 0 / 2 ^ (8 * (j % 8))) % 256]
def text_ (ls : List Int) : List Int := iter (textStep ls) 200 0 []
set_option maxHeartbeats 8000000 in
set_option maxRecDepth 100000 in
theorem impl_lanes_text.calls (g : Nat) (ls : List Int) (w : World) (hb0 : w.heap[g]? = some (.cells (uarr .u64 ls) 134 (0, 0))) (hlen : ls.length = 25) :
  Calls Try.prog 99 #[.pointer (some ⟨g, 0, none⟩)] w fun e w' => ∃ v0_ : Value, e = .returned v0_ ∧ Kd.R (Kd.int .u8) 5 w' w.heap.size (fun _ => True) v0_ (text_ ls) ∧ Below w.heap.size w w' := by
 have BK := am_ hb0
 have HLEN := am_ hlen
 have HB := am_ (Below.refl w.heap.size w)
 have hu91 := Try.underlying134
 clear hb0 hlen
 generalize htt : text_ ls = tt
 unfold text_ at htt
 have HTT := am_ htt
 clear htt
 go_enter Try.func99, Try.ntmps99
 go_wp2_with (first | ((with_reducible refine gate_dst (N := 5) rfl ?_); refine Kd.R_lit (Kd.int .u8) _ 5 ?hg (N := 5) ?hd (xs := ([] : List Int)) (inner := []) (ok := fun _ => True) (okp := fun _ => True) ?hr ?hp (fun _ hk => hk) trivial (Below.refl _ _) (Nat.le_refl _) (by simp) ?_; (case hd => rfl); (case hg => rfl); (case hr => first | (go_simp; done) | (go_simp; rfl)); (case hp => exact (Reps.none _ _)); intro v102 w3 ho4 hb hg_ hnew_; clear hg_ hnew_; have n0_ := am_ (Kd.R_lower ho4 (below_size qz2_)); have n1_ := am_ (below_step qz2_ hb); clear HB; have HO_3 := n0_; have HB := n1_; clear n0_ n1_; clear hb ho4))
 go_loopg [3, 6] 200 (fun kq v3 v6 w' => ∃ (j : Nat) (out : List Int), v6 = .int .i64 j ∧ Aside0 (j + kq = 200) ∧ Aside0 (iter (textStep ls) kq j out = tt) ∧ Aside0 (out.length = j) ∧ Aside0 (Kd.R (Kd.int .u8) 5 w' w.heap.size (fun _ => True) v3 out) ∧ Aside0 (Below w.heap.size w w'))
 case atStart => exact ⟨0, [], rfl, ⟨(by omega)⟩, HTT, ⟨rfl⟩, ⟨qz14_⟩, ⟨qz2_⟩⟩
 case round =>
  clear HO_3 HB
  obtain ⟨j, out, rfl, HJ, HI, HO, HO_3, HB⟩ := hrel
  cases gk with
  | zero =>
   have hj := HJ.out
   have c1 : decide ((j : Int) < 200) = false := decide_eq_false (by omega)
   have c2 : decide (j < 200) = false := decide_eq_false (by omega)
   have hi : out = tt := HI.out
   subst hi
   clear HI hj
   go_wp2
   go_ret
   exact ⟨_, (by first | rfl | (simp; done)), qz14_, qz2_⟩
  | succ k1 =>
   have hj := HJ.out
   have hl := HLEN.out
   have c1 : decide ((j : Int) < 200) = true := decide_eq_true (by omega)
   have c2 : decide (j < 200) = true := decide_eq_true (by omega)
   have p5 : 0 ≤ (j : Int) := by omega
   have hs : wr.cell? ⟨g, j / 8, none⟩ = some (.int .u64 (ls.getD (j / 8) 0)) := row_cell (blk_below BK.out HB.out) (by omega)
   have qn : (j / 8 < 25) = True := eq_true (by omega)
   have qi : ((j : Int) / 8 < 25) = True := eq_true (by omega)
   have HI2 := am_ (show iter (textStep ls) k1 (j + 1) (out ++ [(ls.getD (j / 8) 0 / 2 ^ (8 * (j % 8))) % 256]) = tt from HI.out)
   clear HI hl
   generalize ls.getD (j / 8) 0 = v at hs HI2
   generalize hb : v / 2 ^ (8 * (j % 8)) = b at HI2
   go_wp2_with (first | ((with_reducible refine gate_builtin (b := .append) (xs := #[.tmp 9, .tmp 21]) rfl ?_); at_builtin; refine Kd.R_append (Kd.int .u8) (w0 := w) w.heap.size rfl (.tmp 9) (.tmp 21) 22 5 (.int .u8 0) 1 rfl Try.underlying22 info5 rfl (by decide) (by omega) u3 out (b % 256) [.int .u8 (b % 256)] (fun _ => True) (fun _ => False) rfl rfl ?aP (fun _ hk => hk.elim) ?aF ?aO ?aB ?aS ?aL ?_; (case aP => exact rfl); (case aB => exact qz2_); (case aF => exact (fun _ _ => trivial)); (case aO => exact qz14_); (case aS => exact (below_size qz2_)); (case aL => have := HO.out; omega); intro v105 w10 ho hb hg hat; have n0_ := am_ (hb); have n1_ := am_ (ho); clear HB; clear HO_3; have HB := n0_; have HO_3 := n1_; clear n0_ n1_; clear ho hb hg hat))
   go_roundg k1
   case measure => omega
   case rel => exact ⟨j + 1, out ++ [b % 256], by first | rfl | go_num, ⟨(by omega)⟩, HI2, ⟨(by have := HO.out; simp; omega)⟩, ⟨qz14_⟩, ⟨qz2_⟩⟩
end Go.Proofs.Ytgookagndlfehaa.PT
end
section
/- keccak: the hash of pieces. -/
namespace Go.Proofs.Ytgookagndlfehaa.PT
open Go.RowKit Go.Proofs.YtgookagndlfehaaW.PrintWords Go.Proofs.YtgookagndlfehaaW.PrintLast Go.Proofs.YtgookagndlfehaaW.PrintMore
set_option linter.unusedVariables false
set_option linter.unusedSimpArgs false
def Pieces (w : World) (A : Option Addr) (ps : List (List Int)) : Prop := ∀ j (h : j < ps.length), ∃ ad B c, A = some ad ∧ w.cell? (ad.add j) = some (.slice B ps[j].length c) ∧ (Kd.int .u8).C w B ps[j].length ps[j]
def padN (n : Nat) : Nat := (136 - n % 136) % 136
def xorInto (l : List Int) (i : Nat) (s : List Int) : List Int := s.set i (xr (s.getD i 0) (l.getD i 0))
def xors (l s : List Int) : List Int := iter (xorInto l) 25 0 s
def sponge : Nat → List Int → List Int → List Int
 | 0, _, s => s
 | k + 1, ys, s => sponge k (ys.drop 136) (perm (xors (lanes_ (ys.take 136)) s))
def mark (ys : List Int) : List Int := ys.set (ys.length - 1) (Go.bits .or .u8 (rdOf 0 ys ((ys.length - 1 : Nat) : Int)) 128)
theorem text_len (ls : List Int) : ∀ k j x, (iter (textStep ls) k j x).length = x.length + k
 | 0, _, _ => rfl
 | k + 1, j, x => by rw [iter_succ, text_len ls k (j + 1)]; unfold textStep; rw [List.length_append]; simp; omega
theorem text_length (ls : List Int) : (text_ ls).length = 200 := by unfold text_; rw [text_len]; rfl
theorem xors_length (l s : List Int) : (xors l s).length = s.length := iter_length (fun j x => by simp [xorInto]) 25 0 s
theorem padN_spec (n : Nat) : (n + padN n) % 136 = 0 ∧ padN n < 136 := by unfold padN; omega
def padded (xs : List Int) : List Int := xs ++ [1] ++ List.replicate (padN (xs.length + 1)) 0
def kec (xs : List Int) : ByteArray := strOfNums ((text_ (sponge ((padded xs).length / 136) (mark (padded xs)) z25)).take 32)
theorem padded_length {xs : List Int} (h : xs.length ≤ 4000000) : (padded xs).length % 136 = 0 ∧ (padded xs).length ≤ 4000200 := by
 unfold padded
 rw [List.length_append, List.length_append, List.length_replicate]
 have := padN_spec (xs.length + 1)
 simp only [List.length_cons, List.length_nil]
 omega
theorem cap32 {ls : List Int} {w : World} {base g c : Nat} (h : Kd.R (Kd.int .u8) 5 w base (fun _ => True) (.slice (some ⟨g, 0, none⟩) (text_ ls).length c) (text_ ls)) : ((32 : Int) ≤ (c : Int)) = True := by
 have := (Kd.R_reads' h).2.1
 rw [text_length] at this
 exact eq_true (by omega)
theorem cap32' {ls : List Int} {w : World} {base g c : Nat} (h : Kd.R (Kd.int .u8) 5 w base (fun _ => True) (.slice (some ⟨g, 0, none⟩) (text_ ls).length c) (text_ ls)) : (32 ≤ c) = True := by
 have := (Kd.R_reads' h).2.1
 rw [text_length] at this
 exact eq_true (by omega)
theorem conv32 {ls : List Int} {w : World} {base g c : Nat} (h : Kd.R (Kd.int .u8) 5 w base (fun _ => True) (.slice (some ⟨g, 0, none⟩) (text_ ls).length c) (text_ ls)) : (convert 22 9 (.slice (some ⟨g, 0, none⟩) 32 c)).run Try.prog w = .ok (.string (strOfNums ((text_ ls).take 32))) w := by
 have hl := text_length ls
 refine run_convert_bytes_arg w 22 5 Try.underlying22 Try.underlying5 g 0 32 c ((text_ ls).take 32) (by rw [List.length_take]; omega) (fun i hi => ?_) 9 Try.underlying9
 have h1 := (Kd.R_celln 0 h (i : Int) (by omega) (by omega)).1
 rw [Int.toNat_natCast] at h1
 rw [Nat.zero_add, h1]
 simp [rdOf, List.getD, List.getElem?_take, hi]
set_option maxHeartbeats 8000000 in
set_option maxRecDepth 100000 in
theorem impl_keccak.walk (A0 : Option Addr) (c0 : Nat) (ps : List (List Int)) (w : World) (hp0 : Pieces w A0 ps) (hl0 : ps.flatten.length ≤ 4000000) (hn0 : ps.length ≤ 1000000) :
  Calls Try.prog 56 #[.slice A0 ps.length c0] w fun e w' => e = .returned (.string (kec ps.flatten)) ∧ Below w.heap.size w w' := by
 have HP := am_ hp0
 have HL := am_ hl0
 have HN := am_ hn0
 have HB := am_ (Below.refl w.heap.size w)
 clear hp0 hl0 hn0
 generalize hall : ps.flatten = all at HL ⊢
 have HALL := am_ hall
 clear hall
 go_enter Try.func56, Try.ntmps56
 go_wp2_with (first | ((with_reducible refine gate_dst (N := 9) rfl ?_); refine Kd.R_lit (Kd.int .u8) _ 5 ?hg (N := 9) ?hd (xs := ([] : List Int)) (inner := []) (ok := fun _ => True) (okp := fun _ => True) ?hr ?hp (fun _ hk => hk) trivial (Below.refl _ _) (Nat.le_refl _) (by simp) ?_; (case hd => rfl); (case hg => rfl); (case hr => first | (go_simp; done) | (go_simp; rfl)); (case hp => exact (Reps.none _ _)); intro v102 w3 ho4 hb hg_ hnew_; clear hg_ hnew_; have n0_ := am_ (Kd.R_lower ho4 (below_size qz2_)); have n1_ := am_ (below_step qz2_ hb); clear HB; have HO_3 := n0_; have HB := n1_; clear n0_ n1_; clear hb ho4))
 go_loopg [3, 12] ps.length (fun kq v3 v12 w' => ∃ (j : Nat) (out : List Int), v12 = .int .i64 j ∧ Aside0 (j + kq = ps.length) ∧ Aside0 (out ++ (ps.drop j).flatten = all) ∧ Aside0 (Kd.R (Kd.int .u8) 5 w' w.heap.size (fun _ => True) v3 out) ∧ Aside0 (Below w.heap.size w w'))
 case atStart => exact ⟨0, [], rfl, ⟨(by omega)⟩, ⟨HALL.out⟩, ⟨qz14_⟩, ⟨qz2_⟩⟩
 case round =>
  clear HO_3 HB
  obtain ⟨j, out, rfl, HJ, HI, HO_3, HB⟩ := hrel
  cases gk with
  | zero =>
   have hj := HJ.out
   have c1 : decide ((j : Int) < (ps.length : Int)) = false := decide_eq_false (by omega)
   have c2 : decide (j < ps.length) = false := decide_eq_false (by omega)
   have hi := HI.out
   rw [List.drop_eq_nil_of_le (by omega), List.flatten_nil, List.append_nil] at hi
   subst hi
   clear HI hj
   go_wp2_with (first | ((with_reducible refine gate_builtin (b := .append) (xs := #[.tmp 20, .tmp 21]) rfl ?_); at_builtin; refine Kd.R_append (Kd.int .u8) (w0 := w) w.heap.size rfl (.tmp 20) (.tmp 21) 22 5 (.int .u8 0) 1 rfl Try.underlying22 info5 rfl (by decide) (by omega) u3 out 1 [.int .u8 1] (fun _ => True) (fun _ => False) rfl rfl ?aP (fun _ hk => hk.elim) ?aF ?aO ?aB ?aS ?aL ?_; (case aP => exact rfl); (case aB => exact qz2_); (case aF => exact (fun _ _ => trivial)); (case aO => exact qz14_); (case aS => exact (below_size qz2_)); (case aL => have := HL.out; omega); intro v105 w10 ho hb hg hat; have n0_ := am_ (hb); have n1_ := am_ (ho); clear HB; clear HO_3; have HB := n0_; have HO_3 := n1_; clear n0_ n1_; clear ho hb hg hat))
   clear c1 c2
   generalize hpd : padded out = pd
   have HPD := am_ hpd
   have HM := am_ (show pd.length % 136 = 0 ∧ pd.length ≤ 4000200 by rw [← hpd]; exact padded_length HL.out)
   unfold padded at hpd
   have HP0 := am_ hpd
   clear hpd
   go_loopg [3] (padN (out.length + 1)) (fun kq v3 w' => ∃ (o : List Int), Aside0 (o ++ List.replicate kq 0 = pd) ∧ Aside0 (kq < 136) ∧ Aside0 (Kd.R (Kd.int .u8) 5 w' w.heap.size (fun _ => True) v3 o) ∧ Aside0 (Below w.heap.size w w'))
   case atStart => exact ⟨out ++ [1], HP0, ⟨Nat.mod_lt _ (by decide)⟩, ⟨qz14_⟩, ⟨qz2_⟩⟩
   case round =>
    clear HO_3 HB HP0
    obtain ⟨o, HI, HQ, HO_3, HB⟩ := hrel
    obtain ⟨A3, c3, rfl, hc3, _⟩ := Kd.R_reads HO_3.out
    have hle := congrArg List.length HI.out
    rw [List.length_append, List.length_replicate] at hle
    have hm := HM.out
    have hq := HQ.out
    cases gk with
    | zero =>
     have m1 : o.length % 136 = 0 := by omega
     have m2 : (o.length : Int) % 136 = 0 := by omega
     have hi : o = pd := by have h := HI.out; rw [List.replicate_zero, List.append_nil] at h; exact h
     subst hi
     have ho1 : 1 ≤ o.length := by have h2 := congrArg List.length HPD.out; unfold padded at h2; simp only [List.length_append, List.length_cons, List.length_nil] at h2; omega
     have HOL := am_ (show o.length % 136 = 0 ∧ o.length ≤ 4000200 from HM.out)
     clear hle hm hq HI HQ
     obtain ⟨go, co, eo, gb, gl, cl, HG⟩ := Kd.R_form HO_3.out (by omega)
     (first | cases eo | (injection eo with ea_ en_ ec_; (first | subst ea_ | (injection ea_ with ea_; subst ea_)); subst ec_; clear en_))
     obtain ⟨n1, hn1⟩ : ∃ n1 : Nat, o.length - 1 = n1 := ⟨_, rfl⟩
     have e10 : wrap64 ((o.length : Int) - 1) = (n1 : Int) := by have := HOL.out; unfold wrap64; omega
     have q10 : (n1 : Int) < (o.length : Int) := by omega
     have q10n : n1 < o.length := by omega
     obtain ⟨hx10, hf10⟩ := Kd.R_celln 0 HO_3.out (n1 : Int) (by omega) q10
     rw [Int.toNat_natCast] at hx10 hf10
     have HPU := am_ (fun x => (Kd.R_putg HO_3.out (n1 : Int) x).1)
     simp only [Int.toNat_natCast] at HPU
     generalize hbe : rdOf 0 o (n1 : Int) = b at hx10
     have HBE := am_ hbe
     clear hbe
     have HCL := am_ (show o.length ≤ c3 from hc3)
     have GE := am_ gb
     have GG := am_ HG
     have HN1 := am_ hn1
     replace q10 := eq_true q10
     replace q10n := eq_true q10n
     clear gb gl HG ho1 hn1
     go_wp2_with (first | ((with_reducible refine gate_store (t := 5) (p := 37) (v := .tmp 36) rfl ?_); (refine store_event (t := 5) (p := 37) (v := .tmp 36) (w1 := wr.setCell ⟨go, n1, none⟩ (.int .u8 (Go.bits .or .u8 b 128))) rfl rfl rfl ?hr ?_); (case hr => first | (go_simp; done) | (go_simp; rfl)); (intro w13 hw); have n0_ := am_ (show Below w.heap.size w w13 by rw [hw]; exact below_set HB.out GE.out); have n1_ := am_ (show (Kd.int .u8).C w13 (some ⟨go, 0, none⟩) (o.set n1 (Go.bits .or .u8 b 128)).length (o.set n1 (Go.bits .or .u8 b 128)) by rw [hw]; exact (Kd.R_reads' (HPU.out _)).2.2); have n2_ := am_ (show go < w13.heap.size by rw [hw]; have := blk_lt GG.out; simpa [World.setCell] using this); clear HB HO_3 HPU hw; have HB := n0_; have HC := n1_; have GL := n2_; clear n0_ n1_ n2_) | ((with_reducible refine gate_dst (N := 6) rfl ?_); refine box_event ?hg (N := 6) ?hd (cs := uarr .u64 z25) (t := 134) ?hr ?_; (case hd => rfl); (case hg => rfl); (case hr => first | (go_simp; done) | (go_simp; rfl)); intro g6 hg w14 hbox hb; have n0_ := am_ (below_step HB.out hb); have n1_ := am_ (hbox); have n2_ := am_ ((by rw [hg]; exact (below_size HB.out)) : w.heap.size ≤ g6); have n3_ := am_ (show go ≠ g6 by rw [hg]; have := GL.out; omega); have n4_ := am_ (Kd.C_below HC.out hb); clear HB HC; have HB := n0_; have BK6 := n1_; have GE6 := n2_; have NEO := n3_; have HC := n4_; clear n0_ n1_ n2_ n3_ n4_; clear hb hbox hg) | ((with_reducible refine gate_store (p := 6) (v := .tmp 38) (t := 134) rfl ?_); go_must (refine wpList_store_row rfl 134 _ _ rfl g6 (uarr .u64 z25) rfl qz11_ 134 (uarr .u64 z25) BK6.out (by first | (rw [uarr_size, lanes_length]; kernel_rfl) | kernel_rfl) qz12_ (uarr_one _ _) ?_; generalize hw4 : World.setRow w14 g6 (uarr .u64 z25) = w15; have n0_ := am_ (show w15.heap[g6]? = some (.cells (uarr .u64 z25) 134 (0, 0)) by rw [← hw4]; exact setRow_heap _ _ _ _ _ _ BK6.out); have n1_ := am_ (Kd.C_keep (0 : Int) HC.out (show KeepBut w14 w15 g6 none from by rw [← hw4]; exact ⟨(by simp), fun i hi hg _ => setRow_other _ _ _ _ hg⟩) (fun ad e _ => by injection e with e; rw [← e]; exact NEO.out)); have n2_ := am_ (show Below w.heap.size w w15 by rw [← hw4]; exact below_setRow HB.out GE6.out _); clear hw4 BK6 HC HB; have BK6 := n0_; have HC := n1_; have HB := n2_; clear n0_ n1_ n2_)))
     generalize hmk : o.set n1 (Go.bits .or .u8 b 128) = mk at HC
     have hml : mk.length = o.length := by rw [← hmk, List.length_set]
     have HML := am_ hml
     have HMK := am_ hmk
     clear hmk hml e10 q10 q10n hx10 hf10 m1 m2
     generalize htt : sponge (o.length / 136) mk z25 = tt
     have HTT := am_ htt
     have HTD := am_ htt
     clear htt
     simp only [Act.put, List.setIfInBounds_toArray, List.set_cons_zero, List.set_cons_succ]
     go_loopg [3] (o.length / 136) (fun kq v3 w' => ∃ (A : Option Addr) (n c : Nat) (ys s : List Int), v3 = .slice A n c ∧ Aside0 (n = ys.length) ∧ Aside0 (n ≤ c) ∧ Aside0 (ys.length = 136 * kq) ∧ Aside0 (sponge kq ys s = tt) ∧ Aside0 ((Kd.int .u8).C w' A ys.length ys) ∧ Aside0 (∀ ad, A = some ad → 0 < ys.length → ad.block ≠ g6) ∧ Aside0 (s.length = 25) ∧ Aside0 (w'.heap[g6]? = some (.cells (uarr .u64 s) 134 (0, 0))) ∧ Aside0 (Below w.heap.size w w'))
     case atStart => exact ⟨_, _, _, mk, z25, rfl, ⟨HML.out.symm⟩, ⟨HCL.out⟩, ⟨(by rw [HML.out]; have := HOL.out; omega)⟩, HTT, HC, ⟨fun ad e _ => by injection e with e; rw [← e]; exact NEO.out⟩, ⟨rfl⟩, BK6, HB⟩
     case round =>
      clear HTT HC BK6 HB
      obtain ⟨A, n, c, ys, s, rfl, HNL, HCC, HY, HI, HC, HNE, HSL, BK6, HB⟩ := hrel
      have hnl := HNL.out
      have hy := HY.out
      have hcc := HCC.out
      cases gk with
      | zero =>
       obtain rfl : n = 0 := by omega
       have hi : s = tt := HI.out
       subst hi
       clear hnl hy hcc HI
       go_wp2_with (first | (go_at_call 99; (with_reducible refine (impl_lanes_text.calls g6 s _ BK6.out HSL.out).mono ?_); rintro e w16 ⟨v0, rfl, hR, hb⟩; (obtain ⟨g4, c4, rfl, _, _, _, _⟩ := Kd.R_form hR (by rw [text_length]; decide)); have hcv := conv32 hR; have d1 := cap32 hR; have d2 := cap32' hR; rw [text_length]; have n0_ := am_ (below_step HB.out hb); clear hR HB hb; have HB := n0_; clear n0_))
       go_ret
       refine ⟨?_, qz2_⟩
       have hk : strOfNums ((text_ s).take 32) = kec out := by
        unfold kec mark
        rw [HPD.out, HN1.out, HBE.out, HMK.out, HTD.out]
       rw [← hk]
       first | rfl | (simp; done)
      | succ k1 =>
       have c1 : decide (0 < (n : Int)) = true := decide_eq_true (by omega)
       have c2 : decide (0 < n) = true := decide_eq_true (by omega)
       have d1 : (0 < n) = True := eq_true (by omega)
       have d2 : ((136 : Int) ≤ (c : Int)) = True := eq_true (by omega)
       have d3 : (136 ≤ c) = True := eq_true (by omega)
       have ht : (ys.take 136).length = 136 := by rw [List.length_take]; omega
       have hC1 := Kd.C_take (m := 136) HC.out (by omega)
       have hCL := impl_lanesOf.calls A c (ys.take 136) wr hC1 (by omega) (by omega)
       rw [ht] at hCL
       have HCL2 := am_ hCL
       have HI2 := am_ (show sponge k1 (ys.drop 136) (perm (xors (lanes_ (ys.take 136)) s)) = tt from HI.out)
       clear hC1 hCL ht hnl hy hcc HI
       go_wp2_with (first | (go_at_call 97; (refine HCL2.out.mono ?_); rintro e w17 ⟨rfl, hb⟩; have n0_ := am_ (Kd.C_below HC.out hb); have n1_ := am_ (blk_below BK6.out hb); have n2_ := am_ (below_step HB.out hb); clear HC BK6 HB hb HCL2; have HC := n0_; have BK6 := n1_; have HB := n2_; clear n0_ n1_ n2_))
       have hll := lanes_length (ys.take 136)
       generalize lanes_ (ys.take 136) = l at HI2 hll ⊢
       have HLL := am_ hll
       clear hll
       generalize hX : xors l s = X at HI2
       have HXL := am_ (show X.length = 25 by rw [← hX, xors_length]; exact HSL.out)
       unfold xors at hX
       have HX := am_ hX
       clear hX c1 c2 d1 d2 d3
       go_loopg [47] 25 (fun kq v47 w' => ∃ (i : Nat) (t : List Int), v47 = .int .i64 i ∧ Aside0 (i + kq = 25) ∧ Aside0 (iter (xorInto l) kq i t = X) ∧ Aside0 (t.length = 25) ∧ Aside0 (KB w17 w' g6) ∧ Aside0 (w'.heap[g6]? = some (.cells (uarr .u64 t) 134 (0, 0))) ∧ Aside0 (Below w.heap.size w w'))
       case atStart => exact ⟨0, s, rfl, ⟨(by omega)⟩, HX, HSL, ⟨KB.refl _ _⟩, BK6, HB⟩
       case round =>
        clear HX BK6 HB
        obtain ⟨i, t, rfl, HJ1, HI1, HL1, HKB, BK6, HB⟩ := hrel
        cases gk with
        | zero =>
         have hj := HJ1.out
         have c1 : decide ((i : Int) < 25) = false := decide_eq_false (by omega)
         have c2 : decide (i < 25) = false := decide_eq_false (by omega)
         have hi : t = X := HI1.out
         subst hi
         have hnl := HNL.out
         have hy := HY.out
         have hcc := HCC.out
         have d1 : ((136 : Int) ≤ (n : Int)) = True := eq_true (by omega)
         have d2 : (136 ≤ n) = True := eq_true (by omega)
         have d3 : ((136 : Int) ≤ (c : Int)) = True := eq_true (by omega)
         have d4 : (136 ≤ c) = True := eq_true (by omega)
         have d5 : ((n : Int) ≤ (c : Int)) = True := eq_true (by omega)
         have d6 : (n ≤ c) = True := eq_true hcc
         clear HI1 hj HJ1 hnl hy hcc
         have HCD := am_ (fun w' (h : KB w17 w' g6) => Kd.C_drop (m := 136) (c := c) (Kd.C_keep (0 : Int) HC.out h.keep HNE.out) (by have := HY.out; omega) (by have := HNL.out; have := HCC.out; omega))
         by_cases h136 : c = 136
         ·
          subst h136
          go_wp2_with (first | (go_at_call 98; (with_reducible refine (impl_lanes_permute.calls g6 t _ BK6.out HL1.out).mono ?_); rintro e w18 ⟨rfl, hrow, hkb⟩; have n0_ := am_ hrow; have n1_ := am_ (HKB.out.trans hkb); have n2_ := am_ (hkb.onto HB.out (Nat.le_refl _) GE6.out); clear BK6 HKB HB hrow hkb; have BK6 := n0_; have HKB := n1_; have HB := n2_; clear n0_ n1_ n2_))
          go_roundg k1
          case measure => omega
          case rel => exact ⟨A, 0, 0, ys.drop 136, perm t, by first | rfl | (simp; done), ⟨(by rw [List.length_drop]; have := HNL.out; have := HCC.out; omega)⟩, ⟨(by omega)⟩, ⟨(by rw [List.length_drop, HY.out]; omega)⟩, HI2, ⟨(by have h := HCD.out _ HKB.out; rw [if_pos (by trivial)] at h; exact h)⟩, ⟨fun ad e h => by rw [List.length_drop] at h; exact HNE.out ad e (by omega)⟩, ⟨(perm_length _).trans HL1.out⟩, BK6, HB⟩
         ·
          have e136 := eq_false h136
          go_wp2_with (first | (go_at_call 98; (with_reducible refine (impl_lanes_permute.calls g6 t _ BK6.out HL1.out).mono ?_); rintro e w18 ⟨rfl, hrow, hkb⟩; have n0_ := am_ hrow; have n1_ := am_ (HKB.out.trans hkb); have n2_ := am_ (hkb.onto HB.out (Nat.le_refl _) GE6.out); clear BK6 HKB HB hrow hkb; have BK6 := n0_; have HKB := n1_; have HB := n2_; clear n0_ n1_ n2_))
          go_roundg k1
          case measure => omega
          case rel => exact ⟨A.map (fun x => ⟨x.block, x.off + 136, none⟩), n - 136, c - 136, ys.drop 136, perm t, by first | rfl | (simp; done), ⟨(by rw [List.length_drop, HNL.out])⟩, ⟨(by have := HCC.out; omega)⟩, ⟨(by rw [List.length_drop, HY.out]; omega)⟩, HI2, ⟨(by have h := HCD.out _ HKB.out; rw [if_neg h136] at h; exact h)⟩, ⟨fun ad e h => by cases A with | none => cases e | some a => (injection e with e; rw [← e]; rw [List.length_drop] at h; exact HNE.out a rfl (by omega))⟩, ⟨(perm_length _).trans HL1.out⟩, BK6, HB⟩
        | succ k2 =>
         have hj := HJ1.out
         have hl1 := HL1.out
         have c1 : decide ((i : Int) < 25) = true := decide_eq_true (by omega)
         have c2 : decide (i < 25) = true := decide_eq_true (by omega)
         have ci : ((i : Int) < 25) = True := eq_true (by omega)
         have cn : (i < 25) = True := eq_true (by omega)
         have hix := index_row Try.underlying134 (xs := l) HLL.out (show i < 25 by omega) wr
         have hs6 := row_cell BK6.out (i := i) (by omega)
         have hf6 := blk_frozen BK6.out i
         have hi := HI1.out
         rw [iter_succ] at hi
         unfold xorInto at hi
         have HL2 := am_ (show ∀ v, (t.set i v).length = 25 from fun v => by rw [List.length_set]; exact hl1)
         generalize l.getD i 0 = P at hix hi
         generalize t.getD i 0 = Q at hs6 hi
         have HI4 := am_ hi
         clear HI1 hj hl1 hi HL1
         go_wp2
         go_roundg k2
         case measure => omega
         case rel => exact ⟨i + 1, _, by first | rfl | go_num | (rw [w64_ (by have := HJ1.out; omega) (by have := HJ1.out; omega)]; rfl), ⟨(by have := HJ1.out; omega)⟩, HI4, ⟨HL2.out _⟩, ⟨HKB.out.set (.inl rfl)⟩, ⟨row_put BK6.out _ _⟩, ⟨below_set HB.out GE6.out⟩⟩
    | succ k1 =>
     have m1 : (o.length % 136 = 0) = False := eq_false (by omega)
     have m2 : ((o.length : Int) % 136 = 0) = False := eq_false (by omega)
     have m3 : ((o.length : Int) % 136 == 0) = false := beq_eq_false_iff_ne.mpr (by omega)
     have m4 : decide ((o.length : Int) % 136 = 0) = false := decide_eq_false (by omega)
     have HLO := am_ (show o.length ≤ 4000200 by omega)
     have HI2 := am_ (show (o ++ [0]) ++ List.replicate k1 0 = pd by rw [List.append_assoc]; exact HI.out)
     clear hle hm HI
     go_wp2_with (first | ((with_reducible refine gate_builtin (b := .append) (xs := #[.tmp 27, .tmp 28]) rfl ?_); at_builtin; refine Kd.R_append (Kd.int .u8) (w0 := w) w.heap.size rfl (.tmp 27) (.tmp 28) 22 5 (.int .u8 0) 1 rfl Try.underlying22 info5 rfl (by decide) (by omega) (.slice A3 o.length c3) o 0 [.int .u8 0] (fun _ => True) (fun _ => False) rfl rfl ?aP (fun _ hk => hk.elim) ?aF ?aO ?aB ?aS ?aL ?_; (case aP => exact rfl); (case aB => exact qz2_); (case aF => exact (fun _ _ => trivial)); (case aO => exact qz14_); (case aS => exact (below_size qz2_)); (case aL => have h1 := HLO.out; omega); intro v107 w12 ho hb hg hat; have n0_ := am_ (hb); have n1_ := am_ (ho); clear HB; clear HO_3; have HB := n0_; have HO_3 := n1_; clear n0_ n1_; clear ho hb hg hat))
     go_roundg k1
     case measure => omega
     case rel => exact ⟨o ++ [0], HI2, ⟨(by omega)⟩, ⟨qz14_⟩, ⟨qz2_⟩⟩
  | succ k1 =>
   have hj := HJ.out
   have hn := HN.out
   have hjl : j < ps.length := by omega
   have c1 : decide ((j : Int) < (ps.length : Int)) = true := decide_eq_true (by omega)
   have c2 : decide (j < ps.length) = true := decide_eq_true hjl
   have p6 := eq_true (show (j : Int) < (ps.length : Int) by omega)
   have p7 := eq_true hjl
   obtain ⟨ad, B, c, hA, hc, hC⟩ := HP.out j hjl
   subst hA
   have hx := (HB.out.cell (World.block_lt_of_cell? _ _ hc)).trans hc
   have HC := am_ (Kd.C_below hC HB.out)
   have hi := HI.out
   rw [List.drop_eq_getElem_cons hjl, List.flatten_cons, ← List.append_assoc] at hi
   have HLO := am_ (show (out ++ ps[j]).length ≤ 4000000 by have h1 := congrArg List.length hi; have h2 := HL.out; rw [List.length_append] at h1; omega)
   have HI2 := am_ hi
   clear hi HI hc hC
   generalize ps[j] = ys at hx HC HI2 HLO
   go_wp2_with (first | ((with_reducible refine gate_builtin (b := .append) (xs := #[.tmp 16, .tmp 17]) rfl ?_); at_builtin; refine Kd.R_append_rows (Kd.int .u8) (w0 := w) w.heap.size rfl (.tmp 16) (.tmp 17) 22 5 (.int .u8 0) 1 rfl Try.underlying22 info5 rfl (by decide) (by omega) u3 out ys _ _ _ (fun _ => True) (fun _ => False) rfl rfl ?aO ?aR (fun _ _ h => h) (fun _ h => h.elim) ?aF ?aB ?aS ?aL ?_; (case aR => exact qc_ HC.out); (case aB => exact qz2_); (case aF => exact (fun _ _ => trivial)); (case aO => exact qz14_); (case aS => exact (below_size qz2_)); (case aL => have h1 := HLO.out; rw [List.length_append] at h1; omega); intro v106 w11 ho hb hg hat; have n0_ := am_ (hb); have n1_ := am_ (ho); clear HB; clear HO_3; have HB := n0_; have HO_3 := n1_; clear n0_ n1_; clear ho hb hg hat))
   go_roundg k1
   case measure => omega
   case rel => exact ⟨j + 1, out ++ ys, by first | rfl | go_num | (rw [w64_ (by omega) (by omega)]; rfl), ⟨(by omega)⟩, HI2, ⟨qz14_⟩, ⟨qz2_⟩⟩
end Go.Proofs.Ytgookagndlfehaa.PT
end
section
/- hashOf: the hash of a text. -/
namespace Go.Proofs.Ytgookagndlfehaa.PT
open Go.RowKit Go.Proofs.YtgookagndlfehaaW.PrintWords Go.Proofs.YtgookagndlfehaaW.PrintLast Go.Proofs.YtgookagndlfehaaW.PrintMore
set_option linter.unusedVariables false
set_option linter.unusedSimpArgs false
def nums_ (t : ByteArray) : List Int := t.data.toList.map fun b => (b.toNat : Int)
theorem nums_length (t : ByteArray) : (nums_ t).length = t.size := by
 unfold nums_
 rw [List.length_map, Array.length_toList]
 rfl
theorem nums_get (t : ByteArray) (j : Nat) : (nums_ t).getD j 0 = ((t.data.toList.getD j 0).toNat : Int) := by
 unfold nums_
 rw [List.getD, List.getD, List.getElem?_map]
 cases t.data.toList[j]? <;> rfl
theorem nums_C (w : World) (t : ByteArray) (h : t.size ≤ 2000000) : (Kd.int .u8).C (Go.Lib.bytesWorld w 5 t) (some ⟨w.heap.size, 0, none⟩) (nums_ t).length (nums_ t) := by
 refine Kd.C_of_reads (d := (0 : Int)) ⟨rfl, by rw [nums_length]; omega, fun _ => ⟨_, rfl, fun j hj => ?_⟩⟩
 rw [nums_length] at hj
 have e : (⟨w.heap.size, 0, none⟩ : Addr).add j = ⟨w.heap.size, j, none⟩ := by unfold Addr.add; split <;> simp_all
 rw [e, Go.Lib.bytesWorld_cell w 5 t j hj, nums_get]
theorem bytes_below (w : World) (t : ByteArray) : Below w.heap.size w (Go.Lib.bytesWorld w 5 t) :=
 ⟨rfl, rfl, rfl, (by rw [Go.Lib.bytesWorld_size]; omega), fun k hk => Go.Lib.bytesWorld_at_old w 5 t k hk⟩
theorem conv_bytes (w : World) (t : ByteArray) (h : t.size ≤ 2000000) : ∃ A c w', (convert 9 22 (.string t)).run Try.prog w = .ok (.slice A (nums_ t).length c) w' ∧ (Kd.int .u8).C w' A (nums_ t).length (nums_ t) ∧ Below w.heap.size w w' :=
 ⟨_, _, _, (by rw [nums_length]; exact Go.Lib.run_convert_string_bytes w 9 22 5 t Try.underlying9 Try.underlying22 Try.underlying5), nums_C w t h, bytes_below w t⟩
theorem pieces_one {w : World} {A : Option Addr} {c : Nat} {xs : List Int} {t : TypeId} (h : (Kd.int .u8).C w A xs.length xs) : Pieces (w.alloc (.cells #[.slice A xs.length c] t)) (some ⟨w.heap.size, 0, none⟩) [xs] := by
 intro j hj
 obtain rfl : j = 0 := by simp at hj; omega
 exact ⟨_, A, c, rfl, World.cell?_alloc_new _ _ _ _, Kd.C_alloc h _⟩
def impl_hashOf.f (a0 : ByteArray) : Option ByteArray := if a0.size ≤ 2000000 then some (kec (nums_ a0)) else none
set_option maxHeartbeats 8000000 in
set_option maxRecDepth 100000 in
theorem impl_hashOf.calls (a0 : ByteArray) (r : ByteArray) (w : World) (h : impl_hashOf.f a0 = some r) :
  Calls Try.prog 87 #[.string a0] w fun e w' => e = .returned (.string r) ∧ Below w.heap.size w w' := by
 unfold impl_hashOf.f at h
 by_cases c : a0.size ≤ 2000000
 ·
  rw [if_pos c] at h
  obtain rfl := Option.some.inj h
  have HC := am_ c
  have HB := am_ (Below.refl w.heap.size w)
  obtain ⟨A, cc, w4, hcv, hC, hb⟩ := conv_bytes w a0 c
  have HCR := am_ hC
  have HB4 := am_ hb
  clear c h hC hb
  go_enter Try.func87, Try.ntmps87
  go_wp2_with (go_at_call 56; (refine (impl_keccak.walk _ 1 [nums_ a0] _ (pieces_one HCR.out) (by have := HC.out; rw [List.flatten_cons, List.flatten_nil, List.append_nil, nums_length]; omega) (by simp)).mono ?_); rintro e w16 ⟨rfl, hb⟩; have n0_ := am_ (below_step (below_alloc HB4.out _) hb); clear HB hb; have HB := n0_; clear n0_)
  go_ret
  exact ⟨(by first | rfl | simp), HB.out⟩
 ·
  rw [if_neg c] at h; cases h
def impl_newState.f (a0 : ByteArray) : Option (ByteArray) := if 6 + a0.size ≤ 9223372036854775807 then ((impl_hashOf.f ((⟨#[115, 111, 117, 114, 99, 101]⟩ : ByteArray) ++ a0)).bind fun t101 => (some t101)) else (none)
set_option maxHeartbeats 8000000 in
set_option maxRecDepth 100000 in
theorem impl_newState.calls (a0 : ByteArray) (r : ByteArray) (w : World) (h : impl_newState.f a0 = some r) :
  Calls Try.prog 46 #[.string a0] w fun e w' => e = .returned (.string r) ∧ Below w.heap.size w w' := by
 have HB := am_ (Below.refl w.heap.size w)
 have H : (if 6 + a0.size ≤ 9223372036854775807 then ((impl_hashOf.f ((⟨#[115, 111, 117, 114, 99, 101]⟩ : ByteArray) ++ a0)).bind fun t101 => (some t101)) else (none)) = some r := h
 clear h
 by_cases c2 : 6 + a0.size ≤ 9223372036854775807
 ·
  rw [if_pos c2] at H
  have c2b0 := eq_true c2
  have c2b1 : decide (6 + a0.size ≤ 9223372036854775807) = true := decide_eq_true c2
  try have c2b2 : (9223372036854775807 < 6 + a0.size) = False := eq_false (Nat.not_lt.2 c2)
  replace H := Option.bind_eq_some_iff.mp H
  obtain ⟨t101, A30, H⟩ := H
  replace H : (some t101) = some r := H
  have A3 := am_ A30
  clear A30
  obtain rfl := Option.some.inj H
  go_enter Try.func46, Try.ntmps46
  go_wp2_with (first | ((with_reducible refine gate_callee (f := 87) rfl ?_); refine goesL_ (some 5) rfl rfl Try.func87 (by kernel_rfl) rfl #[.string ((⟨#[115, 111, 117, 114, 99, 101]⟩ : ByteArray) ++ a0)] rfl qz8_ ?_; (with_reducible refine (impl_hashOf.calls ((⟨#[115, 111, 117, 114, 99, 101]⟩ : ByteArray) ++ a0) t101 _ A3.out).mono ?_); rintro e w4 ⟨rfl, hb⟩; refine ⟨_, rfl, ?_⟩; have n0_ := am_ (below_step qz2_ hb); clear HB; have HB := n0_; clear n0_; (try clear hb); (try clear hb2); (try clear hk); (try clear hi)))
  go_ret
  exact ⟨qz4_, qz2_⟩
 ·
  rw [if_neg c2] at H
  exact absurd H (by simp)

def impl_FieldOK.f (a0 : Int) : Option (Bool) := (impl_in.f a0 0 2130706432).bind fun t101 => (some t101)
set_option maxHeartbeats 8000000 in
set_option maxRecDepth 100000 in
theorem impl_FieldOK.calls (a0 : Int) (r : Bool) (w : World) (h : impl_FieldOK.f a0 = some r) :
  Calls Try.prog 86 #[.int .i64 a0] w fun e w' => e = .returned (.bool r) ∧ Drawn0 w w' := by
 have H : ((impl_in.f a0 0 2130706432).bind fun t101 => (some t101)) = some r := h
 clear h
 replace H := Option.bind_eq_some_iff.mp H
 obtain ⟨t101, A20, H⟩ := H
 replace H : (some t101) = some r := H
 have A2 := am_ A20
 clear A20
 obtain rfl := Option.some.inj H
 go_enter Try.func86, Try.ntmps86
 go_wp2_with (first | ((with_reducible refine gate_callee (f := 44) rfl ?_); refine goesL_ (some 4) rfl rfl Try.func44 (by kernel_rfl) rfl #[.int .i64 a0, .int .i64 0, .int .i64 2130706432] rfl qz8_ ?_; (with_reducible refine (impl_in.calls a0 0 2130706432 t101 _ A2.out).mono ?_); rintro e w' ⟨rfl, ⟨nd, rfl⟩⟩; refine ⟨_, rfl, ?_⟩))
 go_ret
 exact ⟨qz0_, qz1_⟩

def impl_ExtOK.f (a0_0 : Int) (a0_1 : Int) : Option (Bool) := (impl_FieldOK.f a0_0).bind fun t102 => (if t102 = true then ((impl_FieldOK.f a0_1).bind fun t103 => (some t103)) else (some false))
set_option maxHeartbeats 8000000 in
set_option maxRecDepth 100000 in
theorem impl_ExtOK.calls (a0_0 : Int) (a0_1 : Int) (r : Bool) (w : World) (h : impl_ExtOK.f a0_0 a0_1 = some r) :
  Calls Try.prog 43 #[.agg #[.int .i64 a0_0, .int .i64 a0_1]] w fun e w' => e = .returned (.bool r) ∧ Below w.heap.size w w' := by
 have hu34 := Try.underlying34
 have HB := am_ (Below.refl w.heap.size w)
 have H : ((impl_FieldOK.f a0_0).bind fun t102 => (if t102 = true then ((impl_FieldOK.f a0_1).bind fun t103 => (some t103)) else (some false))) = some r := h
 clear h
 replace H := Option.bind_eq_some_iff.mp H
 obtain ⟨t102, A20, H⟩ := H
 replace H : (if t102 = true then ((impl_FieldOK.f a0_1).bind fun t103 => (some t103)) else (some false)) = some r := H
 have A2 := am_ A20
 clear A20
 by_cases c3 : t102 = true
 ·
  subst c3
  have H1 : ((impl_FieldOK.f a0_1).bind fun t103 => (some t103)) = some r := by rw [if_pos rfl] at H; exact H
  clear H
  have H := H1
  clear H1
  replace H := Option.bind_eq_some_iff.mp H
  obtain ⟨t103, A40, H⟩ := H
  replace H : (some t103) = some r := H
  have A4 := am_ A40
  clear A40
  obtain rfl := Option.some.inj H
  go_enter Try.func43, Try.ntmps43
  go_wp2_with (first | ((with_reducible refine gate_dst (N := 1) rfl ?_); refine box_event ?hg (N := 1) ?hd (cs := #[.int .i64 a0_0, .int .i64 a0_1]) (t := 34) ?hr ?_; (case hd => rfl); (case hg => rfl); (case hr => first | (go_simp; done) | (go_simp; rfl)); intro gb101 hg w5 hbox hb; have n0_ := am_ (below_step qz2_ hb); have n1_ := am_ (hbox); have n2_ := am_ ((by rw [hg]; exact (below_size qz2_) : w.heap.size ≤ gb101)); have n3_ := am_ ((by rw [hg]; exact (below_size qz2_) : w.heap.size ≤ gb101)); clear HB; have HB := n0_; have BK101 := n1_; have GW101 := n2_; have GE101 := n3_; clear n0_ n1_ n2_ n3_; clear hb hbox hg; have hcz6_0 : w5.cell? ⟨gb101, 0, none⟩ = some (.int .i64 a0_0) := (blk_cell BK101.out 0).trans rfl; have hcz6_1 : w5.cell? ⟨gb101, 1, none⟩ = some (.int .i64 a0_1) := (blk_cell BK101.out 1).trans rfl; have hfz6_0 := blk_frozen BK101.out 0; have hfz6_1 := blk_frozen BK101.out 1) | ((with_reducible refine gate_callee (f := 86) rfl ?_); refine goesL_ (some 5) rfl rfl Try.func86 (by kernel_rfl) rfl #[.int .i64 a0_0] rfl qz8_ ?_; (with_reducible refine (impl_FieldOK.calls a0_0 true _ A2.out).mono ?_); rintro e w' ⟨rfl, ⟨nd, rfl⟩⟩; refine ⟨_, rfl, ?_⟩) | (go_at_call 86; (with_reducible refine (impl_FieldOK.calls a0_1 t103 _ A4.out).mono ?_); rintro e w' ⟨rfl, ⟨nd, rfl⟩⟩))
  go_ret
  exact ⟨qz4_, qz15_⟩
 ·
  replace c3 := Bool.eq_false_iff.mpr c3
  subst c3
  have H1 : (some false) = some r := by rw [if_neg (show ¬ (false = true) by decide)] at H; exact H
  clear H
  have H := H1
  clear H1
  obtain rfl := Option.some.inj H
  go_enter Try.func43, Try.ntmps43
  go_wp2_with (first | ((with_reducible refine gate_dst (N := 1) rfl ?_); refine box_event ?hg (N := 1) ?hd (cs := #[.int .i64 a0_0, .int .i64 a0_1]) (t := 34) ?hr ?_; (case hd => rfl); (case hg => rfl); (case hr => first | (go_simp; done) | (go_simp; rfl)); intro gb101 hg w7 hbox hb; have n0_ := am_ (below_step qz2_ hb); have n1_ := am_ (hbox); have n2_ := am_ ((by rw [hg]; exact (below_size qz2_) : w.heap.size ≤ gb101)); have n3_ := am_ ((by rw [hg]; exact (below_size qz2_) : w.heap.size ≤ gb101)); clear HB; have HB := n0_; have BK101 := n1_; have GW101 := n2_; have GE101 := n3_; clear n0_ n1_ n2_ n3_; clear hb hbox hg; have hcz8_0 : w7.cell? ⟨gb101, 0, none⟩ = some (.int .i64 a0_0) := (blk_cell BK101.out 0).trans rfl; have hcz8_1 : w7.cell? ⟨gb101, 1, none⟩ = some (.int .i64 a0_1) := (blk_cell BK101.out 1).trans rfl; have hfz8_0 := blk_frozen BK101.out 0; have hfz8_1 := blk_frozen BK101.out 1) | ((with_reducible refine gate_callee (f := 86) rfl ?_); refine goesL_ (some 5) rfl rfl Try.func86 (by kernel_rfl) rfl #[.int .i64 a0_0] rfl qz8_ ?_; (with_reducible refine (impl_FieldOK.calls a0_0 false _ A2.out).mono ?_); rintro e w' ⟨rfl, ⟨nd, rfl⟩⟩; refine ⟨_, rfl, ?_⟩))
  go_ret
  exact ⟨qz4_, qz15_⟩

def impl_are_Ext_ExtOK.p (x : S34) : Bool := (impl_ExtOK.f (x).f0 (x).f1).getD false
theorem impl_are_Ext_ExtOK.p_some (x : S34) : impl_ExtOK.f (x).f0 (x).f1 = some (impl_are_Ext_ExtOK.p x) := by
 unfold impl_are_Ext_ExtOK.p
 have : ∃ b, impl_ExtOK.f (x).f0 (x).f1 = some b := by
  simp only [impl_ExtOK.f, impl_FieldOK.f, impl_in.f]
  repeat' (first | exact ⟨_, rfl⟩ | (split <;> try exact ⟨_, rfl⟩) | (simp only [Option.bind_some]))
 obtain ⟨b, hb⟩ := this
 rw [hb]; rfl
set_option maxHeartbeats 800000 in
theorem impl_are_Ext_ExtOK.clo (x : S34) (r : Bool) (hr : impl_ExtOK.f (x).f0 (x).f1 = some r) (g : Nat) (w : World) (hg : w.cell? ⟨g, 0, none⟩ = some (.func (.func 43) #[] #[])) :
  Calls Try.prog 85 #[.agg #[.int .i64 ((x).f0), .int .i64 ((x).f1)], .pointer (some ⟨g, 0, none⟩)] w fun e w' => e = .returned (.bool (!r)) ∧ Below w.heap.size w w' := by
 have hlt : g < w.heap.size := World.block_lt_of_cell? w _ hg
 have HB := am_ (Below.refl w.heap.size w)
 go_enter Try.func85, Try.ntmps85
 go_wp2_with (go_at_call 43; (refine (impl_ExtOK.calls (x).f0 (x).f1 r _ hr).mono ?_); rintro e w' ⟨rfl, hb⟩)
 go_ret
 exact ⟨(by first | rfl | simp), (by repeat (first | (with_reducible first | exact HB.out | apply below_alloc | apply pw_below_drewN | apply below_drew1) | exact HB.out | refine below_step ?_ hb))⟩

def impl_are_Ext_ExtOK.Idx (l : List (S34)) (w : World) (e : Ending) (w' : World) : Prop := ∃ j : Int, e = .returned (.int .i64 j) ∧ (decide (0 ≤ j) = !(l.all impl_are_Ext_ExtOK.p)) ∧ Below w.heap.size w w'
theorem impl_are_Ext_ExtOK.all_snoc (l : List (S34)) (k : Nat) (hk : k < l.length) (h : (l.take k).all impl_are_Ext_ExtOK.p = true) (h2 : impl_are_Ext_ExtOK.p (l.getD k z34) = true) : (l.take (k + 1)).all impl_are_Ext_ExtOK.p = true := by
 rw [List.take_succ_eq_append_getElem hk, List.all_append, h]
 simp [List.getD_eq_getElem?_getD, hk] at h2
 simp [h2]
theorem impl_are_Ext_ExtOK.all_not (l : List (S34)) (k : Nat) (hk : k < l.length) (h2 : impl_are_Ext_ExtOK.p (l.getD k z34) = false) : l.all impl_are_Ext_ExtOK.p = false := by
 rw [List.all_eq_false]
 simp [List.getD_eq_getElem?_getD, hk] at h2
 exact ⟨l[k], List.getElem_mem hk, (by simp [h2])⟩

set_option maxHeartbeats 800000 in
theorem impl_are_Ext_ExtOK.idx (A0 : Option Addr) (c0 : Nat) (l0 : List (S34)) (g : Nat) (w : World) (hr0 : Kd.C k34 w A0 l0.length l0) (hc0 : l0.length ≤ c0) (hm : l0.length ≤ 9223372036854775807) (hg : w.cell? ⟨g, 0, none⟩ = some (.func (.func 43) #[] #[])) :
  Calls Try.prog 127 #[.slice A0 l0.length c0, .func (.func 85) #[] #[.pointer (some ⟨g, 0, none⟩)]] w (impl_are_Ext_ExtOK.Idx l0 w) := by
 have HR0 := am_ hr0
 have HC0 := am_ hc0
 have HG := am_ hg
 clear hr0 hc0 hg
 have HB := am_ (Below.refl w.heap.size w)
 go_enter Try.func127, Try.ntmps127
 go_wp2
 go_loopg [8] l0.length (fun kq v8 w' => ∃ k : Nat, k + kq = l0.length ∧ v8 = .int .i64 k ∧ Aside0 ((l0.take k).all impl_are_Ext_ExtOK.p = true) ∧ Aside0 (Below w.heap.size w w'))
 case atStart => exact ⟨0, by omega, by first | rfl | simp, ⟨rfl⟩, ⟨qz2_⟩⟩
 case round =>
  obtain ⟨k, hk, rfl, HA, HB⟩ := hrel
  cases gk with
  | zero =>
   have hge : decide ((k : Int) < (l0.length : Int)) = false := decide_eq_false (by omega)
   have hge2 : decide (k < l0.length) = false := decide_eq_false (by omega)
   have hkk : l0.take k = l0 := List.take_of_length_le (by omega)
   have HA2 := am_ (hkk ▸ HA.out)
   clear HA hkk
   go_wp2
   go_ret
   refine ⟨-1, rfl, ?_, qz2_⟩
   rw [HA2.out]
   rfl
  | succ k1 =>
   have hlt : decide ((k : Int) < (l0.length : Int)) = true := decide_eq_true (by omega)
   have hlt2 : decide (k < l0.length) = true := decide_eq_true (by omega)
   have p_ : 0 ≤ (k : Int) := by omega
   have q_ : (k : Int) < (l0.length : Int) := by omega
   obtain ⟨ad, e_, hx_0, hx_1⟩ := at_T34 HR0.out k p_ q_
   cases e_
   replace hx_0 := (HB.out.cell (World.block_lt_of_cell? w _ hx_0)).trans hx_0
   replace hx_1 := (HB.out.cell (World.block_lt_of_cell? w _ hx_1)).trans hx_1
   simp only [Int.toNat_natCast] at hx_0 hx_1
   have hgc := am_ ((HB.out.cell (World.block_lt_of_cell? w _ HG.out)).trans HG.out)
   have hkl : k < l0.length := by omega
   have hrd : (rd_T34 l0 (k : Int)) = l0.getD k z34 := rfl
   by_cases hp : impl_are_Ext_ExtOK.p (rd_T34 l0 (k : Int)) = true
   ·
    have hs := am_ ((impl_are_Ext_ExtOK.p_some (rd_T34 l0 (k : Int))).trans (congrArg some hp))
    have HA2 := am_ (impl_are_Ext_ExtOK.all_snoc l0 k hkl HA.out (hrd ▸ hp))
    clear hp HA hrd
    go_wp2_with (go_at_call 85; (refine (impl_are_Ext_ExtOK.clo (rd_T34 l0 (k : Int)) true hs.out g _ hgc.out).mono ?_); rintro e w' ⟨rfl, hb⟩; have n0_ := am_ (below_step qz2_ hb); clear HB; have HB := n0_; clear n0_; clear hb)
    go_roundg k1
    case measure => omega
    case rel => exact ⟨k + 1, by omega, by first | rfl | go_num, HA2, ⟨qz2_⟩⟩
   ·
    replace hp := Bool.eq_false_iff.mpr hp
    have hs := am_ ((impl_are_Ext_ExtOK.p_some (rd_T34 l0 (k : Int))).trans (congrArg some hp))
    have HA2 := am_ (impl_are_Ext_ExtOK.all_not l0 k hkl (hrd ▸ hp))
    clear hp HA hrd
    go_wp2_with (go_at_call 85; (refine (impl_are_Ext_ExtOK.clo (rd_T34 l0 (k : Int)) false hs.out g _ hgc.out).mono ?_); rintro e w' ⟨rfl, hb⟩; have n0_ := am_ (below_step qz2_ hb); clear HB; have HB := n0_; clear n0_; clear hb)
    go_ret
    exact ⟨(k : Int), rfl, (by rw [HA2.out]; simp), qz2_⟩
set_option maxHeartbeats 800000 in
theorem impl_are_Ext_ExtOK.con (A0 : Option Addr) (c0 : Nat) (l0 : List (S34)) (g : Nat) (w : World) (hr0 : Kd.C k34 w A0 l0.length l0) (hc0 : l0.length ≤ c0) (hm : l0.length ≤ 9223372036854775807) (hg : w.cell? ⟨g, 0, none⟩ = some (.func (.func 43) #[] #[])) :
  Calls Try.prog 84 #[.slice A0 l0.length c0, .func (.func 85) #[] #[.pointer (some ⟨g, 0, none⟩)]] w fun e w' => e = .returned (.bool (!(l0.all impl_are_Ext_ExtOK.p))) ∧ Below w.heap.size w w' := by
 have HR0 := am_ hr0
 have HC0 := am_ hc0
 have HG := am_ hg
 clear hr0 hc0 hg
 go_enter Try.func84, Try.ntmps84
 go_wp2_with (go_at_call 127; (refine (impl_are_Ext_ExtOK.idx A0 c0 l0 g _ HR0.out HC0.out hm HG.out).mono ?_); rintro e w' ⟨j, rfl, hj, hb⟩; have HJ := am_ hj; clear hj)
 go_ret
 exact ⟨(by rw [← HJ.out]; rfl), (by repeat (first | exact hb | exact Below.refl _ _ | apply below_alloc | apply pw_below_drewN | apply below_drew1))⟩
def impl_are_Ext_ExtOK.f (l1 : List (S34)) : Option (Bool) := some (l1.all impl_are_Ext_ExtOK.p)
set_option maxHeartbeats 800000 in
theorem impl_are_Ext_ExtOK.calls (A1 : Option Addr) (c1 : Nat) (l1 : List (S34)) (r : Bool) (w : World) (hr1 : Kd.C k34 w A1 l1.length l1) (hc1 : l1.length ≤ c1) (h : impl_are_Ext_ExtOK.f l1 = some r) :
  Calls Try.prog 42 #[(Value.func (.func 43) #[] #[]), .slice A1 l1.length c1] w fun e w' => e = .returned (.bool r) ∧ Below w.heap.size w w' := by
 unfold impl_are_Ext_ExtOK.f at h
 have hm : l1.length ≤ 9223372036854775807 := hr1.2.1
 ·
  obtain rfl := Option.some.inj h
  have HR1 := am_ hr1
  have HC1 := am_ hc1
  clear hr1 hc1 h
  have HB := am_ (Below.refl w.heap.size w)
  go_enter Try.func42, Try.ntmps42
  go_wp2_with (go_at_call 84; (refine (impl_are_Ext_ExtOK.con A1 c1 l1 w.heap.size _ (Kd.C_below HR1.out qz2_) HC1.out hm (by first | rfl | simp)).mono ?_); rintro e w' ⟨rfl, hb⟩; have n0_ := am_ (below_step qz2_ hb); clear HB; have HB := n0_; clear n0_; clear hb)
  go_ret
  exact ⟨(by first | rfl | simp), qz2_⟩

end Go.Proofs.Ytgookagndlfehaa.PT
end
