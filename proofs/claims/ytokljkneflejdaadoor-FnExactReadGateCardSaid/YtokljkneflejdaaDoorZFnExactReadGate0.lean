/- Part 0 of the proof of FnExactReadGate: what functions compute, shown step by step, and what that says (the claim's last text states the law). -/
import Derived.Test.YtokljkneflejdaaDoorProg
import Derived.Test.YtokljkneflejdaaDoorVWords
import Derived.Test.YtokljkneflejdaaDoorVMore
import Derived.Test.YtokljkneflejdaaDoorVLast
import Derived.Test.YtokljkneflejdaaDoorVTab
import Derived.Test.YtokljkneflejdaaDoorVQPut
import Derived.Test.YtokljkneflejdaaDoorVApart
import Derived.Test.YtokljkneflejdaaDoorVArr
import Derived.Test.YtokljkneflejdaaDoorVZeros
import Derived.Test.YtokljkneflejdaaDoorVFoot
import Derived.Test.YtokljkneflejdaaDoorVKept
import Derived.Test.YtokljkneflejdaaDoorVShare
import Derived.Test.YtokljkneflejdaaDoorVN
import Derived.Test.YtokljkneflejdaaDoorVFootNe
import Derived.Test.YtokljkneflejdaaDoorVRepsOne
import Derived.Test.YtokljkneflejdaaDoorVInv
import Derived.Test.YtokljkneflejdaaDoorVInvWords
import Derived.Test.YtokljkneflejdaaDoorVGuard
import Derived.Test.YtokljkneflejdaaDoorVNEv
import Derived.Test.YtokljkneflejdaaDoorCards
import Derived.Test.YtokljkneflejdaaDoorTie
import Derived.JoinedOf
import Derived.WalkKit
import Derived.ProofKit
import Derived.OpenShut
import Derived.ShutString
import Derived.ChangeOld
import Derived.Below
import Derived.SizedLaws
import Derived.Deep.Slices
import Derived.ChangeArms
import Derived.Deep.Draws
import Derived.Deep.AppendLies
import Derived.Maps.AppendAt
import Derived.OwnWalk
import Derived.Laws.BytesArg
import Derived.Laws.MakeOwn
import Derived.Laws.OwnMore
import Derived.Deep.OwnRows
import Derived.Tactics
import Derived.Lib.ConvBytes
import Derived.Laws.Slices
import Derived.KernelRfl
import Derived.RowKit3
import Derived.Deep.LoopGhost
import Derived.Deep.QuietTactic
import Derived.BigQuiet
import Derived.WideLaws
import Derived.Deep.DeepCutAuto
import Derived.Deep.CutBlock
import Derived.Deep.RegionHeld3
import Derived.Laws.Rows
import Derived.Lib.AppendStr
import Derived.ArgAppend
import Derived.Laws.IdiomCopy
import Derived.OrdersHeld
import Derived.Laws.BitsLemmas
import Derived.RowKit
import Derived.Deep.DeepMust
import Derived.Laws.CopyOwn
import Derived.Shelf.Utf8.RuneCount
import Derived.Shelf.Strconv.Atoi
import Derived.Shelf.Strconv.Itoa0
import Derived.Shelf.Strconv.Itoa1
import Derived.Shelf.LaysM
import Derived.Shelf.Strconv.Itoa2
import Derived.Shelf.Strconv.Itoa3
import Derived.Shelf.Strconv.AtoiErrFast
import Derived.Shelf.Strconv.ParseIntEmpty
import Derived.Shelf.Strconv.AtoiFail
import Derived.Shelf.Strconv.Clone
import Derived.Shelf.Strconv.SyntaxError
import Derived.Shelf.LaysC
import Derived.Shelf.Strconv.ToError
import Derived.Shelf.Strconv.Lower
import Derived.Shelf.Strconv.ParseUint10
import Derived.Shelf.Strconv.ParseUint10Empty
import Derived.Shelf.Strconv.ParseUint10Any
import Derived.Shelf.Strconv.ParseInt10
import Derived.Shelf.Strconv.AtoiLong
import Derived.Shelf.Strconv.AtoiInnerAll
import Derived.Shelf.Strconv.RangeError
import Derived.Shelf.Strconv.ToErrorRange
import Derived.Shelf.Strconv.AtoiAll
import Derived.Shelf.Strconv.ErrVarAll
import Derived.Shelf.Strings.Search1
import Derived.Shelf.Strings.Search2
import Derived.Shelf.Strings.Search3
import Derived.Shelf.Strings.Count
import Derived.Shelf.Strings.Shaped
import Derived.Shelf.Strings.Prefix
import Derived.Shelf.Strings.Split
import Derived.Shelf.Strings.SplitShaped
import Derived.Shelf.Unicode.Decode
import Derived.Shelf.Strings.RuneCount
import Derived.Shelf.Strings.Explode
import Derived.Shelf.Unicode.DecodeSlow
import Derived.Shelf.Unicode.DecodeAny
import Derived.Shelf.Slices.Turned
import Derived.Ground.SlgfProg
import Derived.Shelf.SlicesE.IndexFunc
import Derived.Shelf.SlicesE.DeleteFunc
import Derived.Lib.SplitLaws
import Derived.Lib.AtoiTie
import Derived.Lib.ItoaMem
import Derived.Lib.ItoaLen
import Derived.Lib.Strings
import Derived.Lib.LaidTab
import Derived.Lib.AppendIntMem
import Derived.Lib.OwnBridge
import Derived.Deep.DeepHandedRow
import Derived.Stop.LaidErr
import Derived.Shelf.Vars
namespace Go.Proofs
theorem qz0_ {p : Prop} (h : p := by first | rfl | (simp; done) | (simp [*]; done)) : p := h
theorem qz1_ {p : Prop} (h : p := by repeat (first | exact Drawn0.refl _ | apply Drawn0.step)) : p := h
theorem qz2_ {p : Prop} (h : p := by (try simp only [List.map_toArray, List.map_cons, List.map_nil]); first | done | rfl | (simp only [List.length_drop, List.length_take]; rfl)) : p := h
theorem qz3_ {p : Prop} (h : p := by repeat (first | (with_reducible first | exact HB.out | apply below_alloc | apply pw_below_drewN | apply below_drew1) | exact HB.out)) : p := h
theorem qz4_ {p : Prop} (h : p := by first | rfl | (simp [errW_none, errW_some] <;> rfl) | (simp [*, errW_none, errW_some] <;> rfl)) : p := h
theorem qz5_ {p : Prop} (h : p := by repeat (first | (with_reducible first | exact HB.out | apply below_alloc | apply pw_below_drewN | apply below_drew1 | refine below_set ?_ GE101.out) | exact HB.out)) : p := h
theorem qz6_ {p : Prop} (h : p := by first | omega | exact Nat.le_refl _) : p := h
theorem qz7_ {p : Prop} (h : p := by (with_reducible repeat (first | refine blk_drewN ?_ _ | refine blk_drew ?_ | refine blk_alloc ?_ _)); exact BK101.out) : p := h
theorem qz8_ {p : Prop} (h : p := by first | (with_reducible assumption) | assumption) : p := h
theorem qz9_ {p : Prop} (h : p := by (with_reducible repeat (first | apply Kd.R_alloc | apply Kd.R_drewN | apply Kd.R_drew)); exact HO_3.out) : p := h
theorem qz10_ {p : Prop} (h : p := by (with_reducible repeat (first | refine blk_drewN ?_ _ | refine blk_drew ?_ | refine blk_alloc ?_ _)); refine blk_put (cs := #[.int .i64 0, .int .i64 0, .int .i64 0, .int .i64 0]) ?_ 3 _ rfl; (with_reducible repeat (first | refine blk_drewN ?_ _ | refine blk_drew ?_ | refine blk_alloc ?_ _)); refine blk_put (cs := #[.int .i64 0, .int .i64 0, .int .i64 0, .int .i64 0]) ?_ 2 _ rfl; (with_reducible repeat (first | refine blk_drewN ?_ _ | refine blk_drew ?_ | refine blk_alloc ?_ _)); refine blk_put (cs := #[.int .i64 0, .int .i64 0, .int .i64 0, .int .i64 0]) ?_ 1 _ rfl; (with_reducible repeat (first | refine blk_drewN ?_ _ | refine blk_drew ?_ | refine blk_alloc ?_ _)); refine blk_put (cs := #[.int .i64 0, .int .i64 0, .int .i64 0, .int .i64 0]) ?_ 0 _ rfl; (with_reducible repeat (first | refine blk_drewN ?_ _ | refine blk_drew ?_ | refine blk_alloc ?_ _)); exact BK101.out) : p := h
theorem qz11_ {p : Prop} (h : p := by repeat (first | (with_reducible first | exact HB.out | apply below_alloc | apply pw_below_drewN | apply below_drew1 | refine below_set ?_ GE101.out | refine below_set ?_ GE105.out) | exact HB.out)) : p := h
theorem qz12_ {p : Prop} (h : p := by (with_reducible repeat (first | refine blk_drewN ?_ _ | refine blk_drew ?_ | refine blk_alloc ?_ _)); exact BK105.out) : p := h
theorem qz13_ {p : Prop} (h : p := by (with_reducible repeat (first | refine blk_drewN ?_ _ | refine blk_drew ?_ | refine blk_alloc ?_ _)); refine blk_far ?_ NB101_105.out _; (with_reducible repeat (first | refine blk_drewN ?_ _ | refine blk_drew ?_ | refine blk_alloc ?_ _)); exact BK101.out) : p := h
theorem qz14_ {p : Prop} (h : p := by (with_reducible repeat (first | apply Kd.R_alloc | apply Kd.R_drewN | apply Kd.R_drew)); exact HO_8.out) : p := h
theorem qz15_ {p : Prop} (h : p := by (with_reducible repeat (first | refine blk_drewN ?_ _ | refine blk_drew ?_ | refine blk_alloc ?_ _)); refine blk_put (cs := #[.int .i64 0, .int .i64 0, .int .i64 0, .int .i64 x102003_2]) ?_ 3 _ rfl; (with_reducible repeat (first | refine blk_drewN ?_ _ | refine blk_drew ?_ | refine blk_alloc ?_ _)); refine blk_put (cs := #[.int .i64 0, .int .i64 0, .int .i64 x102002_2, .int .i64 x102003_2]) ?_ 2 _ rfl; (with_reducible repeat (first | refine blk_drewN ?_ _ | refine blk_drew ?_ | refine blk_alloc ?_ _)); refine blk_put (cs := #[.int .i64 0, .int .i64 x102001_2, .int .i64 x102002_2, .int .i64 x102003_2]) ?_ 1 _ rfl; (with_reducible repeat (first | refine blk_drewN ?_ _ | refine blk_drew ?_ | refine blk_alloc ?_ _)); refine blk_put (cs := #[.int .i64 x102000_2, .int .i64 x102001_2, .int .i64 x102002_2, .int .i64 x102003_2]) ?_ 0 _ rfl; (with_reducible repeat (first | refine blk_drewN ?_ _ | refine blk_drew ?_ | refine blk_alloc ?_ _)); exact BK101.out) : p := h
theorem qz16_ {p : Prop} (h : p := by (with_reducible repeat (first | refine blk_drewN ?_ _ | refine blk_drew ?_ | refine blk_alloc ?_ _)); refine blk_put (cs := #[.int .i64 x106000_1, .int .i64 0, .int .i64 0, .int .i64 x102003_2]) ?_ 3 _ rfl; (with_reducible repeat (first | refine blk_drewN ?_ _ | refine blk_drew ?_ | refine blk_alloc ?_ _)); refine blk_put (cs := #[.int .i64 x106000_1, .int .i64 0, .int .i64 x102002_2, .int .i64 x102003_2]) ?_ 2 _ rfl; (with_reducible repeat (first | refine blk_drewN ?_ _ | refine blk_drew ?_ | refine blk_alloc ?_ _)); refine blk_put (cs := #[.int .i64 x106000_1, .int .i64 x102001_2, .int .i64 x102002_2, .int .i64 x102003_2]) ?_ 1 _ rfl; (with_reducible repeat (first | refine blk_drewN ?_ _ | refine blk_drew ?_ | refine blk_alloc ?_ _)); refine blk_put (cs := #[.int .i64 x102000_2, .int .i64 x102001_2, .int .i64 x102002_2, .int .i64 x102003_2]) ?_ 0 _ rfl; (with_reducible repeat (first | refine blk_drewN ?_ _ | refine blk_drew ?_ | refine blk_alloc ?_ _)); exact BK101.out) : p := h
theorem qz17_ {p : Prop} (h : p := by repeat (first | (with_reducible first | exact HB.out | apply below_alloc | apply pw_below_drewN | apply below_drew1 | refine below_set ?_ GE101.out | refine below_set ?_ GE102.out) | exact HB.out)) : p := h
theorem qc_ {p q : Prop} (h : p) (e : p → q := by intro h_; repeat (first | exact h_ | (with_reducible refine Kd.C_alloc ?_ _) | (with_reducible refine Kd.C_drewN ?_ _) | (with_reducible refine Kd.C_drew ?_))) : q := e h
theorem qd1_ {w : World} {m n : Nat} : (w.drewN m).drewN n = w.drewN (m + n) := World.drewN_drewN _ _ _
theorem qd2_ {w : World} {a b c : Nat} : (w.drewN (a + b)).drewN c = w.drewN (a + (b + c)) := Eq.trans (World.drewN_drewN _ _ _) (congrArg (World.drewN _) (Nat.add_assoc _ _ _))
theorem am_ {p : Prop} (h : p) : Go.Proofs.YtokljkneflejdaaDoorW.PrintWords.Aside0 p := ⟨h⟩
theorem ap_ {α : Sort _} {a b : α} (h : a = b := by simp only [Act.put, List.setIfInBounds_toArray, List.set_cons_zero, List.set_cons_succ, Go.Proofs.YtokljkneflejdaaDoorW.PrintLast.i64_w, Go.Proofs.YtokljkneflejdaaDoorW.PrintLast.i32_w]; rfl) : a = b := h
end Go.Proofs
section
/- The closed facts of the program's head row, each by its own. -/
namespace Go.Proofs.YtokljkneflejdaaDoor
open Go.RowKit
theorem wordsSigns_word (r : List Char) : ∀ w : List Char, w.all (fun c => c != Char.ofNat 32) = true → wordsSigns (w ++ Char.ofNat 32 :: r) = w :: wordsSigns r
 | [], _ => by rfl
 | c :: w, h => by
  simp only [List.all_cons, Bool.and_eq_true, bne_iff_ne, ne_eq] at h
  rw [List.cons_append, wordsSigns]
  ·
   rw [wordsSigns_word r w h.2]
  ·
   intro e; exact h.1 e
theorem headWords {P : Program} {s r : List Char} (hs : s.all (fun c => c != Char.ofNat 32) = true) (hsum : isSumSigns s = true)
  (h : P.initOrder = String.ofList ([104, 97, 114, 110, 101, 115, 115].map Char.ofNat ++ Char.ofNat 32 :: (s ++ Char.ofNat 32 :: ([99, 117, 116].map Char.ofNat ++ Char.ofNat 32 :: r)))) :
  behindMainWord (wordsSigns P.initOrder.toList) = [99, 117, 116].map Char.ofNat :: wordsSigns r := by
 rw [h, String.toList_ofList, wordsSigns_word _ _ (by decide), wordsSigns_word _ _ hs, wordsSigns_word _ _ (by decide), behindMainWord, if_pos]
 rw [hsum]
 decide
set_option maxRecDepth 100000
def headTail : List Char := List.map Char.ofNat [97, 116, 32, 108, 111, 111, 112, 46, 101, 120, 97, 109, 112, 108, 101, 47, 103, 48, 48, 51, 52, 56, 47, 108, 97, 119, 115, 46, 70, 110, 71, 97, 116, 101, 115, 32, 108, 111, 111, 112, 46, 101, 120, 97, 109, 112, 108, 101, 47, 103, 48, 48, 51, 52, 56, 47, 108, 97, 119, 115, 46, 70, 110, 69, 120, 97, 99, 116, 82, 101, 97, 100, 71, 97, 116, 101]
theorem order : Tryd.prog.initOrder = String.ofList ([104, 97, 114, 110, 101, 115, 115].map Char.ofNat ++ Char.ofNat 32 :: ((List.map Char.ofNat [54, 98, 51, 53, 48, 101, 99, 50, 97, 52, 48, 57, 100, 56, 102, 49, 55, 52, 56, 53, 49, 57, 99, 101, 52, 51, 52, 49, 101, 102, 51, 54, 50, 98, 56, 53, 52, 49, 56, 53, 98, 49, 51, 52, 97, 100, 48, 99, 101, 100, 98, 56, 100, 101, 101, 102, 51, 52, 56, 97, 52, 53, 53, 51]) ++ Char.ofNat 32 :: ([99, 117, 116].map Char.ofNat ++ Char.ofNat 32 :: headTail))) := by kernel_rfl
theorem headIs : behindMainWord (wordsSigns Tryd.prog.initOrder.toList) = [99, 117, 116].map Char.ofNat :: wordsSigns headTail := headWords (by decide +kernel) (by decide +kernel) order
theorem enters_of {P : Program} {ws : List (List Char)} (h : behindMainWord (wordsSigns P.initOrder.toList) = [99, 117, 116].map Char.ofNat :: ws) (h1 : P.laysLater = false) (h2 : P.bearsReflect = false) (h3 : P.doorFits [] = true) : P.mayEnter = true := by
 have e : stripLifts liftWords ([99, 117, 116].map Char.ofNat :: ws) = ([], [99, 117, 116].map Char.ofNat :: ws) := rfl
 unfold Program.mayEnter
 rw [h]
 simp only [e, h1, h2, h3]
 rfl
theorem liftsNot_of {P : Program} {ws : List (List Char)} (h : behindMainWord (wordsSigns P.initOrder.toList) = [99, 117, 116].map Char.ofNat :: ws) : P.liftsFinal = false := by
 have e : stripLifts liftWords ([99, 117, 116].map Char.ofNat :: ws) = ([], [99, 117, 116].map Char.ofNat :: ws) := rfl
 unfold Program.liftsFinal Program.headLifts
 rw [h]
 simp only [e]
 rfl
theorem makes_of {P : Program} {ws : List (List Char)} (h : behindMainWord (wordsSigns P.initOrder.toList) = [99, 117, 116].map Char.ofNat :: ws) : P.make = some .cut := by
 unfold Program.make
 rw [h]
 rfl
theorem allOf {b1 b2 b3 b4 b5 b6 b7 b8 b9 b10 b11 b12 b13 b14 b15 b16 b17 b18 b19 b20 b21 b22 b23 b24 b25 b26 b27 b28 b29 b30 b31 b32 : Bool} (h1 : b1 = true) (h2 : b2 = true) (h3 : b3 = true) (h4 : b4 = true) (h5 : b5 = true) (h6 : b6 = true) (h7 : b7 = true) (h8 : b8 = true) (h9 : b9 = true) (h10 : b10 = true) (h11 : b11 = true) (h12 : b12 = true) (h13 : b13 = true) (h14 : b14 = true) (h15 : b15 = true) (h16 : b16 = true) (h17 : b17 = true) (h18 : b18 = true) (h19 : b19 = true) (h20 : b20 = true) (h21 : b21 = true) (h22 : b22 = true) (h23 : b23 = true) (h24 : b24 = true) (h25 : b25 = true) (h26 : b26 = true) (h27 : b27 = true) (h28 : b28 = true) (h29 : b29 = true) (h30 : b30 = true) (h31 : b31 = true) (h32 : b32 = true) : (b1 && b2 && b3 && b4 && b5 && b6 && b7 && b8 && b9 && b10 && b11 && b12 && b13 && b14 && b15 && b16 && b17 && b18 && b19 && b20 && b21 && b22 && b23 && b24 && b25 && b26 && b27 && b28 && b29 && b30 && b31 && b32) = true := by subst h1 h2 h3 h4 h5 h6 h7 h8 h9 h10 h11 h12 h13 h14 h15 h16 h17 h18 h19 h20 h21 h22 h23 h24 h25 h26 h27 h28 h29 h30 h31 h32; rfl
theorem sameNo {a b : Bool} (ha : a = false) (h : b = false) : (a == b) = true := by subst ha; subst h; rfl
theorem sameCut {x : Option Make} (h : x = some .cut) : (x == some Make.cut) = true := by subst h; rfl
theorem notMain {P : Program} {fn : Func} (h : decide (Check.packageOf fn.name = "main") = false) : fn.isWrapper P false "" := by
 unfold Func.isWrapper; rw [if_neg (of_decide_eq_false h)]; exact ⟨rfl, rfl⟩
theorem own : ownKnob Tryd.prog.godebug = none := by kernel_rfl
theorem laidOut : laidOutB Tryd.prog = true := by kernel_rfl
theorem mapsAre : mapsRowed Tryd.prog = true := by kernel_rfl
theorem enters : Tryd.prog.mayEnter = true := enters_of headIs (by as_aux_lemma => kernel_rfl) (by as_aux_lemma => kernel_rfl) (by as_aux_lemma => kernel_rfl)
theorem liftsNot : Tryd.prog.liftsFinal = false := liftsNot_of headIs
theorem makes : Tryd.prog.make = some .cut := makes_of headIs
end Go.Proofs.YtokljkneflejdaaDoor
end
section
/- Arguments that are read as data have the kinds' own form: for each kind, compositionally. Own text, for every seat (YtokljkneflejdaaDoor: the seat's name). -/
namespace Go.Proofs.YtokljkneflejdaaDoorO
open Go.RowKit Go.ChangeShapes Go.WideShapes Go.ChangeAt Go.Proofs.YtokljkneflejdaaDoorW.PrintWords
def Opens {α : Type} {H : Type} (enc : TypeId × Value → H) (P : Program) (w : World) (T : TypeId) (d : Kd α) (good : α → Prop) : Prop :=
 ∀ (fuel : Nat) (cs : List Value) (x : DataW H × List MemPlace), DataW.trod enc P w 0 (fun _ => true) true fuel T cs = some x → ∃ a, d.K w a cs ∧ good a
def OpensSeq {α : Type} {H : Type} (enc : TypeId × Value → H) (P : Program) (w : World) (fs : List (TypeId × Nat)) (d : Kd α) (good : α → Prop) : Prop :=
 ∀ (fuel : Nat) (cs : List Value), cs.length = (fs.map (·.2)).sum → (∀ (j : Nat) (T n : Nat), fs[j]? = some (T, n) → ∃ x, DataW.trod enc P w 0 (fun _ => true) true fuel T ((cs.drop ((fs.take j).map (·.2)).sum).take n) = some x) → ∃ a, d.K w a cs ∧ good a

section
variable {H : Type} {enc : TypeId × Value → H} {P : Program} {w : World}

def IntGood (k : IntKind) (a : Int) : Prop := (Lit.int k a).wf = true
def StrGood (a : ByteArray) : Prop := a.size ≤ 9223372036854775807
def ListGood {α : Type} (g : α → Prop) (l : List α) : Prop := l.length ≤ 9223372036854775807 ∧ ∀ x ∈ l, g x

theorem opens_int {T : TypeId} {k : IntKind} (ht : P.underlying T = some (.int k)) : Opens enc P w T (Kd.int k) (IntGood k) := by
 intro fuel cs x h
 obtain ⟨n, rfl, _, hw⟩ := DataW.trod_int ht h
 exact ⟨n, rfl, hw⟩
theorem opens_bool {T : TypeId} (ht : P.underlying T = some .bool) : Opens enc P w T Kd.bool (fun _ => True) := by
 intro fuel cs x h
 obtain ⟨n, rfl, _⟩ := DataW.trod_bool ht h
 exact ⟨n, rfl, trivial⟩
theorem opens_string {T : TypeId} (ht : P.underlying T = some .string) : Opens enc P w T Kd.string StrGood := by
 intro fuel cs x h
 obtain ⟨s, rfl, _, hs⟩ := DataW.trod_string ht h
 exact ⟨s, rfl, (by unfold StrGood; unfold maxLen at hs; omega)⟩

theorem choose_list {α : Type} {n : Nat} {p : Nat → α → Prop} (h : ∀ i, i < n → ∃ a, p i a) : ∃ l : List α, l.length = n ∧ ∀ i a, l[i]? = some a → p i a := by
 induction n with
 | zero => exact ⟨[], rfl, fun i a hi => by simp at hi⟩
 | succ n ih =>
  obtain ⟨l, hl, hp⟩ := ih (fun i hi => h i (by omega))
  obtain ⟨a, ha⟩ := h n (by omega)
  refine ⟨l ++ [a], (by simp [hl]), fun i b hi => ?_⟩
  rcases Nat.lt_or_ge i l.length with hlt | hge
  ·
   rw [List.getElem?_append_left hlt] at hi
   exact hp i b hi
  ·
   rw [List.getElem?_append_right hge] at hi
   have : i - l.length = 0 := by
    rcases Nat.eq_zero_or_pos (i - l.length) with h0 | h0
    ·
     exact h0
    ·
     rw [List.getElem?_eq_none (by simp; omega)] at hi; simp at hi
   rw [this] at hi
   simp at hi
   subst hi
   have : i = n := by omega
   rw [this]
   exact ha

theorem opens_slice {α : Type} {d : Kd α} {good : α → Prop} {T e : TypeId} (ht : P.underlying T = some (.slice e)) (hc : P.cellsOf e = d.sz) (ho : Opens enc P w e d good) : Opens enc P w T (Kd.slice e d) (ListGood good) := by
 intro fuel cs x h
 rcases Deep.open_slice ht h with ⟨rfl, _⟩ | ⟨a, len, cap, m, n, D, Pl, rfl, _, hl, hm, hmm, _, hx⟩
 ·
  exact ⟨[], ⟨none, 0, rfl, Nat.le_refl _, ⟨rfl, (by simp), fun h0 => by simp at h0⟩⟩, ⟨(by simp), fun x hx => by simp at hx⟩⟩
 ·
  have hle : len ≤ m := by rw [hmm]; split <;> omega
  have hex : ∀ i, i < len → ∃ b : α, (∃ c, c.length = d.sz ∧ d.K w b c ∧ ∀ j u, c[j]? = some u → w.cell? (a.add (i * d.sz + j)) = some u) ∧ good b := by
   intro i hi
   obtain ⟨cs', h1, h2⟩ := hx i (by omega)
   obtain ⟨b, hK, hg⟩ := ho _ _ _ h2
   obtain ⟨_, hlen, hcell⟩ := World.cells?_some h1
   refine ⟨b, ⟨cs', (by rw [hlen, hc]), hK, fun j u hu => ?_⟩, hg⟩
   have hj : j < P.cellsOf e := by
    rw [← hlen]
    exact (List.getElem?_eq_some_iff.1 hu).1
   rw [← Deep.add_add, ← hc, hcell j hj, hu]
  obtain ⟨l, hll, hp⟩ := choose_list hex
  unfold maxLen at hm
  refine ⟨l, ⟨some a, cap, by rw [hll], by omega, ⟨rfl, by omega, fun _ => ⟨a, rfl, fun j p hj => (hp j p hj).1⟩⟩⟩, ⟨(by omega), fun x hx => ?_⟩⟩
  obtain ⟨i, hi, rfl⟩ := List.getElem_of_mem hx
  exact (hp i _ (List.getElem?_eq_getElem hi)).2

theorem opensSeq_one {α : Type} {d : Kd α} {good : α → Prop} {T n : Nat} (ho : Opens enc P w T d good) : OpensSeq enc P w [(T, n)] d good := by
 intro fuel cs hlen h
 obtain ⟨x, hx⟩ := h 0 T n rfl
 simp at hlen
 simp [List.take_of_length_le (Nat.le_of_eq hlen)] at hx
 exact ho _ _ _ hx
theorem opensSeq_cons {α β : Type} {d : Kd α} {good : α → Prop} {d2 : Kd β} {good2 : β → Prop} {T n : Nat} {fs : List (TypeId × Nat)} (ho : Opens enc P w T d good) (hs : OpensSeq enc P w fs d2 good2) :
  OpensSeq enc P w ((T, n) :: fs) (Kd.pair d d2) (fun x => good x.1 ∧ good2 x.2) := by
 intro fuel cs hlen h
 obtain ⟨x, hx⟩ := h 0 T n rfl
 simp at hx
 obtain ⟨a, hK, hg⟩ := ho _ _ _ hx
 simp only [List.map_cons, List.sum_cons] at hlen
 obtain ⟨b, hK2, hg2⟩ := hs fuel (cs.drop n) (by rw [List.length_drop, hlen]; omega) (fun j T' n' hj => by
  obtain ⟨y, hy⟩ := h (j + 1) T' n' (by simpa using hj)
  refine ⟨y, ?_⟩
  simp only [List.take_succ_cons, List.map_cons, List.sum_cons] at hy
  rw [List.drop_drop]
  exact hy)
 exact ⟨(a, b), ⟨cs.take n, cs.drop n, (List.take_append_drop n cs).symm, hK, hK2⟩, hg, hg2⟩
theorem opens_struct {α β : Type} {d : Kd α} {good : α → Prop} {T : TypeId} {fs : Array Field} {l : List (TypeId × Nat)} (f : β → α) (g : α → β) (hfg : ∀ a, f (g a) = a) (ht : P.underlying T = some (.struct fs))
  (hl : l.length = fs.size) (hf : ∀ (j : Nat) (T' n : Nat), l[j]? = some (T', n) → ∃ fd, fs[j]? = some fd ∧ fd.type = T' ∧ P.cellsOf T' = n ∧ fd.offset = ((l.take j).map (·.2)).sum) (hc : P.cellsOf T = (l.map (·.2)).sum)
  (hs : OpensSeq enc P w l d good) : Opens enc P w T (Kd.iso d f) (fun x => good (f x)) := by
 intro fuel cs x h
 obtain ⟨xs, n, _, _, hlen, hxl, hx⟩ := DataW.trod_struct ht h
 obtain ⟨a, hK, hg⟩ := hs n cs (by rw [hlen, hc]) (fun j T' n' hj => by
  obtain ⟨fd, h1, h2, h3, h4⟩ := hf j T' n' hj
  have h5 := hx j fd h1
  have hj2 : j < xs.length := by
   have := (List.getElem?_eq_some_iff.1 hj).1
   omega
  rw [List.getElem?_eq_getElem hj2, h2, h3, h4] at h5
  exact ⟨_, h5⟩)
 refine ⟨g a, ?_, ?_⟩
 ·
  show d.K w (f (g a)) cs
  rw [hfg]; exact hK
 ·
  show good (f (g a))
  rw [hfg]; exact hg
end
end Go.Proofs.YtokljkneflejdaaDoorO
end
section
/- A call of a function value that is known: words of this session beside the print's own (YtokljkneflejdaaDoor: the seat's name). -/
namespace Go.Proofs.YtokljkneflejdaaDoorW.PrintLast
open Go.RowKit Go.Proofs.YtokljkneflejdaaDoorW.PrintWords
section
variable {P : Program} {ops : Array Oper} {Q : Exit → Act → World → Prop}
theorem goesV_ {oi : Oper} {N : Option Tmp} {a : Act} {w : World} {K : Act → World → Prop} {f : FuncId} {fn : Func} {s : Operand} {ops_ : Array Operand} {ts : Array TypeId} (hf : P.funcs[f]? = some fn) (hname : (fn.name == "runtime.NumGoroutine") = false) (hb : fn.body.isSome = true) (args : Array Value)
  (hw : Region.wanted oi (yielded ops a.tmps) = true) (hN : oi.dst = N) (hop : oi.op = .call { callee := .value s, args := ops_, argTypes := ts }) (hs : a.eval s = .func (.func f) #[] #[]) (hargs : ops_.map a.eval = args)
  (h : Calls P f args w fun e w' => ∃ v, e = .returned v ∧ K (a.put N v) w') : if Region.wanted oi (yielded ops a.tmps) = true then Oper.wp P oi a w K Q else K (a.put N undef) w := by
 refine call_ f args hw hN ?_ h
 have he := enters_ hf hname hb args w
 unfold execOp
 simp [hop, resolve, Deferred.ofValue, invoke, hs, hargs, he]
end
end Go.Proofs.YtokljkneflejdaaDoorW.PrintLast
end
section
namespace Go.Proofs.YtokljkneflejdaaDoor.PT
open Go.RowKit Go.Proofs.YtokljkneflejdaaDoorW.PrintWords Go.Proofs.YtokljkneflejdaaDoorW.PrintLast Go.Proofs.YtokljkneflejdaaDoorW.PrintMore
attribute [local go_sem] max2_int min2_int max_two min_two max_three min_three max_four min_four   -- for this text's walks alone
set_option linter.unusedVariables false
set_option linter.unusedSimpArgs false



def errW : Option Int → Value
 | none => .nilIface
 | some c => .iface 87 (.int .i64 c)
theorem errW_none : errW none = .nilIface := rfl
theorem errW_some (c : Int) : errW (some c) = .iface 87 (.int .i64 c) := rfl

theorem info3 : (Tryd.prog.info? 3).map (fun i => (i.zero, i.size, i.bytes)) = some (some (.int .i64 0), 1, 8) := by kernel_rfl
theorem info5 : (Tryd.prog.info? 5).map (fun i => (i.zero, i.size, i.bytes)) = some (some (.int .u8 0), 1, 1) := by kernel_rfl
theorem info9 : (Tryd.prog.info? 9).map (fun i => (i.zero, i.size, i.bytes)) = some (some (.string ⟨#[]⟩), 1, 16) := by kernel_rfl
theorem info30 : (Tryd.prog.info? 30).map (fun i => (i.zero, i.size, i.bytes)) = some (some (.agg #[(.int .i64 0), (.int .i64 0), (.int .i64 0), (.int .i64 0)]), 4, 32) := by kernel_rfl
-- the values' own types
structure S30 where
 f0 : Int
 f1 : Int
 f2 : Int
 f3 : Int
def z30 : S30 := ⟨(0 : Int), (0 : Int), (0 : Int), (0 : Int)⟩
def k30 : Kd S30 := Kd.iso (Kd.pair (Kd.int .i64) (Kd.pair (Kd.int .i64) (Kd.pair (Kd.int .i64) (Kd.int .i64)))) (fun x : S30 => (x.f0, x.f1, x.f2, x.f3))
theorem k30_open {w : World} {x : S30} {cs : List Value} (h : k30.K w x cs) : cs = [.int .i64 x.f0, .int .i64 x.f1, .int .i64 x.f2, .int .i64 x.f3] := by
 obtain ⟨_, _, rfl, rfl, ⟨_, _, rfl, rfl, ⟨_, _, rfl, rfl, rfl⟩⟩⟩ := h
 exact rfl
theorem k30_openM {w : World} {base : Nat} {ok : Nat → Prop} {x : S30} {cs : List Value} (h : k30.M w base ok x cs) : cs = [.int .i64 x.f0, .int .i64 x.f1, .int .i64 x.f2, .int .i64 x.f3] := by
 obtain ⟨_, _, rfl, rfl, ⟨_, _, rfl, rfl, ⟨_, _, rfl, rfl, rfl⟩⟩⟩ := h
 exact rfl
theorem k30_mk (w : World) (x : S30)  : k30.K w x [.int .i64 x.f0, .int .i64 x.f1, .int .i64 x.f2, .int .i64 x.f3] := ⟨[.int .i64 x.f0], [.int .i64 x.f1, .int .i64 x.f2, .int .i64 x.f3], rfl, rfl, ⟨[.int .i64 x.f1], [.int .i64 x.f2, .int .i64 x.f3], rfl, rfl, ⟨[.int .i64 x.f2], [.int .i64 x.f3], rfl, rfl, rfl⟩⟩⟩
theorem k30_mkM (w : World) (base : Nat) (ok : Nat → Prop) (x : S30)  : k30.M w base ok x [.int .i64 x.f0, .int .i64 x.f1, .int .i64 x.f2, .int .i64 x.f3] := ⟨[.int .i64 x.f0], [.int .i64 x.f1, .int .i64 x.f2, .int .i64 x.f3], rfl, rfl, ⟨[.int .i64 x.f1], [.int .i64 x.f2, .int .i64 x.f3], rfl, rfl, ⟨[.int .i64 x.f2], [.int .i64 x.f3], rfl, rfl, rfl⟩⟩⟩
def rd_T30 (xs : List S30) (i : Int) : S30 := xs.getD i.toNat z30
theorem at_T30 {w : World} {A : Option Addr} {n : Nat} {xs : List S30} (h : Kd.C k30 w A n xs) (i : Int) (h0 : 0 ≤ i) (h1 : i < n) : ∃ ad , A = some ad ∧ w.cell? (ad.add (i.toNat * 4)) = some (.int .i64 (rd_T30 xs i).f0) ∧ w.cell? ⟨(ad.add (i.toNat * 4)).block, (ad.add (i.toNat * 4)).off + 1, none⟩ = some (.int .i64 (rd_T30 xs i).f1) ∧ w.cell? ⟨(ad.add (i.toNat * 4)).block, (ad.add (i.toNat * 4)).off + 2, none⟩ = some (.int .i64 (rd_T30 xs i).f2) ∧ w.cell? ⟨(ad.add (i.toNat * 4)).block, (ad.add (i.toNat * 4)).off + 3, none⟩ = some (.int .i64 (rd_T30 xs i).f3) := by
 obtain ⟨ad, c, e, _, hK, hc0⟩ := Kd.C_get h z30 i h0 h1
 have hc : ∀ j u, c[j]? = some u → w.cell? (ad.add (i.toNat * 4 + j)) = some u := hc0
 obtain rfl := k30_open hK
 exact ⟨ad, e, hc 0 _ rfl, (by rw [← add_field _ _ 1 (by omega)]; exact hc 1 _ rfl), (by rw [← add_field _ _ 2 (by omega)]; exact hc 2 _ rfl), (by rw [← add_field _ _ 3 (by omega)]; exact hc 3 _ rfl)⟩

end Go.Proofs.YtokljkneflejdaaDoor.PT
end
section
/- Rows of 64-bit words, as a block of memory holds them. -/
namespace Go.Proofs.YtokljkneflejdaaDoor.PT
open Go.RowKit Go.Proofs.YtokljkneflejdaaDoorW.PrintWords Go.Proofs.YtokljkneflejdaaDoorW.PrintLast Go.Proofs.YtokljkneflejdaaDoorW.PrintMore
set_option linter.unusedVariables false
set_option linter.unusedSimpArgs false
def uarr (k : IntKind) (xs : List Int) : Array Value := (xs.map fun x => Value.int k x).toArray
theorem uarr_size (k : IntKind) (xs : List Int) : (uarr k xs).size = xs.length := by simp [uarr]
theorem uarr_get {k : IntKind} {xs : List Int} {i : Nat} (h : i < xs.length) : (uarr k xs)[i]? = some (.int k (xs.getD i 0)) := by
 simp [uarr, List.getD, h]
theorem uarr_put (k : IntKind) (xs : List Int) (i : Nat) (v : Int) : (uarr k xs).setIfInBounds i (.int k v) = uarr k (xs.set i v) := by
 simp [uarr, List.map_set]
theorem uarr_one (k : IntKind) (xs : List Int) : (uarr k xs).all (·.oneCell') = true := by
 rw [Array.all_eq_true_iff_forall_mem]
 intro v hv
 simp only [uarr, List.mem_toArray, List.mem_map] at hv
 obtain ⟨x, _, rfl⟩ := hv
 rfl
theorem row_cell {w : World} {g : Nat} {t : TypeId} {k : IntKind} {xs : List Int} (h : w.heap[g]? = some (.cells (uarr k xs) t (0, 0))) {i : Nat} (hi : i < xs.length) : w.cell? ⟨g, i, none⟩ = some (.int k (xs.getD i 0)) := (blk_cell h i).trans (uarr_get hi)
theorem row_put {w : World} {g : Nat} {t : TypeId} {k : IntKind} {xs : List Int} (h : w.heap[g]? = some (.cells (uarr k xs) t (0, 0))) (i : Nat) (v : Int) : (w.setCell ⟨g, i, none⟩ (.int k v)).heap[g]? = some (.cells (uarr k (xs.set i v)) t (0, 0)) := blk_put h i _ (uarr_put k xs i v)
def iter {α : Type} (f : Nat → α → α) : Nat → Nat → α → α
 | 0, _, x => x
 | k + 1, j, x => iter f k (j + 1) (f j x)
end Go.Proofs.YtokljkneflejdaaDoor.PT
end
section
/- Own parts of memory, each with what is known of it, and what is known of the rest: one fact that moves with the world. -/
namespace Go.Proofs.YtokljkneflejdaaDoor.PT
open Go.RowKit Go.Proofs.YtokljkneflejdaaDoorW.PrintWords Go.Proofs.YtokljkneflejdaaDoorW.PrintLast Go.Proofs.YtokljkneflejdaaDoorW.PrintMore
set_option linter.unusedVariables false
set_option linter.unusedSimpArgs false
structure Grp where
 S : Nat → Prop
 A : World → Prop
structure Agr (w w' : World) (S : Nat → Prop) : Prop where
 os : w'.os = w.os
 tape : w'.tape = w.tape
 output : w'.output = w.output
 size : w.heap.size ≤ w'.heap.size
 block : ∀ k, k < w.heap.size → ¬ S k → w'.heap[k]? = w.heap[k]?
def NoB : Nat → Prop := fun _ => False
theorem Agr.refl (w : World) (S : Nat → Prop) : Agr w w S := ⟨rfl, rfl, rfl, Nat.le_refl _, fun _ _ _ => rfl⟩
theorem Agr.mono {w w' : World} {S T : Nat → Prop} (h : Agr w w' S) (hs : ∀ k, S k → T k) : Agr w w' T := ⟨h.os, h.tape, h.output, h.size, fun k hk hn => h.block k hk (fun hS => hn (hs k hS))⟩
theorem Agr.trans {w w1 w2 : World} {S T : Nat → Prop} (h : Agr w w1 S) (k : Agr w1 w2 T) (hT : ∀ i, T i → S i ∨ w.heap.size ≤ i) : Agr w w2 S :=
 ⟨k.os.trans h.os, k.tape.trans h.tape, k.output.trans h.output, Nat.le_trans h.size k.size, fun i hi hn => (k.block i (Nat.lt_of_lt_of_le hi h.size) (fun hk => (hT i hk).elim hn (fun h2 => absurd hi (Nat.not_lt.2 h2)))).trans (h.block i hi hn)⟩
theorem Agr.of_below {w w' : World} (h : Below w.heap.size w w') : Agr w w' NoB := ⟨h.os, h.tape, h.output, h.size, fun k hk _ => h.block k hk⟩
theorem Agr.below {w w' : World} (h : Agr w w' NoB) : Below w.heap.size w w' := ⟨h.os, h.tape, h.output, h.size, fun k hk => h.block k hk (fun h => h)⟩
theorem Agr.of_grown {w w' : World} {v : Value} (h : w.grownBy w' v.ownBlock) : Agr w w' (fun k => some k = v.ownBlock) := ⟨h.os, h.tape, h.output, h.size, fun k hk hn => h.block k hk hn⟩
theorem Agr.of_keep {w0 w w' : World} {g : Nat} (h : KeepBut w w' g none) (hb : Below w0.heap.size w0 w) (hb' : Below w0.heap.size w0 w') : Agr w w' (fun k => k = g) :=
 ⟨hb'.os.trans hb.os.symm, hb'.tape.trans hb.tape.symm, hb'.output.trans hb.output.symm, h.1, fun k hk hn => h.2 k hk hn (by simp)⟩
theorem Agr.keep {w w' : World} {g : Nat} (h : Agr w w' (fun k => k = g)) : KeepBut w w' g none := ⟨h.size, fun k hk hn _ => h.block k hk hn⟩
theorem Agr.cell {w w' : World} {S : Nat → Prop} (h : Agr w w' S) {a : Addr} {v : Value} (hc : w.cell? a = some v) (hn : ¬ S a.block) : w'.cell? a = some v := by
 have := h.block a.block (World.block_lt_of_cell? w a hc) hn
 simpa [World.cell?, this] using hc
theorem Agr.onto {w0 w w' : World} {S : Nat → Prop} (h : Agr w w' S) (hb : Below w0.heap.size w0 w) (hS : ∀ k, S k → w0.heap.size ≤ k) : Below w0.heap.size w0 w' :=
 ⟨h.os.trans hb.os, h.tape.trans hb.tape, h.output.trans hb.output, Nat.le_trans hb.size h.size, fun k hk => (h.block k (Nat.lt_of_lt_of_le hk hb.size) (fun hs => absurd hk (Nat.not_lt.2 (hS k hs)))).trans (hb.block k hk)⟩
def InL (L : List Grp) (k : Nat) : Prop := ∃ b, b ∈ L ∧ b.S k
structure Inv (w0 : World) (P : Nat → Prop) (w : World) (L : List Grp) (F : World → Prop) : Prop where
 agr : Agr w0 w P
 lt : ∀ b, b ∈ L → ∀ k, b.S k → k < w.heap.size
 new : ∀ b, b ∈ L → ∀ k, b.S k → w0.heap.size ≤ k ∨ P k
 own : ∀ b, b ∈ L → ∀ w', (∀ k, b.S k → w'.heap[k]? = w.heap[k]?) → b.A w'
 dis : L.Pairwise (fun a b => ∀ k, a.S k → ¬ b.S k)
 facts : ∀ w', Agr w w' (InL L) → F w'
namespace Inv
variable {w0 w w1 : World} {P : Nat → Prop} {L : List Grp} {F : World → Prop}
theorem start (w : World) (F : World → Prop) (hF : ∀ w', Below w.heap.size w w' → F w') : Inv w NoB w [] F :=
 ⟨Agr.refl _ _, fun _ h => (by cases h), fun _ h => (by cases h), fun _ h => (by cases h), List.Pairwise.nil, fun w' h => hF w' (h.mono (fun k hk => by obtain ⟨_, h, _⟩ := hk; cases h)).below⟩
theorem now (h : Inv w0 P w L F) : F w := h.facts w (Agr.refl _ _)
theorem get (h : Inv w0 P w L F) {b : Grp} (i : Nat) (hi : L[i]? = some b) : b.A w := h.own b (List.mem_of_getElem? hi) w (fun _ _ => rfl)
theorem below (h : Inv w0 NoB w L F) : Below w0.heap.size w0 w := h.agr.below
theorem weaken (h : Inv w0 P w L F) {G : World → Prop} (hG : ∀ w, F w → G w) : Inv w0 P w L G := ⟨h.agr, h.lt, h.new, h.own, h.dis, fun w' hw => hG _ (h.facts w' hw)⟩
theorem grow (h : Inv w0 P w L F) (hA : Below w.heap.size w w1) : Inv w0 P w1 L F :=
 ⟨h.agr.trans (Agr.of_below hA) (fun _ h => h.elim), fun b hb k hk => Nat.lt_of_lt_of_le (h.lt b hb k hk) hA.size, h.new, fun b hb w' hw => h.own b hb w' (fun k hk => (hw k hk).trans (hA.block k (h.lt b hb k hk))), h.dis,
  fun w' hw => h.facts w' ((Agr.mono (Agr.of_below hA) (fun _ h => h.elim)).trans hw (fun i hi => .inl hi))⟩
theorem push (h : Inv w0 P w L F) (hA : Below w.heap.size w w1) (b : Grp) (hS : ∀ k, b.S k → w.heap.size ≤ k ∧ k < w1.heap.size) (hown : ∀ w', (∀ k, b.S k → w'.heap[k]? = w1.heap[k]?) → b.A w') : Inv w0 P w1 (b :: L) F := by
 have hg := h.grow hA
 refine ⟨hg.agr, fun c hc k hk => ?_, fun c hc k hk => ?_, fun c hc w' hw => ?_, List.Pairwise.cons (fun c hc k hk hk2 => ?_) h.dis, fun w' hw => ?_⟩
 ·
  rcases List.mem_cons.1 hc with rfl | hc
  ·
   exact (hS k hk).2
  ·
   exact hg.lt c hc k hk
 ·
  rcases List.mem_cons.1 hc with rfl | hc
  ·
   exact .inl (Nat.le_trans h.agr.size (hS k hk).1)
  ·
   exact h.new c hc k hk
 ·
  rcases List.mem_cons.1 hc with rfl | hc
  ·
   exact hown w' hw
  ·
   exact hg.own c hc w' hw
 ·
  exact absurd (h.lt c hc k hk2) (Nat.not_lt.2 (hS k hk).1)
 ·
  refine h.facts w' ((Agr.mono (Agr.of_below hA) (fun _ h => h.elim)).trans hw (fun i hi => ?_))
  obtain ⟨c, hc, hk⟩ := hi
  rcases List.mem_cons.1 hc with rfl | hc
  ·
   exact .inr (hS i hk).1
  ·
   exact .inl ⟨c, hc, hk⟩
theorem know (h : Inv w0 P w L F) (hA : Below w.heap.size w w1) (G : World → Prop) (hG : ∀ w', (∀ k, w.heap.size ≤ k → k < w1.heap.size → w'.heap[k]? = w1.heap[k]?) → G w') : Inv w0 P w1 L (fun w => G w ∧ F w) := by
 have hg := h.grow hA
 refine ⟨hg.agr, hg.lt, hg.new, hg.own, hg.dis, fun w' hw => ⟨hG w' (fun k h1 h2 => hw.block k h2 (fun hi => ?_)), hg.facts w' hw⟩⟩
 obtain ⟨c, hc, hk⟩ := hi
 exact absurd (h.lt c hc k hk) (Nat.not_lt.2 h1)
theorem freeze {b : Grp} (h : Inv w0 P w (b :: L) F) : Inv w0 P w L (fun w => b.A w ∧ F w) := by
 refine ⟨h.agr, fun c hc => h.lt c (List.mem_cons_of_mem _ hc), fun c hc => h.new c (List.mem_cons_of_mem _ hc), fun c hc => h.own c (List.mem_cons_of_mem _ hc), (List.pairwise_cons.1 h.dis).2, fun w' hw => ⟨?_, h.facts w' (hw.mono ?_)⟩⟩
 ·
  refine h.own b List.mem_cons_self w' (fun k hk => hw.block k (h.lt b List.mem_cons_self k hk) (fun hi => ?_))
  obtain ⟨c, hc, hk2⟩ := hi
  exact (List.pairwise_cons.1 h.dis).1 c hc k hk hk2
 ·
  rintro k ⟨c, hc, hk⟩
  exact ⟨c, List.mem_cons_of_mem _ hc, hk⟩
theorem drop {b : Grp} (h : Inv w0 P w (b :: L) F) : Inv w0 P w L F := h.freeze.weaken (fun _ h => h.2)
theorem perm {L' : List Grp} (h : Inv w0 P w L F) (hp : L.Perm L') : Inv w0 P w L' F :=
 ⟨h.agr, fun b hb => h.lt b (hp.mem_iff.2 hb), fun b hb => h.new b (hp.mem_iff.2 hb), fun b hb => h.own b (hp.mem_iff.2 hb), (hp.pairwise_iff (fun {a b} hab k hk hk2 => hab k hk2 hk)).1 h.dis, fun w' hw => h.facts w' (hw.mono (fun k ⟨b, hb, hk⟩ => ⟨b, hp.mem_iff.2 hb, hk⟩))⟩
theorem swap {a b : Grp} (h : Inv w0 P w (a :: b :: L) F) : Inv w0 P w (b :: a :: L) F := h.perm (List.Perm.swap _ _ _)
theorem swap1 {a b c : Grp} (h : Inv w0 P w (a :: b :: c :: L) F) : Inv w0 P w (a :: c :: b :: L) F := h.perm ((List.Perm.swap _ _ _).cons _)
theorem front2 {a b c : Grp} (h : Inv w0 P w (a :: b :: c :: L) F) : Inv w0 P w (c :: a :: b :: L) F := h.swap1.swap
theorem front3 {a b c d : Grp} (h : Inv w0 P w (a :: b :: c :: d :: L) F) : Inv w0 P w (d :: a :: b :: c :: L) F := (h.perm (((List.Perm.swap _ _ _).cons _).cons _)).front2
theorem front4 {a b c d e : Grp} (h : Inv w0 P w (a :: b :: c :: d :: e :: L) F) : Inv w0 P w (e :: a :: b :: c :: d :: L) F := (h.perm ((((List.Perm.swap _ _ _).cons _).cons _).cons _)).front3
theorem back2 {a b c : Grp} (h : Inv w0 P w (c :: a :: b :: L) F) : Inv w0 P w (a :: b :: c :: L) F := h.swap.swap1
theorem step {b : Grp} (h : Inv w0 P w (b :: L) F) (hA : Agr w w1 b.S) (b' : Grp) (hS : ∀ k, b'.S k → (b.S k ∨ w.heap.size ≤ k) ∧ k < w1.heap.size) (hown : ∀ w', (∀ k, b'.S k → w'.heap[k]? = w1.heap[k]?) → b'.A w') : Inv w0 P w1 (b' :: L) F := by
 have hm : ∀ c, c ∈ L → ∀ k, c.S k → k < w.heap.size ∧ ¬ b.S k := fun c hc k hk => ⟨h.lt c (List.mem_cons_of_mem _ hc) k hk, fun hb => (List.pairwise_cons.1 h.dis).1 c hc k hb hk⟩
 refine ⟨h.agr.trans hA (fun i hi => (h.new b List.mem_cons_self i hi).symm), fun c hc k hk => ?_, fun c hc k hk => ?_, fun c hc w' hw => ?_, List.Pairwise.cons (fun c hc k hk hk2 => ?_) (List.pairwise_cons.1 h.dis).2, fun w' hw => ?_⟩
 ·
  rcases List.mem_cons.1 hc with rfl | hc
  ·
   exact (hS k hk).2
  ·
   exact Nat.lt_of_lt_of_le (hm c hc k hk).1 hA.size
 ·
  rcases List.mem_cons.1 hc with rfl | hc
  ·
   rcases (hS k hk).1 with h1 | h1
   ·
    exact h.new b List.mem_cons_self k h1
   ·
    exact .inl (Nat.le_trans h.agr.size h1)
  ·
   exact h.new c (List.mem_cons_of_mem _ hc) k hk
 ·
  rcases List.mem_cons.1 hc with rfl | hc
  ·
   exact hown w' hw
  ·
   exact h.own c (List.mem_cons_of_mem _ hc) w' (fun k hk => (hw k hk).trans (hA.block k (hm c hc k hk).1 (hm c hc k hk).2))
 ·
  rcases (hS k hk).1 with h1 | h1
  ·
   exact (hm c hc k hk2).2 h1
  ·
   exact absurd (hm c hc k hk2).1 (Nat.not_lt.2 h1)
 ·
  refine h.facts w' ((hA.mono (fun k hk => ⟨b, List.mem_cons_self, hk⟩)).trans hw (fun i hi => ?_))
  obtain ⟨c, hc, hk⟩ := hi
  rcases List.mem_cons.1 hc with rfl | hc
  ·
   exact (hS i hk).1.imp (fun h1 => ⟨b, List.mem_cons_self, h1⟩) id
  ·
   exact .inl ⟨c, List.mem_cons_of_mem _ hc, hk⟩
theorem drew (h : Inv w0 P w L F) : Inv w0 P w.drew L F := h.grow (below_drew (Below.refl _ _))
theorem drewN (h : Inv w0 P w L F) (n : Nat) : Inv w0 P (w.drewN n) L F := h.grow (pw_below_drewN (Below.refl _ _) n)
theorem alloc (h : Inv w0 P w L F) (o : Obj) : Inv w0 P (w.alloc o) L F := h.grow (below_alloc (Below.refl _ _) o)
end Inv
def blk (g : Nat) (t : TypeId) (cs : Array Value) : Grp := ⟨fun k => k = g, fun w => w.heap[g]? = some (.cells cs t (0, 0))⟩
def row {α : Type} (d : Kd α) (e base : Nat) (v : Value) (xs : List α) (S : Nat → Prop) : Grp := ⟨S, fun w => d.R e w base S v xs⟩
namespace Inv
variable {w0 w w1 : World} {P : Nat → Prop} {L : List Grp} {F : World → Prop}
theorem box (h : Inv w0 P w L F) {g : Nat} {t : TypeId} {cs : Array Value} (hg : g = w.heap.size) (hbox : w1.heap[g]? = some (.cells cs t (0, 0))) (hb : Below w.heap.size w w1) : Inv w0 P w1 (blk g t cs :: L) F :=
 h.push hb (blk g t cs) (fun k hk => by obtain rfl : k = g := hk; exact ⟨Nat.le_of_eq hg.symm, blk_lt hbox⟩) (fun w' hw => (hw g rfl).trans hbox)
theorem startP {g : Nat} {t : TypeId} {cs : Array Value} (w : World) (hb : w.heap[g]? = some (.cells cs t (0, 0))) (F : World → Prop) (hF : ∀ w', Agr w w' (fun k => k = g) → F w') : Inv w (fun k => k = g) w [blk g t cs] F :=
 ⟨Agr.refl _ _, fun b h k hk => (by obtain rfl := List.mem_singleton.1 h; obtain rfl : k = g := hk; exact blk_lt hb), fun b h k hk => (by obtain rfl := List.mem_singleton.1 h; exact .inr hk),
  fun b h w' hw => (by obtain rfl := List.mem_singleton.1 h; exact (hw g rfl).trans hb), List.pairwise_singleton _ _, fun w' hw => hF w' (hw.mono (fun k ⟨b, hb, hk⟩ => by obtain rfl := List.mem_singleton.1 hb; exact hk))⟩
theorem blk0 {g : Nat} {t : TypeId} {cs : Array Value} (h : Inv w0 P w (blk g t cs :: L) F) : w.heap[g]? = some (.cells cs t (0, 0)) := h.get 0 rfl
theorem ge0 {g : Nat} {t : TypeId} {cs : Array Value} (h : Inv w0 NoB w (blk g t cs :: L) F) : w0.heap.size ≤ g := (h.new _ List.mem_cons_self g rfl).elim id (fun h => h.elim)
theorem put0 {g : Nat} {t : TypeId} {cs : Array Value} (h : Inv w0 P w (blk g t cs :: L) F) (new : Array Value) : Inv w0 P (w.setRow g new) (blk g t new :: L) F :=
 h.step (w1 := w.setRow g new) ⟨rfl, rfl, rfl, (by simp), fun k _ hn => setRow_other _ _ _ _ hn⟩ (blk g t new) (fun k hk => ⟨.inl hk, (by obtain rfl : k = g := hk; simpa using blk_lt h.blk0)⟩) (fun w' hw => (hw g rfl).trans (setRow_heap _ _ _ _ _ _ h.blk0))
theorem set0 {g : Nat} {t : TypeId} {cs : Array Value} (h : Inv w0 P w (blk g t cs :: L) F) (j : Nat) (v : Value) : Inv w0 P (w.setCell ⟨g, j, none⟩ v) (blk g t (cs.setIfInBounds j v) :: L) F :=
 h.step (w1 := w.setCell ⟨g, j, none⟩ v) ⟨rfl, rfl, rfl, by simp [World.setCell], fun k _ hn => Below.heap_setCell w ⟨g, j, none⟩ v k hn⟩ (blk g t _) (fun k hk => ⟨.inl hk, (by obtain rfl : k = g := hk; have := blk_lt (blk_set h.blk0 j v); exact this)⟩) (fun w' hw => (hw g rfl).trans (blk_set h.blk0 j v))
theorem ne01 {g g' : Nat} {t t' : TypeId} {cs cs' : Array Value} (h : Inv w0 P w (blk g t cs :: blk g' t' cs' :: L) F) : g ≠ g' := fun e => (List.pairwise_cons.1 h.dis).1 _ List.mem_cons_self g rfl e
theorem rowPush {α : Type} {d : Kd α} {e : Nat} {v : Value} {xs : List α} {ok : Nat → Prop} (h : Inv w0 P w L F) (hb : Below w.heap.size w w1) (hR : d.R e w1 w.heap.size ok v xs) :
  Inv w0 P w1 (row d e w0.heap.size v xs (fun k => w.heap.size ≤ k ∧ k < w1.heap.size) :: L) F := by
 have hR2 : d.R e w1 w0.heap.size (fun k => w.heap.size ≤ k ∧ k < w1.heap.size) v xs := Kd.R_lower (Kd.R_mono (Kd.R_bound hR) (fun k hk => ⟨hk.2.1, hk.2.2.1⟩)) h.agr.size
 exact h.push hb _ (fun k hk => hk) (fun w' hw => Kd.R_step hR2 (fun k hk _ => hw k hk))
theorem rowKnow {α : Type} {d : Kd α} {e : Nat} {v : Value} {xs : List α} {ok : Nat → Prop} (h : Inv w0 P w L F) (hb : Below w.heap.size w w1) (hR : d.R e w1 w.heap.size ok v xs) :
  ∃ A c, v = .slice A xs.length c ∧ xs.length ≤ c ∧ Inv w0 P w1 L (fun w => d.C w A xs.length xs ∧ F w) := by
 have hR2 : d.R e w1 w.heap.size (fun k => w.heap.size ≤ k ∧ k < w1.heap.size) v xs := Kd.R_mono (Kd.R_bound hR) (fun k hk => ⟨hk.2.1, hk.2.2.1⟩)
 obtain ⟨A, c, rfl, hc, _⟩ := Kd.R_reads hR
 refine ⟨A, c, rfl, hc, h.know hb _ (fun w' hw => ?_)⟩
 obtain ⟨A', c', e, _, hC⟩ := Kd.R_reads (Kd.R_step hR2 (fun k hk _ => hw k hk.1 hk.2))
 cases e
 exact hC
theorem row0 {α : Type} {d : Kd α} {e b : Nat} {v : Value} {xs : List α} {S : Nat → Prop} (h : Inv w0 P w (row d e b v xs S :: L) F) : d.R e w b S v xs := h.get 0 rfl
theorem row0W {α : Type} {d : Kd α} {e b : Nat} {v : Value} {xs : List α} {S : Nat → Prop} (h : Inv w0 P w (row d e b v xs S :: L) F) : d.R e w b (fun k => S k ∨ w.heap.size ≤ k) v xs := Kd.R_mono h.row0 (fun _ hk => .inl hk)
theorem grown0 {α : Type} {d : Kd α} {e b : Nat} {v v1 : Value} {xs ys : List α} {S ok : Nat → Prop} (h : Inv w0 P w (row d e b v xs S :: L) F) (hb : Below b w w1) (hR : d.R e w1 b ok v1 ys) (hok : ∀ k, ok k → k < w1.heap.size → S k ∨ w.heap.size ≤ k) (hg : w.grownBy w1 v.ownBlock) :
  Inv w0 P w1 (row d e b v1 ys (fun k => (S k ∨ w.heap.size ≤ k) ∧ k < w1.heap.size) :: L) F := by
 have hR2 : d.R e w1 b (fun k => (S k ∨ w.heap.size ≤ k) ∧ k < w1.heap.size) v1 ys := Kd.R_mono (Kd.R_bound hR) (fun k hk => ⟨hok k hk.1 hk.2.2.1, hk.2.2.1⟩)
 exact h.step ((Agr.of_grown hg).mono (fun k hk => h.row0.1 k hk.symm)) _ (fun k hk => hk) (fun w' hw => Kd.R_step hR2 (fun k hk _ => hw k hk))
end Inv
end Go.Proofs.YtokljkneflejdaaDoor.PT
end
section
/- Own parts of memory: what later texts need besides. -/
namespace Go.Proofs.YtokljkneflejdaaDoor.PT
open Go.RowKit Go.Proofs.YtokljkneflejdaaDoorW.PrintWords Go.Proofs.YtokljkneflejdaaDoorW.PrintLast Go.Proofs.YtokljkneflejdaaDoorW.PrintMore
set_option linter.unusedVariables false
set_option linter.unusedSimpArgs false
namespace Inv
variable {w0 w w1 : World} {P : Nat → Prop} {L : List Grp} {F : World → Prop}
theorem kept0 {α : Type} {d : Kd α} {e b : Nat} {v v1 : Value} {xs ys : List α} {S ok : Nat → Prop} (h : Inv w0 NoB w (row d e b v xs S :: L) F) (hB : Below w0.heap.size w0 w1) (hk : Kept w w1 S) (hR : d.R e w1 b ok v1 ys) (hok : ∀ k, ok k → S k ∨ w.heap.size ≤ k) :
  Inv w0 NoB w1 (row d e b v1 ys (fun k => (S k ∨ w.heap.size ≤ k) ∧ k < w1.heap.size) :: L) F := by
 have hR2 : d.R e w1 b (fun k => (S k ∨ w.heap.size ≤ k) ∧ k < w1.heap.size) v1 ys := Kd.R_mono (Kd.R_bound hR) (fun k hk => ⟨hok k hk.1, hk.2.2.1⟩)
 have hb := h.below
 exact h.step ⟨hB.os.trans hb.os.symm, hB.tape.trans hb.tape.symm, hB.output.trans hb.output.symm, hk.1, fun k hlt hn => hk.2 k hlt hn⟩ _ (fun k hk => hk) (fun w' hw => Kd.R_step hR2 (fun k hk _ => hw k hk))
end Inv
end Go.Proofs.YtokljkneflejdaaDoor.PT
end
section
/- Own parts of memory that hang on what has come up. -/
namespace Go.Proofs.YtokljkneflejdaaDoor.PT
open Go Go.RowKit Go.Proofs.YtokljkneflejdaaDoorW.PrintWords Go.Proofs.YtokljkneflejdaaDoorW.PrintLast Go.Proofs.YtokljkneflejdaaDoorW.PrintMore
set_option linter.unusedVariables false
set_option linter.unusedSimpArgs false
theorem perm_erase {α : Type} : ∀ (l : List α) (i : Nat) (b : α), l[i]? = some b → l.Perm (b :: l.eraseIdx i)
 | [], i, b, h => by simp at h
 | x :: l, 0, b, h => by
  obtain rfl : x = b := by simpa using h
  exact List.Perm.refl _
 | x :: l, i + 1, b, h => ((perm_erase l i b (by simpa using h)).cons x).trans (List.Perm.swap _ _ _)
def gif (c : Bool) (g : Grp) : Grp := ⟨fun k => c = true ∧ g.S k, fun w => c = true → g.A w⟩
namespace Inv
variable {w0 w w1 : World} {P : Nat → Prop} {L : List Grp} {F : World → Prop}
theorem head {b : Grp} (h : Inv w0 P w (b :: L) F) (b' : Grp) (hS : ∀ k, b'.S k → b.S k) (hA : ∀ w', (∀ k, b'.S k → w'.heap[k]? = w.heap[k]?) → b'.A w') : Inv w0 P w (b' :: L) F :=
 h.step (Agr.refl _ _) b' (fun k hk => ⟨.inl (hS k hk), h.lt b List.mem_cons_self k (hS k hk)⟩) hA
theorem off (h : Inv w0 P w L F) {g : Grp} : Inv w0 P w (gif false g :: L) F :=
 h.push (Below.refl _ _) _ (fun _ h => by cases h.1) (fun _ _ h => by cases h)
theorem cellsEq {g : Nat} {t : TypeId} {cs cs' : Array Value} (h : Inv w0 P w (blk g t cs :: L) F) (e : cs' = cs) : Inv w0 P w (blk g t cs' :: L) F := e ▸ h
theorem perm_set {L : List Grp} {i : Nat} {x : Grp} (y : Grp) (hx : L[i]? = some x) : (L.set i y).Perm (y :: L.eraseIdx i) := by
 have hl := (List.getElem?_eq_some_iff.1 hx).1
 have h1 : (L.set i y)[i]? = some y := by simp [hl]
 have h2 := perm_erase (L.set i y) i y h1
 rw [List.eraseIdx_set_eq] at h2
 exact h2
theorem fill (c : Bool) {g : Grp} (h : Inv w0 P w (g :: L) F) (i : Nat) (hi : Nat.ble (i + 1) L.length = true) : Inv w0 P w (L.set i (gif c g)) F := by
 have hl : i < L.length := Nat.le_of_ble_eq_true hi
 have hx : L[i]? = some L[i] := List.getElem?_eq_getElem hl
 have h1 := h.perm ((perm_erase L i L[i] hx).cons g)
 have h2 := h1.swap.drop
 have h3 := h2.head (gif c g) (fun k hk => hk.2) (fun w' hw hc => h2.own g List.mem_cons_self w' (fun k hk => hw k ⟨hc, hk⟩))
 exact h3.perm (perm_set _ hx).symm
theorem take {c : Bool} {g : Grp} (h : Inv w0 P w L F) (i : Nat) (hx : L[i]? = some (gif c g)) (hc : c = true) : Inv w0 P w (g :: L.set i (gif false g)) F := by
 subst hc
 have h1 := h.perm (perm_erase L i _ hx)
 have h2 := h1.head g (fun k hk => ⟨rfl, hk⟩) (fun w' hw => h1.own _ List.mem_cons_self w' (fun k hk => hw k hk.2) rfl)
 exact (h2.off (g := g)).perm ((List.Perm.swap _ _ _).trans ((perm_set _ hx).symm.cons g))
theorem at_ (h : Inv w0 P w L F) (b : Grp) (hb : b ∈ L) : b.A w := h.own b hb w (fun _ _ => rfl)
theorem ownOther {W : World} {T : Nat → Prop} {a : Grp} (h : Inv w0 P w (a :: L) F) (ha : Agr w W T) (hT : ∀ k, T k → a.S k) (b : Grp) (hb : b ∈ L) : b.A W :=
 h.own b (List.mem_cons_of_mem _ hb) W (fun k hk => ha.block k (h.lt b (List.mem_cons_of_mem _ hb) k hk) (fun ht => (List.pairwise_cons.1 h.dis).1 b hb k (hT k ht) hk))
theorem allocBox (h : Inv w0 P w L F) (t : TypeId) (cs : Array Value) : Inv w0 P (w.alloc (.cells cs t)) (blk w.heap.size t cs :: L) F := h.box rfl (show (w.heap.push (.cells cs t))[w.heap.size]? = _ from Array.getElem?_push_size) (below_alloc (Below.refl _ _) _)
theorem nil0 (h : Inv w0 P w L F) : Inv w0 P w (⟨fun _ => False, fun _ => True⟩ :: L) F := h.push (Below.refl _ _) _ (fun _ h => h.elim) (fun _ _ => trivial)
theorem lose {b : Grp} (h : Inv w0 P w (b :: L) F) (hA : Agr w w1 b.S) : Inv w0 P w1 L F := (h.step hA ⟨fun _ => False, fun _ => True⟩ (fun _ h => h.elim) (fun _ _ => trivial)).drop
theorem rowAt {α : Type} {d : Kd α} {e b : Nat} {v : Value} {xs : List α} {S : Nat → Prop} (h : Inv w0 P w L F) (hb : row d e b v xs S ∈ L) : d.R e w b S v xs := h.at_ _ hb
end Inv
theorem Agr.of_kept {w0 w w1 : World} {S T : Nat → Prop} (hk : Kept w w1 S) (hb : Below w0.heap.size w0 w) (hb' : Below w0.heap.size w0 w1) (hT : ∀ k, S k → T k) : Agr w w1 T :=
 ⟨hb'.os.trans hb.os.symm, hb'.tape.trans hb.tape.symm, hb'.output.trans hb.output.symm, hk.1, fun k hlt hn => hk.2 k hlt (fun hs => hn (hT k hs))⟩
end Go.Proofs.YtokljkneflejdaaDoor.PT
end
section
/- Contracts of Go's library, laid from the kit's shelf for this program. -/
namespace Go.Proofs
open Go.Shelf
def Tryd.laysM171_ren : Go.Shelf.Ren := ⟨fun | 171 => 16 | 243 => 31 | 246 => 43 | 283 => 48 | 284 => 49 | 285 => 50 | 286 => 51 | 129 => 59 | 317 => 58 | 318 => 60 | 319 => 61 | 320 => 62 | 337 => 73 | 338 => 74 | n => n, fun | 3 => 3 | 9 => 9 | 2 => 2 | 4 => 4 | 171 => 73 | 0 => 0 | 53 => 74 | 37 => 22 | 5 => 5 | 173 => 77 | 212 => 82 | 51 => 83 | 20 => 20 | 213 => 84 | 46 => 85 | 232 => 105 | 233 => 106 | n => n, fun | 17 => 0 | 18 => 4 | 19 => 5 | n => n⟩
theorem Tryd.laysM171 : Go.Proofs.LaysM.n171 Tryd.prog Tryd.laysM171_ren := {
 mixed := by kernel_rfl
 f129 := Tryd.func59.trans (congrArg some (by kernel_rfl))
 f171 := Tryd.func16.trans (congrArg some (by kernel_rfl))
 f243 := Tryd.func31.trans (congrArg some (by kernel_rfl))
 f246 := Tryd.func43.trans (congrArg some (by kernel_rfl))
 f283 := Tryd.func48.trans (congrArg some (by kernel_rfl))
 f284 := Tryd.func49.trans (congrArg some (by kernel_rfl))
 f285 := Tryd.func50.trans (congrArg some (by kernel_rfl))
 f286 := Tryd.func51.trans (congrArg some (by kernel_rfl))
 f317 := Tryd.func58.trans (congrArg some (by kernel_rfl))
 f318 := Tryd.func60.trans (congrArg some (by kernel_rfl))
 f319 := Tryd.func61.trans (congrArg some (by kernel_rfl))
 f320 := Tryd.func62.trans (congrArg some (by kernel_rfl))
 f337 := Tryd.func73.trans (congrArg some (by kernel_rfl))
 f338 := Tryd.func74.trans (congrArg some (by kernel_rfl))
 t0 := Tryd.underlying0
 a0 := Tryd.isAgg0
 z0 := Tryd.sizeOf0
 v0 := Tryd.zeroValue0
 t2 := Tryd.underlying2
 a2 := Tryd.isAgg2
 z2 := Tryd.sizeOf2
 v2 := Tryd.zeroValue2
 t3 := Tryd.underlying3
 a3 := Tryd.isAgg3
 z3 := Tryd.sizeOf3
 v3 := Tryd.zeroValue3
 t4 := Tryd.underlying4
 a4 := Tryd.isAgg4
 z4 := Tryd.sizeOf4
 v4 := Tryd.zeroValue4
 t5 := Tryd.underlying5
 a5 := Tryd.isAgg5
 z5 := Tryd.sizeOf5
 v5 := Tryd.zeroValue5
 t9 := Tryd.underlying9
 a9 := Tryd.isAgg9
 z9 := Tryd.sizeOf9
 v9 := Tryd.zeroValue9
 t20 := Tryd.underlying20
 a20 := Tryd.isAgg20
 z20 := Tryd.sizeOf20
 v20 := Tryd.zeroValue20
 t37 := Tryd.underlying22
 a37 := Tryd.isAgg22
 z37 := Tryd.sizeOf22
 v37 := Tryd.zeroValue22
 t46 := Tryd.underlying85
 a46 := Tryd.isAgg85
 z46 := Tryd.sizeOf85
 v46 := Tryd.zeroValue85
 t51 := Tryd.underlying83
 a51 := Tryd.isAgg83
 z51 := Tryd.sizeOf83
 v51 := Tryd.zeroValue83
 t53 := Tryd.underlying74
 a53 := Tryd.isAgg74
 z53 := Tryd.sizeOf74
 v53 := Tryd.zeroValue74
 t171 := Tryd.underlying73
 a171 := Tryd.isAgg73
 z171 := Tryd.sizeOf73
 v171 := Tryd.zeroValue73
 t173 := Tryd.underlying77
 a173 := Tryd.isAgg77
 z173 := Tryd.sizeOf77
 v173 := Tryd.zeroValue77
 t212 := Tryd.underlying82
 a212 := Tryd.isAgg82
 z212 := Tryd.sizeOf82
 v212 := Tryd.zeroValue82
 t213 := Tryd.underlying84
 a213 := Tryd.isAgg84
 z213 := Tryd.sizeOf84
 t232 := Tryd.underlying105
 a232 := Tryd.isAgg105
 z232 := Tryd.sizeOf105
 v232 := Tryd.zeroValue105
 t233 := Tryd.underlying106
 a233 := Tryd.isAgg106
 z233 := Tryd.sizeOf106
 v233 := Tryd.zeroValue106
 g17 := by kernel_rfl
 g18 := by kernel_rfl
 g19 := by kernel_rfl
 i0 := by kernel_rfl
 i2 := by kernel_rfl
 i3 := by kernel_rfl
 i4 := by kernel_rfl
 i5 := by kernel_rfl
 i9 := by kernel_rfl
 i20 := by kernel_rfl
 i37 := by kernel_rfl
 i46 := by kernel_rfl
 i51 := by kernel_rfl
 i53 := by kernel_rfl
 i171 := by kernel_rfl
 i173 := by kernel_rfl
 i212 := by kernel_rfl
 i232 := by kernel_rfl
 i233 := by kernel_rfl
 m17 := by kernel_rfl
 m18 := by kernel_rfl
 m19 := by kernel_rfl }
open Go.RowKit Go.Sort Go.Lib in
theorem Tryd.strconv_Itoa (n : Int) (h0 : -9223372036854775808 ≤ n) (h1 : n ≤ 9223372036854775807) (w : World) (htab : Lib.TabIs Tryd.prog w "internal/strconv.uint64pow10" .u64 Lib.pow10Tab) :
  Calls Tryd.prog 16 #[.int .i64 n] w fun e w' => e = .returned (.string ⟨(Lib.itoa n).toArray⟩) ∧ ∃ k os, w' = grow (w.drewN k) os := Any.strconv_Itoa Tryd.laysM171 n h0 h1 w htab
def Tryd.laysC172_ren : Go.Shelf.Ren := ⟨fun | 172 => 44 | 244 => 52 | 245 => 53 | 247 => 63 | 279 => 64 | 280 => 65 | 281 => 66 | 282 => 67 | 287 => 75 | 316 => 76 | 171 => 16 | 205 => 77 | 321 => 83 | 322 => 84 | 243 => 31 | 246 => 43 | 283 => 48 | 284 => 49 | 285 => 50 | 286 => 51 | 129 => 59 | 317 => 58 | 318 => 60 | 319 => 61 | 320 => 62 | 337 => 73 | 338 => 74 | n => n, fun | 9 => 9 | 3 => 3 | 75 => 67 | 76 => 68 | 4 => 4 | 5 => 5 | 167 => 87 | 37 => 22 | 0 => 0 | 85 => 88 | 2 => 2 | 168 => 90 | 53 => 74 | 175 => 99 | 46 => 85 | 210 => 103 | 127 => 108 | 145 => 111 | 143 => 109 | 21 => 21 | 171 => 73 | 173 => 77 | 212 => 82 | 51 => 83 | 20 => 20 | 213 => 84 | 232 => 105 | 233 => 106 | 80 => 118 | n => n, fun | 15 => 1 | 16 => 2 | 17 => 0 | 18 => 4 | 19 => 5 | n => n⟩
theorem Tryd.laysC172 : Go.Proofs.LaysC.n172 Tryd.prog Tryd.laysC172_ren := {
 mixed := by kernel_rfl
 f129 := Tryd.func59.trans (congrArg some (by kernel_rfl))
 f171 := Tryd.func16.trans (congrArg some (by kernel_rfl))
 f172 := Tryd.func44.trans (congrArg some (by kernel_rfl))
 f205 := Tryd.func77.trans (congrArg some (by kernel_rfl))
 f243 := Tryd.func31.trans (congrArg some (by kernel_rfl))
 f244 := Tryd.func52.trans (congrArg some (by kernel_rfl))
 f245 := Tryd.func53.trans (congrArg some (by kernel_rfl))
 f246 := Tryd.func43.trans (congrArg some (by kernel_rfl))
 f247 := Tryd.func63.trans (congrArg some (by kernel_rfl))
 f279 := Tryd.func64.trans (congrArg some (by kernel_rfl))
 f280 := Tryd.func65.trans (congrArg some (by kernel_rfl))
 f281 := Tryd.func66.trans (congrArg some (by kernel_rfl))
 f282 := Tryd.func67.trans (congrArg some (by kernel_rfl))
 f283 := Tryd.func48.trans (congrArg some (by kernel_rfl))
 f284 := Tryd.func49.trans (congrArg some (by kernel_rfl))
 f285 := Tryd.func50.trans (congrArg some (by kernel_rfl))
 f286 := Tryd.func51.trans (congrArg some (by kernel_rfl))
 f287 := Tryd.func75.trans (congrArg some (by kernel_rfl))
 f316 := Tryd.func76.trans (congrArg some (by kernel_rfl))
 f317 := Tryd.func58.trans (congrArg some (by kernel_rfl))
 f318 := Tryd.func60.trans (congrArg some (by kernel_rfl))
 f319 := Tryd.func61.trans (congrArg some (by kernel_rfl))
 f320 := Tryd.func62.trans (congrArg some (by kernel_rfl))
 f321 := Tryd.func83.trans (congrArg some (by kernel_rfl))
 f322 := Tryd.func84.trans (congrArg some (by kernel_rfl))
 f337 := Tryd.func73.trans (congrArg some (by kernel_rfl))
 f338 := Tryd.func74.trans (congrArg some (by kernel_rfl))
 t0 := Tryd.underlying0
 a0 := Tryd.isAgg0
 z0 := Tryd.sizeOf0
 v0 := Tryd.zeroValue0
 t2 := Tryd.underlying2
 a2 := Tryd.isAgg2
 z2 := Tryd.sizeOf2
 v2 := Tryd.zeroValue2
 t3 := Tryd.underlying3
 a3 := Tryd.isAgg3
 z3 := Tryd.sizeOf3
 v3 := Tryd.zeroValue3
 t4 := Tryd.underlying4
 a4 := Tryd.isAgg4
 z4 := Tryd.sizeOf4
 v4 := Tryd.zeroValue4
 t5 := Tryd.underlying5
 a5 := Tryd.isAgg5
 z5 := Tryd.sizeOf5
 v5 := Tryd.zeroValue5
 t9 := Tryd.underlying9
 a9 := Tryd.isAgg9
 z9 := Tryd.sizeOf9
 v9 := Tryd.zeroValue9
 t20 := Tryd.underlying20
 a20 := Tryd.isAgg20
 z20 := Tryd.sizeOf20
 v20 := Tryd.zeroValue20
 t21 := Tryd.underlying21
 a21 := Tryd.isAgg21
 z21 := Tryd.sizeOf21
 v21 := Tryd.zeroValue21
 t37 := Tryd.underlying22
 a37 := Tryd.isAgg22
 z37 := Tryd.sizeOf22
 v37 := Tryd.zeroValue22
 t46 := Tryd.underlying85
 a46 := Tryd.isAgg85
 z46 := Tryd.sizeOf85
 v46 := Tryd.zeroValue85
 t51 := Tryd.underlying83
 a51 := Tryd.isAgg83
 z51 := Tryd.sizeOf83
 v51 := Tryd.zeroValue83
 t53 := Tryd.underlying74
 a53 := Tryd.isAgg74
 z53 := Tryd.sizeOf74
 v53 := Tryd.zeroValue74
 t75 := Tryd.underlying67
 a75 := Tryd.isAgg67
 z75 := Tryd.sizeOf67
 v75 := Tryd.zeroValue67
 t76 := Tryd.underlying68
 a76 := Tryd.isAgg68
 z76 := Tryd.sizeOf68
 v76 := Tryd.zeroValue68
 t85 := Tryd.underlying88
 a85 := Tryd.isAgg88
 z85 := Tryd.sizeOf88
 v85 := Tryd.zeroValue88
 t127 := Tryd.underlying108
 a127 := Tryd.isAgg108
 z127 := Tryd.sizeOf108
 v127 := Tryd.zeroValue108
 t143 := Tryd.underlying109
 a143 := Tryd.isAgg109
 z143 := Tryd.sizeOf109
 v143 := Tryd.zeroValue109
 t145 := Tryd.underlying111
 a145 := Tryd.isAgg111
 z145 := Tryd.sizeOf111
 v145 := Tryd.zeroValue111
 t167 := Tryd.underlying87
 a167 := Tryd.isAgg87
 z167 := Tryd.sizeOf87
 v167 := Tryd.zeroValue87
 t168 := Tryd.underlying90
 a168 := Tryd.isAgg90
 z168 := Tryd.sizeOf90
 v168 := Tryd.zeroValue90
 t171 := Tryd.underlying73
 a171 := Tryd.isAgg73
 z171 := Tryd.sizeOf73
 v171 := Tryd.zeroValue73
 t173 := Tryd.underlying77
 a173 := Tryd.isAgg77
 z173 := Tryd.sizeOf77
 v173 := Tryd.zeroValue77
 t175 := Tryd.underlying99
 a175 := Tryd.isAgg99
 z175 := Tryd.sizeOf99
 v175 := Tryd.zeroValue99
 t210 := Tryd.underlying103
 a210 := Tryd.isAgg103
 z210 := Tryd.sizeOf103
 v210 := Tryd.zeroValue103
 t212 := Tryd.underlying82
 a212 := Tryd.isAgg82
 z212 := Tryd.sizeOf82
 v212 := Tryd.zeroValue82
 t213 := Tryd.underlying84
 a213 := Tryd.isAgg84
 z213 := Tryd.sizeOf84
 t232 := Tryd.underlying105
 a232 := Tryd.isAgg105
 z232 := Tryd.sizeOf105
 v232 := Tryd.zeroValue105
 t233 := Tryd.underlying106
 a233 := Tryd.isAgg106
 z233 := Tryd.sizeOf106
 v233 := Tryd.zeroValue106
 g15 := by kernel_rfl
 g16 := by kernel_rfl
 g17 := by kernel_rfl
 g18 := by kernel_rfl
 g19 := by kernel_rfl
 t80 := Tryd.underlying118
 a80 := Tryd.isAgg118
 z80 := Tryd.sizeOf118
 v80 := Tryd.zeroValue118
 i0 := by kernel_rfl
 i2 := by kernel_rfl
 i3 := by kernel_rfl
 i4 := by kernel_rfl
 i5 := by kernel_rfl
 i9 := by kernel_rfl
 i20 := by kernel_rfl
 i21 := by kernel_rfl
 i37 := by kernel_rfl
 i46 := by kernel_rfl
 i51 := by kernel_rfl
 i53 := by kernel_rfl
 i75 := by kernel_rfl
 i76 := by kernel_rfl
 i80 := by kernel_rfl
 i85 := by kernel_rfl
 i127 := by kernel_rfl
 i143 := by kernel_rfl
 i145 := by kernel_rfl
 i167 := by kernel_rfl
 i168 := by kernel_rfl
 i171 := by kernel_rfl
 i173 := by kernel_rfl
 i175 := by kernel_rfl
 i210 := by kernel_rfl
 i212 := by kernel_rfl
 i232 := by kernel_rfl
 i233 := by kernel_rfl
 m15 := by kernel_rfl
 m16 := by kernel_rfl
 m17 := by kernel_rfl
 m18 := by kernel_rfl
 m19 := by kernel_rfl
 c0 := by kernel_rfl
 c2 := by kernel_rfl
 c3 := by kernel_rfl
 c4 := by kernel_rfl
 c5 := by kernel_rfl
 c9 := by kernel_rfl
 c20 := by kernel_rfl
 c21 := by kernel_rfl
 c37 := by kernel_rfl
 c46 := by kernel_rfl
 c51 := by kernel_rfl
 c53 := by kernel_rfl
 c75 := by kernel_rfl
 c76 := by kernel_rfl
 c80 := by kernel_rfl
 c85 := by kernel_rfl
 c127 := by kernel_rfl
 c143 := by kernel_rfl
 c145 := by kernel_rfl
 c167 := by kernel_rfl
 c168 := by kernel_rfl
 c171 := by kernel_rfl
 c173 := by kernel_rfl
 c175 := by kernel_rfl
 c210 := by kernel_rfl
 c212 := by kernel_rfl
 c213 := by kernel_rfl
 c232 := by kernel_rfl
 c233 := by kernel_rfl }
open Go.RowKit in
theorem Tryd.strconv_Atoi_ok (s : ByteArray) (hmax : s.size ≤ 9223372036854775806) (v : Int) (h : Lib.atoiAll s.data.toList = .ok v) (w : World) :
  Calls Tryd.prog 44 #[.string s] w fun e w' => e = .returned (.tuple #[.int .i64 v, .nilIface]) ∧ (w' = w ∨ ∃ t, w' = Lib.bytesWorld w 5 t) := Any.strconv_Atoi_ok Tryd.laysC172 s hmax v h w
open Go.RowKit in
theorem Tryd.strconv_Atoi_range (s : ByteArray) (hlim : s.size ≤ 281474976710656) (h : Lib.atoiAll s.data.toList = .range) (ev : Value) (w : World) (hv : w.cell? ⟨2, 0, none⟩ = some ev) (hev : ev = .nilIface ∨ ∃ te pe, ev = .iface te pe) :
  Calls Tryd.prog 44 #[.string s] w fun e w' => ∃ N, e = .returned (.tuple #[.int .i64 (Lib.atoiSat s.data.toList), .iface 90 (.pointer (some ⟨N, 0, none⟩))]) ∧ w.heap.size ≤ N ∧ w'.heap[N]? = some (.cells #[.string ⟨#[65, 116, 111, 105]⟩, .string s, ev] 103 (0, 0)) ∧ Below w.heap.size w w' := Any.strconv_Atoi_range Tryd.laysC172 s hlim h ev w hv hev
open Go.RowKit in
theorem Tryd.strconv_Atoi_syn (s : ByteArray) (hlim : s.size ≤ 281474976710656) (h : Lib.atoiAll s.data.toList = Lib.atoiAll []) (tp : TypeId) (p : Value) (w : World) (hvar : w.var? Tryd.prog "strconv.ErrSyntax" = some #[.iface tp p]) :
  Calls Tryd.prog 44 #[.string s] w fun e w' => ∃ N, e = .returned (.tuple #[.int .i64 0, .iface 90 (.pointer (some ⟨N, 0, none⟩))]) ∧ w.heap.size ≤ N ∧ w'.heap[N]? = some (.cells #[.string ⟨#[65, 116, 111, 105]⟩, .string s, .iface tp p] 103 (0, 0)) ∧ Below w.heap.size w w' := Any.strconv_Atoi_syntax_var Tryd.laysC172 s hlim h tp p w hvar
open Go.RowKit in
theorem Tryd.strconv_Atoi_range_var (s : ByteArray) (hlim : s.size ≤ 281474976710656) (h : Lib.atoiAll s.data.toList = .range) (tp : TypeId) (p : Value) (w : World) (hvar : w.var? Tryd.prog "strconv.ErrRange" = some #[.iface tp p]) :
  Calls Tryd.prog 44 #[.string s] w fun e w' => ∃ N, e = .returned (.tuple #[.int .i64 (Lib.atoiSat s.data.toList), .iface 90 (.pointer (some ⟨N, 0, none⟩))]) ∧ w.heap.size ≤ N ∧ w'.heap[N]? = some (.cells #[.string ⟨#[65, 116, 111, 105]⟩, .string s, .iface tp p] 103 (0, 0)) ∧ Below w.heap.size w w' := Any.strconv_Atoi_range_var Tryd.laysC172 s hlim h tp p w hvar
def Tryd.lays101_ren : Go.Shelf.Ren := ⟨fun | 101 => 45 | 208 => 54 | 206 => 68 | n => n, fun | 9 => 9 | 4 => 4 | 3 => 3 | n => n, fun | n => n⟩
theorem Tryd.lays101 : Go.Proofs.Lays.n101 Tryd.prog Tryd.lays101_ren := {
 mixed := by kernel_rfl
 f101 := Tryd.func45.trans (congrArg some (by kernel_rfl))
 f206 := Tryd.func68.trans (congrArg some (by kernel_rfl))
 f208 := Tryd.func54.trans (congrArg some (by kernel_rfl))
 t3 := Tryd.underlying3
 a3 := Tryd.isAgg3
 z3 := Tryd.sizeOf3
 v3 := Tryd.zeroValue3
 t4 := Tryd.underlying4
 a4 := Tryd.isAgg4
 z4 := Tryd.sizeOf4
 v4 := Tryd.zeroValue4
 t9 := Tryd.underlying9
 a9 := Tryd.isAgg9
 z9 := Tryd.sizeOf9
 v9 := Tryd.zeroValue9 }
open Go.RowKit Go.Lib in
theorem Tryd.strings_TrimPrefix (s p : ByteArray) (w : World) :
  Calls Tryd.prog 45 #[.string s, .string p] w fun e w' => e = .returned (.string ⟨(Lib.trimPrefix s.data.toList p.data.toList).toArray⟩) ∧ w' = w := Any.strings_TrimPrefix Tryd.lays101 s p w
def Tryd.lays146_ren : Go.Shelf.Ren := ⟨fun | 146 => 37 | 221 => 47 | 268 => 55 | 138 => 56 | 143 => 57 | 195 => 69 | 197 => 70 | 218 => 71 | 219 => 72 | 260 => 78 | 217 => 79 | 225 => 80 | 224 => 81 | 267 => 82 | 266 => 85 | 314 => 86 | n => n, fun | 9 => 9 | 31 => 40 | 3 => 3 | 4 => 4 | 0 => 0 | 105 => 95 | 21 => 21 | 5 => 5 | 46 => 85 | 119 => 112 | 139 => 115 | 138 => 114 | 146 => 116 | 51 => 83 | n => n, fun | 1 => 3 | 3 => 6 | 4 => 7 | n => n⟩
theorem Tryd.lays146 : Go.Proofs.Lays.n146 Tryd.prog Tryd.lays146_ren := {
 mixed := by kernel_rfl
 f138 := Tryd.func56.trans (congrArg some (by kernel_rfl))
 f143 := Tryd.func57.trans (congrArg some (by kernel_rfl))
 f146 := Tryd.func37.trans (congrArg some (by kernel_rfl))
 f195 := Tryd.func69.trans (congrArg some (by kernel_rfl))
 f197 := Tryd.func70.trans (congrArg some (by kernel_rfl))
 f217 := Tryd.func79.trans (congrArg some (by kernel_rfl))
 f218 := Tryd.func71.trans (congrArg some (by kernel_rfl))
 f219 := Tryd.func72.trans (congrArg some (by kernel_rfl))
 f221 := Tryd.func47.trans (congrArg some (by kernel_rfl))
 f224 := Tryd.func81.trans (congrArg some (by kernel_rfl))
 f225 := Tryd.func80.trans (congrArg some (by kernel_rfl))
 f260 := Tryd.func78.trans (congrArg some (by kernel_rfl))
 f266 := Tryd.func85.trans (congrArg some (by kernel_rfl))
 f267 := Tryd.func82.trans (congrArg some (by kernel_rfl))
 f268 := Tryd.func55.trans (congrArg some (by kernel_rfl))
 f314 := Tryd.func86.trans (congrArg some (by kernel_rfl))
 t0 := Tryd.underlying0
 a0 := Tryd.isAgg0
 z0 := Tryd.sizeOf0
 v0 := Tryd.zeroValue0
 t3 := Tryd.underlying3
 a3 := Tryd.isAgg3
 z3 := Tryd.sizeOf3
 v3 := Tryd.zeroValue3
 t4 := Tryd.underlying4
 a4 := Tryd.isAgg4
 z4 := Tryd.sizeOf4
 v4 := Tryd.zeroValue4
 t5 := Tryd.underlying5
 a5 := Tryd.isAgg5
 z5 := Tryd.sizeOf5
 v5 := Tryd.zeroValue5
 t9 := Tryd.underlying9
 a9 := Tryd.isAgg9
 z9 := Tryd.sizeOf9
 v9 := Tryd.zeroValue9
 t21 := Tryd.underlying21
 a21 := Tryd.isAgg21
 z21 := Tryd.sizeOf21
 v21 := Tryd.zeroValue21
 t31 := Tryd.underlying40
 a31 := Tryd.isAgg40
 z31 := Tryd.sizeOf40
 v31 := Tryd.zeroValue40
 t46 := Tryd.underlying85
 a46 := Tryd.isAgg85
 z46 := Tryd.sizeOf85
 v46 := Tryd.zeroValue85
 t51 := Tryd.underlying83
 a51 := Tryd.isAgg83
 z51 := Tryd.sizeOf83
 v51 := Tryd.zeroValue83
 t105 := Tryd.underlying95
 a105 := Tryd.isAgg95
 z105 := Tryd.sizeOf95
 v105 := Tryd.zeroValue95
 t119 := Tryd.underlying112
 a119 := Tryd.isAgg112
 z119 := Tryd.sizeOf112
 t138 := Tryd.underlying114
 a138 := Tryd.isAgg114
 z138 := Tryd.sizeOf114
 v138 := Tryd.zeroValue114
 t139 := Tryd.underlying115
 a139 := Tryd.isAgg115
 z139 := Tryd.sizeOf115
 v139 := Tryd.zeroValue115
 t146 := Tryd.underlying116
 a146 := Tryd.isAgg116
 z146 := Tryd.sizeOf116
 v146 := Tryd.zeroValue116
 g1 := by kernel_rfl
 g3 := by kernel_rfl
 g4 := by kernel_rfl }
open Go.RowKit Go.Lib in
theorem Tryd.strings_Split (s sep : ByteArray) (m : Int) (w : World) (hs : s.size < 4294967281) (hm : w.cell? ⟨3, 0, none⟩ = some (.int .i64 m)) (h1 : 1 ≤ sep.size) :
  Calls Tryd.prog 37 #[.string s, .string sep] w fun e w' =>
   e = .returned (.slice (some ⟨w.heap.size, 0, none⟩) (Lib.countB s sep + 1) (Lib.countB s sep + 1)) ∧ w' = w.alloc (.cells ((Lib.splitB sep 0 (Lib.countB s sep) s).map Value.string).toArray 9) := Any.strings_Split Tryd.lays146 (by kernel_rfl) s sep m w hs hm h1
def Tryd.laysSlH10_f36_ren : Go.Shelf.Ren := ⟨fun | 10 => 36 | 6 => 46 | n => n, fun | 22 => 40 | 23 => 9 | 25 => 35 | 3 => 3 | 4 => 4 | 0 => 0 | n => n, fun | n => n⟩
theorem Tryd.laysSlH10_f36 : Go.Proofs.SlLaysH.n10 Tryd.prog Tryd.laysSlH10_f36_ren := {
 mixed := by kernel_rfl
 f6 := ⟨Tryd.f46.name, (by decide), Tryd.func46.trans (congrArg some (by kernel_rfl))⟩
 f10 := ⟨Tryd.f36.name, (by decide), Tryd.func36.trans (congrArg some (by kernel_rfl))⟩
 t0 := Tryd.underlying0
 a0 := Tryd.isAgg0
 z0 := Tryd.sizeOf0
 v0 := Tryd.zeroValue0
 t3 := Tryd.underlying3
 a3 := Tryd.isAgg3
 z3 := Tryd.sizeOf3
 v3 := Tryd.zeroValue3
 t4 := Tryd.underlying4
 a4 := Tryd.isAgg4
 z4 := Tryd.sizeOf4
 v4 := Tryd.zeroValue4
 t22 := Tryd.underlying40
 a22 := Tryd.isAgg40
 z22 := Tryd.sizeOf40
 v22 := Tryd.zeroValue40
 a23 := Tryd.isAgg9
 z23 := Tryd.sizeOf9
 t25 := Tryd.underlying35
 a25 := Tryd.isAgg35
 z25 := Tryd.sizeOf35
 v25 := Tryd.zeroValue35 }
open Go.RowKit Go.Lib Go.Sort in
theorem Tryd.slices_DeleteFunc {α : Type} [Inhabited α] (enc : α → Value) (hO : OneCell enc) (p : α → Bool) (g : Nat) (lb : Array Value) (eg : ∀ args w, (callFunc g args).run Tryd.prog w = .ok (.enter g args) w) (zr : α) (v23 : ∀ w, (zeroValue 9).run Tryd.prog w = .ok (enc zr) w) (blk off cap : Nat) (d : Array α) (w : World) (hp : PredAt Tryd.prog g lb enc p w) (hpo : PredOver Tryd.prog g lb enc p blk off d.size w) (hH : Holds enc w blk off d) (hsz : d.size ≤ 9223372036854775807) (hcap : d.size ≤ cap) :
  Calls Tryd.prog 36 #[.slice (some ⟨blk, off, none⟩) d.size cap, .func (.func g) #[] lb] w fun e w' => e = .returned (.slice (some ⟨blk, off, none⟩) (d.toList.filter fun x => !p x).length cap) ∧ ∃ q, w' = putRow enc (Sort.ahead w q) blk off ((d.toList.filter fun x => !p x) ++ List.replicate (d.size - (d.toList.filter fun x => !p x).length) zr).toArray := AnyE.slices_DeleteFunc Tryd.laysSlH10_f36 enc hO p g lb eg zr v23 blk off cap d w hp hpo hH hsz hcap
end Go.Proofs
end
section
/- Words between blanks, and whole numbers in letters: what the library's functions come to, over rows of bytes. -/
namespace Go.Proofs.YtokljkneflejdaaDoor.PT
set_option linter.unusedVariables false
set_option linter.unusedSimpArgs false
open Go.Lib
def cutL : List UInt8 → List UInt8 → List (List UInt8)
 | cur, [] => [cur]
 | cur, c :: r => if c = 32 then cur :: cutL [] r else cutL (cur ++ [c]) r
def headApp (a : List UInt8) : List (List UInt8) → List (List UInt8)
 | [] => []
 | x :: r => (a ++ x) :: r
theorem headApp_two (a b : List UInt8) (l : List (List UInt8)) : headApp (a ++ b) l = headApp a (headApp b l) := by
 cases l with
 | nil => rfl
 | cons x r => simp [headApp]
theorem headApp_nil (l : List (List UInt8)) : headApp [] l = l := by cases l <;> rfl
theorem index_blank (c : UInt8) (r : List UInt8) (h : c ≠ 32) : index (c :: r) [32] = if index r [32] == -1 then -1 else index r [32] + 1 := by
 have hp : ([32] : List UInt8).isPrefixOf (c :: r) = false := by simp [List.isPrefixOf]; exact fun e => h e.symm
 rw [index, hp]; simp
theorem splitK_cut : ∀ (s cur : List UInt8), headApp cur (splitK [32] 0 (count s [32]) s) = cutL cur s := by
 intro s
 induction s with
 | nil =>
  intro cur
  rw [count_miss (by simp [index])]
  simp [splitK, headApp, cutL]
 | cons c r ih =>
  intro cur
  by_cases h : c = 32
  ·
   subst h
   have hix : index ((32 : UInt8) :: r) [32] = 0 := by rw [index]; simp [List.isPrefixOf]
   rw [count_cons_eq, show 1 + count r [32] = count r [32] + 1 by omega, splitK, if_neg (by rw [hix]; decide), hix]
   simp only [Int.toNat_zero, Nat.add_zero, List.take_zero, List.length_singleton, Nat.zero_add, List.drop_succ_cons, List.drop_zero, headApp, List.append_nil, cutL, if_true]
   have := ih []
   rw [headApp_nil] at this
   rw [this]
  ·
   rw [count_cons_ne c 32 r h, cutL, if_neg h, ← ih (cur ++ [c]), headApp_two]
   congr 1
   have hix := index_blank c r h
   generalize count r [32] = k
   cases k with
   | zero => simp [splitK, headApp]
   | succ k =>
    by_cases hm : index r [32] = -1
    ·
     rw [splitK, if_pos (by rw [hix, hm]; decide), splitK, if_pos (by rw [hm]; decide)]
     simp [headApp]
    ·
     have hge := index_ge r [32]
     obtain ⟨j, hj⟩ : ∃ j : Nat, index r [32] = j := ⟨(index r [32]).toNat, (by omega)⟩
     have hix' : index (c :: r) [32] = ((j + 1 : Nat) : Int) := by rw [hix, if_neg (fun e => hm (beq_iff_eq.1 e)), hj]; omega
     rw [splitK, if_neg (by rw [hix', beq_iff_eq]; omega), splitK, if_neg (by rw [hj, beq_iff_eq]; omega), hix', hj]
     simp [headApp]
def wordsL (s : List UInt8) : List (List UInt8) := (cutL [] s).filter fun x => !x.isEmpty
theorem splitK_words (s : List UInt8) : (splitK [32] 0 (count s [32]) s).filter (fun x => !x.isEmpty) = wordsL s := by
 unfold wordsL
 rw [← splitK_cut, headApp_nil]
theorem decFrom_snoc : ∀ (l : List UInt8) (acc : Nat) (b : UInt8), decFrom acc (l ++ [b]) = (decFrom acc l).bind fun n => (digitVal b).map fun d => n * 10 + d
 | [], acc, b => by simp only [List.nil_append, decFrom, Option.bind_some]; cases digitVal b <;> rfl
 | c :: r, acc, b => by
  simp only [List.cons_append, decFrom]
  cases digitVal c with
  | none => rfl
  | some d => exact decFrom_snoc r _ b
theorem digitVal_of (d : Nat) (h : d < 10) : digitVal (UInt8.ofNat (48 + d)) = some d := by
 have e : (UInt8.ofNat (48 + d)).toNat = 48 + d := by simp; omega
 unfold digitVal
 rw [e, if_pos (by omega)]
 congr 1; omega
theorem of_digitVal {b : UInt8} {d : Nat} (h : digitVal b = some d) : d < 10 ∧ b = UInt8.ofNat (48 + d) := by
 obtain ⟨h0, h1, rfl⟩ := digitVal_eq h
 refine ⟨(by omega), ?_⟩
 rw [show 48 + (b.toNat - 48) = b.toNat by omega]
 simp
theorem decFrom_digits (u : Nat) : decFrom 0 (decDigits u) = some u := by
 induction u using Nat.strongRecOn with
 | ind u ih =>
  rw [decDigits]
  by_cases h : u < 10
  ·
   rw [dif_pos h]
   simp only [decFrom, digitVal_of u h]
   congr 1; omega
  ·
   rw [dif_neg h, decFrom_snoc, ih (u / 10) (by omega)]
   simp only [Option.bind_some, digitVal_of (u % 10) (by omega), Option.map_some]
   congr 1; omega
theorem digits_ne (u : Nat) : decDigits u ≠ [] := by
 rw [decDigits]; split <;> simp
def plainN (r : List UInt8) : Prop := ∃ c t, r = c :: t ∧ (c = 48 → t = [])
theorem digits_plain (u : Nat) : plainN (decDigits u) ∧ (decDigits u).head? ≠ some 48 ∨ u = 0 := by
 induction u using Nat.strongRecOn with
 | ind u ih =>
  by_cases h0 : u = 0
  ·
   exact .inr h0
  ·
   refine .inl ?_
   rw [decDigits]
   by_cases h : u < 10
   ·
    rw [dif_pos h]
    have hne : UInt8.ofNat (48 + u) ≠ 48 := by
     intro e
     have := congrArg UInt8.toNat e
     simp at this
     omega
    exact ⟨⟨_, _, rfl, fun _ => rfl⟩, by simpa using hne⟩
   ·
    rw [dif_neg h]
    rcases ih (u / 10) (by omega) with ⟨⟨c, t, e, hc⟩, hh⟩ | e0
    ·
     rw [e] at hh ⊢
     have hne : c ≠ 48 := by simpa using hh
     exact ⟨⟨c, _, rfl, fun e => absurd e hne⟩, by simpa using hne⟩
    ·
     omega
theorem digits_zero : decDigits 0 = [48] := by rw [decDigits, dif_pos (by omega)]; rfl
theorem digits_plain2 (u : Nat) : plainN (decDigits u) := by
 rcases digits_plain u with h | rfl
 ·
  exact h.1
 ·
  rw [digits_zero]; exact ⟨_, _, rfl, fun _ => rfl⟩
theorem plain_digits : ∀ (n : Nat) (r : List UInt8), r.length = n → ∀ m, decFrom 0 r = some m → plainN r → decDigits m = r
 | 0, r, hl, m, _, hp => by
  obtain ⟨c, t, rfl, _⟩ := hp
  simp at hl
 | n + 1, r, hl, m, h, hp => by
  obtain ⟨l, b, rfl⟩ : ∃ l b, r = l ++ [b] := by
   rcases List.eq_nil_or_concat r with e | ⟨l, b, e⟩
   ·
    subst e; simp at hl
   ·
    exact ⟨l, b, (by simpa using e)⟩
  have hll : l.length = n := by simpa using hl
  rw [decFrom_snoc] at h
  obtain ⟨q, hq, h⟩ := Option.bind_eq_some_iff.1 h
  obtain ⟨d, hd, rfl⟩ := Option.map_eq_some_iff.1 h
  obtain ⟨hd10, hb⟩ := of_digitVal hd
  cases l with
  | nil =>
   simp only [decFrom, Option.some.injEq] at hq
   subst hq
   rw [decDigits, dif_pos (by omega), hb]
   simp
  | cons c t =>
   obtain ⟨c', t', e, hc⟩ := hp
   rw [List.cons_append] at e
   injection e with e1 e2
   subst e1 e2
   have hne : c ≠ 48 := fun e => by have := hc e; simp at this
   have ih := plain_digits n (c :: t) hll q hq ⟨c, t, rfl, fun e => absurd e hne⟩
   have hq1 : q ≠ 0 := by
    rintro rfl
    rw [digits_zero] at ih
    injection ih with e3 _
    exact hne e3.symm
   rw [decDigits, dif_neg (by omega), show (q * 10 + d) / 10 = q by omega, show (q * 10 + d) % 10 = d by omega, ih, hb]
theorem head_digit {c : UInt8} {t : List UInt8} {m : Nat} (h : decFrom 0 (c :: t) = some m) : 48 ≤ c.toNat ∧ c.toNat ≤ 57 := by
 simp only [decFrom] at h
 cases hd : digitVal c with
 | none => rw [hd] at h; cases h
 | some d => have := digitVal_eq hd; omega
def canonL (r : List UInt8) : Option Nat := match r with
 | [] => none
 | c :: t => if (c :: t).length ≤ 18 ∧ (c = 48 → t = []) then decFrom 0 (c :: t) else none
def numL (s : List UInt8) : Option Int := match s with
 | [] => none
 | c :: r => if c = 45 then (canonL r).bind fun m => if m = 0 then none else some (-(m : Int)) else (canonL (c :: r)).map fun (m : Nat) => (m : Int)
def numA (s : List UInt8) : Option Int := match atoiAll s with
 | .ok v => if itoa v = s ∧ (trimPrefix s [45]).length ≤ 18 then some v else none
 | _ => none
theorem canonL_some {r : List UInt8} {m : Nat} (h : canonL r = some m) : decDigits m = r ∧ r.length ≤ 18 ∧ decFrom 0 r = some m ∧ r ≠ [] := by
 unfold canonL at h
 split at h
 ·
  cases h
 ·
  rename_i c t
  split at h
  ·
   rename_i hc
   exact ⟨plain_digits _ _ rfl _ h ⟨c, t, rfl, hc.2⟩, hc.1, h, by simp⟩
  ·
   cases h
theorem canonL_digits {u : Nat} (h : (decDigits u).length ≤ 18) : canonL (decDigits u) = some u := by
 obtain ⟨c, t, e, hc⟩ := digits_plain2 u
 have h2 := decFrom_digits u
 rw [e] at h h2 ⊢
 unfold canonL
 simp only
 rw [if_pos ⟨h, hc⟩, h2]
theorem trim_minus (r : List UInt8) : trimPrefix (45 :: r) [45] = r := by
 unfold trimPrefix
 rw [if_pos (by simp [hasPrefix])]
 simp
theorem trim_other (c : UInt8) (r : List UInt8) (h : c ≠ 45) : trimPrefix (c :: r) [45] = c :: r := by
 unfold trimPrefix
 rw [if_neg]
 simp [hasPrefix, List.isPrefixOf]
 exact fun e => h e.symm
theorem numA_eq (s : List UInt8) : numA s = numL s := by
 have key : ∀ v, atoiAll s = .ok v → (itoa v = s ∧ (trimPrefix s [45]).length ≤ 18) → numL s = some v := by
  intro v hv ⟨h1, h2⟩
  by_cases hn : v < 0
  ·
   obtain ⟨u, rfl⟩ : ∃ u : Nat, v = -(u : Int) := ⟨(-v).toNat, (by omega)⟩
   rw [itoa_neg u (by omega)] at h1
   subst h1
   rw [trim_minus] at h2
   unfold numL
   simp only [if_true]
   rw [canonL_digits h2]
   simp only [Option.bind_some]
   rw [if_neg (by omega)]
  ·
   obtain ⟨u, rfl⟩ : ∃ u : Nat, v = (u : Int) := ⟨v.toNat, (by omega)⟩
   rw [itoa_nonneg u] at h1
   have hd := decFrom_digits u
   have hcan := canonL_digits (u := u)
   rw [h1] at hd hcan
   cases s with
   | nil => exact absurd h1 (digits_ne u)
   | cons c r =>
    have hc := head_digit hd
    have hc45 : c ≠ 45 := by rintro rfl; simp at hc
    rw [trim_other c r hc45] at h2
    unfold numL
    simp only
    rw [if_neg hc45, hcan h2]
    rfl
 have back : ∀ v, numL s = some v → atoiAll s = .ok v ∧ itoa v = s ∧ (trimPrefix s [45]).length ≤ 18 := by
  intro v hv
  cases s with
  | nil => cases hv
  | cons c r =>
   unfold numL at hv
   simp only at hv
   by_cases hc : c = 45
   ·
    subst hc
    rw [if_pos rfl] at hv
    obtain ⟨m, hm, hv⟩ := Option.bind_eq_some_iff.1 hv
    split at hv
    ·
     cases hv
    ·
     rename_i hm0
     injection hv with hv
     subst hv
     obtain ⟨e1, e2, e3, e4⟩ := canonL_some hm
     refine ⟨?_, ?_, ?_⟩
     ·
      rw [atoiAll_minus, signed_short e2]
      have : decNat r = some m := by unfold decNat; rw [if_neg (by simpa using e4), e3]
      rw [this]; rfl
     ·
      rw [itoa_neg m (by omega), e1]
     ·
      rw [trim_minus]; exact e2
   ·
    rw [if_neg hc] at hv
    obtain ⟨m, hm, rfl⟩ := Option.map_eq_some_iff.1 hv
    obtain ⟨e1, e2, e3, e4⟩ := canonL_some hm
    have hd := head_digit e3
    refine ⟨?_, ?_, ?_⟩
    ·
     rw [atoiAll_plain c r (by omega) (by omega), signless_short e2]
     have : decNat (c :: r) = some m := by unfold decNat; rw [if_neg (by simp), e3]
     rw [this]; rfl
    ·
     rw [itoa_nonneg m, e1]
    ·
     rw [trim_other c r hc]; exact e2
 unfold numA
 rcases hA : atoiAll s with v | _ | _
 ·
  simp only
  by_cases hc : itoa v = s ∧ (trimPrefix s [45]).length ≤ 18
  ·
   rw [if_pos hc, key v hA hc]
  ·
   rw [if_neg hc]
   cases hN : numL s with
   | none => rfl
   | some v2 =>
    obtain ⟨a1, a2, a3⟩ := back v2 hN
    rw [hA] at a1
    injection a1 with a1
    subst a1
    exact absurd ⟨a2, a3⟩ hc
 ·
  cases hN : numL s with
  | none => rfl
  | some v2 => have := (back v2 hN).1; rw [hA] at this; cases this
 ·
  cases hN : numL s with
  | none => rfl
  | some v2 => have := (back v2 hN).1; rw [hA] at this; cases this
end Go.Proofs.YtokljkneflejdaaDoor.PT
end
section
/- What the walks know of the program's own variables, in every later world. -/
namespace Go.Proofs.YtokljkneflejdaaDoor.PT
open Go Go.RowKit Go.Lib Go.Proofs.YtokljkneflejdaaDoorW.PrintWords Go.Proofs.YtokljkneflejdaaDoorW.PrintLast Go.Proofs.YtokljkneflejdaaDoorW.PrintMore
set_option linter.unusedVariables false
set_option linter.unusedSimpArgs false
structure RG (w : World) : Prop where
 tab : TabIs Tryd.prog w "internal/strconv.uint64pow10" .u64 pow10Tab
 syn : ∃ t p, w.var? Tryd.prog "strconv.ErrSyntax" = some #[.iface t p]
 ran : ∃ t p, w.var? Tryd.prog "strconv.ErrRange" = some #[.iface t p]
 max : ∃ m, w.cell? ⟨3, 0, none⟩ = some (.int .i64 m)
theorem var_below {P : Program} {w w' : World} {nm : String} {v : Array Value} (h : w.var? P nm = some v) (hb : Below w.heap.size w w') : w'.var? P nm = some v := by
 unfold World.var? at *
 cases hg : P.globalNamed nm with
 | none => rw [hg] at h; cases h
 | some g =>
  rw [hg] at h
  simp only [Option.bind_some] at h ⊢
  cases ho : w.heap[g]? with
  | none => rw [ho] at h; cases h
  | some o =>
   rw [hb.block g (Array.getElem?_eq_some_iff.1 ho).1, ho]
   rw [ho] at h
   exact h
theorem RG.below {w w' : World} (h : RG w) (hb : Below w.heap.size w w') : RG w' := by
 obtain ⟨h1, ⟨t2, p2, h2⟩, ⟨t3, p3, h3⟩, ⟨m, h4⟩⟩ := h
 refine ⟨?_, ⟨t2, p2, var_below h2 hb⟩, ⟨t3, p3, var_below h3 hb⟩, ⟨m, (hb.cell (World.block_lt_of_cell? w _ h4)).trans h4⟩⟩
 unfold TabIs at *
 exact var_below h1 hb
def wordsIn (q : Option Addr) (ws : List ByteArray) (w : World) : Prop := ∀ (j : Nat) (h : j < ws.length), ∃ b o, q = some ⟨b, o, none⟩ ∧ w.cell? ⟨b, o + j, none⟩ = some (.string ws[j])
theorem wordsIn.below {q : Option Addr} {ws : List ByteArray} {w w' : World} (h : wordsIn q ws w) (hb : Below w.heap.size w w') : wordsIn q ws w' := fun j hj => by
 obtain ⟨b, o, e, hc⟩ := h j hj
 exact ⟨b, o, e, (hb.cell (World.block_lt_of_cell? w _ hc)).trans hc⟩
end Go.Proofs.YtokljkneflejdaaDoor.PT
end
section
/- What readNumber returns: a text's number, if the number's own letters are the text. -/
namespace Go.Proofs.YtokljkneflejdaaDoor.PT
open Go Go.RowKit Go.Lib Go.Proofs.YtokljkneflejdaaDoorW.PrintWords Go.Proofs.YtokljkneflejdaaDoorW.PrintLast Go.Proofs.YtokljkneflejdaaDoorW.PrintMore
set_option linter.unusedVariables false
set_option linter.unusedSimpArgs false
def impl_readNumber.Post (t : ByteArray) (w : World) (e : Ending) (w' : World) : Prop := (∃ n, e = .returned (.tuple #[.int .i64 n, .bool (numA t.data.toList).isSome]) ∧ ∀ v, numA t.data.toList = some v → n = v) ∧ Below w.heap.size w w'
theorem str_eq (l : List UInt8) (t : ByteArray) : ((⟨l.toArray⟩ : ByteArray).toList == t.toList) = decide (l = t.data.toList) := by
 rw [toList_data, toList_data]
 by_cases h : l = t.data.toList
 ·
  rw [decide_eq_true h]; simp [h]
 ·
  rw [decide_eq_false h]; simpa using h
set_option maxHeartbeats 4000000 in
set_option maxRecDepth 100000 in
theorem impl_readNumber.fails (t : ByteArray) (n : Int) (w : World) (hA : numA t.data.toList = none)
  (hc : ∀ W : World, W = w → Calls Tryd.prog 44 #[.string t] W fun e w' => (∃ te pe', e = .returned (.tuple #[.int .i64 n, .iface te pe'])) ∧ Below w.heap.size w w') :
  Calls Tryd.prog 35 #[.string t] w (impl_readNumber.Post t w) := by
 have HC := am_ hc
 have HA := am_ hA
 clear hc hA
 go_enter Tryd.func35, Tryd.ntmps35
 go_wp2_with ((go_at_call 44; (refine (HC.out _ rfl).mono ?_); rintro e w1 ⟨⟨te, p1, rfl⟩, hb⟩; have HB := am_ hb; clear hb))
 go_ret2
 refine ⟨⟨n, ?_, fun v hv => ?_⟩, HB.out⟩
 ·
  rw [HA.out]; first | rfl | simp
 ·
  rw [HA.out] at hv; cases hv
set_option maxHeartbeats 4000000 in
set_option maxRecDepth 100000 in
theorem impl_readNumber.calls (t : ByteArray) (w : World) (hs : t.size ≤ 281474976710656) (hg : RG w) : Calls Tryd.prog 35 #[.string t] w (impl_readNumber.Post t w) := by
 rcases hA : atoiAll t.data.toList with v | _ | _
 rotate_left
 ·
  obtain ⟨te, pe, hv⟩ := hg.syn
  refine impl_readNumber.fails t 0 w (by unfold numA; rw [hA]) (fun W hW => ?_)
  subst hW
  exact (Tryd.strconv_Atoi_syn t hs (hA.trans rfl) te pe W hv).mono (fun e w' ⟨N_, he, _, _, hb⟩ => ⟨⟨_, _, he⟩, hb⟩)
 ·
  obtain ⟨te, pe, hv⟩ := hg.ran
  refine impl_readNumber.fails t (atoiSat t.data.toList) w (by unfold numA; rw [hA]) (fun W hW => ?_)
  subst hW
  exact (Tryd.strconv_Atoi_range_var t hs hA te pe W hv).mono (fun e w' ⟨N_, he, _, _, hb⟩ => ⟨⟨_, _, he⟩, hb⟩)
 ·
  obtain ⟨vb0, vb1⟩ := atoiAll_bounds hA
  have HG := am_ hg
  have HN := am_ (show numA t.data.toList = if itoa v = t.data.toList ∧ (trimPrefix t.data.toList [45]).length ≤ 18 then some v else none by unfold numA; rw [hA])
  have HAT := am_ (show Calls Tryd.prog 44 #[.string t] w fun e w' => e = .returned (.tuple #[.int .i64 v, .nilIface]) ∧ Below w.heap.size w w' from
   (Tryd.strconv_Atoi_ok t (by omega) v hA w).mono (fun e w' ⟨he, hw⟩ => ⟨he, by
    rcases hw with rfl | ⟨T_, rfl⟩
    ·
     exact Below.refl _ _
    ·
     exact bytesWorld_below _ _ _⟩))
  have H0 := am_ vb0
  have H1 := am_ vb1
  clear hg hA vb0 vb1
  have p1 := str_eq (itoa v) t
  have p2 : (⟨(trimPrefix t.data.toList [45]).toArray⟩ : ByteArray).size = (trimPrefix t.data.toList [45]).length := by show (trimPrefix t.data.toList [45]).toArray.size = _; simp
  have HTR := am_ (show ∀ W, Calls Tryd.prog 45 #[.string t, .string ⟨#[45]⟩] W fun e w' => e = .returned (.string ⟨(trimPrefix t.data.toList [45]).toArray⟩) ∧ w' = W from fun W => Tryd.strings_TrimPrefix t ⟨#[45]⟩ W)
  generalize trimPrefix t.data.toList [45] = tr at p2 HN HTR ⊢
  by_cases c1 : itoa v = t.data.toList
  ·
   rw [decide_eq_true c1] at p1
   have q1 : itoa v = t.toList := by rw [toList_data]; exact c1
   by_cases c2 : tr.length ≤ 18
   ·
    rw [if_pos ⟨c1, c2⟩] at HN
    have p3 : decide ((⟨tr.toArray⟩ : ByteArray).size ≤ 18) = true := decide_eq_true (by omega)
    have p4 : decide (((⟨tr.toArray⟩ : ByteArray).size : Int) ≤ 18) = true := decide_eq_true (by omega)
    go_enter Tryd.func35, Tryd.ntmps35
    go_wp2_with (first | (go_at_call 44; refine HAT.out.mono ?_; rintro e w1 ⟨rfl, hb⟩; have HB := am_ hb; clear hb) | (go_at_call 16; refine (Tryd.strconv_Itoa v H0.out H1.out _ (HG.out.below HB.out).tab).mono ?_; rintro e w2 ⟨rfl, kd, os, hw⟩; have hb : Below w1.heap.size w1 w2 := (by rw [hw]; exact below_grow _ _ (Nat.le_refl _) _ _); have n0_ := am_ (below_step HB.out hb); clear HB hw hb; have HB := n0_; clear n0_) | (go_at_call 45; refine (HTR.out _).mono ?_; rintro e w3 ⟨rfl, rfl⟩))
    ·
     go_ret2
     refine ⟨⟨v, ?_, fun v2 h2 => ?_⟩, HB.out⟩
     ·
      rw [HN.out]; first | rfl | (simp; omega)
     ·
      rw [HN.out] at h2; exact Option.some.inj h2
   ·
    rw [if_neg (fun h => c2 h.2)] at HN
    have p3 : decide ((⟨tr.toArray⟩ : ByteArray).size ≤ 18) = false := decide_eq_false (by omega)
    have p4 : decide (((⟨tr.toArray⟩ : ByteArray).size : Int) ≤ 18) = false := decide_eq_false (by omega)
    go_enter Tryd.func35, Tryd.ntmps35
    go_wp2_with (first | (go_at_call 44; refine HAT.out.mono ?_; rintro e w1 ⟨rfl, hb⟩; have HB := am_ hb; clear hb) | (go_at_call 16; refine (Tryd.strconv_Itoa v H0.out H1.out _ (HG.out.below HB.out).tab).mono ?_; rintro e w2 ⟨rfl, kd, os, hw⟩; have hb : Below w1.heap.size w1 w2 := (by rw [hw]; exact below_grow _ _ (Nat.le_refl _) _ _); have n0_ := am_ (below_step HB.out hb); clear HB hw hb; have HB := n0_; clear n0_) | (go_at_call 45; refine (HTR.out _).mono ?_; rintro e w3 ⟨rfl, rfl⟩))
    ·
     go_ret2
     refine ⟨⟨v, ?_, fun v2 h2 => ?_⟩, HB.out⟩
     ·
      rw [HN.out]; first | rfl | (simp; omega)
     ·
      rw [HN.out] at h2; cases h2
  ·
   rw [if_neg (fun h => c1 h.1)] at HN
   rw [decide_eq_false c1] at p1
   have q1 : ¬ itoa v = t.toList := by rw [toList_data]; exact c1
   go_enter Tryd.func35, Tryd.ntmps35
   go_wp2_with (first | (go_at_call 44; refine HAT.out.mono ?_; rintro e w1 ⟨rfl, hb⟩; have HB := am_ hb; clear hb) | (go_at_call 16; refine (Tryd.strconv_Itoa v H0.out H1.out _ (HG.out.below HB.out).tab).mono ?_; rintro e w2 ⟨rfl, kd, os, hw⟩; have hb : Below w1.heap.size w1 w2 := (by rw [hw]; exact below_grow _ _ (Nat.le_refl _) _ _); have n0_ := am_ (below_step HB.out hb); clear HB hw hb; have HB := n0_; clear n0_) | (go_at_call 45; refine (HTR.out _).mono ?_; rintro e w3 ⟨rfl, rfl⟩))
   ·
    go_ret2
    refine ⟨⟨v, ?_, fun v2 h2 => ?_⟩, HB.out⟩
    ·
     rw [HN.out]; first | rfl | (simp; omega)
    ·
     rw [HN.out] at h2; cases h2
end Go.Proofs.YtokljkneflejdaaDoor.PT
end
section
/- Rows of rows that are read, what a state's function leaves, results of several forms. -/
namespace Go.Proofs.YtokljkneflejdaaDoor.PT
open Go Go.RowKit Go.Proofs.YtokljkneflejdaaDoorW.PrintWords Go.Proofs.YtokljkneflejdaaDoorW.PrintLast Go.Proofs.YtokljkneflejdaaDoorW.PrintMore
set_option linter.unusedVariables false
set_option linter.unusedSimpArgs false
theorem rows_get {α : Type} {d : Kd α} {e : Nat} {w : World} {S : Nat → Prop} {A : Option Addr} {n : Nat} {xs : List (List α)} (h : ∀ W', Agr w W' S → (Kd.slice e d).C W' A n xs) (i : Nat) (hi : i < n) :
  ∃ ad B c, A = some ad ∧ (xs.getD i []).length ≤ c ∧ ∀ W', Agr w W' S → (W'.cell? (ad.add i) = some (.slice B (xs.getD i []).length c) ∧ d.C W' B (xs.getD i []).length (xs.getD i [])) := by
 have at_ : ∀ W', Agr w W' S → ∃ ad B c, A = some ad ∧ W'.cell? (ad.add i) = some (.slice B (xs.getD i []).length c) ∧ (xs.getD i []).length ≤ c ∧ d.C W' B (xs.getD i []).length (xs.getD i []) := by
  intro W' hW
  obtain ⟨ad, c, e, _, hK, hc0⟩ := Kd.C_get (h W' hW) ([] : List α) (i : Int) (by omega) (by omega)
  have hc : ∀ j u, c[j]? = some u → W'.cell? (ad.add ((i : Int).toNat * 1 + j)) = some u := hc0
  rw [Int.toNat_natCast] at hc hK
  obtain ⟨B, cc, rfl, hl, hC⟩ := hK
  exact ⟨ad, B, cc, e, (by have := hc 0 _ rfl; simpa using this), hl, hC⟩
 obtain ⟨ad, B, c, rfl, hc, hl, hC⟩ := at_ w (Agr.refl _ _)
 have hS : ¬ S ad.block := fun hs => by
  obtain ⟨ad', B', c', e1, hc', _⟩ := at_ { w with heap := w.heap.setIfInBounds ad.block (.cells #[] 0 (0, 0)) } ⟨rfl, rfl, rfl, by simp, fun k hk hn => by
   have hne : ad.block ≠ k := fun e => hn (e ▸ hs)
   simp [Array.getElem?_setIfInBounds, hne]⟩
  injection e1 with e1
  subst e1
  have hlt := World.block_lt_of_cell? w _ hc
  rw [add_block] at hlt
  simp [World.cell?, add_block, Array.getElem?_setIfInBounds, hlt] at hc'
 refine ⟨ad, B, c, rfl, hl, fun W' hW => ?_⟩
 have hc2 := hW.cell hc (by rw [add_block]; exact hS)
 obtain ⟨ad', B', c', e1, hc', _, hC'⟩ := at_ W' hW
 injection e1 with e1
 subst e1
 rw [hc2] at hc'
 injection hc' with hc'
 injection hc' with e2 _ _
 subst e2
 exact ⟨hc2, hC'⟩
namespace Inv
variable {w0 w w' wb : World} {P : Nat → Prop} {F : World → Prop} {L L' : List Grp} {g : Nat} {t : TypeId} {cs cs' : Array Value}
theorem addF (h : Inv w0 P w L F) (G : World → Prop) (hG : ∀ w', Agr w w' (InL L) → G w') : Inv w0 P w L (fun W => G W ∧ F W) := ⟨h.agr, h.lt, h.new, h.own, h.dis, fun w' hw => ⟨hG w' hw, h.facts w' hw⟩⟩
theorem subL (h : Inv w0 P w L F) (hs : L'.Sublist L) : Inv w0 P w L' F :=
 ⟨h.agr, fun b hb => h.lt b (hs.subset hb), fun b hb => h.new b (hs.subset hb), fun b hb => h.own b (hs.subset hb), h.dis.sublist hs, fun w' hw => h.facts w' (hw.mono (fun k ⟨b, hb, hk⟩ => ⟨b, hs.subset hb, hk⟩))⟩
theorem keep0 (h : Inv w0 P w (blk g t cs :: L) F) (hb : Below wb.heap.size wb w) (hb' : Below wb.heap.size wb w') (hk : KeepBut w w' g none) (hblk : w'.heap[g]? = some (.cells cs' t (0, 0))) : Inv w0 P w' (blk g t cs' :: L) F :=
 h.step (Agr.of_keep hk hb hb') (blk g t cs') (fun k hk2 => ⟨.inl hk2, (by obtain rfl : k = g := hk2; exact blk_lt hblk)⟩) (fun w2 hw => (hw g rfl).trans hblk)
theorem factsKeep0 (h : Inv w0 P w (blk g t cs :: L) F) (hk : KeepBut w w' g none) : F { w with heap := w'.heap } :=
 h.facts _ ⟨rfl, rfl, rfl, hk.1, fun k hlt hn => hk.2 k hlt (fun e => hn ⟨_, List.mem_cons_self, e⟩) (by simp)⟩
theorem keepRow0 {α : Type} {d : Kd α} {e : Nat} {v : Value} {xs : List α} {ok : Nat → Prop} (h : Inv w0 P w (blk g t cs :: L) F) (hb : Below wb.heap.size wb w) (hb' : Below wb.heap.size wb w') (hk : KeepBut w w' g none) (hblk : w'.heap[g]? = some (.cells cs' t (0, 0))) (hR : d.R e w' w.heap.size ok v xs) :
  Inv w0 P w' (row d e w0.heap.size v xs (fun k => w.heap.size ≤ k ∧ k < w'.heap.size) :: blk g t cs' :: L) F := by
 have h1 := h.keep0 hb hb' hk hblk
 have hA : Agr w w' (fun k => k = g) := Agr.of_keep hk hb hb'
 have hlt : ∀ c, c ∈ blk g t cs' :: L → ∀ k, c.S k → k < w.heap.size := fun c hc k hk2 => by
  rcases List.mem_cons.1 hc with rfl | hc
  ·
   exact h.lt (blk g t cs) List.mem_cons_self k hk2
  ·
   exact h.lt c (List.mem_cons_of_mem _ hc) k hk2
 have hR2 : d.R e w' w0.heap.size (fun k => w.heap.size ≤ k ∧ k < w'.heap.size) v xs := Kd.R_lower (Kd.R_mono (Kd.R_bound hR) (fun k hk => ⟨hk.2.1, hk.2.2.1⟩)) h.agr.size
 refine ⟨h1.agr, fun c hc k hk2 => ?_, fun c hc k hk2 => ?_, fun c hc w2 hw => ?_, List.Pairwise.cons (fun c hc k hk2 hk3 => absurd (hlt c hc k hk3) (Nat.not_lt.2 hk2.1)) h1.dis, fun w2 hw => h.facts w2 ((hA.mono (fun k hk2 => ⟨blk g t cs, List.mem_cons_self, hk2⟩)).trans hw (fun i hi => ?_))⟩
 ·
  rcases List.mem_cons.1 hc with rfl | hc
  ·
   exact hk2.2
  ·
   exact h1.lt c hc k hk2
 ·
  rcases List.mem_cons.1 hc with rfl | hc
  ·
   exact .inl (Nat.le_trans h.agr.size hk2.1)
  ·
   exact h1.new c hc k hk2
 ·
  rcases List.mem_cons.1 hc with rfl | hc
  ·
   exact Kd.R_step hR2 (fun k hk2 _ => hw k hk2)
  ·
   exact h1.own c hc w2 hw
 ·
  obtain ⟨c, hc, hk2⟩ := hi
  rcases List.mem_cons.1 hc with rfl | hc
  ·
   exact .inr hk2.1
  ·
   rcases List.mem_cons.1 hc with rfl | hc
   ·
    exact .inl ⟨blk g t cs, List.mem_cons_self, hk2⟩
   ·
    exact .inl ⟨c, List.mem_cons_of_mem _ hc, hk2⟩
theorem disj {a b : Grp} (h : Inv w0 P w L F) (i j : Nat) (hij : i < j) (hi : L[i]? = some a) (hj : L[j]? = some b) : ∀ k, a.S k → ¬ b.S k := by
 obtain ⟨h1, rfl⟩ := List.getElem?_eq_some_iff.1 hi
 obtain ⟨h2, rfl⟩ := List.getElem?_eq_some_iff.1 hj
 exact List.pairwise_iff_getElem.1 h.dis i j h1 h2 hij
end Inv
theorem results_tct {P : Program} {fn : Func} {p u v : Tmp} {ty : TypeId} (h : fn.results = #[.tmp u, .cell p ty, .tmp v]) (tmps : Array Value) (w : World) (g : Nat) (t : TypeId) (cs : Array Value) (fr : Nat × Nat) (d : TypeDesc)
  (hp : tmps.getD p undef = .pointer (some ⟨g, 0, none⟩)) (hg : w.heap[g]? = some (.cells cs t fr))
  (hu : P.underlying ty = some d) (hd : (match d with | .struct _ | .array _ _ => true | _ => false) = true) (hi : (P.info? ty).map (·.size) = some cs.size) :
  (results fn tmps).run P w = .ok (.tuple #[tmps.getD u undef, .agg cs, tmps.getD v undef]) w := by
 have hp' : tmps[p]?.getD undef = .pointer (some ⟨g, 0, none⟩) := by simpa using hp
 simp [results, h, hp', asAddr, run_loadVar_row w g t ty cs fr d hg hu hd hi]
theorem results_tcct {P : Program} {fn : Func} {p p' u v : Tmp} {ty ty' : TypeId} (h : fn.results = #[.tmp u, .cell p ty, .cell p' ty', .tmp v]) (tmps : Array Value) (w : World) (g g' : Nat) (t t' : TypeId) (cs cs' : Array Value) (fr fr' : Nat × Nat) (d d' : TypeDesc)
  (hp : tmps.getD p undef = .pointer (some ⟨g, 0, none⟩)) (hg : w.heap[g]? = some (.cells cs t fr))
  (hu : P.underlying ty = some d) (hd : (match d with | .struct _ | .array _ _ => true | _ => false) = true) (hi : (P.info? ty).map (·.size) = some cs.size)
  (hp2 : tmps.getD p' undef = .pointer (some ⟨g', 0, none⟩)) (hg2 : w.heap[g']? = some (.cells cs' t' fr'))
  (hu2 : P.underlying ty' = some d') (hd2 : (match d' with | .struct _ | .array _ _ => true | _ => false) = true) (hi2 : (P.info? ty').map (·.size) = some cs'.size) :
  (results fn tmps).run P w = .ok (.tuple #[tmps.getD u undef, .agg cs, .agg cs', tmps.getD v undef]) w := by
 have hp' : tmps[p]?.getD undef = .pointer (some ⟨g, 0, none⟩) := by simpa using hp
 have hp2' : tmps[p']?.getD undef = .pointer (some ⟨g', 0, none⟩) := by simpa using hp2
 simp [results, h, hp', hp2', asAddr, run_loadVar_row w g t ty cs fr d hg hu hd hi, run_loadVar_row w g' t' ty' cs' fr' d' hg2 hu2 hd2 hi2]
theorem drop_getD_ {α : Type} (l : List α) (j : Nat) (z : α) (h : j < l.length) : l.drop j = l.getD j z :: l.drop (j + 1) := by
 rw [List.drop_eq_getElem_cons h]
 simp [List.getD, h]
end Go.Proofs.YtokljkneflejdaaDoor.PT
end
section
/- What nums returns: pointers into the gate. -/
namespace Go.Proofs.YtokljkneflejdaaDoor.PT
open Go.RowKit Go.Proofs.YtokljkneflejdaaDoorW.PrintWords Go.Proofs.YtokljkneflejdaaDoorW.PrintLast Go.Proofs.YtokljkneflejdaaDoorW.PrintMore
set_option linter.unusedVariables false
set_option linter.unusedSimpArgs false
def impl_Gate_nums.offs (op : Int) : List Nat := if op = 3 then [3] else if 4 ≤ op ∧ op ≤ 7 then [1, 2] else if op = 8 then [1] else []
def impl_Gate_nums.Post (g : Nat) (op : Int) (w : World) (e : Ending) (w' : World) : Prop := ∃ A c, e = .returned (.slice A (impl_Gate_nums.offs op).length c) ∧ (∀ i (h : i < (impl_Gate_nums.offs op).length), ∃ q, A = some ⟨q, 0, none⟩ ∧ w'.cell? ⟨q, i, none⟩ = some (.pointer (some ⟨g, (impl_Gate_nums.offs op)[i], none⟩))) ∧ Below w.heap.size w w'
set_option maxHeartbeats 8000000 in
set_option maxRecDepth 100000 in
theorem impl_Gate_nums.const (g : Nat) (a b kk : Int) (w : World) (hb : w.heap[g]? = some (.cells #[.int .i64 3, .int .i64 a, .int .i64 b, .int .i64 kk] 30 (0, 0))) :
  Calls Tryd.prog 15 #[.pointer (some ⟨g, 0, none⟩)] w (impl_Gate_nums.Post g 3 w) := by
 have hu30 := Tryd.underlying30
 have hz : w.cell? ⟨g, 0, none⟩ = some (.int .i64 3) := (blk_cell hb 0).trans rfl
 have hf := blk_frozen hb 0
 go_enter Tryd.func15, Tryd.ntmps15
 go_wp2
 go_ret
 refine ⟨some ⟨w.heap.size, 0, none⟩, 1, rfl, fun i h => ⟨w.heap.size, rfl, ?_⟩, below_alloc (Below.refl _ _) _⟩
 obtain rfl : i = 0 := by have h2 : i < 1 := h; omega
 exact World.cell?_alloc_new _ _ _ _
set_option maxHeartbeats 8000000 in
set_option maxRecDepth 100000 in
theorem impl_Gate_nums.bit (g : Nat) (a b kk : Int) (w : World) (hb : w.heap[g]? = some (.cells #[.int .i64 8, .int .i64 a, .int .i64 b, .int .i64 kk] 30 (0, 0))) :
  Calls Tryd.prog 15 #[.pointer (some ⟨g, 0, none⟩)] w (impl_Gate_nums.Post g 8 w) := by
 have hu30 := Tryd.underlying30
 have hz : w.cell? ⟨g, 0, none⟩ = some (.int .i64 8) := (blk_cell hb 0).trans rfl
 have hf := blk_frozen hb 0
 go_enter Tryd.func15, Tryd.ntmps15
 go_wp2
 go_ret
 refine ⟨some ⟨w.heap.size, 0, none⟩, 1, rfl, fun i h => ⟨w.heap.size, rfl, ?_⟩, below_alloc (Below.refl _ _) _⟩
 obtain rfl : i = 0 := by have h2 : i < 1 := h; omega
 exact World.cell?_alloc_new _ _ _ _
set_option maxHeartbeats 8000000 in
set_option maxRecDepth 100000 in
theorem impl_Gate_nums.two4 (g : Nat) (a b kk : Int) (w : World) (hb : w.heap[g]? = some (.cells #[.int .i64 4, .int .i64 a, .int .i64 b, .int .i64 kk] 30 (0, 0))) :
  Calls Tryd.prog 15 #[.pointer (some ⟨g, 0, none⟩)] w (impl_Gate_nums.Post g 4 w) := by
 have hu30 := Tryd.underlying30
 have hz : w.cell? ⟨g, 0, none⟩ = some (.int .i64 4) := (blk_cell hb 0).trans rfl
 have hf := blk_frozen hb 0
 go_enter Tryd.func15, Tryd.ntmps15
 go_wp2
 refine start_ (n := 8) (S := fun _ => True) (ds := []) #[false, false, false, false, false, false, false, false] (by kernel_rfl) rfl rfl trivial (fun hHeld => ?_)
 refine pure_ (i := 0) (N := some 18) (v := ?_) (a' := ?_) #[true, false, false, false, false, false, false, false] rfl rfl (by kernel_rfl) (fun _ _ _ h => h) (Or.inl ⟨(by rfl), ?_⟩) ?_ ?_
 rotate_left
 ·
  intro w'
  go_simp
  with_reducible rfl
 rotate_left
 ·
  exact ap_
 refine pure_ (i := 1) (N := some 19) (v := ?_) (a' := ?_) #[true, true, false, false, false, false, false, false] rfl rfl (by kernel_rfl) (fun _ _ _ h => h) (Or.inl ⟨(by rfl), ?_⟩) ?_ ?_
 rotate_left
 ·
  intro w'
  go_simp
  with_reducible rfl
 rotate_left
 ·
  exact ap_
 refine pure_ (i := 2) (N := some 20) (v := ?_) (a' := ?_) #[true, true, true, false, false, false, false, false] rfl rfl (by kernel_rfl) (fun _ _ _ h => h) (Or.inl ⟨(by rfl), ?_⟩) ?_ ?_
 rotate_left
 ·
  intro w'
  go_simp
  with_reducible rfl
 rotate_left
 ·
  exact ap_
 refine pure_ (i := 3) (N := some 21) (v := ?_) (a' := ?_) #[true, true, true, true, false, false, false, false] rfl rfl (by kernel_rfl) (fun _ _ _ h => h) (Or.inl ⟨(by rfl), ?_⟩) ?_ ?_
 rotate_left
 ·
  intro w'
  go_simp
  with_reducible rfl
 rotate_left
 ·
  exact ap_
 refine pure_ (i := 4) (N := some 22) (v := ?_) (a' := ?_) #[true, true, true, true, true, false, false, false] rfl rfl (by kernel_rfl) (fun _ _ _ h => h) (Or.inl ⟨(by rfl), ?_⟩) ?_ ?_
 rotate_left
 ·
  intro w'
  go_simp
  with_reducible rfl
 rotate_left
 ·
  exact ap_
 refine pure_ (i := 5) (N := some 23) (v := ?_) (a' := ?_) #[true, true, true, true, true, true, false, false] rfl rfl (by kernel_rfl) (fun _ _ _ h => h) (Or.inl ⟨(by rfl), ?_⟩) ?_ ?_
 rotate_left
 ·
  intro w'
  go_simp
  with_reducible rfl
 rotate_left
 ·
  exact ap_
 refine one_ (i := 6) (N := some 24) #[true, true, true, true, true, true, true, false] rfl rfl (by kernel_rfl) (by decide) (fun K hK => ?_)
 refine value_ (w1 := ?_) (v := ?_) (by rfl) rfl ?_ ?_
 rotate_left 2
 ·
  go_simp
  constructor
  ·
   rfl
  ·
   rfl
 refine hK.out _ _ trivial (fun hHeld => ?_)
 clear hK K
 refine norm_ (a' := ?_) ?_ ?_
 rotate_left
 ·
  show Act.put _ (some 24) _ = _
  exact ap_
 refine pure_ (i := 7) (N := some 2) (v := ?_) (a' := ?_) #[true, true, true, true, true, true, true, true] rfl rfl (by kernel_rfl) (fun _ _ _ h => h) (Or.inl ⟨(by rfl), ?_⟩) ?_ ?_
 rotate_left
 ·
  intro w'
  go_simp
  with_reducible rfl
 rotate_left
 ·
  exact ap_
 refine done_ (by kernel_rfl) ?_
 try go_wp2
 go_ret
 refine ⟨some ⟨w.heap.size, 0, none⟩, 2, rfl, fun i h => ⟨w.heap.size, rfl, ?_⟩, below_alloc (below_drew1 (Below.refl _ _)) _⟩
 have h2 : i < 2 := h
 rcases (show i = 0 ∨ i = 1 by omega) with rfl | rfl <;> exact World.cell?_alloc_new _ _ _ _
set_option maxHeartbeats 8000000 in
set_option maxRecDepth 100000 in
theorem impl_Gate_nums.two5 (g : Nat) (a b kk : Int) (w : World) (hb : w.heap[g]? = some (.cells #[.int .i64 5, .int .i64 a, .int .i64 b, .int .i64 kk] 30 (0, 0))) :
  Calls Tryd.prog 15 #[.pointer (some ⟨g, 0, none⟩)] w (impl_Gate_nums.Post g 5 w) := by
 have hu30 := Tryd.underlying30
 have hz : w.cell? ⟨g, 0, none⟩ = some (.int .i64 5) := (blk_cell hb 0).trans rfl
 have hf := blk_frozen hb 0
 go_enter Tryd.func15, Tryd.ntmps15
 go_wp2
 refine start_ (n := 8) (S := fun _ => True) (ds := []) #[false, false, false, false, false, false, false, false] (by kernel_rfl) rfl rfl trivial (fun hHeld => ?_)
 refine pure_ (i := 0) (N := some 18) (v := ?_) (a' := ?_) #[true, false, false, false, false, false, false, false] rfl rfl (by kernel_rfl) (fun _ _ _ h => h) (Or.inl ⟨(by rfl), ?_⟩) ?_ ?_
 rotate_left
 ·
  intro w'
  go_simp
  with_reducible rfl
 rotate_left
 ·
  exact ap_
 refine pure_ (i := 1) (N := some 19) (v := ?_) (a' := ?_) #[true, true, false, false, false, false, false, false] rfl rfl (by kernel_rfl) (fun _ _ _ h => h) (Or.inl ⟨(by rfl), ?_⟩) ?_ ?_
 rotate_left
 ·
  intro w'
  go_simp
  with_reducible rfl
 rotate_left
 ·
  exact ap_
 refine pure_ (i := 2) (N := some 20) (v := ?_) (a' := ?_) #[true, true, true, false, false, false, false, false] rfl rfl (by kernel_rfl) (fun _ _ _ h => h) (Or.inl ⟨(by rfl), ?_⟩) ?_ ?_
 rotate_left
 ·
  intro w'
  go_simp
  with_reducible rfl
 rotate_left
 ·
  exact ap_
 refine pure_ (i := 3) (N := some 21) (v := ?_) (a' := ?_) #[true, true, true, true, false, false, false, false] rfl rfl (by kernel_rfl) (fun _ _ _ h => h) (Or.inl ⟨(by rfl), ?_⟩) ?_ ?_
 rotate_left
 ·
  intro w'
  go_simp
  with_reducible rfl
 rotate_left
 ·
  exact ap_
 refine pure_ (i := 4) (N := some 22) (v := ?_) (a' := ?_) #[true, true, true, true, true, false, false, false] rfl rfl (by kernel_rfl) (fun _ _ _ h => h) (Or.inl ⟨(by rfl), ?_⟩) ?_ ?_
 rotate_left
 ·
  intro w'
  go_simp
  with_reducible rfl
 rotate_left
 ·
  exact ap_
 refine pure_ (i := 5) (N := some 23) (v := ?_) (a' := ?_) #[true, true, true, true, true, true, false, false] rfl rfl (by kernel_rfl) (fun _ _ _ h => h) (Or.inl ⟨(by rfl), ?_⟩) ?_ ?_
 rotate_left
 ·
  intro w'
  go_simp
  with_reducible rfl
 rotate_left
 ·
  exact ap_
 refine one_ (i := 6) (N := some 24) #[true, true, true, true, true, true, true, false] rfl rfl (by kernel_rfl) (by decide) (fun K hK => ?_)
 refine value_ (w1 := ?_) (v := ?_) (by rfl) rfl ?_ ?_
 rotate_left 2
 ·
  go_simp
  constructor
  ·
   rfl
  ·
   rfl
 refine hK.out _ _ trivial (fun hHeld => ?_)
 clear hK K
 refine norm_ (a' := ?_) ?_ ?_
 rotate_left
 ·
  show Act.put _ (some 24) _ = _
  exact ap_
 refine pure_ (i := 7) (N := some 2) (v := ?_) (a' := ?_) #[true, true, true, true, true, true, true, true] rfl rfl (by kernel_rfl) (fun _ _ _ h => h) (Or.inl ⟨(by rfl), ?_⟩) ?_ ?_
 rotate_left
 ·
  intro w'
  go_simp
  with_reducible rfl
 rotate_left
 ·
  exact ap_
 refine done_ (by kernel_rfl) ?_
 try go_wp2
 go_ret
 refine ⟨some ⟨w.heap.size, 0, none⟩, 2, rfl, fun i h => ⟨w.heap.size, rfl, ?_⟩, below_alloc (below_drew1 (Below.refl _ _)) _⟩
 have h2 : i < 2 := h
 rcases (show i = 0 ∨ i = 1 by omega) with rfl | rfl <;> exact World.cell?_alloc_new _ _ _ _
set_option maxHeartbeats 8000000 in
set_option maxRecDepth 100000 in
theorem impl_Gate_nums.two6 (g : Nat) (a b kk : Int) (w : World) (hb : w.heap[g]? = some (.cells #[.int .i64 6, .int .i64 a, .int .i64 b, .int .i64 kk] 30 (0, 0))) :
  Calls Tryd.prog 15 #[.pointer (some ⟨g, 0, none⟩)] w (impl_Gate_nums.Post g 6 w) := by
 have hu30 := Tryd.underlying30
 have hz : w.cell? ⟨g, 0, none⟩ = some (.int .i64 6) := (blk_cell hb 0).trans rfl
 have hf := blk_frozen hb 0
 go_enter Tryd.func15, Tryd.ntmps15
 go_wp2
 refine start_ (n := 8) (S := fun _ => True) (ds := []) #[false, false, false, false, false, false, false, false] (by kernel_rfl) rfl rfl trivial (fun hHeld => ?_)
 refine pure_ (i := 0) (N := some 18) (v := ?_) (a' := ?_) #[true, false, false, false, false, false, false, false] rfl rfl (by kernel_rfl) (fun _ _ _ h => h) (Or.inl ⟨(by rfl), ?_⟩) ?_ ?_
 rotate_left
 ·
  intro w'
  go_simp
  with_reducible rfl
 rotate_left
 ·
  exact ap_
 refine pure_ (i := 1) (N := some 19) (v := ?_) (a' := ?_) #[true, true, false, false, false, false, false, false] rfl rfl (by kernel_rfl) (fun _ _ _ h => h) (Or.inl ⟨(by rfl), ?_⟩) ?_ ?_
 rotate_left
 ·
  intro w'
  go_simp
  with_reducible rfl
 rotate_left
 ·
  exact ap_
 refine pure_ (i := 2) (N := some 20) (v := ?_) (a' := ?_) #[true, true, true, false, false, false, false, false] rfl rfl (by kernel_rfl) (fun _ _ _ h => h) (Or.inl ⟨(by rfl), ?_⟩) ?_ ?_
 rotate_left
 ·
  intro w'
  go_simp
  with_reducible rfl
 rotate_left
 ·
  exact ap_
 refine pure_ (i := 3) (N := some 21) (v := ?_) (a' := ?_) #[true, true, true, true, false, false, false, false] rfl rfl (by kernel_rfl) (fun _ _ _ h => h) (Or.inl ⟨(by rfl), ?_⟩) ?_ ?_
 rotate_left
 ·
  intro w'
  go_simp
  with_reducible rfl
 rotate_left
 ·
  exact ap_
 refine pure_ (i := 4) (N := some 22) (v := ?_) (a' := ?_) #[true, true, true, true, true, false, false, false] rfl rfl (by kernel_rfl) (fun _ _ _ h => h) (Or.inl ⟨(by rfl), ?_⟩) ?_ ?_
 rotate_left
 ·
  intro w'
  go_simp
  with_reducible rfl
 rotate_left
 ·
  exact ap_
 refine pure_ (i := 5) (N := some 23) (v := ?_) (a' := ?_) #[true, true, true, true, true, true, false, false] rfl rfl (by kernel_rfl) (fun _ _ _ h => h) (Or.inl ⟨(by rfl), ?_⟩) ?_ ?_
 rotate_left
 ·
  intro w'
  go_simp
  with_reducible rfl
 rotate_left
 ·
  exact ap_
 refine one_ (i := 6) (N := some 24) #[true, true, true, true, true, true, true, false] rfl rfl (by kernel_rfl) (by decide) (fun K hK => ?_)
 refine value_ (w1 := ?_) (v := ?_) (by rfl) rfl ?_ ?_
 rotate_left 2
 ·
  go_simp
  constructor
  ·
   rfl
  ·
   rfl
 refine hK.out _ _ trivial (fun hHeld => ?_)
 clear hK K
 refine norm_ (a' := ?_) ?_ ?_
 rotate_left
 ·
  show Act.put _ (some 24) _ = _
  exact ap_
 refine pure_ (i := 7) (N := some 2) (v := ?_) (a' := ?_) #[true, true, true, true, true, true, true, true] rfl rfl (by kernel_rfl) (fun _ _ _ h => h) (Or.inl ⟨(by rfl), ?_⟩) ?_ ?_
 rotate_left
 ·
  intro w'
  go_simp
  with_reducible rfl
 rotate_left
 ·
  exact ap_
 refine done_ (by kernel_rfl) ?_
 try go_wp2
 go_ret
 refine ⟨some ⟨w.heap.size, 0, none⟩, 2, rfl, fun i h => ⟨w.heap.size, rfl, ?_⟩, below_alloc (below_drew1 (Below.refl _ _)) _⟩
 have h2 : i < 2 := h
 rcases (show i = 0 ∨ i = 1 by omega) with rfl | rfl <;> exact World.cell?_alloc_new _ _ _ _
set_option maxHeartbeats 8000000 in
set_option maxRecDepth 100000 in
theorem impl_Gate_nums.two7 (g : Nat) (a b kk : Int) (w : World) (hb : w.heap[g]? = some (.cells #[.int .i64 7, .int .i64 a, .int .i64 b, .int .i64 kk] 30 (0, 0))) :
  Calls Tryd.prog 15 #[.pointer (some ⟨g, 0, none⟩)] w (impl_Gate_nums.Post g 7 w) := by
 have hu30 := Tryd.underlying30
 have hz : w.cell? ⟨g, 0, none⟩ = some (.int .i64 7) := (blk_cell hb 0).trans rfl
 have hf := blk_frozen hb 0
 go_enter Tryd.func15, Tryd.ntmps15
 go_wp2
 refine start_ (n := 8) (S := fun _ => True) (ds := []) #[false, false, false, false, false, false, false, false] (by kernel_rfl) rfl rfl trivial (fun hHeld => ?_)
 refine pure_ (i := 0) (N := some 18) (v := ?_) (a' := ?_) #[true, false, false, false, false, false, false, false] rfl rfl (by kernel_rfl) (fun _ _ _ h => h) (Or.inl ⟨(by rfl), ?_⟩) ?_ ?_
 rotate_left
 ·
  intro w'
  go_simp
  with_reducible rfl
 rotate_left
 ·
  exact ap_
 refine pure_ (i := 1) (N := some 19) (v := ?_) (a' := ?_) #[true, true, false, false, false, false, false, false] rfl rfl (by kernel_rfl) (fun _ _ _ h => h) (Or.inl ⟨(by rfl), ?_⟩) ?_ ?_
 rotate_left
 ·
  intro w'
  go_simp
  with_reducible rfl
 rotate_left
 ·
  exact ap_
 refine pure_ (i := 2) (N := some 20) (v := ?_) (a' := ?_) #[true, true, true, false, false, false, false, false] rfl rfl (by kernel_rfl) (fun _ _ _ h => h) (Or.inl ⟨(by rfl), ?_⟩) ?_ ?_
 rotate_left
 ·
  intro w'
  go_simp
  with_reducible rfl
 rotate_left
 ·
  exact ap_
 refine pure_ (i := 3) (N := some 21) (v := ?_) (a' := ?_) #[true, true, true, true, false, false, false, false] rfl rfl (by kernel_rfl) (fun _ _ _ h => h) (Or.inl ⟨(by rfl), ?_⟩) ?_ ?_
 rotate_left
 ·
  intro w'
  go_simp
  with_reducible rfl
 rotate_left
 ·
  exact ap_
 refine pure_ (i := 4) (N := some 22) (v := ?_) (a' := ?_) #[true, true, true, true, true, false, false, false] rfl rfl (by kernel_rfl) (fun _ _ _ h => h) (Or.inl ⟨(by rfl), ?_⟩) ?_ ?_
 rotate_left
 ·
  intro w'
  go_simp
  with_reducible rfl
 rotate_left
 ·
  exact ap_
 refine pure_ (i := 5) (N := some 23) (v := ?_) (a' := ?_) #[true, true, true, true, true, true, false, false] rfl rfl (by kernel_rfl) (fun _ _ _ h => h) (Or.inl ⟨(by rfl), ?_⟩) ?_ ?_
 rotate_left
 ·
  intro w'
  go_simp
  with_reducible rfl
 rotate_left
 ·
  exact ap_
 refine one_ (i := 6) (N := some 24) #[true, true, true, true, true, true, true, false] rfl rfl (by kernel_rfl) (by decide) (fun K hK => ?_)
 refine value_ (w1 := ?_) (v := ?_) (by rfl) rfl ?_ ?_
 rotate_left 2
 ·
  go_simp
  constructor
  ·
   rfl
  ·
   rfl
 refine hK.out _ _ trivial (fun hHeld => ?_)
 clear hK K
 refine norm_ (a' := ?_) ?_ ?_
 rotate_left
 ·
  show Act.put _ (some 24) _ = _
  exact ap_
 refine pure_ (i := 7) (N := some 2) (v := ?_) (a' := ?_) #[true, true, true, true, true, true, true, true] rfl rfl (by kernel_rfl) (fun _ _ _ h => h) (Or.inl ⟨(by rfl), ?_⟩) ?_ ?_
 rotate_left
 ·
  intro w'
  go_simp
  with_reducible rfl
 rotate_left
 ·
  exact ap_
 refine done_ (by kernel_rfl) ?_
 try go_wp2
 go_ret
 refine ⟨some ⟨w.heap.size, 0, none⟩, 2, rfl, fun i h => ⟨w.heap.size, rfl, ?_⟩, below_alloc (below_drew1 (Below.refl _ _)) _⟩
 have h2 : i < 2 := h
 rcases (show i = 0 ∨ i = 1 by omega) with rfl | rfl <;> exact World.cell?_alloc_new _ _ _ _
set_option maxHeartbeats 8000000 in
set_option maxRecDepth 100000 in
theorem impl_Gate_nums.none_ (g : Nat) (op a b kk : Int) (w : World) (hb : w.heap[g]? = some (.cells #[.int .i64 op, .int .i64 a, .int .i64 b, .int .i64 kk] 30 (0, 0))) (h1 : op ≠ 3) (h2 : ¬ (4 ≤ op ∧ op ≤ 7)) (h3 : op ≠ 8) :
  Calls Tryd.prog 15 #[.pointer (some ⟨g, 0, none⟩)] w (impl_Gate_nums.Post g op w) := by
 have hu30 := Tryd.underlying30
 have hz : w.cell? ⟨g, 0, none⟩ = some (.int .i64 op) := (blk_cell hb 0).trans rfl
 have hf := blk_frozen hb 0
 have e3 : (op == 3) = false := beq_eq_false_iff_ne.mpr (by omega)
 have e4 : (op == 4) = false := beq_eq_false_iff_ne.mpr (by omega)
 have e5 : (op == 5) = false := beq_eq_false_iff_ne.mpr (by omega)
 have e6 : (op == 6) = false := beq_eq_false_iff_ne.mpr (by omega)
 have e7 : (op == 7) = false := beq_eq_false_iff_ne.mpr (by omega)
 have e8 : (op == 8) = false := beq_eq_false_iff_ne.mpr (by omega)
 have ho : impl_Gate_nums.offs op = [] := by unfold impl_Gate_nums.offs; rw [if_neg h1, if_neg h2, if_neg h3]
 go_enter Tryd.func15, Tryd.ntmps15
 go_wp2
 go_ret
 unfold impl_Gate_nums.Post
 rw [ho]
 exact ⟨none, 0, rfl, fun i h => absurd h (by simp), Below.refl _ _⟩
theorem impl_Gate_nums.calls (g : Nat) (op a b kk : Int) (w : World) (hb : w.heap[g]? = some (.cells #[.int .i64 op, .int .i64 a, .int .i64 b, .int .i64 kk] 30 (0, 0))) :
  Calls Tryd.prog 15 #[.pointer (some ⟨g, 0, none⟩)] w (impl_Gate_nums.Post g op w) := by
 by_cases h1 : op = 3
 ·
  subst h1; exact impl_Gate_nums.const g a b kk w hb
 by_cases h2 : 4 ≤ op ∧ op ≤ 7
 ·
  rcases (show op = 4 ∨ op = 5 ∨ op = 6 ∨ op = 7 by omega) with rfl | rfl | rfl | rfl
  ·
   exact impl_Gate_nums.two4 g a b kk w hb
  ·
   exact impl_Gate_nums.two5 g a b kk w hb
  ·
   exact impl_Gate_nums.two6 g a b kk w hb
  ·
   exact impl_Gate_nums.two7 g a b kk w hb
 by_cases h3 : op = 8
 ·
  subst h3; exact impl_Gate_nums.bit g a b kk w hb
 exact impl_Gate_nums.none_ g op a b kk w hb h1 h2 h3
def impl_in.f (a0 : Int) (a1 : Int) (a2 : Int) : Option (Bool) := if a1 ≤ a0 then (some (decide (a0 ≤ a2))) else (some false)
set_option maxHeartbeats 8000000 in
set_option maxRecDepth 100000 in
theorem impl_in.calls (a0 : Int) (a1 : Int) (a2 : Int) (r : Bool) (w : World) (h : impl_in.f a0 a1 a2 = some r) :
  Calls Tryd.prog 30 #[.int .i64 a0, .int .i64 a1, .int .i64 a2] w fun e w' => e = .returned (.bool r) ∧ Drawn0 w w' := by
 have H : (if a1 ≤ a0 then (some (decide (a0 ≤ a2))) else (some false)) = some r := h
 clear h
 by_cases c4 : a1 ≤ a0
 ·
  rw [if_pos c4] at H
  have c4b0 : decide (a1 ≤ a0) = true := decide_eq_true c4
  clear c4
  obtain rfl := Option.some.inj H
  go_enter Tryd.func30, Tryd.ntmps30
  go_wp2
  go_ret
  exact ⟨qz0_, qz1_⟩
 ·
  rw [if_neg c4] at H
  have c4b0 : decide (a1 ≤ a0) = false := decide_eq_false c4
  clear c4
  obtain rfl := Option.some.inj H
  go_enter Tryd.func30, Tryd.ntmps30
  go_wp2
  go_ret
  exact ⟨qz0_, qz1_⟩

def impl_FieldOK.f (a0 : Int) : Option (Bool) := (impl_in.f a0 0 2130706432).bind fun t101 => (some t101)
set_option maxHeartbeats 8000000 in
set_option maxRecDepth 100000 in
theorem impl_FieldOK.calls (a0 : Int) (r : Bool) (w : World) (h : impl_FieldOK.f a0 = some r) :
  Calls Tryd.prog 29 #[.int .i64 a0] w fun e w' => e = .returned (.bool r) ∧ Drawn0 w w' := by
 have H : ((impl_in.f a0 0 2130706432).bind fun t101 => (some t101)) = some r := h
 clear h
 replace H := Option.bind_eq_some_iff.mp H
 obtain ⟨t101, A20, H⟩ := H
 replace H : (some t101) = some r := H
 have A2 := am_ A20
 clear A20
 obtain rfl := Option.some.inj H
 go_enter Tryd.func29, Tryd.ntmps29
 go_wp2_with (first | ((with_reducible refine gate_callee (f := 30) rfl ?_); refine goesL_ (some 4) rfl rfl Tryd.func30 (by kernel_rfl) rfl #[.int .i64 a0, .int .i64 0, .int .i64 2130706432] rfl qz2_ ?_; (with_reducible refine (impl_in.calls a0 0 2130706432 t101 _ A2.out).mono ?_); rintro e w' ⟨rfl, ⟨nd, rfl⟩⟩; refine ⟨_, rfl, ?_⟩))
 go_ret
 exact ⟨qz0_, qz1_⟩

end Go.Proofs.YtokljkneflejdaaDoor.PT
end
section
namespace Go.Proofs.YtokljkneflejdaaDoor.PT
open Go.RowKit Go.Proofs.YtokljkneflejdaaDoorW.PrintWords Go.Proofs.YtokljkneflejdaaDoorW.PrintLast Go.Proofs.YtokljkneflejdaaDoorW.PrintMore
attribute [local go_sem] max2_int min2_int max_two min_two max_three min_three max_four min_four   -- for this text's walks alone
set_option linter.unusedVariables false
set_option linter.unusedSimpArgs false
def impl_isGate.j0 : Nat → Int → Bool → Bool → Bool → Int → Bool → Int → Int → Int → Int → Option (Bool)
 | 0, _, _, _, _, _, _, _, _, _, _ => none
 | k + 1, x1, x5, x6, x7, x18, x24, x102000, x102001, x102002, x102003 => if x24 = true then ((impl_in.f x102001 0 (wrap64 (x1 - 1))).bind fun t104 => ((impl_in.f x102002 0 (wrap64 (x1 - 1))).bind fun t105 => ((impl_in.f x102000 1 8).bind fun t106 => (if t106 = true then (if t104 = true then (if t105 = true then (some x7) else (some false)) else (some false)) else (some false))))) else (if x18 = 8 then ((impl_in.f x102001 0 (wrap64 (x1 - 1))).bind fun t107 => ((impl_in.f x102000 1 8).bind fun t108 => (if t108 = true then (if t107 = true then (if x6 = true then (some x7) else (some false)) else (some false)) else (some false)))) else ((impl_in.f x102000 1 8).bind fun t109 => (if t109 = true then (if x5 = true then (if x6 = true then (some x7) else (some false)) else (some false)) else (some false))))
def impl_isGate.f (k : Nat) (a0_0 : Int) (a0_1 : Int) (a0_2 : Int) (a0_3 : Int) (a1 : Int) : Option (Bool) := if a0_0 = 3 then ((impl_FieldOK.f a0_3).bind fun t102 => ((impl_in.f a0_0 1 8).bind fun t103 => (if t103 = true then (if a0_1 = 0 then (if a0_2 = 0 then (some t102) else (some false)) else (some false)) else (some false)))) else (if a0_0 = 4 then (impl_isGate.j0 k a1 (a0_1 == 0) (a0_2 == 0) (a0_3 == 0) a0_0 (a0_0 == 4) a0_0 a0_1 a0_2 a0_3) else (if a0_0 = 5 then (impl_isGate.j0 k a1 (a0_1 == 0) (a0_2 == 0) (a0_3 == 0) a0_0 (a0_0 == 5) a0_0 a0_1 a0_2 a0_3) else (if a0_0 = 6 then (impl_isGate.j0 k a1 (a0_1 == 0) (a0_2 == 0) (a0_3 == 0) a0_0 (a0_0 == 6) a0_0 a0_1 a0_2 a0_3) else (impl_isGate.j0 k a1 (a0_1 == 0) (a0_2 == 0) (a0_3 == 0) a0_0 (a0_0 == 7) a0_0 a0_1 a0_2 a0_3))))
theorem impl_isGate.mono_l : ∀ k, (∀ y0 y1 y2 y3 y4 y5 y6 y7 y8 y9, LeO (impl_isGate.j0 k y0 y1 y2 y3 y4 y5 y6 y7 y8 y9) (impl_isGate.j0 (k + 1) y0 y1 y2 y3 y4 y5 y6 y7 y8 y9))
 | 0 => fun _ _ _ _ _ _ _ _ _ _ r h => by simp [impl_isGate.j0] at h
 | k + 1 => by
  have ih0 := impl_isGate.mono_l k
  ·
   intro y0 y1 y2 y3 y4 y5 y6 y7 y8 y9
   unfold impl_isGate.j0
   repeat' first
   | (with_reducible exact ih0 _ _ _ _ _ _ _ _ _ _)
   | (with_reducible exact LeO.refl _)
   | (with_reducible exact LeO.none _)
   | (with_reducible refine LeO.ite ?_ ?_)
   | (with_reducible refine LeO.bind ?_ (fun _ => ?_))
   | exact ih0 _ _ _ _ _ _ _ _ _ _
   | exact LeO.none _
   | refine LeO.ite ?_ ?_
   | refine LeO.bind ?_ (fun _ => ?_)
theorem impl_isGate.mono : ∀ a0 a1 a2 a3 a4 k, LeO (impl_isGate.f k a0 a1 a2 a3 a4) (impl_isGate.f (k + 1) a0 a1 a2 a3 a4) := by
 intro a0 a1 a2 a3 a4 k
 have ih0 := impl_isGate.mono_l k
 unfold impl_isGate.f
 repeat' first
   | (with_reducible exact ih0 _ _ _ _ _ _ _ _ _ _)
   | (with_reducible exact LeO.refl _)
   | (with_reducible exact LeO.none _)
   | (with_reducible refine LeO.ite ?_ ?_)
   | (with_reducible refine LeO.bind ?_ (fun _ => ?_))
   | exact ih0 _ _ _ _ _ _ _ _ _ _
   | exact LeO.none _
   | refine LeO.ite ?_ ?_
   | refine LeO.bind ?_ (fun _ => ?_)
set_option maxHeartbeats 8000000 in
set_option maxRecDepth 100000 in
theorem impl_isGate.calls (k : Nat) (a0_0 : Int) (a0_1 : Int) (a0_2 : Int) (a0_3 : Int) (a1 : Int) (r : Bool) (w : World) (h : impl_isGate.f k a0_0 a0_1 a0_2 a0_3 a1 = some r) :
  Calls Tryd.prog 13 #[.agg #[.int .i64 a0_0, .int .i64 a0_1, .int .i64 a0_2, .int .i64 a0_3], .int .i64 a1] w fun e w' => e = .returned (.bool r) ∧ Below w.heap.size w w' := by
 have hu30 := Tryd.underlying30
 have HB := am_ (Below.refl w.heap.size w)
 have H : (if a0_0 = 3 then ((impl_FieldOK.f a0_3).bind fun t102 => ((impl_in.f a0_0 1 8).bind fun t103 => (if t103 = true then (if a0_1 = 0 then (if a0_2 = 0 then (some t102) else (some false)) else (some false)) else (some false)))) else (if a0_0 = 4 then (impl_isGate.j0 k a1 (a0_1 == 0) (a0_2 == 0) (a0_3 == 0) a0_0 (a0_0 == 4) a0_0 a0_1 a0_2 a0_3) else (if a0_0 = 5 then (impl_isGate.j0 k a1 (a0_1 == 0) (a0_2 == 0) (a0_3 == 0) a0_0 (a0_0 == 5) a0_0 a0_1 a0_2 a0_3) else (if a0_0 = 6 then (impl_isGate.j0 k a1 (a0_1 == 0) (a0_2 == 0) (a0_3 == 0) a0_0 (a0_0 == 6) a0_0 a0_1 a0_2 a0_3) else (impl_isGate.j0 k a1 (a0_1 == 0) (a0_2 == 0) (a0_3 == 0) a0_0 (a0_0 == 7) a0_0 a0_1 a0_2 a0_3))))) = some r := h
 clear h
 by_cases c3 : a0_0 = 3
 ·
  rw [if_pos c3] at H
  have c3b0 : (a0_0 == 3) = true := beq_iff_eq.mpr c3
  have c3b1 : (a0_0 != 3) = false := bne_eq_false_iff_eq.mpr c3
  clear c3
  replace H := Option.bind_eq_some_iff.mp H
  obtain ⟨t102, A40, H⟩ := H
  replace H : ((impl_in.f a0_0 1 8).bind fun t103 => (if t103 = true then (if a0_1 = 0 then (if a0_2 = 0 then (some t102) else (some false)) else (some false)) else (some false))) = some r := H
  have A4 := am_ A40
  clear A40
  replace H := Option.bind_eq_some_iff.mp H
  obtain ⟨t103, A50, H⟩ := H
  replace H : (if t103 = true then (if a0_1 = 0 then (if a0_2 = 0 then (some t102) else (some false)) else (some false)) else (some false)) = some r := H
  have A5 := am_ A50
  clear A50
  by_cases c6 : t103 = true
  ·
   subst c6
   have H1 : (if a0_1 = 0 then (if a0_2 = 0 then (some t102) else (some false)) else (some false)) = some r := by rw [if_pos rfl] at H; exact H
   clear H
   have H := H1
   clear H1
   by_cases c7 : a0_1 = 0
   ·
    rw [if_pos c7] at H
    have c7b0 : (a0_1 == 0) = true := beq_iff_eq.mpr c7
    have c7b1 : (a0_1 != 0) = false := bne_eq_false_iff_eq.mpr c7
    clear c7
    by_cases c8 : a0_2 = 0
    ·
     rw [if_pos c8] at H
     have c8b0 : (a0_2 == 0) = true := beq_iff_eq.mpr c8
     have c8b1 : (a0_2 != 0) = false := bne_eq_false_iff_eq.mpr c8
     clear c8
     obtain rfl := Option.some.inj H
     go_enter Tryd.func13, Tryd.ntmps13
     go_wp2_with (first | ((with_reducible refine gate_dst (N := 2) rfl ?_); refine box_event ?hg (N := 2) ?hd (cs := #[.int .i64 a0_0, .int .i64 a0_1, .int .i64 a0_2, .int .i64 a0_3]) (t := 30) ?hr ?_; (case hd => rfl); (case hg => rfl); (case hr => first | (go_simp; done) | (go_simp; rfl)); intro gb101 hg w9 hbox hb; have n0_ := am_ (below_step qz3_ hb); have n1_ := am_ (hbox); have n2_ := am_ ((by rw [hg]; exact (below_size qz3_) : w.heap.size ≤ gb101)); have n3_ := am_ ((by rw [hg]; exact (below_size qz3_) : w.heap.size ≤ gb101)); clear HB; have HB := n0_; have BK101 := n1_; have GW101 := n2_; have GE101 := n3_; clear n0_ n1_ n2_ n3_; clear hb hbox hg; have hcz10_0 : w9.cell? ⟨gb101, 0, none⟩ = some (.int .i64 a0_0) := (blk_cell BK101.out 0).trans rfl; have hcz10_1 : w9.cell? ⟨gb101, 1, none⟩ = some (.int .i64 a0_1) := (blk_cell BK101.out 1).trans rfl; have hcz10_2 : w9.cell? ⟨gb101, 2, none⟩ = some (.int .i64 a0_2) := (blk_cell BK101.out 2).trans rfl; have hcz10_3 : w9.cell? ⟨gb101, 3, none⟩ = some (.int .i64 a0_3) := (blk_cell BK101.out 3).trans rfl; have hfz10_0 := blk_frozen BK101.out 0; have hfz10_1 := blk_frozen BK101.out 1; have hfz10_2 := blk_frozen BK101.out 2; have hfz10_3 := blk_frozen BK101.out 3) | (go_at_call 29; (with_reducible refine (impl_FieldOK.calls a0_3 t102 _ A4.out).mono ?_); rintro e w' ⟨rfl, ⟨nd, rfl⟩⟩; (try first | exact ⟨rfl, _, qd1_⟩ | exact ⟨rfl, _, qd2_⟩)) | (go_at_call 30; (with_reducible refine (impl_in.calls a0_0 1 8 true _ A5.out).mono ?_); rintro e w' ⟨rfl, ⟨nd, rfl⟩⟩; (try first | exact ⟨rfl, _, qd1_⟩ | exact ⟨rfl, _, qd2_⟩)))
     repeat (go_quiet (first | ((with_reducible refine gate_dst (N := 2) rfl ?_); refine box_event ?hg (N := 2) ?hd (cs := #[.int .i64 a0_0, .int .i64 a0_1, .int .i64 a0_2, .int .i64 a0_3]) (t := 30) ?hr ?_; (case hd => rfl); (case hg => rfl); (case hr => first | (go_simp; done) | (go_simp; rfl)); intro gb101 hg w9 hbox hb; have n0_ := am_ (below_step qz3_ hb); have n1_ := am_ (hbox); have n2_ := am_ ((by rw [hg]; exact (below_size qz3_) : w.heap.size ≤ gb101)); have n3_ := am_ ((by rw [hg]; exact (below_size qz3_) : w.heap.size ≤ gb101)); clear HB; have HB := n0_; have BK101 := n1_; have GW101 := n2_; have GE101 := n3_; clear n0_ n1_ n2_ n3_; clear hb hbox hg; have hcz10_0 : w9.cell? ⟨gb101, 0, none⟩ = some (.int .i64 a0_0) := (blk_cell BK101.out 0).trans rfl; have hcz10_1 : w9.cell? ⟨gb101, 1, none⟩ = some (.int .i64 a0_1) := (blk_cell BK101.out 1).trans rfl; have hcz10_2 : w9.cell? ⟨gb101, 2, none⟩ = some (.int .i64 a0_2) := (blk_cell BK101.out 2).trans rfl; have hcz10_3 : w9.cell? ⟨gb101, 3, none⟩ = some (.int .i64 a0_3) := (blk_cell BK101.out 3).trans rfl; have hfz10_0 := blk_frozen BK101.out 0; have hfz10_1 := blk_frozen BK101.out 1; have hfz10_2 := blk_frozen BK101.out 2; have hfz10_3 := blk_frozen BK101.out 3) | (go_at_call 29; (with_reducible refine (impl_FieldOK.calls a0_3 t102 _ A4.out).mono ?_); rintro e w' ⟨rfl, ⟨nd, rfl⟩⟩; (try first | exact ⟨rfl, _, qd1_⟩ | exact ⟨rfl, _, qd2_⟩)) | (go_at_call 30; (with_reducible refine (impl_in.calls a0_0 1 8 true _ A5.out).mono ?_); rintro e w' ⟨rfl, ⟨nd, rfl⟩⟩; (try first | exact ⟨rfl, _, qd1_⟩ | exact ⟨rfl, _, qd2_⟩))); try go_wp2_with (first | ((with_reducible refine gate_dst (N := 2) rfl ?_); refine box_event ?hg (N := 2) ?hd (cs := #[.int .i64 a0_0, .int .i64 a0_1, .int .i64 a0_2, .int .i64 a0_3]) (t := 30) ?hr ?_; (case hd => rfl); (case hg => rfl); (case hr => first | (go_simp; done) | (go_simp; rfl)); intro gb101 hg w9 hbox hb; have n0_ := am_ (below_step qz3_ hb); have n1_ := am_ (hbox); have n2_ := am_ ((by rw [hg]; exact (below_size qz3_) : w.heap.size ≤ gb101)); have n3_ := am_ ((by rw [hg]; exact (below_size qz3_) : w.heap.size ≤ gb101)); clear HB; have HB := n0_; have BK101 := n1_; have GW101 := n2_; have GE101 := n3_; clear n0_ n1_ n2_ n3_; clear hb hbox hg; have hcz10_0 : w9.cell? ⟨gb101, 0, none⟩ = some (.int .i64 a0_0) := (blk_cell BK101.out 0).trans rfl; have hcz10_1 : w9.cell? ⟨gb101, 1, none⟩ = some (.int .i64 a0_1) := (blk_cell BK101.out 1).trans rfl; have hcz10_2 : w9.cell? ⟨gb101, 2, none⟩ = some (.int .i64 a0_2) := (blk_cell BK101.out 2).trans rfl; have hcz10_3 : w9.cell? ⟨gb101, 3, none⟩ = some (.int .i64 a0_3) := (blk_cell BK101.out 3).trans rfl; have hfz10_0 := blk_frozen BK101.out 0; have hfz10_1 := blk_frozen BK101.out 1; have hfz10_2 := blk_frozen BK101.out 2; have hfz10_3 := blk_frozen BK101.out 3) | (go_at_call 29; (with_reducible refine (impl_FieldOK.calls a0_3 t102 _ A4.out).mono ?_); rintro e w' ⟨rfl, ⟨nd, rfl⟩⟩; (try first | exact ⟨rfl, _, qd1_⟩ | exact ⟨rfl, _, qd2_⟩)) | (go_at_call 30; (with_reducible refine (impl_in.calls a0_0 1 8 true _ A5.out).mono ?_); rintro e w' ⟨rfl, ⟨nd, rfl⟩⟩; (try first | exact ⟨rfl, _, qd1_⟩ | exact ⟨rfl, _, qd2_⟩))))
     go_ret
     exact ⟨qz4_, qz5_⟩
    ·
     rw [if_neg c8] at H
     have c8b0 : (a0_2 == 0) = false := beq_eq_false_iff_ne.mpr c8
     have c8b1 : (a0_2 != 0) = true := bne_iff_ne.mpr c8
     obtain rfl := Option.some.inj H
     go_enter Tryd.func13, Tryd.ntmps13
     go_wp2_with (first | ((with_reducible refine gate_dst (N := 2) rfl ?_); refine box_event ?hg (N := 2) ?hd (cs := #[.int .i64 a0_0, .int .i64 a0_1, .int .i64 a0_2, .int .i64 a0_3]) (t := 30) ?hr ?_; (case hd => rfl); (case hg => rfl); (case hr => first | (go_simp; done) | (go_simp; rfl)); intro gb101 hg w11 hbox hb; have n0_ := am_ (below_step qz3_ hb); have n1_ := am_ (hbox); have n2_ := am_ ((by rw [hg]; exact (below_size qz3_) : w.heap.size ≤ gb101)); have n3_ := am_ ((by rw [hg]; exact (below_size qz3_) : w.heap.size ≤ gb101)); clear HB; have HB := n0_; have BK101 := n1_; have GW101 := n2_; have GE101 := n3_; clear n0_ n1_ n2_ n3_; clear hb hbox hg; have hcz12_0 : w11.cell? ⟨gb101, 0, none⟩ = some (.int .i64 a0_0) := (blk_cell BK101.out 0).trans rfl; have hcz12_1 : w11.cell? ⟨gb101, 1, none⟩ = some (.int .i64 a0_1) := (blk_cell BK101.out 1).trans rfl; have hcz12_2 : w11.cell? ⟨gb101, 2, none⟩ = some (.int .i64 a0_2) := (blk_cell BK101.out 2).trans rfl; have hcz12_3 : w11.cell? ⟨gb101, 3, none⟩ = some (.int .i64 a0_3) := (blk_cell BK101.out 3).trans rfl; have hfz12_0 := blk_frozen BK101.out 0; have hfz12_1 := blk_frozen BK101.out 1; have hfz12_2 := blk_frozen BK101.out 2; have hfz12_3 := blk_frozen BK101.out 3) | (go_at_call 29; (with_reducible refine (impl_FieldOK.calls a0_3 t102 _ A4.out).mono ?_); rintro e w' ⟨rfl, ⟨nd, rfl⟩⟩; (try first | exact ⟨rfl, _, qd1_⟩ | exact ⟨rfl, _, qd2_⟩)) | (go_at_call 30; (with_reducible refine (impl_in.calls a0_0 1 8 true _ A5.out).mono ?_); rintro e w' ⟨rfl, ⟨nd, rfl⟩⟩; (try first | exact ⟨rfl, _, qd1_⟩ | exact ⟨rfl, _, qd2_⟩)))
     repeat (go_quiet (first | ((with_reducible refine gate_dst (N := 2) rfl ?_); refine box_event ?hg (N := 2) ?hd (cs := #[.int .i64 a0_0, .int .i64 a0_1, .int .i64 a0_2, .int .i64 a0_3]) (t := 30) ?hr ?_; (case hd => rfl); (case hg => rfl); (case hr => first | (go_simp; done) | (go_simp; rfl)); intro gb101 hg w11 hbox hb; have n0_ := am_ (below_step qz3_ hb); have n1_ := am_ (hbox); have n2_ := am_ ((by rw [hg]; exact (below_size qz3_) : w.heap.size ≤ gb101)); have n3_ := am_ ((by rw [hg]; exact (below_size qz3_) : w.heap.size ≤ gb101)); clear HB; have HB := n0_; have BK101 := n1_; have GW101 := n2_; have GE101 := n3_; clear n0_ n1_ n2_ n3_; clear hb hbox hg; have hcz12_0 : w11.cell? ⟨gb101, 0, none⟩ = some (.int .i64 a0_0) := (blk_cell BK101.out 0).trans rfl; have hcz12_1 : w11.cell? ⟨gb101, 1, none⟩ = some (.int .i64 a0_1) := (blk_cell BK101.out 1).trans rfl; have hcz12_2 : w11.cell? ⟨gb101, 2, none⟩ = some (.int .i64 a0_2) := (blk_cell BK101.out 2).trans rfl; have hcz12_3 : w11.cell? ⟨gb101, 3, none⟩ = some (.int .i64 a0_3) := (blk_cell BK101.out 3).trans rfl; have hfz12_0 := blk_frozen BK101.out 0; have hfz12_1 := blk_frozen BK101.out 1; have hfz12_2 := blk_frozen BK101.out 2; have hfz12_3 := blk_frozen BK101.out 3) | (go_at_call 29; (with_reducible refine (impl_FieldOK.calls a0_3 t102 _ A4.out).mono ?_); rintro e w' ⟨rfl, ⟨nd, rfl⟩⟩; (try first | exact ⟨rfl, _, qd1_⟩ | exact ⟨rfl, _, qd2_⟩)) | (go_at_call 30; (with_reducible refine (impl_in.calls a0_0 1 8 true _ A5.out).mono ?_); rintro e w' ⟨rfl, ⟨nd, rfl⟩⟩; (try first | exact ⟨rfl, _, qd1_⟩ | exact ⟨rfl, _, qd2_⟩))); try go_wp2_with (first | ((with_reducible refine gate_dst (N := 2) rfl ?_); refine box_event ?hg (N := 2) ?hd (cs := #[.int .i64 a0_0, .int .i64 a0_1, .int .i64 a0_2, .int .i64 a0_3]) (t := 30) ?hr ?_; (case hd => rfl); (case hg => rfl); (case hr => first | (go_simp; done) | (go_simp; rfl)); intro gb101 hg w11 hbox hb; have n0_ := am_ (below_step qz3_ hb); have n1_ := am_ (hbox); have n2_ := am_ ((by rw [hg]; exact (below_size qz3_) : w.heap.size ≤ gb101)); have n3_ := am_ ((by rw [hg]; exact (below_size qz3_) : w.heap.size ≤ gb101)); clear HB; have HB := n0_; have BK101 := n1_; have GW101 := n2_; have GE101 := n3_; clear n0_ n1_ n2_ n3_; clear hb hbox hg; have hcz12_0 : w11.cell? ⟨gb101, 0, none⟩ = some (.int .i64 a0_0) := (blk_cell BK101.out 0).trans rfl; have hcz12_1 : w11.cell? ⟨gb101, 1, none⟩ = some (.int .i64 a0_1) := (blk_cell BK101.out 1).trans rfl; have hcz12_2 : w11.cell? ⟨gb101, 2, none⟩ = some (.int .i64 a0_2) := (blk_cell BK101.out 2).trans rfl; have hcz12_3 : w11.cell? ⟨gb101, 3, none⟩ = some (.int .i64 a0_3) := (blk_cell BK101.out 3).trans rfl; have hfz12_0 := blk_frozen BK101.out 0; have hfz12_1 := blk_frozen BK101.out 1; have hfz12_2 := blk_frozen BK101.out 2; have hfz12_3 := blk_frozen BK101.out 3) | (go_at_call 29; (with_reducible refine (impl_FieldOK.calls a0_3 t102 _ A4.out).mono ?_); rintro e w' ⟨rfl, ⟨nd, rfl⟩⟩; (try first | exact ⟨rfl, _, qd1_⟩ | exact ⟨rfl, _, qd2_⟩)) | (go_at_call 30; (with_reducible refine (impl_in.calls a0_0 1 8 true _ A5.out).mono ?_); rintro e w' ⟨rfl, ⟨nd, rfl⟩⟩; (try first | exact ⟨rfl, _, qd1_⟩ | exact ⟨rfl, _, qd2_⟩))))
     go_ret
     exact ⟨qz4_, qz5_⟩
   ·
    rw [if_neg c7] at H
    have c7b0 : (a0_1 == 0) = false := beq_eq_false_iff_ne.mpr c7
    have c7b1 : (a0_1 != 0) = true := bne_iff_ne.mpr c7
    obtain rfl := Option.some.inj H
    go_enter Tryd.func13, Tryd.ntmps13
    go_wp2_with (first | ((with_reducible refine gate_dst (N := 2) rfl ?_); refine box_event ?hg (N := 2) ?hd (cs := #[.int .i64 a0_0, .int .i64 a0_1, .int .i64 a0_2, .int .i64 a0_3]) (t := 30) ?hr ?_; (case hd => rfl); (case hg => rfl); (case hr => first | (go_simp; done) | (go_simp; rfl)); intro gb101 hg w13 hbox hb; have n0_ := am_ (below_step qz3_ hb); have n1_ := am_ (hbox); have n2_ := am_ ((by rw [hg]; exact (below_size qz3_) : w.heap.size ≤ gb101)); have n3_ := am_ ((by rw [hg]; exact (below_size qz3_) : w.heap.size ≤ gb101)); clear HB; have HB := n0_; have BK101 := n1_; have GW101 := n2_; have GE101 := n3_; clear n0_ n1_ n2_ n3_; clear hb hbox hg; have hcz14_0 : w13.cell? ⟨gb101, 0, none⟩ = some (.int .i64 a0_0) := (blk_cell BK101.out 0).trans rfl; have hcz14_1 : w13.cell? ⟨gb101, 1, none⟩ = some (.int .i64 a0_1) := (blk_cell BK101.out 1).trans rfl; have hcz14_2 : w13.cell? ⟨gb101, 2, none⟩ = some (.int .i64 a0_2) := (blk_cell BK101.out 2).trans rfl; have hcz14_3 : w13.cell? ⟨gb101, 3, none⟩ = some (.int .i64 a0_3) := (blk_cell BK101.out 3).trans rfl; have hfz14_0 := blk_frozen BK101.out 0; have hfz14_1 := blk_frozen BK101.out 1; have hfz14_2 := blk_frozen BK101.out 2; have hfz14_3 := blk_frozen BK101.out 3) | (go_at_call 29; (with_reducible refine (impl_FieldOK.calls a0_3 t102 _ A4.out).mono ?_); rintro e w' ⟨rfl, ⟨nd, rfl⟩⟩; (try first | exact ⟨rfl, _, qd1_⟩ | exact ⟨rfl, _, qd2_⟩)) | (go_at_call 30; (with_reducible refine (impl_in.calls a0_0 1 8 true _ A5.out).mono ?_); rintro e w' ⟨rfl, ⟨nd, rfl⟩⟩; (try first | exact ⟨rfl, _, qd1_⟩ | exact ⟨rfl, _, qd2_⟩)))
    repeat (go_quiet (first | ((with_reducible refine gate_dst (N := 2) rfl ?_); refine box_event ?hg (N := 2) ?hd (cs := #[.int .i64 a0_0, .int .i64 a0_1, .int .i64 a0_2, .int .i64 a0_3]) (t := 30) ?hr ?_; (case hd => rfl); (case hg => rfl); (case hr => first | (go_simp; done) | (go_simp; rfl)); intro gb101 hg w13 hbox hb; have n0_ := am_ (below_step qz3_ hb); have n1_ := am_ (hbox); have n2_ := am_ ((by rw [hg]; exact (below_size qz3_) : w.heap.size ≤ gb101)); have n3_ := am_ ((by rw [hg]; exact (below_size qz3_) : w.heap.size ≤ gb101)); clear HB; have HB := n0_; have BK101 := n1_; have GW101 := n2_; have GE101 := n3_; clear n0_ n1_ n2_ n3_; clear hb hbox hg; have hcz14_0 : w13.cell? ⟨gb101, 0, none⟩ = some (.int .i64 a0_0) := (blk_cell BK101.out 0).trans rfl; have hcz14_1 : w13.cell? ⟨gb101, 1, none⟩ = some (.int .i64 a0_1) := (blk_cell BK101.out 1).trans rfl; have hcz14_2 : w13.cell? ⟨gb101, 2, none⟩ = some (.int .i64 a0_2) := (blk_cell BK101.out 2).trans rfl; have hcz14_3 : w13.cell? ⟨gb101, 3, none⟩ = some (.int .i64 a0_3) := (blk_cell BK101.out 3).trans rfl; have hfz14_0 := blk_frozen BK101.out 0; have hfz14_1 := blk_frozen BK101.out 1; have hfz14_2 := blk_frozen BK101.out 2; have hfz14_3 := blk_frozen BK101.out 3) | (go_at_call 29; (with_reducible refine (impl_FieldOK.calls a0_3 t102 _ A4.out).mono ?_); rintro e w' ⟨rfl, ⟨nd, rfl⟩⟩; (try first | exact ⟨rfl, _, qd1_⟩ | exact ⟨rfl, _, qd2_⟩)) | (go_at_call 30; (with_reducible refine (impl_in.calls a0_0 1 8 true _ A5.out).mono ?_); rintro e w' ⟨rfl, ⟨nd, rfl⟩⟩; (try first | exact ⟨rfl, _, qd1_⟩ | exact ⟨rfl, _, qd2_⟩))); try go_wp2_with (first | ((with_reducible refine gate_dst (N := 2) rfl ?_); refine box_event ?hg (N := 2) ?hd (cs := #[.int .i64 a0_0, .int .i64 a0_1, .int .i64 a0_2, .int .i64 a0_3]) (t := 30) ?hr ?_; (case hd => rfl); (case hg => rfl); (case hr => first | (go_simp; done) | (go_simp; rfl)); intro gb101 hg w13 hbox hb; have n0_ := am_ (below_step qz3_ hb); have n1_ := am_ (hbox); have n2_ := am_ ((by rw [hg]; exact (below_size qz3_) : w.heap.size ≤ gb101)); have n3_ := am_ ((by rw [hg]; exact (below_size qz3_) : w.heap.size ≤ gb101)); clear HB; have HB := n0_; have BK101 := n1_; have GW101 := n2_; have GE101 := n3_; clear n0_ n1_ n2_ n3_; clear hb hbox hg; have hcz14_0 : w13.cell? ⟨gb101, 0, none⟩ = some (.int .i64 a0_0) := (blk_cell BK101.out 0).trans rfl; have hcz14_1 : w13.cell? ⟨gb101, 1, none⟩ = some (.int .i64 a0_1) := (blk_cell BK101.out 1).trans rfl; have hcz14_2 : w13.cell? ⟨gb101, 2, none⟩ = some (.int .i64 a0_2) := (blk_cell BK101.out 2).trans rfl; have hcz14_3 : w13.cell? ⟨gb101, 3, none⟩ = some (.int .i64 a0_3) := (blk_cell BK101.out 3).trans rfl; have hfz14_0 := blk_frozen BK101.out 0; have hfz14_1 := blk_frozen BK101.out 1; have hfz14_2 := blk_frozen BK101.out 2; have hfz14_3 := blk_frozen BK101.out 3) | (go_at_call 29; (with_reducible refine (impl_FieldOK.calls a0_3 t102 _ A4.out).mono ?_); rintro e w' ⟨rfl, ⟨nd, rfl⟩⟩; (try first | exact ⟨rfl, _, qd1_⟩ | exact ⟨rfl, _, qd2_⟩)) | (go_at_call 30; (with_reducible refine (impl_in.calls a0_0 1 8 true _ A5.out).mono ?_); rintro e w' ⟨rfl, ⟨nd, rfl⟩⟩; (try first | exact ⟨rfl, _, qd1_⟩ | exact ⟨rfl, _, qd2_⟩))))
    go_ret
    exact ⟨qz4_, qz5_⟩
  ·
   replace c6 := Bool.eq_false_iff.mpr c6
   subst c6
   have H1 : (some false) = some r := by rw [if_neg (show ¬ (false = true) by decide)] at H; exact H
   clear H
   have H := H1
   clear H1
   obtain rfl := Option.some.inj H
   go_enter Tryd.func13, Tryd.ntmps13
   go_wp2_with (first | ((with_reducible refine gate_dst (N := 2) rfl ?_); refine box_event ?hg (N := 2) ?hd (cs := #[.int .i64 a0_0, .int .i64 a0_1, .int .i64 a0_2, .int .i64 a0_3]) (t := 30) ?hr ?_; (case hd => rfl); (case hg => rfl); (case hr => first | (go_simp; done) | (go_simp; rfl)); intro gb101 hg w15 hbox hb; have n0_ := am_ (below_step qz3_ hb); have n1_ := am_ (hbox); have n2_ := am_ ((by rw [hg]; exact (below_size qz3_) : w.heap.size ≤ gb101)); have n3_ := am_ ((by rw [hg]; exact (below_size qz3_) : w.heap.size ≤ gb101)); clear HB; have HB := n0_; have BK101 := n1_; have GW101 := n2_; have GE101 := n3_; clear n0_ n1_ n2_ n3_; clear hb hbox hg; have hcz16_0 : w15.cell? ⟨gb101, 0, none⟩ = some (.int .i64 a0_0) := (blk_cell BK101.out 0).trans rfl; have hcz16_1 : w15.cell? ⟨gb101, 1, none⟩ = some (.int .i64 a0_1) := (blk_cell BK101.out 1).trans rfl; have hcz16_2 : w15.cell? ⟨gb101, 2, none⟩ = some (.int .i64 a0_2) := (blk_cell BK101.out 2).trans rfl; have hcz16_3 : w15.cell? ⟨gb101, 3, none⟩ = some (.int .i64 a0_3) := (blk_cell BK101.out 3).trans rfl; have hfz16_0 := blk_frozen BK101.out 0; have hfz16_1 := blk_frozen BK101.out 1; have hfz16_2 := blk_frozen BK101.out 2; have hfz16_3 := blk_frozen BK101.out 3) | (go_at_call 29; (with_reducible refine (impl_FieldOK.calls a0_3 t102 _ A4.out).mono ?_); rintro e w' ⟨rfl, ⟨nd, rfl⟩⟩; (try first | exact ⟨rfl, _, qd1_⟩ | exact ⟨rfl, _, qd2_⟩)) | (go_at_call 30; (with_reducible refine (impl_in.calls a0_0 1 8 false _ A5.out).mono ?_); rintro e w' ⟨rfl, ⟨nd, rfl⟩⟩; (try first | exact ⟨rfl, _, qd1_⟩ | exact ⟨rfl, _, qd2_⟩)))
   repeat (go_quiet (first | ((with_reducible refine gate_dst (N := 2) rfl ?_); refine box_event ?hg (N := 2) ?hd (cs := #[.int .i64 a0_0, .int .i64 a0_1, .int .i64 a0_2, .int .i64 a0_3]) (t := 30) ?hr ?_; (case hd => rfl); (case hg => rfl); (case hr => first | (go_simp; done) | (go_simp; rfl)); intro gb101 hg w15 hbox hb; have n0_ := am_ (below_step qz3_ hb); have n1_ := am_ (hbox); have n2_ := am_ ((by rw [hg]; exact (below_size qz3_) : w.heap.size ≤ gb101)); have n3_ := am_ ((by rw [hg]; exact (below_size qz3_) : w.heap.size ≤ gb101)); clear HB; have HB := n0_; have BK101 := n1_; have GW101 := n2_; have GE101 := n3_; clear n0_ n1_ n2_ n3_; clear hb hbox hg; have hcz16_0 : w15.cell? ⟨gb101, 0, none⟩ = some (.int .i64 a0_0) := (blk_cell BK101.out 0).trans rfl; have hcz16_1 : w15.cell? ⟨gb101, 1, none⟩ = some (.int .i64 a0_1) := (blk_cell BK101.out 1).trans rfl; have hcz16_2 : w15.cell? ⟨gb101, 2, none⟩ = some (.int .i64 a0_2) := (blk_cell BK101.out 2).trans rfl; have hcz16_3 : w15.cell? ⟨gb101, 3, none⟩ = some (.int .i64 a0_3) := (blk_cell BK101.out 3).trans rfl; have hfz16_0 := blk_frozen BK101.out 0; have hfz16_1 := blk_frozen BK101.out 1; have hfz16_2 := blk_frozen BK101.out 2; have hfz16_3 := blk_frozen BK101.out 3) | (go_at_call 29; (with_reducible refine (impl_FieldOK.calls a0_3 t102 _ A4.out).mono ?_); rintro e w' ⟨rfl, ⟨nd, rfl⟩⟩; (try first | exact ⟨rfl, _, qd1_⟩ | exact ⟨rfl, _, qd2_⟩)) | (go_at_call 30; (with_reducible refine (impl_in.calls a0_0 1 8 false _ A5.out).mono ?_); rintro e w' ⟨rfl, ⟨nd, rfl⟩⟩; (try first | exact ⟨rfl, _, qd1_⟩ | exact ⟨rfl, _, qd2_⟩))); try go_wp2_with (first | ((with_reducible refine gate_dst (N := 2) rfl ?_); refine box_event ?hg (N := 2) ?hd (cs := #[.int .i64 a0_0, .int .i64 a0_1, .int .i64 a0_2, .int .i64 a0_3]) (t := 30) ?hr ?_; (case hd => rfl); (case hg => rfl); (case hr => first | (go_simp; done) | (go_simp; rfl)); intro gb101 hg w15 hbox hb; have n0_ := am_ (below_step qz3_ hb); have n1_ := am_ (hbox); have n2_ := am_ ((by rw [hg]; exact (below_size qz3_) : w.heap.size ≤ gb101)); have n3_ := am_ ((by rw [hg]; exact (below_size qz3_) : w.heap.size ≤ gb101)); clear HB; have HB := n0_; have BK101 := n1_; have GW101 := n2_; have GE101 := n3_; clear n0_ n1_ n2_ n3_; clear hb hbox hg; have hcz16_0 : w15.cell? ⟨gb101, 0, none⟩ = some (.int .i64 a0_0) := (blk_cell BK101.out 0).trans rfl; have hcz16_1 : w15.cell? ⟨gb101, 1, none⟩ = some (.int .i64 a0_1) := (blk_cell BK101.out 1).trans rfl; have hcz16_2 : w15.cell? ⟨gb101, 2, none⟩ = some (.int .i64 a0_2) := (blk_cell BK101.out 2).trans rfl; have hcz16_3 : w15.cell? ⟨gb101, 3, none⟩ = some (.int .i64 a0_3) := (blk_cell BK101.out 3).trans rfl; have hfz16_0 := blk_frozen BK101.out 0; have hfz16_1 := blk_frozen BK101.out 1; have hfz16_2 := blk_frozen BK101.out 2; have hfz16_3 := blk_frozen BK101.out 3) | (go_at_call 29; (with_reducible refine (impl_FieldOK.calls a0_3 t102 _ A4.out).mono ?_); rintro e w' ⟨rfl, ⟨nd, rfl⟩⟩; (try first | exact ⟨rfl, _, qd1_⟩ | exact ⟨rfl, _, qd2_⟩)) | (go_at_call 30; (with_reducible refine (impl_in.calls a0_0 1 8 false _ A5.out).mono ?_); rintro e w' ⟨rfl, ⟨nd, rfl⟩⟩; (try first | exact ⟨rfl, _, qd1_⟩ | exact ⟨rfl, _, qd2_⟩))))
   go_ret
   exact ⟨qz4_, qz5_⟩
 ·
  rw [if_neg c3] at H
  have c3b0 : (a0_0 == 3) = false := beq_eq_false_iff_ne.mpr c3
  have c3b1 : (a0_0 != 3) = true := bne_iff_ne.mpr c3
  have HC17 := am_ H
  clear H
  go_enter Tryd.func13, Tryd.ntmps13
  go_upto_if 24 with (first | ((with_reducible refine gate_dst (N := 2) rfl ?_); refine box_event ?hg (N := 2) ?hd (cs := #[.int .i64 a0_0, .int .i64 a0_1, .int .i64 a0_2, .int .i64 a0_3]) (t := 30) ?hr ?_; (case hd => rfl); (case hg => rfl); (case hr => first | (go_simp; done) | (go_simp; rfl)); intro gb101 hg w18 hbox hb; have n0_ := am_ (below_step qz3_ hb); have n1_ := am_ (hbox); have n2_ := am_ ((by rw [hg]; exact (below_size qz3_) : w.heap.size ≤ gb101)); have n3_ := am_ ((by rw [hg]; exact (below_size qz3_) : w.heap.size ≤ gb101)); clear HB; have HB := n0_; have BK101 := n1_; have GW101 := n2_; have GE101 := n3_; clear n0_ n1_ n2_ n3_; clear hb hbox hg; have hcz19_0 : w18.cell? ⟨gb101, 0, none⟩ = some (.int .i64 a0_0) := (blk_cell BK101.out 0).trans rfl; have hcz19_1 : w18.cell? ⟨gb101, 1, none⟩ = some (.int .i64 a0_1) := (blk_cell BK101.out 1).trans rfl; have hcz19_2 : w18.cell? ⟨gb101, 2, none⟩ = some (.int .i64 a0_2) := (blk_cell BK101.out 2).trans rfl; have hcz19_3 : w18.cell? ⟨gb101, 3, none⟩ = some (.int .i64 a0_3) := (blk_cell BK101.out 3).trans rfl; have hfz19_0 := blk_frozen BK101.out 0; have hfz19_1 := blk_frozen BK101.out 1; have hfz19_2 := blk_frozen BK101.out 2; have hfz19_3 := blk_frozen BK101.out 3))
  repeat (go_quiet (first | ((with_reducible refine gate_dst (N := 2) rfl ?_); refine box_event ?hg (N := 2) ?hd (cs := #[.int .i64 a0_0, .int .i64 a0_1, .int .i64 a0_2, .int .i64 a0_3]) (t := 30) ?hr ?_; (case hd => rfl); (case hg => rfl); (case hr => first | (go_simp; done) | (go_simp; rfl)); intro gb101 hg w18 hbox hb; have n0_ := am_ (below_step qz3_ hb); have n1_ := am_ (hbox); have n2_ := am_ ((by rw [hg]; exact (below_size qz3_) : w.heap.size ≤ gb101)); have n3_ := am_ ((by rw [hg]; exact (below_size qz3_) : w.heap.size ≤ gb101)); clear HB; have HB := n0_; have BK101 := n1_; have GW101 := n2_; have GE101 := n3_; clear n0_ n1_ n2_ n3_; clear hb hbox hg; have hcz19_0 : w18.cell? ⟨gb101, 0, none⟩ = some (.int .i64 a0_0) := (blk_cell BK101.out 0).trans rfl; have hcz19_1 : w18.cell? ⟨gb101, 1, none⟩ = some (.int .i64 a0_1) := (blk_cell BK101.out 1).trans rfl; have hcz19_2 : w18.cell? ⟨gb101, 2, none⟩ = some (.int .i64 a0_2) := (blk_cell BK101.out 2).trans rfl; have hcz19_3 : w18.cell? ⟨gb101, 3, none⟩ = some (.int .i64 a0_3) := (blk_cell BK101.out 3).trans rfl; have hfz19_0 := blk_frozen BK101.out 0; have hfz19_1 := blk_frozen BK101.out 1; have hfz19_2 := blk_frozen BK101.out 2; have hfz19_3 := blk_frozen BK101.out 3)); go_upto_if 24 with (first | ((with_reducible refine gate_dst (N := 2) rfl ?_); refine box_event ?hg (N := 2) ?hd (cs := #[.int .i64 a0_0, .int .i64 a0_1, .int .i64 a0_2, .int .i64 a0_3]) (t := 30) ?hr ?_; (case hd => rfl); (case hg => rfl); (case hr => first | (go_simp; done) | (go_simp; rfl)); intro gb101 hg w18 hbox hb; have n0_ := am_ (below_step qz3_ hb); have n1_ := am_ (hbox); have n2_ := am_ ((by rw [hg]; exact (below_size qz3_) : w.heap.size ≤ gb101)); have n3_ := am_ ((by rw [hg]; exact (below_size qz3_) : w.heap.size ≤ gb101)); clear HB; have HB := n0_; have BK101 := n1_; have GW101 := n2_; have GE101 := n3_; clear n0_ n1_ n2_ n3_; clear hb hbox hg; have hcz19_0 : w18.cell? ⟨gb101, 0, none⟩ = some (.int .i64 a0_0) := (blk_cell BK101.out 0).trans rfl; have hcz19_1 : w18.cell? ⟨gb101, 1, none⟩ = some (.int .i64 a0_1) := (blk_cell BK101.out 1).trans rfl; have hcz19_2 : w18.cell? ⟨gb101, 2, none⟩ = some (.int .i64 a0_2) := (blk_cell BK101.out 2).trans rfl; have hcz19_3 : w18.cell? ⟨gb101, 3, none⟩ = some (.int .i64 a0_3) := (blk_cell BK101.out 3).trans rfl; have hfz19_0 := blk_frozen BK101.out 0; have hfz19_1 := blk_frozen BK101.out 1; have hfz19_2 := blk_frozen BK101.out 2; have hfz19_3 := blk_frozen BK101.out 3)))
  (try simp only [Act.put, List.setIfInBounds_toArray, List.set_cons_zero, List.set_cons_succ])
  go_cut [24] (fun v24 wc => ∃ (kq : Nat) (x24_16 : Bool), v24 = .bool x24_16 ∧ Aside0 (impl_isGate.j0 kq a1 (a0_1 == 0) (a0_2 == 0) (a0_3 == 0) a0_0 x24_16 a0_0 a0_1 a0_2 a0_3 = some r) ∧ Aside0 (kq ≤ k) ∧ Aside0 (wc.heap[gb101]? = some (.cells #[.int .i64 a0_0, .int .i64 a0_1, .int .i64 a0_2, .int .i64 a0_3] 30 (0, 0))) ∧ Aside0 (Below w.heap.size w wc))
  case first =>
   have H := HC17.out
   clear HC17
   by_cases c20 : a0_0 = 4
   ·
    rw [if_pos c20] at H
    have c20b0 : (a0_0 == 4) = true := beq_iff_eq.mpr c20
    have c20b1 : (a0_0 != 4) = false := bne_eq_false_iff_eq.mpr c20
    clear c20
    (first | rw [c20b0] | (simp only [i64_w, i32_w]; rw [c20b0]) | skip)
    have H' := am_ H
    clear H
    go_wp2
    repeat (go_quiet (fail); try go_wp2)
    go_meet
    case rel => exact ⟨_, ((a0_0 == 4)), qz0_, H', ⟨qz6_⟩, ⟨qz7_⟩, ⟨qz5_⟩⟩
   ·
    rw [if_neg c20] at H
    have c20b0 : (a0_0 == 4) = false := beq_eq_false_iff_ne.mpr c20
    have c20b1 : (a0_0 != 4) = true := bne_iff_ne.mpr c20
    (first | rw [c20b0] | (simp only [i64_w, i32_w]; rw [c20b0]) | skip)
    by_cases c21 : a0_0 = 5
    ·
     rw [if_pos c21] at H
     have c21b0 : (a0_0 == 5) = true := beq_iff_eq.mpr c21
     have c21b1 : (a0_0 != 5) = false := bne_eq_false_iff_eq.mpr c21
     clear c21
     have H' := am_ H
     clear H
     go_wp2
     repeat (go_quiet (fail); try go_wp2)
     go_meet
     case rel => exact ⟨_, ((a0_0 == 5)), qz0_, H', ⟨qz6_⟩, ⟨qz7_⟩, ⟨qz5_⟩⟩
    ·
     rw [if_neg c21] at H
     have c21b0 : (a0_0 == 5) = false := beq_eq_false_iff_ne.mpr c21
     have c21b1 : (a0_0 != 5) = true := bne_iff_ne.mpr c21
     by_cases c22 : a0_0 = 6
     ·
      rw [if_pos c22] at H
      have c22b0 : (a0_0 == 6) = true := beq_iff_eq.mpr c22
      have c22b1 : (a0_0 != 6) = false := bne_eq_false_iff_eq.mpr c22
      clear c22
      have H' := am_ H
      clear H
      go_wp2
      repeat (go_quiet (fail); try go_wp2)
      go_meet
      case rel => exact ⟨_, ((a0_0 == 6)), qz0_, H', ⟨qz6_⟩, ⟨qz7_⟩, ⟨qz5_⟩⟩
     ·
      rw [if_neg c22] at H
      have c22b0 : (a0_0 == 6) = false := beq_eq_false_iff_ne.mpr c22
      have c22b1 : (a0_0 != 6) = true := bne_iff_ne.mpr c22
      have H' := am_ H
      clear H
      go_wp2
      repeat (go_quiet (fail); try go_wp2)
      go_meet
      case rel => exact ⟨_, ((a0_0 == 7)), qz0_, H', ⟨qz6_⟩, ⟨qz7_⟩, ⟨qz5_⟩⟩
  case rest =>
   clear HC17
   try clear c1
   try clear c2
   try clear p2
   try clear c3
   try clear c3b0
   try clear c3b1
   try clear c6
   try clear c7
   try clear c7b0
   try clear c7b1
   try clear c8
   try clear c8b0
   try clear c8b1
   try clear c13
   try clear c20
   try clear c20b0
   try clear c20b1
   try clear c21
   try clear c21b0
   try clear c21b1
   try clear c22
   try clear c22b0
   try clear c22b1
   try clear hcz10_0
   try clear hcz10_1
   try clear hcz10_2
   try clear hcz10_3
   try clear hcz12_0
   try clear hcz12_1
   try clear hcz12_2
   try clear hcz12_3
   try clear hcz14_0
   try clear hcz14_1
   try clear hcz14_2
   try clear hcz14_3
   try clear hcz16_0
   try clear hcz16_1
   try clear hcz16_2
   try clear hcz16_3
   try clear hcz19_0
   try clear hcz19_1
   try clear hcz19_2
   try clear hcz19_3
   try clear hfz10_0
   try clear hfz10_1
   try clear hfz10_2
   try clear hfz10_3
   try clear hfz12_0
   try clear hfz12_1
   try clear hfz12_2
   try clear hfz12_3
   try clear hfz14_0
   try clear hfz14_1
   try clear hfz14_2
   try clear hfz14_3
   try clear hfz16_0
   try clear hfz16_1
   try clear hfz16_2
   try clear hfz16_3
   try clear hfz19_0
   try clear hfz19_1
   try clear hfz19_2
   try clear hfz19_3
   obtain ⟨kq, x24_16, rfl, HA, HJ16, BK101, HB⟩ := hcut
   cases kq with
   | zero => exact absurd HA.out (by simp [impl_isGate.j0])
   | succ kj16 =>
    have H := HA.out
    clear HA
    simp only [impl_isGate.j0] at H
    by_cases c23 : x24_16 = true
    ·
     subst c23
     have H1 : ((impl_in.f a0_1 0 (wrap64 (a1 - 1))).bind fun t104 => ((impl_in.f a0_2 0 (wrap64 (a1 - 1))).bind fun t105 => ((impl_in.f a0_0 1 8).bind fun t106 => (if t106 = true then (if t104 = true then (if t105 = true then (some (a0_3 == 0)) else (some false)) else (some false)) else (some false))))) = some r := by rw [if_pos rfl] at H; exact H
     clear H
     have H := H1
     clear H1
     replace H := Option.bind_eq_some_iff.mp H
     obtain ⟨t104, A240, H⟩ := H
     replace H : ((impl_in.f a0_2 0 (wrap64 (a1 - 1))).bind fun t105 => ((impl_in.f a0_0 1 8).bind fun t106 => (if t106 = true then (if t104 = true then (if t105 = true then (some (a0_3 == 0)) else (some false)) else (some false)) else (some false)))) = some r := H
     have A24 := am_ A240
     clear A240
     replace H := Option.bind_eq_some_iff.mp H
     obtain ⟨t105, A250, H⟩ := H
     replace H : ((impl_in.f a0_0 1 8).bind fun t106 => (if t106 = true then (if t104 = true then (if t105 = true then (some (a0_3 == 0)) else (some false)) else (some false)) else (some false))) = some r := H
     have A25 := am_ A250
     clear A250
     replace H := Option.bind_eq_some_iff.mp H
     obtain ⟨t106, A260, H⟩ := H
     replace H : (if t106 = true then (if t104 = true then (if t105 = true then (some (a0_3 == 0)) else (some false)) else (some false)) else (some false)) = some r := H
     have A26 := am_ A260
     clear A260
     by_cases c27 : t106 = true
     ·
      subst c27
      have H1 : (if t104 = true then (if t105 = true then (some (a0_3 == 0)) else (some false)) else (some false)) = some r := by rw [if_pos rfl] at H; exact H
      clear H
      have H := H1
      clear H1
      by_cases c28 : t104 = true
      ·
       subst c28
       have H1 : (if t105 = true then (some (a0_3 == 0)) else (some false)) = some r := by rw [if_pos rfl] at H; exact H
       clear H
       have H := H1
       clear H1
       by_cases c29 : t105 = true
       ·
        subst c29
        have H1 : (some (a0_3 == 0)) = some r := by rw [if_pos rfl] at H; exact H
        clear H
        have H := H1
        clear H1
        obtain rfl := Option.some.inj H
        have hcz30_0 : wc.cell? ⟨gb101, 0, none⟩ = some (.int .i64 a0_0) := (blk_cell BK101.out 0).trans rfl
        have hcz30_1 : wc.cell? ⟨gb101, 1, none⟩ = some (.int .i64 a0_1) := (blk_cell BK101.out 1).trans rfl
        have hcz30_2 : wc.cell? ⟨gb101, 2, none⟩ = some (.int .i64 a0_2) := (blk_cell BK101.out 2).trans rfl
        have hcz30_3 : wc.cell? ⟨gb101, 3, none⟩ = some (.int .i64 a0_3) := (blk_cell BK101.out 3).trans rfl
        have hfz30_0 := blk_frozen BK101.out 0
        have hfz30_1 := blk_frozen BK101.out 1
        have hfz30_2 := blk_frozen BK101.out 2
        have hfz30_3 := blk_frozen BK101.out 3
        go_wp2_with (first | (go_at_call 30; (with_reducible refine (impl_in.calls a0_1 0 (wrap64 (a1 - 1)) true _ A24.out).mono ?_); rintro e w' ⟨rfl, ⟨nd, rfl⟩⟩; (try first | exact ⟨rfl, _, qd1_⟩ | exact ⟨rfl, _, qd2_⟩)) | (go_at_call 30; (with_reducible refine (impl_in.calls a0_2 0 (wrap64 (a1 - 1)) true _ A25.out).mono ?_); rintro e w' ⟨rfl, ⟨nd, rfl⟩⟩; (try first | exact ⟨rfl, _, qd1_⟩ | exact ⟨rfl, _, qd2_⟩)) | (go_at_call 30; (with_reducible refine (impl_in.calls a0_0 1 8 true _ A26.out).mono ?_); rintro e w' ⟨rfl, ⟨nd, rfl⟩⟩; (try first | exact ⟨rfl, _, qd1_⟩ | exact ⟨rfl, _, qd2_⟩)))
        repeat (go_quiet (first | (go_at_call 30; (with_reducible refine (impl_in.calls a0_1 0 (wrap64 (a1 - 1)) true _ A24.out).mono ?_); rintro e w' ⟨rfl, ⟨nd, rfl⟩⟩; (try first | exact ⟨rfl, _, qd1_⟩ | exact ⟨rfl, _, qd2_⟩)) | (go_at_call 30; (with_reducible refine (impl_in.calls a0_2 0 (wrap64 (a1 - 1)) true _ A25.out).mono ?_); rintro e w' ⟨rfl, ⟨nd, rfl⟩⟩; (try first | exact ⟨rfl, _, qd1_⟩ | exact ⟨rfl, _, qd2_⟩)) | (go_at_call 30; (with_reducible refine (impl_in.calls a0_0 1 8 true _ A26.out).mono ?_); rintro e w' ⟨rfl, ⟨nd, rfl⟩⟩; (try first | exact ⟨rfl, _, qd1_⟩ | exact ⟨rfl, _, qd2_⟩))); try go_wp2_with (first | (go_at_call 30; (with_reducible refine (impl_in.calls a0_1 0 (wrap64 (a1 - 1)) true _ A24.out).mono ?_); rintro e w' ⟨rfl, ⟨nd, rfl⟩⟩; (try first | exact ⟨rfl, _, qd1_⟩ | exact ⟨rfl, _, qd2_⟩)) | (go_at_call 30; (with_reducible refine (impl_in.calls a0_2 0 (wrap64 (a1 - 1)) true _ A25.out).mono ?_); rintro e w' ⟨rfl, ⟨nd, rfl⟩⟩; (try first | exact ⟨rfl, _, qd1_⟩ | exact ⟨rfl, _, qd2_⟩)) | (go_at_call 30; (with_reducible refine (impl_in.calls a0_0 1 8 true _ A26.out).mono ?_); rintro e w' ⟨rfl, ⟨nd, rfl⟩⟩; (try first | exact ⟨rfl, _, qd1_⟩ | exact ⟨rfl, _, qd2_⟩))))
        go_ret
        exact ⟨qz4_, qz5_⟩
       ·
        replace c29 := Bool.eq_false_iff.mpr c29
        subst c29
        have H1 : (some false) = some r := by rw [if_neg (show ¬ (false = true) by decide)] at H; exact H
        clear H
        have H := H1
        clear H1
        obtain rfl := Option.some.inj H
        have hcz31_0 : wc.cell? ⟨gb101, 0, none⟩ = some (.int .i64 a0_0) := (blk_cell BK101.out 0).trans rfl
        have hcz31_1 : wc.cell? ⟨gb101, 1, none⟩ = some (.int .i64 a0_1) := (blk_cell BK101.out 1).trans rfl
        have hcz31_2 : wc.cell? ⟨gb101, 2, none⟩ = some (.int .i64 a0_2) := (blk_cell BK101.out 2).trans rfl
        have hcz31_3 : wc.cell? ⟨gb101, 3, none⟩ = some (.int .i64 a0_3) := (blk_cell BK101.out 3).trans rfl
        have hfz31_0 := blk_frozen BK101.out 0
        have hfz31_1 := blk_frozen BK101.out 1
        have hfz31_2 := blk_frozen BK101.out 2
        have hfz31_3 := blk_frozen BK101.out 3
        go_wp2_with (first | (go_at_call 30; (with_reducible refine (impl_in.calls a0_1 0 (wrap64 (a1 - 1)) true _ A24.out).mono ?_); rintro e w' ⟨rfl, ⟨nd, rfl⟩⟩; (try first | exact ⟨rfl, _, qd1_⟩ | exact ⟨rfl, _, qd2_⟩)) | (go_at_call 30; (with_reducible refine (impl_in.calls a0_2 0 (wrap64 (a1 - 1)) false _ A25.out).mono ?_); rintro e w' ⟨rfl, ⟨nd, rfl⟩⟩; (try first | exact ⟨rfl, _, qd1_⟩ | exact ⟨rfl, _, qd2_⟩)) | (go_at_call 30; (with_reducible refine (impl_in.calls a0_0 1 8 true _ A26.out).mono ?_); rintro e w' ⟨rfl, ⟨nd, rfl⟩⟩; (try first | exact ⟨rfl, _, qd1_⟩ | exact ⟨rfl, _, qd2_⟩)))
        repeat (go_quiet (first | (go_at_call 30; (with_reducible refine (impl_in.calls a0_1 0 (wrap64 (a1 - 1)) true _ A24.out).mono ?_); rintro e w' ⟨rfl, ⟨nd, rfl⟩⟩; (try first | exact ⟨rfl, _, qd1_⟩ | exact ⟨rfl, _, qd2_⟩)) | (go_at_call 30; (with_reducible refine (impl_in.calls a0_2 0 (wrap64 (a1 - 1)) false _ A25.out).mono ?_); rintro e w' ⟨rfl, ⟨nd, rfl⟩⟩; (try first | exact ⟨rfl, _, qd1_⟩ | exact ⟨rfl, _, qd2_⟩)) | (go_at_call 30; (with_reducible refine (impl_in.calls a0_0 1 8 true _ A26.out).mono ?_); rintro e w' ⟨rfl, ⟨nd, rfl⟩⟩; (try first | exact ⟨rfl, _, qd1_⟩ | exact ⟨rfl, _, qd2_⟩))); try go_wp2_with (first | (go_at_call 30; (with_reducible refine (impl_in.calls a0_1 0 (wrap64 (a1 - 1)) true _ A24.out).mono ?_); rintro e w' ⟨rfl, ⟨nd, rfl⟩⟩; (try first | exact ⟨rfl, _, qd1_⟩ | exact ⟨rfl, _, qd2_⟩)) | (go_at_call 30; (with_reducible refine (impl_in.calls a0_2 0 (wrap64 (a1 - 1)) false _ A25.out).mono ?_); rintro e w' ⟨rfl, ⟨nd, rfl⟩⟩; (try first | exact ⟨rfl, _, qd1_⟩ | exact ⟨rfl, _, qd2_⟩)) | (go_at_call 30; (with_reducible refine (impl_in.calls a0_0 1 8 true _ A26.out).mono ?_); rintro e w' ⟨rfl, ⟨nd, rfl⟩⟩; (try first | exact ⟨rfl, _, qd1_⟩ | exact ⟨rfl, _, qd2_⟩))))
        go_ret
        exact ⟨qz4_, qz5_⟩
      ·
       replace c28 := Bool.eq_false_iff.mpr c28
       subst c28
       have H1 : (some false) = some r := by rw [if_neg (show ¬ (false = true) by decide)] at H; exact H
       clear H
       have H := H1
       clear H1
       obtain rfl := Option.some.inj H
       have hcz32_0 : wc.cell? ⟨gb101, 0, none⟩ = some (.int .i64 a0_0) := (blk_cell BK101.out 0).trans rfl
       have hcz32_1 : wc.cell? ⟨gb101, 1, none⟩ = some (.int .i64 a0_1) := (blk_cell BK101.out 1).trans rfl
       have hcz32_2 : wc.cell? ⟨gb101, 2, none⟩ = some (.int .i64 a0_2) := (blk_cell BK101.out 2).trans rfl
       have hcz32_3 : wc.cell? ⟨gb101, 3, none⟩ = some (.int .i64 a0_3) := (blk_cell BK101.out 3).trans rfl
       have hfz32_0 := blk_frozen BK101.out 0
       have hfz32_1 := blk_frozen BK101.out 1
       have hfz32_2 := blk_frozen BK101.out 2
       have hfz32_3 := blk_frozen BK101.out 3
       go_wp2_with (first | (go_at_call 30; (with_reducible refine (impl_in.calls a0_1 0 (wrap64 (a1 - 1)) false _ A24.out).mono ?_); rintro e w' ⟨rfl, ⟨nd, rfl⟩⟩; (try first | exact ⟨rfl, _, qd1_⟩ | exact ⟨rfl, _, qd2_⟩)) | (go_at_call 30; (with_reducible refine (impl_in.calls a0_2 0 (wrap64 (a1 - 1)) t105 _ A25.out).mono ?_); rintro e w' ⟨rfl, ⟨nd, rfl⟩⟩; (try first | exact ⟨rfl, _, qd1_⟩ | exact ⟨rfl, _, qd2_⟩)) | (go_at_call 30; (with_reducible refine (impl_in.calls a0_0 1 8 true _ A26.out).mono ?_); rintro e w' ⟨rfl, ⟨nd, rfl⟩⟩; (try first | exact ⟨rfl, _, qd1_⟩ | exact ⟨rfl, _, qd2_⟩)))
       repeat (go_quiet (first | (go_at_call 30; (with_reducible refine (impl_in.calls a0_1 0 (wrap64 (a1 - 1)) false _ A24.out).mono ?_); rintro e w' ⟨rfl, ⟨nd, rfl⟩⟩; (try first | exact ⟨rfl, _, qd1_⟩ | exact ⟨rfl, _, qd2_⟩)) | (go_at_call 30; (with_reducible refine (impl_in.calls a0_2 0 (wrap64 (a1 - 1)) t105 _ A25.out).mono ?_); rintro e w' ⟨rfl, ⟨nd, rfl⟩⟩; (try first | exact ⟨rfl, _, qd1_⟩ | exact ⟨rfl, _, qd2_⟩)) | (go_at_call 30; (with_reducible refine (impl_in.calls a0_0 1 8 true _ A26.out).mono ?_); rintro e w' ⟨rfl, ⟨nd, rfl⟩⟩; (try first | exact ⟨rfl, _, qd1_⟩ | exact ⟨rfl, _, qd2_⟩))); try go_wp2_with (first | (go_at_call 30; (with_reducible refine (impl_in.calls a0_1 0 (wrap64 (a1 - 1)) false _ A24.out).mono ?_); rintro e w' ⟨rfl, ⟨nd, rfl⟩⟩; (try first | exact ⟨rfl, _, qd1_⟩ | exact ⟨rfl, _, qd2_⟩)) | (go_at_call 30; (with_reducible refine (impl_in.calls a0_2 0 (wrap64 (a1 - 1)) t105 _ A25.out).mono ?_); rintro e w' ⟨rfl, ⟨nd, rfl⟩⟩; (try first | exact ⟨rfl, _, qd1_⟩ | exact ⟨rfl, _, qd2_⟩)) | (go_at_call 30; (with_reducible refine (impl_in.calls a0_0 1 8 true _ A26.out).mono ?_); rintro e w' ⟨rfl, ⟨nd, rfl⟩⟩; (try first | exact ⟨rfl, _, qd1_⟩ | exact ⟨rfl, _, qd2_⟩))))
       go_ret
       exact ⟨qz4_, qz5_⟩
     ·
      replace c27 := Bool.eq_false_iff.mpr c27
      subst c27
      have H1 : (some false) = some r := by rw [if_neg (show ¬ (false = true) by decide)] at H; exact H
      clear H
      have H := H1
      clear H1
      obtain rfl := Option.some.inj H
      have hcz33_0 : wc.cell? ⟨gb101, 0, none⟩ = some (.int .i64 a0_0) := (blk_cell BK101.out 0).trans rfl
      have hcz33_1 : wc.cell? ⟨gb101, 1, none⟩ = some (.int .i64 a0_1) := (blk_cell BK101.out 1).trans rfl
      have hcz33_2 : wc.cell? ⟨gb101, 2, none⟩ = some (.int .i64 a0_2) := (blk_cell BK101.out 2).trans rfl
      have hcz33_3 : wc.cell? ⟨gb101, 3, none⟩ = some (.int .i64 a0_3) := (blk_cell BK101.out 3).trans rfl
      have hfz33_0 := blk_frozen BK101.out 0
      have hfz33_1 := blk_frozen BK101.out 1
      have hfz33_2 := blk_frozen BK101.out 2
      have hfz33_3 := blk_frozen BK101.out 3
      go_wp2_with (first | (go_at_call 30; (with_reducible refine (impl_in.calls a0_1 0 (wrap64 (a1 - 1)) t104 _ A24.out).mono ?_); rintro e w' ⟨rfl, ⟨nd, rfl⟩⟩; (try first | exact ⟨rfl, _, qd1_⟩ | exact ⟨rfl, _, qd2_⟩)) | (go_at_call 30; (with_reducible refine (impl_in.calls a0_2 0 (wrap64 (a1 - 1)) t105 _ A25.out).mono ?_); rintro e w' ⟨rfl, ⟨nd, rfl⟩⟩; (try first | exact ⟨rfl, _, qd1_⟩ | exact ⟨rfl, _, qd2_⟩)) | (go_at_call 30; (with_reducible refine (impl_in.calls a0_0 1 8 false _ A26.out).mono ?_); rintro e w' ⟨rfl, ⟨nd, rfl⟩⟩; (try first | exact ⟨rfl, _, qd1_⟩ | exact ⟨rfl, _, qd2_⟩)))
      repeat (go_quiet (first | (go_at_call 30; (with_reducible refine (impl_in.calls a0_1 0 (wrap64 (a1 - 1)) t104 _ A24.out).mono ?_); rintro e w' ⟨rfl, ⟨nd, rfl⟩⟩; (try first | exact ⟨rfl, _, qd1_⟩ | exact ⟨rfl, _, qd2_⟩)) | (go_at_call 30; (with_reducible refine (impl_in.calls a0_2 0 (wrap64 (a1 - 1)) t105 _ A25.out).mono ?_); rintro e w' ⟨rfl, ⟨nd, rfl⟩⟩; (try first | exact ⟨rfl, _, qd1_⟩ | exact ⟨rfl, _, qd2_⟩)) | (go_at_call 30; (with_reducible refine (impl_in.calls a0_0 1 8 false _ A26.out).mono ?_); rintro e w' ⟨rfl, ⟨nd, rfl⟩⟩; (try first | exact ⟨rfl, _, qd1_⟩ | exact ⟨rfl, _, qd2_⟩))); try go_wp2_with (first | (go_at_call 30; (with_reducible refine (impl_in.calls a0_1 0 (wrap64 (a1 - 1)) t104 _ A24.out).mono ?_); rintro e w' ⟨rfl, ⟨nd, rfl⟩⟩; (try first | exact ⟨rfl, _, qd1_⟩ | exact ⟨rfl, _, qd2_⟩)) | (go_at_call 30; (with_reducible refine (impl_in.calls a0_2 0 (wrap64 (a1 - 1)) t105 _ A25.out).mono ?_); rintro e w' ⟨rfl, ⟨nd, rfl⟩⟩; (try first | exact ⟨rfl, _, qd1_⟩ | exact ⟨rfl, _, qd2_⟩)) | (go_at_call 30; (with_reducible refine (impl_in.calls a0_0 1 8 false _ A26.out).mono ?_); rintro e w' ⟨rfl, ⟨nd, rfl⟩⟩; (try first | exact ⟨rfl, _, qd1_⟩ | exact ⟨rfl, _, qd2_⟩))))
      go_ret
      exact ⟨qz4_, qz5_⟩
    ·
     replace c23 := Bool.eq_false_iff.mpr c23
     subst c23
     have H1 : (if a0_0 = 8 then ((impl_in.f a0_1 0 (wrap64 (a1 - 1))).bind fun t107 => ((impl_in.f a0_0 1 8).bind fun t108 => (if t108 = true then (if t107 = true then (if (a0_2 == 0) = true then (some (a0_3 == 0)) else (some false)) else (some false)) else (some false)))) else ((impl_in.f a0_0 1 8).bind fun t109 => (if t109 = true then (if (a0_1 == 0) = true then (if (a0_2 == 0) = true then (some (a0_3 == 0)) else (some false)) else (some false)) else (some false)))) = some r := by rw [if_neg (show ¬ (false = true) by decide)] at H; exact H
     clear H
     have H := H1
     clear H1
     by_cases c34 : a0_0 = 8
     ·
      rw [if_pos c34] at H
      have c34b0 : (a0_0 == 8) = true := beq_iff_eq.mpr c34
      have c34b1 : (a0_0 != 8) = false := bne_eq_false_iff_eq.mpr c34
      clear c34
      replace H := Option.bind_eq_some_iff.mp H
      obtain ⟨t107, A350, H⟩ := H
      replace H : ((impl_in.f a0_0 1 8).bind fun t108 => (if t108 = true then (if t107 = true then (if (a0_2 == 0) = true then (some (a0_3 == 0)) else (some false)) else (some false)) else (some false))) = some r := H
      have A35 := am_ A350
      clear A350
      replace H := Option.bind_eq_some_iff.mp H
      obtain ⟨t108, A360, H⟩ := H
      replace H : (if t108 = true then (if t107 = true then (if (a0_2 == 0) = true then (some (a0_3 == 0)) else (some false)) else (some false)) else (some false)) = some r := H
      have A36 := am_ A360
      clear A360
      by_cases c37 : t108 = true
      ·
       subst c37
       have H1 : (if t107 = true then (if (a0_2 == 0) = true then (some (a0_3 == 0)) else (some false)) else (some false)) = some r := by rw [if_pos rfl] at H; exact H
       clear H
       have H := H1
       clear H1
       by_cases c38 : t107 = true
       ·
        subst c38
        have H1 : (if (a0_2 == 0) = true then (some (a0_3 == 0)) else (some false)) = some r := by rw [if_pos rfl] at H; exact H
        clear H
        have H := H1
        clear H1
        by_cases c39 : (a0_2 == 0) = true
        ·
         rw [if_pos c39] at H
         have c39b0 : (a0_2 == 0) = true := c39
         (try (have c39b1 : decide (a0_2 = 0) = true := by simpa using c39))
         (try (have c39b2 : (a0_2 == 0) = true := by simpa using c39))
         clear c39
         obtain rfl := Option.some.inj H
         have hcz40_0 : wc.cell? ⟨gb101, 0, none⟩ = some (.int .i64 a0_0) := (blk_cell BK101.out 0).trans rfl
         have hcz40_1 : wc.cell? ⟨gb101, 1, none⟩ = some (.int .i64 a0_1) := (blk_cell BK101.out 1).trans rfl
         have hcz40_2 : wc.cell? ⟨gb101, 2, none⟩ = some (.int .i64 a0_2) := (blk_cell BK101.out 2).trans rfl
         have hcz40_3 : wc.cell? ⟨gb101, 3, none⟩ = some (.int .i64 a0_3) := (blk_cell BK101.out 3).trans rfl
         have hfz40_0 := blk_frozen BK101.out 0
         have hfz40_1 := blk_frozen BK101.out 1
         have hfz40_2 := blk_frozen BK101.out 2
         have hfz40_3 := blk_frozen BK101.out 3
         go_wp2_with (first | (go_at_call 30; (with_reducible refine (impl_in.calls a0_1 0 (wrap64 (a1 - 1)) true _ A35.out).mono ?_); rintro e w' ⟨rfl, ⟨nd, rfl⟩⟩; (try first | exact ⟨rfl, _, qd1_⟩ | exact ⟨rfl, _, qd2_⟩)) | (go_at_call 30; (with_reducible refine (impl_in.calls a0_0 1 8 true _ A36.out).mono ?_); rintro e w' ⟨rfl, ⟨nd, rfl⟩⟩; (try first | exact ⟨rfl, _, qd1_⟩ | exact ⟨rfl, _, qd2_⟩)))
         repeat (go_quiet (first | (go_at_call 30; (with_reducible refine (impl_in.calls a0_1 0 (wrap64 (a1 - 1)) true _ A35.out).mono ?_); rintro e w' ⟨rfl, ⟨nd, rfl⟩⟩; (try first | exact ⟨rfl, _, qd1_⟩ | exact ⟨rfl, _, qd2_⟩)) | (go_at_call 30; (with_reducible refine (impl_in.calls a0_0 1 8 true _ A36.out).mono ?_); rintro e w' ⟨rfl, ⟨nd, rfl⟩⟩; (try first | exact ⟨rfl, _, qd1_⟩ | exact ⟨rfl, _, qd2_⟩))); try go_wp2_with (first | (go_at_call 30; (with_reducible refine (impl_in.calls a0_1 0 (wrap64 (a1 - 1)) true _ A35.out).mono ?_); rintro e w' ⟨rfl, ⟨nd, rfl⟩⟩; (try first | exact ⟨rfl, _, qd1_⟩ | exact ⟨rfl, _, qd2_⟩)) | (go_at_call 30; (with_reducible refine (impl_in.calls a0_0 1 8 true _ A36.out).mono ?_); rintro e w' ⟨rfl, ⟨nd, rfl⟩⟩; (try first | exact ⟨rfl, _, qd1_⟩ | exact ⟨rfl, _, qd2_⟩))))
         go_ret
         exact ⟨qz4_, qz5_⟩
        ·
         rw [if_neg c39] at H
         have c39b0 : (a0_2 == 0) = false := by simpa using c39
         (try (have c39b1 : decide (a0_2 = 0) = false := by simpa using c39))
         (try (have c39b2 : (a0_2 == 0) = false := by simpa using c39))
         (try (have c39b3 : ¬ (a0_2 = 0) := by simpa using c39))
         clear c39
         obtain rfl := Option.some.inj H
         have hcz41_0 : wc.cell? ⟨gb101, 0, none⟩ = some (.int .i64 a0_0) := (blk_cell BK101.out 0).trans rfl
         have hcz41_1 : wc.cell? ⟨gb101, 1, none⟩ = some (.int .i64 a0_1) := (blk_cell BK101.out 1).trans rfl
         have hcz41_2 : wc.cell? ⟨gb101, 2, none⟩ = some (.int .i64 a0_2) := (blk_cell BK101.out 2).trans rfl
         have hcz41_3 : wc.cell? ⟨gb101, 3, none⟩ = some (.int .i64 a0_3) := (blk_cell BK101.out 3).trans rfl
         have hfz41_0 := blk_frozen BK101.out 0
         have hfz41_1 := blk_frozen BK101.out 1
         have hfz41_2 := blk_frozen BK101.out 2
         have hfz41_3 := blk_frozen BK101.out 3
         go_wp2_with (first | (go_at_call 30; (with_reducible refine (impl_in.calls a0_1 0 (wrap64 (a1 - 1)) true _ A35.out).mono ?_); rintro e w' ⟨rfl, ⟨nd, rfl⟩⟩; (try first | exact ⟨rfl, _, qd1_⟩ | exact ⟨rfl, _, qd2_⟩)) | (go_at_call 30; (with_reducible refine (impl_in.calls a0_0 1 8 true _ A36.out).mono ?_); rintro e w' ⟨rfl, ⟨nd, rfl⟩⟩; (try first | exact ⟨rfl, _, qd1_⟩ | exact ⟨rfl, _, qd2_⟩)))
         repeat (go_quiet (first | (go_at_call 30; (with_reducible refine (impl_in.calls a0_1 0 (wrap64 (a1 - 1)) true _ A35.out).mono ?_); rintro e w' ⟨rfl, ⟨nd, rfl⟩⟩; (try first | exact ⟨rfl, _, qd1_⟩ | exact ⟨rfl, _, qd2_⟩)) | (go_at_call 30; (with_reducible refine (impl_in.calls a0_0 1 8 true _ A36.out).mono ?_); rintro e w' ⟨rfl, ⟨nd, rfl⟩⟩; (try first | exact ⟨rfl, _, qd1_⟩ | exact ⟨rfl, _, qd2_⟩))); try go_wp2_with (first | (go_at_call 30; (with_reducible refine (impl_in.calls a0_1 0 (wrap64 (a1 - 1)) true _ A35.out).mono ?_); rintro e w' ⟨rfl, ⟨nd, rfl⟩⟩; (try first | exact ⟨rfl, _, qd1_⟩ | exact ⟨rfl, _, qd2_⟩)) | (go_at_call 30; (with_reducible refine (impl_in.calls a0_0 1 8 true _ A36.out).mono ?_); rintro e w' ⟨rfl, ⟨nd, rfl⟩⟩; (try first | exact ⟨rfl, _, qd1_⟩ | exact ⟨rfl, _, qd2_⟩))))
         go_ret
         exact ⟨qz4_, qz5_⟩
       ·
        replace c38 := Bool.eq_false_iff.mpr c38
        subst c38
        have H1 : (some false) = some r := by rw [if_neg (show ¬ (false = true) by decide)] at H; exact H
        clear H
        have H := H1
        clear H1
        obtain rfl := Option.some.inj H
        have hcz42_0 : wc.cell? ⟨gb101, 0, none⟩ = some (.int .i64 a0_0) := (blk_cell BK101.out 0).trans rfl
        have hcz42_1 : wc.cell? ⟨gb101, 1, none⟩ = some (.int .i64 a0_1) := (blk_cell BK101.out 1).trans rfl
        have hcz42_2 : wc.cell? ⟨gb101, 2, none⟩ = some (.int .i64 a0_2) := (blk_cell BK101.out 2).trans rfl
        have hcz42_3 : wc.cell? ⟨gb101, 3, none⟩ = some (.int .i64 a0_3) := (blk_cell BK101.out 3).trans rfl
        have hfz42_0 := blk_frozen BK101.out 0
        have hfz42_1 := blk_frozen BK101.out 1
        have hfz42_2 := blk_frozen BK101.out 2
        have hfz42_3 := blk_frozen BK101.out 3
        go_wp2_with (first | (go_at_call 30; (with_reducible refine (impl_in.calls a0_1 0 (wrap64 (a1 - 1)) false _ A35.out).mono ?_); rintro e w' ⟨rfl, ⟨nd, rfl⟩⟩; (try first | exact ⟨rfl, _, qd1_⟩ | exact ⟨rfl, _, qd2_⟩)) | (go_at_call 30; (with_reducible refine (impl_in.calls a0_0 1 8 true _ A36.out).mono ?_); rintro e w' ⟨rfl, ⟨nd, rfl⟩⟩; (try first | exact ⟨rfl, _, qd1_⟩ | exact ⟨rfl, _, qd2_⟩)))
        repeat (go_quiet (first | (go_at_call 30; (with_reducible refine (impl_in.calls a0_1 0 (wrap64 (a1 - 1)) false _ A35.out).mono ?_); rintro e w' ⟨rfl, ⟨nd, rfl⟩⟩; (try first | exact ⟨rfl, _, qd1_⟩ | exact ⟨rfl, _, qd2_⟩)) | (go_at_call 30; (with_reducible refine (impl_in.calls a0_0 1 8 true _ A36.out).mono ?_); rintro e w' ⟨rfl, ⟨nd, rfl⟩⟩; (try first | exact ⟨rfl, _, qd1_⟩ | exact ⟨rfl, _, qd2_⟩))); try go_wp2_with (first | (go_at_call 30; (with_reducible refine (impl_in.calls a0_1 0 (wrap64 (a1 - 1)) false _ A35.out).mono ?_); rintro e w' ⟨rfl, ⟨nd, rfl⟩⟩; (try first | exact ⟨rfl, _, qd1_⟩ | exact ⟨rfl, _, qd2_⟩)) | (go_at_call 30; (with_reducible refine (impl_in.calls a0_0 1 8 true _ A36.out).mono ?_); rintro e w' ⟨rfl, ⟨nd, rfl⟩⟩; (try first | exact ⟨rfl, _, qd1_⟩ | exact ⟨rfl, _, qd2_⟩))))
        go_ret
        exact ⟨qz4_, qz5_⟩
      ·
       replace c37 := Bool.eq_false_iff.mpr c37
       subst c37
       have H1 : (some false) = some r := by rw [if_neg (show ¬ (false = true) by decide)] at H; exact H
       clear H
       have H := H1
       clear H1
       obtain rfl := Option.some.inj H
       have hcz43_0 : wc.cell? ⟨gb101, 0, none⟩ = some (.int .i64 a0_0) := (blk_cell BK101.out 0).trans rfl
       have hcz43_1 : wc.cell? ⟨gb101, 1, none⟩ = some (.int .i64 a0_1) := (blk_cell BK101.out 1).trans rfl
       have hcz43_2 : wc.cell? ⟨gb101, 2, none⟩ = some (.int .i64 a0_2) := (blk_cell BK101.out 2).trans rfl
       have hcz43_3 : wc.cell? ⟨gb101, 3, none⟩ = some (.int .i64 a0_3) := (blk_cell BK101.out 3).trans rfl
       have hfz43_0 := blk_frozen BK101.out 0
       have hfz43_1 := blk_frozen BK101.out 1
       have hfz43_2 := blk_frozen BK101.out 2
       have hfz43_3 := blk_frozen BK101.out 3
       go_wp2_with (first | (go_at_call 30; (with_reducible refine (impl_in.calls a0_1 0 (wrap64 (a1 - 1)) t107 _ A35.out).mono ?_); rintro e w' ⟨rfl, ⟨nd, rfl⟩⟩; (try first | exact ⟨rfl, _, qd1_⟩ | exact ⟨rfl, _, qd2_⟩)) | (go_at_call 30; (with_reducible refine (impl_in.calls a0_0 1 8 false _ A36.out).mono ?_); rintro e w' ⟨rfl, ⟨nd, rfl⟩⟩; (try first | exact ⟨rfl, _, qd1_⟩ | exact ⟨rfl, _, qd2_⟩)))
       repeat (go_quiet (first | (go_at_call 30; (with_reducible refine (impl_in.calls a0_1 0 (wrap64 (a1 - 1)) t107 _ A35.out).mono ?_); rintro e w' ⟨rfl, ⟨nd, rfl⟩⟩; (try first | exact ⟨rfl, _, qd1_⟩ | exact ⟨rfl, _, qd2_⟩)) | (go_at_call 30; (with_reducible refine (impl_in.calls a0_0 1 8 false _ A36.out).mono ?_); rintro e w' ⟨rfl, ⟨nd, rfl⟩⟩; (try first | exact ⟨rfl, _, qd1_⟩ | exact ⟨rfl, _, qd2_⟩))); try go_wp2_with (first | (go_at_call 30; (with_reducible refine (impl_in.calls a0_1 0 (wrap64 (a1 - 1)) t107 _ A35.out).mono ?_); rintro e w' ⟨rfl, ⟨nd, rfl⟩⟩; (try first | exact ⟨rfl, _, qd1_⟩ | exact ⟨rfl, _, qd2_⟩)) | (go_at_call 30; (with_reducible refine (impl_in.calls a0_0 1 8 false _ A36.out).mono ?_); rintro e w' ⟨rfl, ⟨nd, rfl⟩⟩; (try first | exact ⟨rfl, _, qd1_⟩ | exact ⟨rfl, _, qd2_⟩))))
       go_ret
       exact ⟨qz4_, qz5_⟩
     ·
      rw [if_neg c34] at H
      have c34b0 : (a0_0 == 8) = false := beq_eq_false_iff_ne.mpr c34
      have c34b1 : (a0_0 != 8) = true := bne_iff_ne.mpr c34
      replace H := Option.bind_eq_some_iff.mp H
      obtain ⟨t109, A440, H⟩ := H
      replace H : (if t109 = true then (if (a0_1 == 0) = true then (if (a0_2 == 0) = true then (some (a0_3 == 0)) else (some false)) else (some false)) else (some false)) = some r := H
      have A44 := am_ A440
      clear A440
      by_cases c45 : t109 = true
      ·
       subst c45
       have H1 : (if (a0_1 == 0) = true then (if (a0_2 == 0) = true then (some (a0_3 == 0)) else (some false)) else (some false)) = some r := by rw [if_pos rfl] at H; exact H
       clear H
       have H := H1
       clear H1
       by_cases c46 : (a0_1 == 0) = true
       ·
        rw [if_pos c46] at H
        have c46b0 : (a0_1 == 0) = true := c46
        (try (have c46b1 : decide (a0_1 = 0) = true := by simpa using c46))
        (try (have c46b2 : (a0_1 == 0) = true := by simpa using c46))
        clear c46
        by_cases c47 : (a0_2 == 0) = true
        ·
         rw [if_pos c47] at H
         have c47b0 : (a0_2 == 0) = true := c47
         (try (have c47b1 : decide (a0_2 = 0) = true := by simpa using c47))
         (try (have c47b2 : (a0_2 == 0) = true := by simpa using c47))
         clear c47
         obtain rfl := Option.some.inj H
         have hcz48_0 : wc.cell? ⟨gb101, 0, none⟩ = some (.int .i64 a0_0) := (blk_cell BK101.out 0).trans rfl
         have hcz48_1 : wc.cell? ⟨gb101, 1, none⟩ = some (.int .i64 a0_1) := (blk_cell BK101.out 1).trans rfl
         have hcz48_2 : wc.cell? ⟨gb101, 2, none⟩ = some (.int .i64 a0_2) := (blk_cell BK101.out 2).trans rfl
         have hcz48_3 : wc.cell? ⟨gb101, 3, none⟩ = some (.int .i64 a0_3) := (blk_cell BK101.out 3).trans rfl
         have hfz48_0 := blk_frozen BK101.out 0
         have hfz48_1 := blk_frozen BK101.out 1
         have hfz48_2 := blk_frozen BK101.out 2
         have hfz48_3 := blk_frozen BK101.out 3
         go_wp2_with (first | (go_at_call 30; (with_reducible refine (impl_in.calls a0_0 1 8 true _ A44.out).mono ?_); rintro e w' ⟨rfl, ⟨nd, rfl⟩⟩; (try first | exact ⟨rfl, _, qd1_⟩ | exact ⟨rfl, _, qd2_⟩)))
         repeat (go_quiet (first | (go_at_call 30; (with_reducible refine (impl_in.calls a0_0 1 8 true _ A44.out).mono ?_); rintro e w' ⟨rfl, ⟨nd, rfl⟩⟩; (try first | exact ⟨rfl, _, qd1_⟩ | exact ⟨rfl, _, qd2_⟩))); try go_wp2_with (first | (go_at_call 30; (with_reducible refine (impl_in.calls a0_0 1 8 true _ A44.out).mono ?_); rintro e w' ⟨rfl, ⟨nd, rfl⟩⟩; (try first | exact ⟨rfl, _, qd1_⟩ | exact ⟨rfl, _, qd2_⟩))))
         go_ret
         exact ⟨qz4_, qz5_⟩
        ·
         rw [if_neg c47] at H
         have c47b0 : (a0_2 == 0) = false := by simpa using c47
         (try (have c47b1 : decide (a0_2 = 0) = false := by simpa using c47))
         (try (have c47b2 : (a0_2 == 0) = false := by simpa using c47))
         (try (have c47b3 : ¬ (a0_2 = 0) := by simpa using c47))
         clear c47
         obtain rfl := Option.some.inj H
         have hcz49_0 : wc.cell? ⟨gb101, 0, none⟩ = some (.int .i64 a0_0) := (blk_cell BK101.out 0).trans rfl
         have hcz49_1 : wc.cell? ⟨gb101, 1, none⟩ = some (.int .i64 a0_1) := (blk_cell BK101.out 1).trans rfl
         have hcz49_2 : wc.cell? ⟨gb101, 2, none⟩ = some (.int .i64 a0_2) := (blk_cell BK101.out 2).trans rfl
         have hcz49_3 : wc.cell? ⟨gb101, 3, none⟩ = some (.int .i64 a0_3) := (blk_cell BK101.out 3).trans rfl
         have hfz49_0 := blk_frozen BK101.out 0
         have hfz49_1 := blk_frozen BK101.out 1
         have hfz49_2 := blk_frozen BK101.out 2
         have hfz49_3 := blk_frozen BK101.out 3
         go_wp2_with (first | (go_at_call 30; (with_reducible refine (impl_in.calls a0_0 1 8 true _ A44.out).mono ?_); rintro e w' ⟨rfl, ⟨nd, rfl⟩⟩; (try first | exact ⟨rfl, _, qd1_⟩ | exact ⟨rfl, _, qd2_⟩)))
         repeat (go_quiet (first | (go_at_call 30; (with_reducible refine (impl_in.calls a0_0 1 8 true _ A44.out).mono ?_); rintro e w' ⟨rfl, ⟨nd, rfl⟩⟩; (try first | exact ⟨rfl, _, qd1_⟩ | exact ⟨rfl, _, qd2_⟩))); try go_wp2_with (first | (go_at_call 30; (with_reducible refine (impl_in.calls a0_0 1 8 true _ A44.out).mono ?_); rintro e w' ⟨rfl, ⟨nd, rfl⟩⟩; (try first | exact ⟨rfl, _, qd1_⟩ | exact ⟨rfl, _, qd2_⟩))))
         go_ret
         exact ⟨qz4_, qz5_⟩
       ·
        rw [if_neg c46] at H
        have c46b0 : (a0_1 == 0) = false := by simpa using c46
        (try (have c46b1 : decide (a0_1 = 0) = false := by simpa using c46))
        (try (have c46b2 : (a0_1 == 0) = false := by simpa using c46))
        (try (have c46b3 : ¬ (a0_1 = 0) := by simpa using c46))
        clear c46
        obtain rfl := Option.some.inj H
        have hcz50_0 : wc.cell? ⟨gb101, 0, none⟩ = some (.int .i64 a0_0) := (blk_cell BK101.out 0).trans rfl
        have hcz50_1 : wc.cell? ⟨gb101, 1, none⟩ = some (.int .i64 a0_1) := (blk_cell BK101.out 1).trans rfl
        have hcz50_2 : wc.cell? ⟨gb101, 2, none⟩ = some (.int .i64 a0_2) := (blk_cell BK101.out 2).trans rfl
        have hcz50_3 : wc.cell? ⟨gb101, 3, none⟩ = some (.int .i64 a0_3) := (blk_cell BK101.out 3).trans rfl
        have hfz50_0 := blk_frozen BK101.out 0
        have hfz50_1 := blk_frozen BK101.out 1
        have hfz50_2 := blk_frozen BK101.out 2
        have hfz50_3 := blk_frozen BK101.out 3
        go_wp2_with (first | (go_at_call 30; (with_reducible refine (impl_in.calls a0_0 1 8 true _ A44.out).mono ?_); rintro e w' ⟨rfl, ⟨nd, rfl⟩⟩; (try first | exact ⟨rfl, _, qd1_⟩ | exact ⟨rfl, _, qd2_⟩)))
        repeat (go_quiet (first | (go_at_call 30; (with_reducible refine (impl_in.calls a0_0 1 8 true _ A44.out).mono ?_); rintro e w' ⟨rfl, ⟨nd, rfl⟩⟩; (try first | exact ⟨rfl, _, qd1_⟩ | exact ⟨rfl, _, qd2_⟩))); try go_wp2_with (first | (go_at_call 30; (with_reducible refine (impl_in.calls a0_0 1 8 true _ A44.out).mono ?_); rintro e w' ⟨rfl, ⟨nd, rfl⟩⟩; (try first | exact ⟨rfl, _, qd1_⟩ | exact ⟨rfl, _, qd2_⟩))))
        go_ret
        exact ⟨qz4_, qz5_⟩
      ·
       replace c45 := Bool.eq_false_iff.mpr c45
       subst c45
       have H1 : (some false) = some r := by rw [if_neg (show ¬ (false = true) by decide)] at H; exact H
       clear H
       have H := H1
       clear H1
       obtain rfl := Option.some.inj H
       have hcz51_0 : wc.cell? ⟨gb101, 0, none⟩ = some (.int .i64 a0_0) := (blk_cell BK101.out 0).trans rfl
       have hcz51_1 : wc.cell? ⟨gb101, 1, none⟩ = some (.int .i64 a0_1) := (blk_cell BK101.out 1).trans rfl
       have hcz51_2 : wc.cell? ⟨gb101, 2, none⟩ = some (.int .i64 a0_2) := (blk_cell BK101.out 2).trans rfl
       have hcz51_3 : wc.cell? ⟨gb101, 3, none⟩ = some (.int .i64 a0_3) := (blk_cell BK101.out 3).trans rfl
       have hfz51_0 := blk_frozen BK101.out 0
       have hfz51_1 := blk_frozen BK101.out 1
       have hfz51_2 := blk_frozen BK101.out 2
       have hfz51_3 := blk_frozen BK101.out 3
       go_wp2_with (first | (go_at_call 30; (with_reducible refine (impl_in.calls a0_0 1 8 false _ A44.out).mono ?_); rintro e w' ⟨rfl, ⟨nd, rfl⟩⟩; (try first | exact ⟨rfl, _, qd1_⟩ | exact ⟨rfl, _, qd2_⟩)))
       repeat (go_quiet (first | (go_at_call 30; (with_reducible refine (impl_in.calls a0_0 1 8 false _ A44.out).mono ?_); rintro e w' ⟨rfl, ⟨nd, rfl⟩⟩; (try first | exact ⟨rfl, _, qd1_⟩ | exact ⟨rfl, _, qd2_⟩))); try go_wp2_with (first | (go_at_call 30; (with_reducible refine (impl_in.calls a0_0 1 8 false _ A44.out).mono ?_); rintro e w' ⟨rfl, ⟨nd, rfl⟩⟩; (try first | exact ⟨rfl, _, qd1_⟩ | exact ⟨rfl, _, qd2_⟩))))
       go_ret
       exact ⟨qz4_, qz5_⟩

def impl_opWords.f  : Option (List ByteArray) := some (([(⟨#[105, 110, 112, 117, 116]⟩ : ByteArray), (⟨#[112, 117, 98, 108, 105, 99]⟩ : ByteArray), (⟨#[99, 111, 110, 115, 116]⟩ : ByteArray), (⟨#[97, 100, 100]⟩ : ByteArray), (⟨#[115, 117, 98]⟩ : ByteArray), (⟨#[109, 117, 108]⟩ : ByteArray), (⟨#[101, 113, 117, 97, 108]⟩ : ByteArray), (⟨#[98, 105, 116]⟩ : ByteArray)] : List ByteArray))
set_option maxHeartbeats 8000000 in
set_option maxRecDepth 100000 in
theorem impl_opWords.calls  (r : List ByteArray) (w : World) (h : impl_opWords.f  = some r) :
  Calls Tryd.prog 14 #[] w fun e w' => ∃ v0_ : Value, e = .returned (v0_) ∧ Kd.R Kd.string 9 w' w.heap.size (fun _ => True) v0_ r ∧ Below w.heap.size w w' := by
 have HB := am_ (Below.refl w.heap.size w)
 have H : (some (([(⟨#[105, 110, 112, 117, 116]⟩ : ByteArray), (⟨#[112, 117, 98, 108, 105, 99]⟩ : ByteArray), (⟨#[99, 111, 110, 115, 116]⟩ : ByteArray), (⟨#[97, 100, 100]⟩ : ByteArray), (⟨#[115, 117, 98]⟩ : ByteArray), (⟨#[109, 117, 108]⟩ : ByteArray), (⟨#[101, 113, 117, 97, 108]⟩ : ByteArray), (⟨#[98, 105, 116]⟩ : ByteArray)] : List ByteArray))) = some r := h
 clear h
 obtain ⟨y101, hy101⟩ : ∃ y_ : List ByteArray, y_ = (([(⟨#[105, 110, 112, 117, 116]⟩ : ByteArray), (⟨#[112, 117, 98, 108, 105, 99]⟩ : ByteArray), (⟨#[99, 111, 110, 115, 116]⟩ : ByteArray), (⟨#[97, 100, 100]⟩ : ByteArray), (⟨#[115, 117, 98]⟩ : ByteArray), (⟨#[109, 117, 108]⟩ : ByteArray), (⟨#[101, 113, 117, 97, 108]⟩ : ByteArray), (⟨#[98, 105, 116]⟩ : ByteArray)] : List ByteArray)) := ⟨_, rfl⟩
 replace H : (some y101) = some r := by first | (rw [hy101]; with_reducible exact H) | (have H2_ := (Option.bind_some _ _).symm.trans H; rw [hy101]; with_reducible exact H2_) | (have H2_ := (Option.bind_some _ _).symm.trans H; with_reducible exact H2_) | with_reducible exact H | (rw [hy101]; exact H) | exact H
 have Ny101 := am_ hy101
 clear hy101
 obtain rfl := Option.some.inj H
 go_enter Tryd.func14, Tryd.ntmps14
 go_wp2_with (first | ((with_reducible refine gate_dst (N := 1) rfl ?_); refine Kd.R_lit Kd.string _ 9 ?hg (N := 1) ?hd (xs := ([(⟨#[105, 110, 112, 117, 116]⟩ : ByteArray), (⟨#[112, 117, 98, 108, 105, 99]⟩ : ByteArray), (⟨#[99, 111, 110, 115, 116]⟩ : ByteArray), (⟨#[97, 100, 100]⟩ : ByteArray), (⟨#[115, 117, 98]⟩ : ByteArray), (⟨#[109, 117, 108]⟩ : ByteArray), (⟨#[101, 113, 117, 97, 108]⟩ : ByteArray), (⟨#[98, 105, 116]⟩ : ByteArray)] : List ByteArray)) (inner := [.string (⟨#[105, 110, 112, 117, 116]⟩ : ByteArray), .string (⟨#[112, 117, 98, 108, 105, 99]⟩ : ByteArray), .string (⟨#[99, 111, 110, 115, 116]⟩ : ByteArray), .string (⟨#[97, 100, 100]⟩ : ByteArray), .string (⟨#[115, 117, 98]⟩ : ByteArray), .string (⟨#[109, 117, 108]⟩ : ByteArray), .string (⟨#[101, 113, 117, 97, 108]⟩ : ByteArray), .string (⟨#[98, 105, 116]⟩ : ByteArray)]) (ok := fun _ => True) (okp := fun _ => True) ?hr ?hp (fun _ hk => hk) trivial (Below.refl _ _) (Nat.le_refl _) (by simp) ?_; (case hd => rfl); (case hg => rfl); (case hr => first | (go_simp; done) | (go_simp; rfl)); (case hp => exact (Reps.one (show Kd.M Kd.string _ _ _ (⟨#[105, 110, 112, 117, 116]⟩ : ByteArray) [.string (⟨#[105, 110, 112, 117, 116]⟩ : ByteArray)] from rfl) (Reps.one (show Kd.M Kd.string _ _ _ (⟨#[112, 117, 98, 108, 105, 99]⟩ : ByteArray) [.string (⟨#[112, 117, 98, 108, 105, 99]⟩ : ByteArray)] from rfl) (Reps.one (show Kd.M Kd.string _ _ _ (⟨#[99, 111, 110, 115, 116]⟩ : ByteArray) [.string (⟨#[99, 111, 110, 115, 116]⟩ : ByteArray)] from rfl) (Reps.one (show Kd.M Kd.string _ _ _ (⟨#[97, 100, 100]⟩ : ByteArray) [.string (⟨#[97, 100, 100]⟩ : ByteArray)] from rfl) (Reps.one (show Kd.M Kd.string _ _ _ (⟨#[115, 117, 98]⟩ : ByteArray) [.string (⟨#[115, 117, 98]⟩ : ByteArray)] from rfl) (Reps.one (show Kd.M Kd.string _ _ _ (⟨#[109, 117, 108]⟩ : ByteArray) [.string (⟨#[109, 117, 108]⟩ : ByteArray)] from rfl) (Reps.one (show Kd.M Kd.string _ _ _ (⟨#[101, 113, 117, 97, 108]⟩ : ByteArray) [.string (⟨#[101, 113, 117, 97, 108]⟩ : ByteArray)] from rfl) (Reps.one (show Kd.M Kd.string _ _ _ (⟨#[98, 105, 116]⟩ : ByteArray) [.string (⟨#[98, 105, 116]⟩ : ByteArray)] from rfl) (Reps.none _ _)))))))))); intro v102 w1 ho2 hb hg_ hnew_; clear hg_ hnew_; (first | rw [← Ny101.out] at ho2 | (simp only [Int.reduceToNat] at ho2; rw [← Ny101.out] at ho2)); have n0_ := am_ (Kd.R_lower ho2 (below_size qz3_)); have n1_ := am_ (below_step qz3_ hb); clear HB; have HO103 := n0_; have HB := n1_; clear n0_ n1_; clear hb ho2))
 go_ret
 exact ⟨_, qz4_, (by (with_reducible repeat (first | apply Kd.R_alloc | apply Kd.R_drewN | apply Kd.R_drew)); exact HO103.out), qz3_⟩

def slices_Index_string_string.l0 : Nat → List ByteArray → ByteArray → Int → Int → Option (Int)
 | 0, _, _, _, _ => none
 | k + 1, x0, x1, x7, x8 => if x8 < x7 then (if 0 ≤ x8 then (if x8 < (x0.length : Int) then (if x1.toList = (rdOf ByteArray.empty x0 x8).toList then (some x8) else (slices_Index_string_string.l0 k x0 x1 x7 (wrap64 (x8 + 1)))) else (none)) else (none)) else (some (-1))
def slices_Index_string_string.f (k : Nat) (l0 : List ByteArray) (a1 : ByteArray) : Option (Int) := slices_Index_string_string.l0 k l0 a1 (l0.length : Int) 0
theorem slices_Index_string_string.mono_l : ∀ k, (∀ y0 y1 y2 y3, LeO (slices_Index_string_string.l0 k y0 y1 y2 y3) (slices_Index_string_string.l0 (k + 1) y0 y1 y2 y3))
 | 0 => fun _ _ _ _ r h => by simp [slices_Index_string_string.l0] at h
 | k + 1 => by
  have ih0 := slices_Index_string_string.mono_l k
  ·
   intro y0 y1 y2 y3
   unfold slices_Index_string_string.l0
   repeat' first
   | (with_reducible exact ih0 _ _ _ _)
   | (with_reducible exact LeO.refl _)
   | (with_reducible exact LeO.none _)
   | (with_reducible refine LeO.ite ?_ ?_)
   | (with_reducible refine LeO.bind ?_ (fun _ => ?_))
   | exact ih0 _ _ _ _
   | exact LeO.none _
   | refine LeO.ite ?_ ?_
   | refine LeO.bind ?_ (fun _ => ?_)
theorem slices_Index_string_string.mono : ∀ a0 a1 k, LeO (slices_Index_string_string.f k a0 a1) (slices_Index_string_string.f (k + 1) a0 a1) := by
 intro a0 a1 k
 have ih0 := slices_Index_string_string.mono_l k
 unfold slices_Index_string_string.f
 repeat' first
   | (with_reducible exact ih0 _ _ _ _)
   | (with_reducible exact LeO.refl _)
   | (with_reducible exact LeO.none _)
   | (with_reducible refine LeO.ite ?_ ?_)
   | (with_reducible refine LeO.bind ?_ (fun _ => ?_))
   | exact ih0 _ _ _ _
   | exact LeO.none _
   | refine LeO.ite ?_ ?_
   | refine LeO.bind ?_ (fun _ => ?_)
set_option maxHeartbeats 8000000 in
set_option maxRecDepth 100000 in
theorem slices_Index_string_string.calls (k : Nat) (A0 : Option Addr) (c0 : Nat) (l0 : List ByteArray) (a1 : ByteArray) (r : Int) (w : World) (hr0 : Kd.C Kd.string w A0 l0.length l0) (hc0 : l0.length ≤ c0) (h : slices_Index_string_string.f k l0 a1 = some r) :
  Calls Tryd.prog 34 #[.slice A0 l0.length c0, .string a1] w fun e w' => e = .returned (.int .i64 r) ∧ Drawn0 w w' := by
 have HR0 := am_ hr0
 have HC0 := am_ hc0
 clear hr0 hc0
 have H : (slices_Index_string_string.l0 k l0 a1 (l0.length : Int) 0) = some r := h
 clear h
 have H' := am_ H
 clear H
 go_enter Tryd.func34, Tryd.ntmps34
 go_wp2
 go_loopg [8] k (fun kq v8 w' => ∃ (x8_1 : Int), v8 = .int .i64 x8_1 ∧ Aside0 (slices_Index_string_string.l0 kq l0 a1 (l0.length : Int) x8_1 = some r) ∧ Aside0 (kq ≤ k) ∧ Drawn0 w w')
 case atStart => exact ⟨(0), qz0_, H', ⟨Nat.le_refl _⟩, by repeat (first | exact Drawn0.refl _ | apply Drawn0.step)⟩
 case round =>
  clear H'
  try clear p2
  obtain ⟨x8_1, rfl, HA, HK1, ⟨m1, rfl⟩⟩ := hrel
  cases gk with
  | zero => exact absurd HA.out (by simp [slices_Index_string_string.l0])
  | succ k1 =>
   have H := HA.out
   clear HA
   simp only [slices_Index_string_string.l0] at H
   by_cases c3 : x8_1 < (l0.length : Int)
   ·
    rw [if_pos c3] at H
    have c3b0 : decide (x8_1 < (l0.length : Int)) = true := decide_eq_true c3
    clear c3
    by_cases c4 : 0 ≤ x8_1
    ·
     rw [if_pos c4] at H
     have c4b0 : decide (0 ≤ x8_1) = true := decide_eq_true c4
     clear c4
     by_cases c5 : x8_1 < (l0.length : Int)
     ·
      rw [if_pos c5] at H
      have c5b0 : decide (x8_1 < (l0.length : Int)) = true := decide_eq_true c5
      clear c5
      by_cases c6 : a1.toList = (rdOf ByteArray.empty l0 x8_1).toList
      ·
       rw [if_pos c6] at H
       have c6b0 : (a1.toList == (rdOf ByteArray.empty l0 x8_1).toList) = true := beq_iff_eq.mpr c6
       have c6b1 : (a1.toList != (rdOf ByteArray.empty l0 x8_1).toList) = false := bne_eq_false_iff_eq.mpr c6
       clear c6
       obtain rfl := Option.some.inj H
       have p101 : 0 ≤ (x8_1 : Int) := of_decide_eq_true qz8_
       have q101 : x8_1 < (l0.length : Int) := of_decide_eq_true qz8_
       obtain ⟨ad101, e101, hx101_0⟩ := Kd.at_string HR0.out x8_1 p101 q101
       cases e101
       replace p101 := eq_true p101
       replace q101 := eq_true q101
       go_wp2
       go_ret
       exact ⟨qz0_, qz1_⟩
      ·
       rw [if_neg c6] at H
       have c6b0 : (a1.toList == (rdOf ByteArray.empty l0 x8_1).toList) = false := beq_eq_false_iff_ne.mpr c6
       have c6b1 : (a1.toList != (rdOf ByteArray.empty l0 x8_1).toList) = true := bne_iff_ne.mpr c6
       have H' := am_ H
       clear H
       have p101 : 0 ≤ (x8_1 : Int) := of_decide_eq_true qz8_
       have q101 : x8_1 < (l0.length : Int) := of_decide_eq_true qz8_
       obtain ⟨ad101, e101, hx101_0⟩ := Kd.at_string HR0.out x8_1 p101 q101
       cases e101
       replace p101 := eq_true p101
       replace q101 := eq_true q101
       go_wp2
       go_roundg k1
       case measure => have := HK1.out; omega
       case rel => exact ⟨(wrap64 (x8_1 + 1)), qz0_, H', ⟨(by have := HK1.out; omega)⟩, by repeat (first | exact Drawn0.refl _ | apply Drawn0.step)⟩
     ·
      rw [if_neg c5] at H
      exact absurd H (by simp)
    ·
     rw [if_neg c4] at H
     exact absurd H (by simp)
   ·
    rw [if_neg c3] at H
    have c3b0 : decide (x8_1 < (l0.length : Int)) = false := decide_eq_false c3
    clear c3
    obtain rfl := Option.some.inj H
    go_wp2
    go_ret
    exact ⟨qz0_, qz1_⟩

end Go.Proofs.YtokljkneflejdaaDoor.PT
end
section
/- What readGate returns: the gate that words tell. -/
namespace Go.Proofs.YtokljkneflejdaaDoor.PT
open Go Go.RowKit Go.Lib Go.Proofs.YtokljkneflejdaaDoorW.PrintWords Go.Proofs.YtokljkneflejdaaDoorW.PrintLast Go.Proofs.YtokljkneflejdaaDoorW.PrintMore
set_option linter.unusedVariables false
set_option linter.unusedSimpArgs false
theorem rowR {α : Type} {d : Kd α} {e b : Nat} {v : Value} {xs : List α} {S : Nat → Prop} {W : World} (h : (row d e b v xs S).A W) : d.R e W b S v xs := h
theorem gifA {c : Bool} {g : Grp} {W : World} (h : (gif c g).A W) (hc : c = true) : g.A W := h hc
def ptrsIn (A : Option Addr) (g : Nat) (l : List Nat) (w : World) : Prop := ∀ i (h : i < l.length), ∃ q, A = some ⟨q, 0, none⟩ ∧ w.cell? ⟨q, i, none⟩ = some (.pointer (some ⟨g, l[i], none⟩))
theorem no_ptr {w : World} {g t : Nat} {x0 x1 x2 x3 : Int} (h : w.heap[g]? = some (.cells #[.int .i64 x0, .int .i64 x1, .int .i64 x2, .int .i64 x3] t (0, 0))) (i : Nat) {p : Option Addr} (hc : w.cell? ⟨g, i, none⟩ = some (.pointer p)) : False := by
 rw [blk_cell h i] at hc
 rcases (show i = 0 ∨ i = 1 ∨ i = 2 ∨ i = 3 ∨ 4 ≤ i by omega) with rfl | rfl | rfl | rfl | h4
 ·
  cases hc
 ·
  cases hc
 ·
  cases hc
 ·
  cases hc
 ·
  rw [Array.getElem?_eq_none (by simpa using h4)] at hc; cases hc
theorem Inv.ptrs {w0 w : World} {P : Nat → Prop} {F : World → Prop} {g g2 t : Nat} {x0 x1 x2 x3 y0 y1 y2 y3 : Int} {A : Option Addr} {l : List Nat} (h : Inv w0 P w [blk g t #[.int .i64 x0, .int .i64 x1, .int .i64 x2, .int .i64 x3], blk g2 t #[.int .i64 y0, .int .i64 y1, .int .i64 y2, .int .i64 y3]] F) (hp : ptrsIn A g l w) : Inv w0 P w [blk g t #[.int .i64 x0, .int .i64 x1, .int .i64 x2, .int .i64 x3], blk g2 t #[.int .i64 y0, .int .i64 y1, .int .i64 y2, .int .i64 y3]] (fun W => ptrsIn A g l W ∧ F W) :=
 h.addF _ (fun w' hw i hi => by
  obtain ⟨q, e, hc⟩ := hp i hi
  refine ⟨q, e, hw.cell hc ?_⟩
  rintro ⟨b, hb, hk⟩
  simp only [List.mem_cons, List.not_mem_nil, or_false] at hb
  rcases hb with rfl | rfl
  ·
   obtain rfl : q = g := hk
   exact no_ptr h.blk0 i hc
  ·
   obtain rfl : q = g2 := hk
   exact no_ptr (h.get 1 rfl) i hc)
theorem offs_mem {op : Int} {j : Nat} (h : j ∈ impl_Gate_nums.offs op) : j = 1 ∨ j = 2 ∨ j = 3 := by
 unfold impl_Gate_nums.offs at h
 split at h
 ·
  simp at h; omega
 ·
  split at h
  ·
   simp at h; omega
  ·
   split at h
   ·
    simp at h; omega
   ·
    cases h
def impl_readGate.put (a b c : Int) (o : Nat) (v : Int) : Int × Int × Int := if o = 1 then (v, b, c) else if o = 2 then (a, v, c) else (a, b, v)
def impl_readGate.go (k : Nat) (op : Int) : List Nat → List ByteArray → Int → Int → Int → Option (Int × Int × Int × Int × Bool)
 | [], [], a, b, c => (impl_isGate.f k op a b c 15).bind fun t => some (op, a, b, c, t)
 | o :: os, x :: xs, a, b, c => (match numA x.data.toList with
  | none => some (0, 0, 0, 0, false)
  | some v => impl_readGate.go k op os xs (impl_readGate.put a b c o v).1 (impl_readGate.put a b c o v).2.1 (impl_readGate.put a b c o v).2.2)
 | _, _, _, _, _ => none
def impl_readGate.f (k : Nat) : List ByteArray → Option (Int × Int × Int × Int × Bool)
 | [] => some (0, 0, 0, 0, false)
 | x :: xs => (impl_opWords.f).bind fun nl => (slices_Index_string_string.f k nl x).bind fun i => if (impl_Gate_nums.offs (wrap64 (i + 1))).length = xs.length then impl_readGate.go k (wrap64 (i + 1)) (impl_Gate_nums.offs (wrap64 (i + 1))) xs 0 0 0 else some (0, 0, 0, 0, false)
def impl_readGate.T3 : Bool × List (List Nat × List Nat) := (true, [([], []), ([], []), ([1], [1]), ([2], [2]), ([0, 3, 0], [0, 3]), ([4], [4]), ([5], [5]), ([], []), ([7, 6, 4, 0, 1, 2, 3, 4, 5, 6, 7], [6, 7])])
def impl_readGate.B3 : List Nat := [0, 0, 2, 6, 15, 31, 63, 0, 255]
theorem impl_readGate.tab3 : rtab .any (opsOf Tryd.f22 3) = impl_readGate.T3 := by kernel_rfl
theorem impl_readGate.bits3 : waitsOk impl_readGate.T3.2 impl_readGate.B3 = true := by kernel_rfl
set_option maxHeartbeats 8000000 in
set_option maxRecDepth 100000 in
theorem impl_readGate.nil (q : Option Addr) (c0 : Nat) (w : World) : Calls Tryd.prog 22 #[.slice q 0 c0] w fun e w' => e = .returned (.tuple #[.agg #[.int .i64 0, .int .i64 0, .int .i64 0, .int .i64 0], .bool false]) ∧ Below w.heap.size w w' := by
 have hu30 := Tryd.underlying30
 have HI := am_ (Inv.start w (fun _ => True) (fun _ _ => trivial))
 go_enter Tryd.func22, Tryd.ntmps22
 go_wp2_with (first | ((with_reducible refine gate_dst (N := 2) rfl ?_); refine box_event ?hg (N := 2) ?hd (cs := #[.int .i64 0, .int .i64 0, .int .i64 0, .int .i64 0]) (t := 30) ?hr ?_; (case hd => rfl); (case hg => rfl); (case hr => first | (go_simp; done) | (go_simp; rfl)); intro g2 hg w1 hbox hb; have HI_ := am_ ((HI.out).box hg hbox hb); clear HI; have HI := HI_; clear HI_; clear hb hbox hg) | ((with_reducible refine gate_store (p := 2) (v := (.tmp 13)) (t := 30) rfl ?_); go_must (refine wpList_store_row rfl 30 _ _ rfl g2 (#[.int .i64 0, .int .i64 0, .int .i64 0, .int .i64 0]) rfl (by first | rfl | (go_simp; rfl)) 30 (#[.int .i64 0, .int .i64 0, .int .i64 0, .int .i64 0]) (Inv.blk0 (HI.out)) (by kernel_rfl) (by rfl) (by first | rfl | simp [Value.oneCell']) ?_; have HI_ := am_ (Inv.put0 (HI.out) (#[.int .i64 0, .int .i64 0, .int .i64 0, .int .i64 0])); clear HI; have HI := HI_; clear HI_; generalize World.setRow _ g2 (#[.int .i64 0, .int .i64 0, .int .i64 0, .int .i64 0]) = w13 at HI ⊢)))
 refine bodyPost_ret (results_ct rfl _ _ g2 30 (#[.int .i64 0, .int .i64 0, .int .i64 0, .int .i64 0]) (0, 0) _ rfl (HI.out.blk0) Tryd.underlying30 rfl (by kernel_rfl)) rfl ?_
 exact ⟨rfl, HI.out.below⟩
set_option maxHeartbeats 8000000 in
set_option maxRecDepth 100000 in
theorem impl_readGate.calls (k : Nat) (b0 o0 c0 : Nat) (ws : List ByteArray) (x0 : ByteArray) (xs : List ByteArray) (hws : ws = x0 :: xs) (hcap : ws.length ≤ c0) (hbig : ws.length ≤ 1000000) (hsz : ∀ x ∈ ws, x.size ≤ 281474976710656) (r1 r2 r3 r4 : Int) (r5 : Bool) (w : World) (hw : wordsIn (some ⟨b0, o0, none⟩) ws w) (hg : RG w) (h : impl_readGate.f k ws = some (r1, r2, r3, r4, r5)) :
  Calls Tryd.prog 22 #[.slice (some ⟨b0, o0, none⟩) ws.length c0] w fun e w' => e = .returned (.tuple #[.agg #[.int .i64 r1, .int .i64 r2, .int .i64 r3, .int .i64 r4], .bool r5]) ∧ Below w.heap.size w w' := by
 have hu30 := Tryd.underlying30
 rw [hws] at h
 unfold impl_readGate.f at h
 obtain ⟨nl, hnl, h⟩ := Option.bind_eq_some_iff.mp h
 obtain ⟨ix, hix, h⟩ := Option.bind_eq_some_iff.mp h
 have HNL := am_ hnl
 have HIX := am_ hix
 have H := am_ h
 clear hnl hix h
 have hlen : ws.length = xs.length + 1 := by rw [hws]; rfl
 have HX0 := am_ (show ∀ W, wordsIn (some ⟨b0, o0, none⟩) ws W → W.cell? ⟨b0, o0, none⟩ = some (.string x0) from fun W hW => by
  obtain ⟨b, o, e, hc⟩ := hW 0 (by omega)
  cases e
  rw [Nat.add_zero] at hc
  rw [hc]; simp [hws])
 have HXS := am_ (show ∀ W, wordsIn (some ⟨b0, o0, none⟩) ws W → ∀ j (hj : j < xs.length), W.cell? ⟨b0, o0 + 1 + j, none⟩ = some (.string xs[j]) from fun W hW j hj => by
  obtain ⟨b, o, e, hc⟩ := hW (j + 1) (by omega)
  cases e
  rw [show o0 + 1 + j = o0 + (j + 1) by omega, hc]; simp [hws])
 have HI := am_ (Inv.start w (fun W => wordsIn (some ⟨b0, o0, none⟩) ws W ∧ RG W) (fun W hb => ⟨hw.below hb, hg.below hb⟩))
 have HSZ := am_ hsz
 clear hw hg hsz
 have n0 : ((ws.length : Int) == 0) = false := beq_eq_false_iff_ne.mpr (by omega)
 have n1 : (ws.length == 0) = false := beq_eq_false_iff_ne.mpr (by omega)
 have p1 : (0 : Int) < (ws.length : Int) := by omega
 have p2 : 0 < ws.length := by omega
 have hwn := am_ hws
 clear hws
 go_enter Tryd.func22, Tryd.ntmps22
 go_wp2_with (first | ((with_reducible refine gate_dst (N := 2) rfl ?_); refine box_event ?hg (N := 2) ?hd (cs := #[.int .i64 0, .int .i64 0, .int .i64 0, .int .i64 0]) (t := 30) ?hr ?_; (case hd => rfl); (case hg => rfl); (case hr => first | (go_simp; done) | (go_simp; rfl)); intro g2 hg w1 hbox hb; have HI_ := am_ ((HI.out).box hg hbox hb); clear HI; have HI := HI_; clear HI_; clear hb hbox hg))
 refine start_ (n := 9) (S := fun w' => True) (ds := []) #[false, false, false, false, false, false, false, false, false] (by kernel_rfl) rfl rfl trivial (fun hHeld => ?_)
 refine with_tabW impl_readGate.tab3 impl_readGate.bits3 (fun HT_ HW_ => ?_)
 have HI_ := am_ (HI.out.drew); clear HI; have HI := HI_; clear HI_
 generalize World.drew _ = wd3 at HI ⊢
 refine pure_ (i := 1) (N := some 15) (v := ?_) (a' := ?_) #[false, true, false, false, false, false, false, false, false] rfl rfl (any_of HT_.out (by kernel_rfl)) (fun _ _ _ h => h) (Or.inl ⟨(by rfl), ?_⟩) ?_ ?_
 rotate_left
 ·
  intro w'
  go_simp
  with_reducible rfl
 rotate_left
 ·
  exact ap_
 refine pure_ (i := 2) (N := some 16) (v := ?_) (a' := ?_) #[false, true, true, false, false, false, false, false, false] rfl rfl (any_of HT_.out (by kernel_rfl)) (fun _ _ _ h => h) (Or.inl ⟨(by rfl), ?_⟩) ?_ ?_
 rotate_left
 ·
  intro w'
  go_simp
  with_reducible rfl
 rotate_left
 ·
  exact ap_
 refine inv_at [0, 3, 4, 5, 6, 7, 8] (fun a0_ b a w' => ∃ (XA : Option Addr) (Xc : Nat) (G4 : Nat) (SX : Nat → Prop) (m0_ : Value) (m7_ : Value), a = putSel a0_ b [(0, 14, m0_), (3, 17, .string x0), (4, 18, .int .i64 ix), (5, 19, .int .i64 (wrap64 (ix + 1))), (6, 20, .agg #[.int .i64 (wrap64 (ix + 1)), .int .i64 0, .int .i64 0, .int .i64 0]), (7, 4, m7_)] ∧ (Inv w NoB w' [gif (b 7) (blk G4 30 (cond (b 8) (#[.int .i64 (wrap64 (ix + 1)), .int .i64 0, .int .i64 0, .int .i64 0]) (#[.int .i64 0, .int .i64 0, .int .i64 0, .int .i64 0]))), gif (b 0) (row Kd.string 9 w.heap.size (.slice XA nl.length Xc) nl SX), blk g2 30 #[.int .i64 0, .int .i64 0, .int .i64 0, .int .i64 0]] (fun W => wordsIn (some ⟨b0, o0, none⟩) ws W ∧ RG W)) ∧ (b 0 = true → (m0_ : Value) = .slice XA nl.length Xc) ∧ (b 7 = true → (m7_ : Value) = .pointer (some ⟨G4, 0, none⟩))) HT_.out HW_.out (by kernel_rfl) (by kernel_rfl) ?_ ?_ ?_
 ·
  exact ⟨none, 0, 0, fun _ => False, .bool false, .bool false, (by simp only [putSel, Bool.false_eq_true, if_false]), Inv.off (Inv.off (HI.out)), fun h_ => absurd h_ (by decide), fun h_ => absurd h_ (by decide)⟩
 ·
  skip
  clear HI
  refine steps_cons ?_ ?_
  ·
   rintro b a w' ⟨XA, Xc, G4, SX, m0_, m7_, ha, Q_HI, Q_X0_, Q_X7_⟩ hb_ hon hoff
   refine ⟨_, rfl, fun K hK => ?_⟩
   replace ha := am_ ha
   have HI := am_ Q_HI
   refine goes_ Tryd.func14 (by kernel_rfl) rfl #[] (by rfl) rfl rfl (by first | (simp only [List.map_toArray, List.map_cons, List.map_nil, Act.eval, Array.getD_eq_getD_getElem?, Option.getD_some]; done) | (simp only [List.map_toArray, List.map_cons, List.map_nil, Act.eval, Array.getD_eq_getD_getElem?, Option.getD_some]; rfl)) ?_
   with_reducible refine (impl_opWords.calls nl _ HNL.out).mono ?_
   rintro e wt ⟨v0_, rfl, hR, hb⟩
   obtain ⟨X_n, c_n, ex_⟩ := Kd.R_slice hR
   subst ex_
   refine ⟨_, rfl, ?_⟩
   have HI2 := am_ (Inv.fill true (HI.out.rowPush hb hR) 1 rfl)
   refine hK.out _ _ ⟨X_n, c_n, G4, (fun k => w'.heap.size ≤ k ∧ k < wt.heap.size), (.slice X_n nl.length c_n), m7_, (by rw [ha.out]; exact putSel_upk 0 hb_ rfl rfl rfl), HI2.out, fun _ => rfl, Q_X7_⟩
  refine steps_cons ?_ ?_
  ·
   rintro b a w' ⟨XA, Xc, G4, SX, m0_, m7_, ha, Q_HI, Q_X0_, Q_X7_⟩ hb_ hon hoff
   refine ⟨_, rfl, fun K hK => ?_⟩
   have e16 : a.tmps[16]? = some (.pointer (some ⟨b0, o0, none⟩)) := by rw [ha]; exact (putSel_off rfl).trans rfl
   replace ha := am_ ha
   have HI := am_ Q_HI
   have y_0 : w'.cell? ⟨b0, o0, none⟩ = some (.string x0) := HX0.out w' HI.out.now.1
   refine value_ (w1 := w') (v := .string x0) (by rfl) rfl ?_ ?_
   ·
    go_simp
    (try simp only [i64_w])
    try rfl
   refine hK.out _ _ ⟨XA, Xc, G4, SX, m0_, m7_, (by rw [ha.out]; exact putSel_upk 1 hb_ rfl rfl rfl), Q_HI, Q_X0_, Q_X7_⟩
  refine steps_cons ?_ ?_
  ·
   rintro b a w' ⟨XA, Xc, G4, SX, m0_, m7_, ha, Q_HI, Q_X0_, Q_X7_⟩ hb_ hon hoff
   refine ⟨_, rfl, fun K hK => ?_⟩
   have e14 : a.tmps[14]? = some (m0_) := by rw [ha]; exact putSel_on (e := (0, 14, m0_)) 0 rfl rfl (hon 0 (by kernel_rfl)) rfl
   rw [Q_X0_ (hon 0 (by kernel_rfl))] at e14
   have e17 : a.tmps[17]? = some (.string x0) := by rw [ha]; exact putSel_on (e := (3, 17, .string x0)) 1 rfl rfl (hon 3 (by kernel_rfl)) rfl
   replace ha := am_ ha
   have HI := am_ Q_HI
   refine goes_ Tryd.func34 (by kernel_rfl) rfl #[.slice XA nl.length Xc, .string x0] (by rfl) rfl rfl (by first | (simp only [List.map_toArray, List.map_cons, List.map_nil, Act.eval, Array.getD_eq_getD_getElem?, Option.getD_some, e14, e17]; done) | (simp only [List.map_toArray, List.map_cons, List.map_nil, Act.eval, Array.getD_eq_getD_getElem?, Option.getD_some, e14, e17]; rfl)) ?_
   have hQ_ := Kd.R_reads' (rowR (gifA (HI.out.at_ (gif (b 0) (row Kd.string 9 w.heap.size (.slice XA nl.length Xc) nl SX)) (by repeat (first | exact List.mem_cons_self | apply List.mem_cons_of_mem))) (hon 0 (by kernel_rfl))))
   with_reducible refine (slices_Index_string_string.calls k XA Xc nl x0 ix _ hQ_.2.2 hQ_.2.1 HIX.out).mono ?_
   rintro e wt ⟨rfl, ⟨nd, rfl⟩⟩
   refine ⟨_, rfl, ?_⟩
   have HI2 := am_ (HI.out.drewN nd)
   refine hK.out _ _ ⟨XA, Xc, G4, SX, m0_, m7_, (by rw [ha.out]; exact putSel_upk 2 hb_ rfl rfl rfl), HI2.out, Q_X0_, Q_X7_⟩
  refine steps_cons ?_ ?_
  ·
   rintro b a w' ⟨XA, Xc, G4, SX, m0_, m7_, ha, Q_HI, Q_X0_, Q_X7_⟩ hb_ hon hoff
   refine ⟨_, rfl, fun K hK => ?_⟩
   have e18 : a.tmps[18]? = some (.int .i64 ix) := by rw [ha]; exact putSel_on (e := (4, 18, .int .i64 ix)) 2 rfl rfl (hon 4 (by kernel_rfl)) rfl
   replace ha := am_ ha
   have HI := am_ Q_HI
   refine value_ (w1 := w') (v := .int .i64 (wrap64 (ix + 1))) (by rfl) rfl ?_ ?_
   ·
    go_simp
    (try simp only [i64_w])
    try rfl
   refine hK.out _ _ ⟨XA, Xc, G4, SX, m0_, m7_, (by rw [ha.out]; exact putSel_upk 3 hb_ rfl rfl rfl), Q_HI, Q_X0_, Q_X7_⟩
  refine steps_cons ?_ ?_
  ·
   rintro b a w' ⟨XA, Xc, G4, SX, m0_, m7_, ha, Q_HI, Q_X0_, Q_X7_⟩ hb_ hon hoff
   refine ⟨_, rfl, fun K hK => ?_⟩
   have e19 : a.tmps[19]? = some (.int .i64 (wrap64 (ix + 1))) := by rw [ha]; exact putSel_on (e := (5, 19, .int .i64 (wrap64 (ix + 1)))) 3 rfl rfl (hon 5 (by kernel_rfl)) rfl
   replace ha := am_ ha
   have HI := am_ Q_HI
   refine value_ (w1 := w') (v := .agg #[.int .i64 (wrap64 (ix + 1)), .int .i64 0, .int .i64 0, .int .i64 0]) (by rfl) rfl ?_ ?_
   ·
    go_simp
    (try simp only [i64_w])
    try rfl
   refine hK.out _ _ ⟨XA, Xc, G4, SX, m0_, m7_, (by rw [ha.out]; exact putSel_upk 4 hb_ rfl rfl rfl), Q_HI, Q_X0_, Q_X7_⟩
  refine steps_cons ?_ ?_
  ·
   rintro b a w' ⟨XA, Xc, G4, SX, m0_, m7_, ha, Q_HI, Q_X0_, Q_X7_⟩ hb_ hon hoff
   refine ⟨_, rfl, fun K hK => ?_⟩
   replace ha := am_ ha
   have HI := am_ Q_HI
   refine value_ (w1 := w'.alloc (.cells #[.int .i64 0, .int .i64 0, .int .i64 0, .int .i64 0] 30)) (v := .pointer (some ⟨w'.heap.size, 0, none⟩)) (by rfl) rfl ?_ ?_
   ·
    first | (go_simp; done) | (go_simp; rfl)
   have HI2 := am_ (Inv.fill true (Inv.cellsEq (HI.out.allocBox 30 (#[.int .i64 0, .int .i64 0, .int .i64 0, .int .i64 0])) (cs' := cond (b 8) (#[.int .i64 (wrap64 (ix + 1)), .int .i64 0, .int .i64 0, .int .i64 0]) (#[.int .i64 0, .int .i64 0, .int .i64 0, .int .i64 0])) (by rw [hoff 8 (by kernel_rfl)]; rfl)) 0 rfl)
   refine hK.out _ _ ⟨XA, Xc, w'.heap.size, SX, m0_, (.pointer (some ⟨w'.heap.size, 0, none⟩)), (by rw [ha.out]; exact putSel_upk 5 hb_ rfl rfl rfl), HI2.out, Q_X0_, fun _ => rfl⟩
  refine steps_cons ?_ ?_
  ·
   rintro b a w' ⟨XA, Xc, G4, SX, m0_, m7_, ha, Q_HI, Q_X0_, Q_X7_⟩ hb_ hon hoff
   refine ⟨_, rfl, fun K hK => ?_⟩
   have e4 : a.tmps[4]? = some (m7_) := by rw [ha]; exact putSel_on (e := (7, 4, m7_)) 5 rfl rfl (hon 7 (by kernel_rfl)) rfl
   rw [Q_X7_ (hon 7 (by kernel_rfl))] at e4
   have e20 : a.tmps[20]? = some (.agg #[.int .i64 (wrap64 (ix + 1)), .int .i64 0, .int .i64 0, .int .i64 0]) := by rw [ha]; exact putSel_on (e := (6, 20, .agg #[.int .i64 (wrap64 (ix + 1)), .int .i64 0, .int .i64 0, .int .i64 0])) 4 rfl rfl (hon 6 (by kernel_rfl)) rfl
   replace ha := am_ ha
   have HI := am_ Q_HI
   rw [if_pos (by rfl)]
   have HI3 := am_ (Inv.cellsEq (Inv.take HI.out 0 rfl (hon 7 (by kernel_rfl))) (cs' := #[.int .i64 0, .int .i64 0, .int .i64 0, .int .i64 0]) (by rw [hb_]; rfl))
   refine wp_store_row 30 _ _ rfl G4 (#[.int .i64 (wrap64 (ix + 1)), .int .i64 0, .int .i64 0, .int .i64 0]) (eval_of e4) (eval_of e20) 30 (#[.int .i64 0, .int .i64 0, .int .i64 0, .int .i64 0]) HI3.out.blk0 (by kernel_rfl) rfl (by first | rfl | simp [Value.oneCell']) ?_
   have HI2 := am_ (Inv.fill (b 7) (HI3.out.put0 (#[.int .i64 (wrap64 (ix + 1)), .int .i64 0, .int .i64 0, .int .i64 0])) 0 rfl)
   refine hK.out _ _ ⟨XA, Xc, G4, SX, m0_, m7_, (by rw [ha.out]; exact putSel_none (v := undef) rfl), HI2.out, Q_X0_, Q_X7_⟩
  exact steps_nil
 rintro b a w' hall ⟨XA, Xc, G4, SX, m0_, m7_, ha, Q_HI, Q_X0_, Q_X7_⟩
 clear HI
 have hb0_ := hall 0 (by kernel_rfl)
 have hb3_ := hall 3 (by kernel_rfl)
 have hb4_ := hall 4 (by kernel_rfl)
 have hb5_ := hall 5 (by kernel_rfl)
 have hb6_ := hall 6 (by kernel_rfl)
 have hb7_ := hall 7 (by kernel_rfl)
 have hb8_ := hall 8 (by kernel_rfl)
 subst ha
 obtain rfl := Q_X0_ hb0_
 obtain rfl := Q_X7_ hb7_
 simp only [putSel, hb0_, hb3_, hb4_, hb5_, hb6_, hb7_, hb8_, if_true, Act.put, List.setIfInBounds_toArray, List.set_cons_zero, List.set_cons_succ]
 have HI := am_ Q_HI
 have HI_ := am_ (Inv.take HI.out 0 rfl hb7_); clear HI; have HI := HI_; clear HI_
 have HI_ := am_ (Inv.cellsEq HI.out (cs' := #[.int .i64 (wrap64 (ix + 1)), .int .i64 0, .int .i64 0, .int .i64 0]) (by rw [hb8_]; rfl)); clear HI; have HI := HI_; clear HI_
 have HI_ := am_ (HI.out.swap.drop); clear HI; have HI := HI_; clear HI_
 have HI_ := am_ (HI.out.swap.drop); clear HI; have HI := HI_; clear HI_
 clear Q_HI
 clear hall hb0_ hb3_ hb4_ hb5_ hb6_ hb7_ hb8_
 generalize wrap64 (ix + 1) = op0 at H HI ⊢
 generalize hps : impl_Gate_nums.offs op0 = ps at H
 have HPS := am_ hps
 have HOFF := am_ (show ∀ j ∈ ps, j = 1 ∨ j = 2 ∨ j = 3 from fun j hj => offs_mem (op := op0) (hps ▸ hj))
 clear hps
 by_cases hl : ps.length = xs.length
 ·
  have HR := am_ (show impl_readGate.go k op0 (ps.drop 0) (xs.drop 0) 0 0 0 = some (r1, r2, r3, r4, r5) by have := H.out; rw [if_pos hl] at this; exact this)
  clear H
  have m1 : ((ps.length : Int) != (xs.length : Int)) = false := by rw [hl]; simp
  have wl : wrap64 (xs.length : Int) = (xs.length : Int) := by unfold wrap64; omega
  have m2 : xs.length + 1 ≤ c0 := by omega
  have m3 : 1 ≤ c0 := by omega
  have HBG := am_ (show xs.length ≤ 1000000 by omega)
  clear hbig
  go_wp2_with ((go_at_call 15; (with_reducible refine (impl_Gate_nums.calls G4 op0 0 0 0 _ HI.out.blk0).mono ?_); rintro e w21 ⟨A, cN, rfl, hcells, hb⟩; rw [HPS.out] at hcells ⊢; have HI_ := am_ (Inv.ptrs (HI.out.grow hb) hcells); clear HI; have HI := HI_; clear HI_; clear hcells hb))
  ·
   go_loopg [32] xs.length (fun kq v32 w' => ∃ (j : Nat) (a b c : Int), v32 = .int .i64 j ∧ Aside0 (j + kq = xs.length) ∧ Aside0 (impl_readGate.go k op0 (ps.drop j) (xs.drop j) a b c = some (r1, r2, r3, r4, r5)) ∧ Aside0 (Inv w NoB w' [blk G4 30 #[.int .i64 op0, .int .i64 a, .int .i64 b, .int .i64 c], blk g2 30 #[.int .i64 0, .int .i64 0, .int .i64 0, .int .i64 0]] (fun W => ptrsIn A G4 ps W ∧ wordsIn (some ⟨b0, o0, none⟩) ws W ∧ RG W)))
   case atStart => exact ⟨0, 0, 0, 0, rfl, ⟨(by omega)⟩, HR, HI⟩
   case round =>
    clear HR HI
    obtain ⟨j, a, b, c, rfl, HJ, HR, HI⟩ := hrel
    have hj := HJ.out
    cases gk with
    | zero =>
     have c1 : decide ((j : Int) < (xs.length : Int)) = false := decide_eq_false (by omega)
     have c2 : decide (j < xs.length) = false := decide_eq_false (by omega)
     have hR := HR.out
     rw [List.drop_eq_nil_of_le (by omega), List.drop_eq_nil_of_le (by omega)] at hR
     obtain ⟨t5, ht5, hR⟩ := Option.bind_eq_some_iff.mp hR
     have HT5 := am_ ht5
     simp only [Option.some.injEq, Prod.mk.injEq] at hR
     obtain ⟨rfl, rfl, rfl, rfl, rfl⟩ := hR
     clear HR HJ hj ht5
     go_wp2
     refine start_ (n := 5) (S := fun w' => w'.cell? ⟨G4, 0, none⟩ = some (.int .i64 op0) ∧ w'.cell? ⟨G4, 1, none⟩ = some (.int .i64 a) ∧ w'.cell? ⟨G4, 2, none⟩ = some (.int .i64 b) ∧ w'.cell? ⟨G4, 3, none⟩ = some (.int .i64 c)) (ds := []) #[false, false, false, false, false] (by kernel_rfl) rfl rfl ⟨(blk_cell HI.out.drew.blk0 0).trans rfl, (blk_cell HI.out.drew.blk0 1).trans rfl, (blk_cell HI.out.drew.blk0 2).trans rfl, (blk_cell HI.out.drew.blk0 3).trans rfl⟩ (fun hHeld => ?_)
     have HI_ := am_ (HI.out.drew); clear HI; have HI := HI_; clear HI_
     generalize World.drew _ = wd15 at HI hHeld ⊢
     refine take_ (i := 0) (N := some 52) (v := ?_) (a' := ?_) #[true, false, false, false, false] rfl rfl (by kernel_rfl) (fun _ _ _ h => h) (Or.inl ⟨(by rfl), ?_⟩) hHeld ?_ ?_
     rotate_left
     ·
      rintro w' ⟨s0, s1, s2, s3⟩
      go_simp
      with_reducible rfl
     rotate_left
     ·
      exact ap_
     refine take_ (i := 1) (N := some 53) (v := ?_) (a' := ?_) #[true, true, false, false, false] rfl rfl (by kernel_rfl) (fun _ _ _ h => h) (Or.inl ⟨(by rfl), ?_⟩) hHeld ?_ ?_
     rotate_left
     ·
      rintro w' ⟨s0, s1, s2, s3⟩
      go_simp
      with_reducible rfl
     rotate_left
     ·
      exact ap_
     refine one_ (i := 2) (N := some 54) #[true, true, true, false, false] rfl rfl (by kernel_rfl) (by decide) (fun K hK => ?_)
     refine goes_ Tryd.func13 (by kernel_rfl) rfl #[.agg #[.int .i64 op0, .int .i64 a, .int .i64 b, .int .i64 c], .int .i64 15] (by rfl) rfl rfl (by (try simp only [List.map_toArray, List.map_cons, List.map_nil]); first | done | rfl) ?_
     with_reducible refine (impl_isGate.calls k op0 a b c 15 t5 _ HT5.out).mono ?_
     rintro e w54 ⟨rfl, hb⟩
     have HI_ := am_ (HI.out.grow hb); clear HI; have HI := HI_; clear HI_
     clear hb
     refine ⟨_, rfl, ?_⟩
     refine hK.out _ _ ⟨(blk_cell HI.out.blk0 0).trans rfl, (blk_cell HI.out.blk0 1).trans rfl, (blk_cell HI.out.blk0 2).trans rfl, (blk_cell HI.out.blk0 3).trans rfl⟩ (fun hHeld => ?_)
     clear hK K
     refine norm_ (a' := ?_) ?_ ?_
     rotate_left
     ·
      show Act.put _ (some 54) _ = _
      exact ap_
     refine one_ (i := 3) (N := none) #[true, true, true, true, false] rfl rfl (by kernel_rfl) (by decide) (fun K hK => ?_)
     rw [if_pos (by rfl)]
     refine wp_store_row 30 _ _ rfl g2 (#[.int .i64 op0, .int .i64 a, .int .i64 b, .int .i64 c]) rfl (by first | rfl | (go_simp; rfl)) 30 (#[.int .i64 0, .int .i64 0, .int .i64 0, .int .i64 0]) HI.out.swap.blk0 (by kernel_rfl) rfl (by first | rfl | simp [Value.oneCell']) ?_
     have HI_ := am_ ((HI.out.swap.put0 (#[.int .i64 op0, .int .i64 a, .int .i64 b, .int .i64 c])).swap); clear HI; have HI := HI_; clear HI_
     generalize World.setRow _ g2 (#[.int .i64 op0, .int .i64 a, .int .i64 b, .int .i64 c]) = w55 at HI ⊢
     refine hK.out _ _ ⟨(blk_cell HI.out.blk0 0).trans rfl, (blk_cell HI.out.blk0 1).trans rfl, (blk_cell HI.out.blk0 2).trans rfl, (blk_cell HI.out.blk0 3).trans rfl⟩ (fun hHeld => ?_)
     clear hK K
     refine norm_ (a' := ?_) ?_ ?_
     rotate_left
     ·
      show Act.put _ (none) _ = _
      exact ap_
     refine pure_ (i := 4) (N := some 3) (v := ?_) (a' := ?_) #[true, true, true, true, true] rfl rfl (by kernel_rfl) (fun _ _ _ h => h) (Or.inl ⟨(by rfl), ?_⟩) ?_ ?_
     rotate_left
     ·
      intro w'
      go_simp
      with_reducible rfl
     rotate_left
     ·
      exact ap_
     refine done_ (by kernel_rfl) ?_
     try go_wp2
     refine bodyPost_ret (results_ct rfl _ _ g2 30 (#[.int .i64 op0, .int .i64 a, .int .i64 b, .int .i64 c]) (0, 0) _ rfl (HI.out.swap.blk0) Tryd.underlying30 rfl (by kernel_rfl)) rfl ?_
     exact ⟨rfl, HI.out.below⟩
    | succ k1 =>
     exfalso; omega
  ·
   go_loopg [32] xs.length (fun kq v32 w' => ∃ (j : Nat) (a b c : Int), v32 = .int .i64 j ∧ Aside0 (j + kq = xs.length) ∧ Aside0 (impl_readGate.go k op0 (ps.drop j) (xs.drop j) a b c = some (r1, r2, r3, r4, r5)) ∧ Aside0 (Inv w NoB w' [blk G4 30 #[.int .i64 op0, .int .i64 a, .int .i64 b, .int .i64 c], blk g2 30 #[.int .i64 0, .int .i64 0, .int .i64 0, .int .i64 0]] (fun W => ptrsIn A G4 ps W ∧ wordsIn (some ⟨b0, o0, none⟩) ws W ∧ RG W)))
   case atStart => exact ⟨0, 0, 0, 0, rfl, ⟨(by omega)⟩, HR, HI⟩
   case round =>
    clear HR HI
    obtain ⟨j, a, b, c, rfl, HJ, HR, HI⟩ := hrel
    have hj := HJ.out
    cases gk with
    | zero =>
     have c1 : decide ((j : Int) < (xs.length : Int)) = false := decide_eq_false (by omega)
     have c2 : decide (j < xs.length) = false := decide_eq_false (by omega)
     have hR := HR.out
     rw [List.drop_eq_nil_of_le (by omega), List.drop_eq_nil_of_le (by omega)] at hR
     obtain ⟨t5, ht5, hR⟩ := Option.bind_eq_some_iff.mp hR
     have HT5 := am_ ht5
     simp only [Option.some.injEq, Prod.mk.injEq] at hR
     obtain ⟨rfl, rfl, rfl, rfl, rfl⟩ := hR
     clear HR HJ hj ht5
     go_wp2
     refine start_ (n := 5) (S := fun w' => w'.cell? ⟨G4, 0, none⟩ = some (.int .i64 op0) ∧ w'.cell? ⟨G4, 1, none⟩ = some (.int .i64 a) ∧ w'.cell? ⟨G4, 2, none⟩ = some (.int .i64 b) ∧ w'.cell? ⟨G4, 3, none⟩ = some (.int .i64 c)) (ds := []) #[false, false, false, false, false] (by kernel_rfl) rfl rfl ⟨(blk_cell HI.out.drew.blk0 0).trans rfl, (blk_cell HI.out.drew.blk0 1).trans rfl, (blk_cell HI.out.drew.blk0 2).trans rfl, (blk_cell HI.out.drew.blk0 3).trans rfl⟩ (fun hHeld => ?_)
     have HI_ := am_ (HI.out.drew); clear HI; have HI := HI_; clear HI_
     generalize World.drew _ = wd15 at HI hHeld ⊢
     refine take_ (i := 0) (N := some 52) (v := ?_) (a' := ?_) #[true, false, false, false, false] rfl rfl (by kernel_rfl) (fun _ _ _ h => h) (Or.inl ⟨(by rfl), ?_⟩) hHeld ?_ ?_
     rotate_left
     ·
      rintro w' ⟨s0, s1, s2, s3⟩
      go_simp
      with_reducible rfl
     rotate_left
     ·
      exact ap_
     refine take_ (i := 1) (N := some 53) (v := ?_) (a' := ?_) #[true, true, false, false, false] rfl rfl (by kernel_rfl) (fun _ _ _ h => h) (Or.inl ⟨(by rfl), ?_⟩) hHeld ?_ ?_
     rotate_left
     ·
      rintro w' ⟨s0, s1, s2, s3⟩
      go_simp
      with_reducible rfl
     rotate_left
     ·
      exact ap_
     refine one_ (i := 2) (N := some 54) #[true, true, true, false, false] rfl rfl (by kernel_rfl) (by decide) (fun K hK => ?_)
     refine goes_ Tryd.func13 (by kernel_rfl) rfl #[.agg #[.int .i64 op0, .int .i64 a, .int .i64 b, .int .i64 c], .int .i64 15] (by rfl) rfl rfl (by (try simp only [List.map_toArray, List.map_cons, List.map_nil]); first | done | rfl) ?_
     with_reducible refine (impl_isGate.calls k op0 a b c 15 t5 _ HT5.out).mono ?_
     rintro e w54 ⟨rfl, hb⟩
     have HI_ := am_ (HI.out.grow hb); clear HI; have HI := HI_; clear HI_
     clear hb
     refine ⟨_, rfl, ?_⟩
     refine hK.out _ _ ⟨(blk_cell HI.out.blk0 0).trans rfl, (blk_cell HI.out.blk0 1).trans rfl, (blk_cell HI.out.blk0 2).trans rfl, (blk_cell HI.out.blk0 3).trans rfl⟩ (fun hHeld => ?_)
     clear hK K
     refine norm_ (a' := ?_) ?_ ?_
     rotate_left
     ·
      show Act.put _ (some 54) _ = _
      exact ap_
     refine one_ (i := 3) (N := none) #[true, true, true, true, false] rfl rfl (by kernel_rfl) (by decide) (fun K hK => ?_)
     rw [if_pos (by rfl)]
     refine wp_store_row 30 _ _ rfl g2 (#[.int .i64 op0, .int .i64 a, .int .i64 b, .int .i64 c]) rfl (by first | rfl | (go_simp; rfl)) 30 (#[.int .i64 0, .int .i64 0, .int .i64 0, .int .i64 0]) HI.out.swap.blk0 (by kernel_rfl) rfl (by first | rfl | simp [Value.oneCell']) ?_
     have HI_ := am_ ((HI.out.swap.put0 (#[.int .i64 op0, .int .i64 a, .int .i64 b, .int .i64 c])).swap); clear HI; have HI := HI_; clear HI_
     generalize World.setRow _ g2 (#[.int .i64 op0, .int .i64 a, .int .i64 b, .int .i64 c]) = w55 at HI ⊢
     refine hK.out _ _ ⟨(blk_cell HI.out.blk0 0).trans rfl, (blk_cell HI.out.blk0 1).trans rfl, (blk_cell HI.out.blk0 2).trans rfl, (blk_cell HI.out.blk0 3).trans rfl⟩ (fun hHeld => ?_)
     clear hK K
     refine norm_ (a' := ?_) ?_ ?_
     rotate_left
     ·
      show Act.put _ (none) _ = _
      exact ap_
     refine pure_ (i := 4) (N := some 3) (v := ?_) (a' := ?_) #[true, true, true, true, true] rfl rfl (by kernel_rfl) (fun _ _ _ h => h) (Or.inl ⟨(by rfl), ?_⟩) ?_ ?_
     rotate_left
     ·
      intro w'
      go_simp
      with_reducible rfl
     rotate_left
     ·
      exact ap_
     refine done_ (by kernel_rfl) ?_
     try go_wp2
     refine bodyPost_ret (results_ct rfl _ _ g2 30 (#[.int .i64 op0, .int .i64 a, .int .i64 b, .int .i64 c]) (0, 0) _ rfl (HI.out.swap.blk0) Tryd.underlying30 rfl (by kernel_rfl)) rfl ?_
     exact ⟨rfl, HI.out.below⟩
    | succ k1 =>
     have hjl : j < xs.length := by omega
     have hjp : j < ps.length := by omega
     have c1 : decide ((j : Int) < (xs.length : Int)) = true := decide_eq_true (by omega)
     have c2 : decide (j < xs.length) = true := decide_eq_true hjl
     have p5 : 0 ≤ (j : Int) := by omega
     have q5 : (j : Int) < (xs.length : Int) := by omega
     have hx := HXS.out _ HI.out.now.2.1 j hjl
     obtain ⟨qA, eA, hp⟩ := HI.out.now.1 j hjp
     subst eA
     have hR := HR.out
     rw [List.drop_eq_getElem_cons hjp, List.drop_eq_getElem_cons hjl] at hR
     have hsx : xs[j].size ≤ 281474976710656 := HSZ.out _ (by rw [hwn.out]; exact List.mem_cons_of_mem _ (List.getElem_mem hjl))
     generalize xs[j] = x at hx hR hsx
     have ho := HOFF.out _ (List.getElem_mem hjp)
     clear HR hp
     unfold impl_readGate.go at hR
     have HSX := am_ hsx
     clear hsx
     cases hnum : numA x.data.toList with
     | none =>
      rw [hnum] at hR
      simp only [Option.some.injEq, Prod.mk.injEq] at hR
      obtain ⟨rfl, rfl, rfl, rfl, rfl⟩ := hR
      have HRN := am_ (show ∀ W, RG W → Calls Tryd.prog 35 #[.string x] W fun e w' => (∃ n, e = .returned (.tuple #[.int .i64 n, .bool false])) ∧ Below W.heap.size W w' from fun W hW => (impl_readNumber.calls x W HSX.out hW).mono (fun e w' ⟨⟨n, he, _⟩, hb⟩ => ⟨⟨n, (by rw [he, hnum]; rfl)⟩, hb⟩))
      clear hnum ho
      go_wp2_with (first | (go_at_call 35; refine (HRN.out _ HI.out.now.2.2).mono ?_; rintro e w39 ⟨⟨n, rfl⟩, hb⟩; have HI_ := am_ (HI.out.grow hb); clear HI; have HI := HI_; clear HI_; clear hb) | ((with_reducible refine gate_store (p := 2) (v := (.tmp 44)) (t := 30) rfl ?_); go_must (refine wpList_store_row rfl 30 _ _ rfl g2 (#[.int .i64 0, .int .i64 0, .int .i64 0, .int .i64 0]) rfl (by first | rfl | (go_simp; rfl)) 30 (#[.int .i64 0, .int .i64 0, .int .i64 0, .int .i64 0]) (Inv.blk0 (HI.out.swap)) (by kernel_rfl) (by rfl) (by first | rfl | simp [Value.oneCell']) ?_; have HI_ := am_ (Inv.put0 (HI.out.swap) (#[.int .i64 0, .int .i64 0, .int .i64 0, .int .i64 0])); clear HI; have HI := HI_; clear HI_; generalize World.setRow _ g2 (#[.int .i64 0, .int .i64 0, .int .i64 0, .int .i64 0]) = w44 at HI ⊢)))
      refine bodyPost_ret (results_ct rfl _ _ g2 30 (#[.int .i64 0, .int .i64 0, .int .i64 0, .int .i64 0]) (0, 0) _ rfl (HI.out.blk0) Tryd.underlying30 rfl (by kernel_rfl)) rfl ?_
      exact ⟨rfl, HI.out.below⟩
     | some v =>
      rw [hnum] at hR
      have HRN := am_ (show ∀ W, RG W → Calls Tryd.prog 35 #[.string x] W fun e w' => e = .returned (.tuple #[.int .i64 v, .bool true]) ∧ Below W.heap.size W w' from fun W hW => (impl_readNumber.calls x W HSX.out hW).mono (fun e w' ⟨⟨n, he, hv⟩, hb⟩ => ⟨(by rw [he, hnum, hv v hnum]; rfl), hb⟩))
      clear hnum
      rcases ho with ho | ho | ho
      ·
       rw [ho] at hR
       have HR := am_ (show impl_readGate.go k op0 (ps.drop (j + 1)) (xs.drop (j + 1)) v b c = some (r1, r2, r3, r4, r5) from hR)
       have HO := am_ ho
       clear hR ho
       go_wp2_with (go_at_call 35; refine (HRN.out _ HI.out.now.2.2).mono ?_; rintro e w39 ⟨rfl, hb⟩; have HI_ := am_ (HI.out.grow hb); clear HI; have HI := HI_; clear HI_; clear hb; obtain ⟨qB, eB, hp2⟩ := HI.out.now.1 j hjp; rw [HO.out] at hp2; cases eB; have hc4 : w39.cell? ⟨G4, 1, none⟩ = some (.int .i64 a) := (blk_cell HI.out.blk0 1).trans rfl; have hf4 := blk_frozen HI.out.blk0 1)
       go_roundg k1
       case measure => omega
       case rel =>
        have hB := HBG.out
        have wj : wrap64 ((j : Int) + 1) = ((j + 1 : Nat) : Int) := by unfold wrap64; omega
        exact ⟨j + 1, v, b, c, by first | rfl | rw [wj], ⟨(by have := HJ.out; omega)⟩, HR, ⟨Inv.cellsEq (HI.out.set0 1 (.int .i64 v)) rfl⟩⟩
      ·
       rw [ho] at hR
       have HR := am_ (show impl_readGate.go k op0 (ps.drop (j + 1)) (xs.drop (j + 1)) a v c = some (r1, r2, r3, r4, r5) from hR)
       have HO := am_ ho
       clear hR ho
       go_wp2_with (go_at_call 35; refine (HRN.out _ HI.out.now.2.2).mono ?_; rintro e w39 ⟨rfl, hb⟩; have HI_ := am_ (HI.out.grow hb); clear HI; have HI := HI_; clear HI_; clear hb; obtain ⟨qB, eB, hp2⟩ := HI.out.now.1 j hjp; rw [HO.out] at hp2; cases eB; have hc4 : w39.cell? ⟨G4, 2, none⟩ = some (.int .i64 b) := (blk_cell HI.out.blk0 2).trans rfl; have hf4 := blk_frozen HI.out.blk0 2)
       go_roundg k1
       case measure => omega
       case rel =>
        have hB := HBG.out
        have wj : wrap64 ((j : Int) + 1) = ((j + 1 : Nat) : Int) := by unfold wrap64; omega
        exact ⟨j + 1, a, v, c, by first | rfl | rw [wj], ⟨(by have := HJ.out; omega)⟩, HR, ⟨Inv.cellsEq (HI.out.set0 2 (.int .i64 v)) rfl⟩⟩
      ·
       rw [ho] at hR
       have HR := am_ (show impl_readGate.go k op0 (ps.drop (j + 1)) (xs.drop (j + 1)) a b v = some (r1, r2, r3, r4, r5) from hR)
       have HO := am_ ho
       clear hR ho
       go_wp2_with (go_at_call 35; refine (HRN.out _ HI.out.now.2.2).mono ?_; rintro e w39 ⟨rfl, hb⟩; have HI_ := am_ (HI.out.grow hb); clear HI; have HI := HI_; clear HI_; clear hb; obtain ⟨qB, eB, hp2⟩ := HI.out.now.1 j hjp; rw [HO.out] at hp2; cases eB; have hc4 : w39.cell? ⟨G4, 3, none⟩ = some (.int .i64 c) := (blk_cell HI.out.blk0 3).trans rfl; have hf4 := blk_frozen HI.out.blk0 3)
       go_roundg k1
       case measure => omega
       case rel =>
        have hB := HBG.out
        have wj : wrap64 ((j : Int) + 1) = ((j + 1 : Nat) : Int) := by unfold wrap64; omega
        exact ⟨j + 1, a, b, v, by first | rfl | rw [wj], ⟨(by have := HJ.out; omega)⟩, HR, ⟨Inv.cellsEq (HI.out.set0 3 (.int .i64 v)) rfl⟩⟩
 ·
  have HR := H.out
  rw [if_neg hl] at HR
  clear H
  have m1 : ((ps.length : Int) != (xs.length : Int)) = true := by simp; omega
  simp only [Option.some.injEq, Prod.mk.injEq] at HR
  obtain ⟨rfl, rfl, rfl, rfl, rfl⟩ := HR
  go_wp2_with (first | (go_at_call 15; (with_reducible refine (impl_Gate_nums.calls G4 op0 0 0 0 _ HI.out.blk0).mono ?_); rintro e w21 ⟨A, cN, rfl, hcells, hb⟩; rw [HPS.out] at hcells ⊢; have HI_ := am_ (Inv.ptrs (HI.out.grow hb) hcells); clear HI; have HI := HI_; clear HI_; clear hcells hb) | ((with_reducible refine gate_store (p := 2) (v := (.tmp 28)) (t := 30) rfl ?_); go_must (refine wpList_store_row rfl 30 _ _ rfl g2 (#[.int .i64 0, .int .i64 0, .int .i64 0, .int .i64 0]) rfl (by first | rfl | (go_simp; rfl)) 30 (#[.int .i64 0, .int .i64 0, .int .i64 0, .int .i64 0]) (Inv.blk0 (HI.out.swap)) (by kernel_rfl) (by rfl) (by first | rfl | simp [Value.oneCell']) ?_; have HI_ := am_ (Inv.put0 (HI.out.swap) (#[.int .i64 0, .int .i64 0, .int .i64 0, .int .i64 0])); clear HI; have HI := HI_; clear HI_; generalize World.setRow _ g2 (#[.int .i64 0, .int .i64 0, .int .i64 0, .int .i64 0]) = w28 at HI ⊢)))
  refine bodyPost_ret (results_ct rfl _ _ g2 30 (#[.int .i64 0, .int .i64 0, .int .i64 0, .int .i64 0]) (0, 0) _ rfl (HI.out.blk0) Tryd.underlying30 rfl (by kernel_rfl)) rfl ?_
  exact ⟨rfl, HI.out.below⟩
end Go.Proofs.YtokljkneflejdaaDoor.PT
end
section
/- What wordsOf returns: the runs of bytes that are not blanks. -/
namespace Go.Proofs.YtokljkneflejdaaDoor.PT
open Go Go.RowKit Go.Lib Go.Proofs.YtokljkneflejdaaDoorW.PrintWords Go.Proofs.YtokljkneflejdaaDoorW.PrintLast Go.Proofs.YtokljkneflejdaaDoorW.PrintMore
set_option linter.unusedVariables false
set_option linter.unusedSimpArgs false
def piecesB (t : ByteArray) : List ByteArray := splitB ⟨#[32]⟩ 0 (countB t ⟨#[32]⟩) t
def emptyB (x : ByteArray) : Bool := x.toList.isEmpty
def wordsB (t : ByteArray) : List ByteArray := (piecesB t).filter fun x => !emptyB x
theorem pieces_size (t : ByteArray) : (piecesB t).toArray.size = countB t ⟨#[32]⟩ + 1 := by
 rw [List.size_toArray]
 exact splitB_all ⟨#[32]⟩ (by decide) 0 _ t rfl
theorem empty_gives (W : World) (x : ByteArray) : FnGives Tryd.prog 38 #[] #[.string x] (.bool (emptyB x)) W := by
 unfold FnGives
 go_enter Tryd.func38, Tryd.ntmps38
 go_wp2
 all_goals (go_ret; exact ⟨rfl, 0, rfl⟩)
set_option maxHeartbeats 4000000 in
set_option maxRecDepth 100000 in
theorem impl_wordsOf.calls (t : ByteArray) (w : World) (hs : t.size < 4294967281) (hg : RG w) : Calls Tryd.prog 23 #[.string t] w fun e w' => ∃ q c, e = .returned (.slice q (wordsB t).length c) ∧ (wordsB t).length ≤ c ∧ wordsIn q (wordsB t) w' ∧ Below w.heap.size w w' := by
 obtain ⟨m, hm⟩ := hg.max
 have hsp := Tryd.strings_Split t ⟨#[32]⟩ m w hs hm (by decide)
 have hz := pieces_size t
 have eg : ∀ args w, (callFunc 38 args).run Tryd.prog w = .ok (.enter 38 args) w := _root_.Go.Proofs.enters_of Tryd.func38 (by kernel_rfl) rfl
 have hsz : (piecesB t).toArray.size ≤ 9223372036854775807 := by
  rw [hz]
  have := countB_le ⟨#[32]⟩ (by decide) t.size t (Nat.le_refl _)
  omega
 obtain ⟨ob, hob⟩ : ∃ ob : Obj, ob = .cells ((piecesB t).map Value.string).toArray 9 := ⟨_, rfl⟩
 have hH : Sort.Holds Value.string (w.alloc ob) w.heap.size 0 (piecesB t).toArray := fun j hj => by
  subst hob
  have hj' : j < (piecesB t).length := by simpa using hj
  have e : (piecesB t).toArray[j]! = (piecesB t)[j] := by rw [getElem!_pos _ j hj]; simp
  rw [e]
  constructor
  ·
   rw [Nat.zero_add, World.cell?_alloc_new]; simp [hj']
  ·
   exact World.frozen?_alloc_new _ _ _ _
 have hcon := Tryd.slices_DeleteFunc Value.string (fun _ => rfl) emptyB 38 #[] eg ByteArray.empty Tryd.zeroValue9 w.heap.size 0 (countB t ⟨#[32]⟩ + 1) (piecesB t).toArray (w.alloc ob) (fun W x _ => empty_gives W x) (fun n os dk x _ => empty_gives _ x) hH hsz (by rw [hz]; exact Nat.le_refl _)
 rw [hz] at hcon
 rw [show ((piecesB t).toArray.toList.filter fun x => !emptyB x) = wordsB t from rfl] at hcon
 have hle : (wordsB t).length ≤ countB t ⟨#[32]⟩ + 1 := by rw [← hz, List.size_toArray]; exact List.length_filter_le _ _
 have hsp2 := hsp.mono (R' := fun e w' => e = .returned (.slice (some ⟨w.heap.size, 0, none⟩) (countB t ⟨#[32]⟩ + 1) (countB t ⟨#[32]⟩ + 1)) ∧ w' = w.alloc ob) (fun e w' h => by subst hob; exact h)
 generalize hws : wordsB t = ws at hcon hle ⊢
 generalize countB t ⟨#[32]⟩ + 1 = n at hcon hsp2 hle hz
 have HC := am_ hcon
 have HP := am_ hsp2
 have HH := am_ hH
 have HZ := am_ hz
 clear hcon hsp hsp2 hm hH hz hob hws hsz
 go_enter Tryd.func23, Tryd.ntmps23
 go_wp2_with (first | (go_at_call 37; refine HP.out.mono ?_; rintro e w1 ⟨rfl, rfl⟩) | (go_at_call 36; refine HC.out.mono ?_; rintro e w2 ⟨rfl, q, rfl⟩))
 go_ret
 refine ⟨some ⟨w.heap.size, 0, none⟩, n, rfl, hle, fun j hj => ⟨w.heap.size, 0, rfl, ?_⟩, below_putRow (below_alloc (Below.refl _ _) _) (Nat.le_refl _)⟩
 have hss : (ws ++ List.replicate (n - ws.length) ByteArray.empty).toArray.size = (piecesB t).toArray.size := by rw [HZ.out]; simp; omega
 have hg2 := (Sort.holds_putRow Value.string (Sort.ahead (w.alloc ob) q) w.heap.size 0 (piecesB t).toArray _ (Sort.holds_ahead Value.string _ q _ _ _ HH.out) hss j (by rw [hss, HZ.out]; omega)).1
 rw [hg2, getElem!_pos _ j (by rw [hss, HZ.out]; omega)]
 simp [hj]
def impl_isLong.f (a0 : ByteArray) : Option (Bool) := some (decide ((a0.size : Int) > 65536))
set_option maxHeartbeats 8000000 in
set_option maxRecDepth 100000 in
theorem impl_isLong.calls (a0 : ByteArray) (r : Bool) (w : World) (h : impl_isLong.f a0 = some r) :
  Calls Tryd.prog 21 #[.string a0] w fun e w' => e = .returned (.bool r) ∧ Drawn0 w w' := by
 have H : (some (decide ((a0.size : Int) > 65536))) = some r := h
 clear h
 obtain rfl := Option.some.inj H
 go_enter Tryd.func21, Tryd.ntmps21
 go_wp2
 go_ret
 exact ⟨qz0_, qz1_⟩

end Go.Proofs.YtokljkneflejdaaDoor.PT
end
