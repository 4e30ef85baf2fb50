/- Part 0 of the proof of FnGates: what functions compute, shown step by step, and what that says (the claim's last text states the law). -/
import Derived.Test.YtokljkneflejdaaDoorProg
import Derived.Test.YtokljkneflejdaaDoorVWords
import Derived.Test.YtokljkneflejdaaDoorVMore
import Derived.Test.YtokljkneflejdaaDoorVLast
import Derived.Test.YtokljkneflejdaaDoorVTab
import Derived.Test.YtokljkneflejdaaDoorVQPut
import Derived.Test.YtokljkneflejdaaDoorVApart
import Derived.Test.YtokljkneflejdaaDoorVArr
import Derived.Test.YtokljkneflejdaaDoorVZeros
import Derived.Test.YtokljkneflejdaaDoorVFoot
import Derived.Test.YtokljkneflejdaaDoorVKept
import Derived.Test.YtokljkneflejdaaDoorVShare
import Derived.Test.YtokljkneflejdaaDoorVN
import Derived.Test.YtokljkneflejdaaDoorVFootNe
import Derived.Test.YtokljkneflejdaaDoorVEqStruct
import Derived.Test.YtokljkneflejdaaDoorVRepsOne
import Derived.Test.YtokljkneflejdaaDoorVInv
import Derived.Test.YtokljkneflejdaaDoorVInvWords
import Derived.Test.YtokljkneflejdaaDoorVNEv
import Derived.Test.YtokljkneflejdaaDoorCards
import Derived.Test.YtokljkneflejdaaDoorTie
import Derived.JoinedOf
import Derived.WalkKit
import Derived.ProofKit
import Derived.OpenShut
import Derived.ShutString
import Derived.ChangeOld
import Derived.Below
import Derived.SizedLaws
import Derived.Deep.Slices
import Derived.ChangeArms
import Derived.Deep.Draws
import Derived.Deep.AppendLies
import Derived.Maps.AppendAt
import Derived.OwnWalk
import Derived.Laws.BytesArg
import Derived.Laws.MakeOwn
import Derived.Laws.OwnMore
import Derived.Deep.OwnRows
import Derived.Tactics
import Derived.Lib.ConvBytes
import Derived.Laws.Slices
import Derived.KernelRfl
import Derived.RowKit3
import Derived.Deep.LoopGhost
import Derived.Deep.QuietTactic
import Derived.BigQuiet
import Derived.WideLaws
import Derived.Deep.DeepCutAuto
import Derived.Deep.CutBlock
import Derived.Deep.RegionHeld3
import Derived.Laws.Rows
import Derived.Lib.AppendStr
import Derived.ArgAppend
import Derived.Laws.IdiomCopy
import Derived.OrdersHeld
import Derived.Laws.BitsLemmas
import Derived.RowKit
import Derived.StillTailTactics
import Derived.Deep.DeepMust
import Derived.Laws.CopyOwn
import Derived.Shelf.Utf8.RuneCount
import Derived.Shelf.Strconv.Atoi
import Derived.Shelf.Strconv.Itoa0
import Derived.Shelf.Strconv.Itoa1
import Derived.Shelf.LaysM
import Derived.Shelf.Strconv.Itoa2
import Derived.Shelf.Strconv.Itoa3
import Derived.Shelf.Strconv.AtoiErrFast
import Derived.Shelf.Strconv.ParseIntEmpty
import Derived.Shelf.Strconv.AtoiFail
import Derived.Shelf.Strconv.Clone
import Derived.Shelf.Strconv.SyntaxError
import Derived.Shelf.LaysC
import Derived.Shelf.Strconv.ToError
import Derived.Shelf.Strconv.Lower
import Derived.Shelf.Strconv.ParseUint10
import Derived.Shelf.Strconv.ParseUint10Empty
import Derived.Shelf.Strconv.ParseUint10Any
import Derived.Shelf.Strconv.ParseInt10
import Derived.Shelf.Strconv.AtoiLong
import Derived.Shelf.Strconv.AtoiInnerAll
import Derived.Shelf.Strconv.RangeError
import Derived.Shelf.Strconv.ToErrorRange
import Derived.Shelf.Strconv.AtoiAll
import Derived.Shelf.Strconv.ErrVarAll
import Derived.Shelf.Strings.Search1
import Derived.Shelf.Strings.Search2
import Derived.Shelf.Strings.Search3
import Derived.Shelf.Strings.Count
import Derived.Shelf.Strings.Shaped
import Derived.Shelf.Strings.Prefix
import Derived.Shelf.Strings.Split
import Derived.Shelf.Strings.SplitShaped
import Derived.Shelf.Unicode.Decode
import Derived.Shelf.Strings.RuneCount
import Derived.Shelf.Strings.Explode
import Derived.Shelf.Unicode.DecodeSlow
import Derived.Shelf.Unicode.DecodeAny
import Derived.Shelf.Slices.Turned
import Derived.Ground.SlgfProg
import Derived.Shelf.SlicesE.IndexFunc
import Derived.Shelf.SlicesE.DeleteFunc
import Derived.Lib.SplitLaws
import Derived.Lib.AtoiTie
import Derived.Lib.ItoaMem
import Derived.Lib.ItoaLen
import Derived.Lib.Strings
import Derived.Lib.LaidTab
import Derived.Lib.AppendIntMem
import Derived.Lib.OwnBridge
import Derived.Deep.DeepHandedRow
import Derived.Stop.LaidErr
import Derived.Shelf.Vars
namespace Go.Proofs
theorem qz0_ {p : Prop} (h : p := by first | rfl | (simp; done) | (simp [*]; done)) : p := h
theorem qz1_ {p : Prop} (h : p := by repeat (first | exact Drawn0.refl _ | apply Drawn0.step)) : p := h
theorem qz2_ {p : Prop} (h : p := by (try simp only [List.map_toArray, List.map_cons, List.map_nil]); first | done | rfl | (simp only [List.length_drop, List.length_take]; rfl)) : p := h
theorem qz3_ {p : Prop} (h : p := by repeat (first | (with_reducible first | exact HB.out | apply below_alloc | apply pw_below_drewN | apply below_drew1) | exact HB.out)) : p := h
theorem qz4_ {p : Prop} (h : p := by (with_reducible repeat (first | refine blk_drewN ?_ _ | refine blk_drew ?_ | refine blk_alloc ?_ _)); exact BK101.out) : p := h
theorem qz5_ {p : Prop} (h : p := by first | rfl | (simp [errW_none, errW_some] <;> rfl) | (simp [*, errW_none, errW_some] <;> rfl)) : p := h
theorem qz6_ {p : Prop} (h : p := by repeat (first | (with_reducible first | exact HI0.out | apply IsS52.alloc | apply IsS52.drewN | apply IsS52.drew | apply IsS52.set_1 | apply IsS52.set_2) | exact HI0.out)) : p := h
theorem qz7_ {p : Prop} (h : p := by repeat (first | (with_reducible first | exact HB.out | apply below_alloc | apply pw_below_drewN | apply below_drew1 | refine below_set ?_ (IsS52.ge HI0.out)) | exact HB.out)) : p := h
theorem qz8_ {p : Prop} (h : p := by repeat (first | (with_reducible first | exact HK.out | apply KeepBut.set_ | apply keep_drewN | apply keep_drew | apply keep_alloc) | exact HK.out)) : p := h
theorem qz9_ {p : Prop} (h : p := by repeat (first | (with_reducible first | exact HB.out | apply below_alloc | apply pw_below_drewN | apply below_drew1 | refine below_set ?_ GE101.out) | exact HB.out)) : p := h
theorem qz10_ {p : Prop} (h : p := by first | omega | exact Nat.le_refl _) : p := h
theorem qz11_ {p : Prop} (h : p := by first | (with_reducible assumption) | assumption) : p := h
theorem qz12_ {p : Prop} (h : p := by first | rfl | simp [Value.oneCell']) : p := h
theorem qz13_ {p : Prop} (h : p := by (try simp only [List.map_toArray, List.map_cons, List.map_nil]); first | done | rfl) : p := h
theorem qc_ {p q : Prop} (h : p) (e : p → q := by intro h_; repeat (first | exact h_ | (with_reducible refine Kd.C_alloc ?_ _) | (with_reducible refine Kd.C_drewN ?_ _) | (with_reducible refine Kd.C_drew ?_))) : q := e h
theorem qd1_ {w : World} {m n : Nat} : (w.drewN m).drewN n = w.drewN (m + n) := World.drewN_drewN _ _ _
theorem qd2_ {w : World} {a b c : Nat} : (w.drewN (a + b)).drewN c = w.drewN (a + (b + c)) := Eq.trans (World.drewN_drewN _ _ _) (congrArg (World.drewN _) (Nat.add_assoc _ _ _))
theorem am_ {p : Prop} (h : p) : Go.Proofs.YtokljkneflejdaaDoorW.PrintWords.Aside0 p := ⟨h⟩
theorem ap_ {α : Sort _} {a b : α} (h : a = b := by simp only [Act.put, List.setIfInBounds_toArray, List.set_cons_zero, List.set_cons_succ, Go.Proofs.YtokljkneflejdaaDoorW.PrintLast.i64_w, Go.Proofs.YtokljkneflejdaaDoorW.PrintLast.i32_w]; rfl) : a = b := h
end Go.Proofs
section
/- The closed facts of the program's head row, each by its own. -/
namespace Go.Proofs.YtokljkneflejdaaDoor
open Go.RowKit
theorem wordsSigns_word (r : List Char) : ∀ w : List Char, w.all (fun c => c != Char.ofNat 32) = true → wordsSigns (w ++ Char.ofNat 32 :: r) = w :: wordsSigns r
 | [], _ => by rfl
 | c :: w, h => by
  simp only [List.all_cons, Bool.and_eq_true, bne_iff_ne, ne_eq] at h
  rw [List.cons_append, wordsSigns]
  ·
   rw [wordsSigns_word r w h.2]
  ·
   intro e; exact h.1 e
theorem headWords {P : Program} {s r : List Char} (hs : s.all (fun c => c != Char.ofNat 32) = true) (hsum : isSumSigns s = true)
  (h : P.initOrder = String.ofList ([104, 97, 114, 110, 101, 115, 115].map Char.ofNat ++ Char.ofNat 32 :: (s ++ Char.ofNat 32 :: ([99, 117, 116].map Char.ofNat ++ Char.ofNat 32 :: r)))) :
  behindMainWord (wordsSigns P.initOrder.toList) = [99, 117, 116].map Char.ofNat :: wordsSigns r := by
 rw [h, String.toList_ofList, wordsSigns_word _ _ (by decide), wordsSigns_word _ _ hs, wordsSigns_word _ _ (by decide), behindMainWord, if_pos]
 rw [hsum]
 decide
set_option maxRecDepth 100000
def headTail : List Char := List.map Char.ofNat [97, 116, 32, 108, 111, 111, 112, 46, 101, 120, 97, 109, 112, 108, 101, 47, 103, 48, 48, 51, 52, 56, 47, 108, 97, 119, 115, 46, 70, 110, 71, 97, 116, 101, 115, 32, 108, 111, 111, 112, 46, 101, 120, 97, 109, 112, 108, 101, 47, 103, 48, 48, 51, 52, 56, 47, 108, 97, 119, 115, 46, 70, 110, 69, 120, 97, 99, 116, 82, 101, 97, 100, 71, 97, 116, 101]
theorem order : Tryd.prog.initOrder = String.ofList ([104, 97, 114, 110, 101, 115, 115].map Char.ofNat ++ Char.ofNat 32 :: ((List.map Char.ofNat [54, 98, 51, 53, 48, 101, 99, 50, 97, 52, 48, 57, 100, 56, 102, 49, 55, 52, 56, 53, 49, 57, 99, 101, 52, 51, 52, 49, 101, 102, 51, 54, 50, 98, 56, 53, 52, 49, 56, 53, 98, 49, 51, 52, 97, 100, 48, 99, 101, 100, 98, 56, 100, 101, 101, 102, 51, 52, 56, 97, 52, 53, 53, 51]) ++ Char.ofNat 32 :: ([99, 117, 116].map Char.ofNat ++ Char.ofNat 32 :: headTail))) := by kernel_rfl
theorem headIs : behindMainWord (wordsSigns Tryd.prog.initOrder.toList) = [99, 117, 116].map Char.ofNat :: wordsSigns headTail := headWords (by decide +kernel) (by decide +kernel) order
theorem enters_of {P : Program} {ws : List (List Char)} (h : behindMainWord (wordsSigns P.initOrder.toList) = [99, 117, 116].map Char.ofNat :: ws) (h1 : P.laysLater = false) (h2 : P.bearsReflect = false) (h3 : P.doorFits [] = true) : P.mayEnter = true := by
 have e : stripLifts liftWords ([99, 117, 116].map Char.ofNat :: ws) = ([], [99, 117, 116].map Char.ofNat :: ws) := rfl
 unfold Program.mayEnter
 rw [h]
 simp only [e, h1, h2, h3]
 rfl
theorem liftsNot_of {P : Program} {ws : List (List Char)} (h : behindMainWord (wordsSigns P.initOrder.toList) = [99, 117, 116].map Char.ofNat :: ws) : P.liftsFinal = false := by
 have e : stripLifts liftWords ([99, 117, 116].map Char.ofNat :: ws) = ([], [99, 117, 116].map Char.ofNat :: ws) := rfl
 unfold Program.liftsFinal Program.headLifts
 rw [h]
 simp only [e]
 rfl
theorem makes_of {P : Program} {ws : List (List Char)} (h : behindMainWord (wordsSigns P.initOrder.toList) = [99, 117, 116].map Char.ofNat :: ws) : P.make = some .cut := by
 unfold Program.make
 rw [h]
 rfl
theorem allOf {b1 b2 b3 b4 b5 b6 b7 b8 b9 b10 b11 b12 b13 b14 b15 b16 b17 b18 b19 b20 b21 b22 b23 b24 b25 b26 b27 b28 b29 b30 b31 b32 : Bool} (h1 : b1 = true) (h2 : b2 = true) (h3 : b3 = true) (h4 : b4 = true) (h5 : b5 = true) (h6 : b6 = true) (h7 : b7 = true) (h8 : b8 = true) (h9 : b9 = true) (h10 : b10 = true) (h11 : b11 = true) (h12 : b12 = true) (h13 : b13 = true) (h14 : b14 = true) (h15 : b15 = true) (h16 : b16 = true) (h17 : b17 = true) (h18 : b18 = true) (h19 : b19 = true) (h20 : b20 = true) (h21 : b21 = true) (h22 : b22 = true) (h23 : b23 = true) (h24 : b24 = true) (h25 : b25 = true) (h26 : b26 = true) (h27 : b27 = true) (h28 : b28 = true) (h29 : b29 = true) (h30 : b30 = true) (h31 : b31 = true) (h32 : b32 = true) : (b1 && b2 && b3 && b4 && b5 && b6 && b7 && b8 && b9 && b10 && b11 && b12 && b13 && b14 && b15 && b16 && b17 && b18 && b19 && b20 && b21 && b22 && b23 && b24 && b25 && b26 && b27 && b28 && b29 && b30 && b31 && b32) = true := by subst h1 h2 h3 h4 h5 h6 h7 h8 h9 h10 h11 h12 h13 h14 h15 h16 h17 h18 h19 h20 h21 h22 h23 h24 h25 h26 h27 h28 h29 h30 h31 h32; rfl
theorem sameNo {a b : Bool} (ha : a = false) (h : b = false) : (a == b) = true := by subst ha; subst h; rfl
theorem sameCut {x : Option Make} (h : x = some .cut) : (x == some Make.cut) = true := by subst h; rfl
theorem notMain {P : Program} {fn : Func} (h : decide (Check.packageOf fn.name = "main") = false) : fn.isWrapper P false "" := by
 unfold Func.isWrapper; rw [if_neg (of_decide_eq_false h)]; exact ⟨rfl, rfl⟩
theorem own : ownKnob Tryd.prog.godebug = none := by kernel_rfl
theorem laidOut : laidOutB Tryd.prog = true := by kernel_rfl
theorem mapsAre : mapsRowed Tryd.prog = true := by kernel_rfl
theorem enters : Tryd.prog.mayEnter = true := enters_of headIs (by as_aux_lemma => kernel_rfl) (by as_aux_lemma => kernel_rfl) (by as_aux_lemma => kernel_rfl)
theorem liftsNot : Tryd.prog.liftsFinal = false := liftsNot_of headIs
theorem makes : Tryd.prog.make = some .cut := makes_of headIs
end Go.Proofs.YtokljkneflejdaaDoor
end
section
/- Arguments that are read as data have the kinds' own form: for each kind, compositionally. Own text, for every seat (YtokljkneflejdaaDoor: the seat's name). -/
namespace Go.Proofs.YtokljkneflejdaaDoorO
open Go.RowKit Go.ChangeShapes Go.WideShapes Go.ChangeAt Go.Proofs.YtokljkneflejdaaDoorW.PrintWords
def Opens {α : Type} {H : Type} (enc : TypeId × Value → H) (P : Program) (w : World) (T : TypeId) (d : Kd α) (good : α → Prop) : Prop :=
 ∀ (fuel : Nat) (cs : List Value) (x : DataW H × List MemPlace), DataW.trod enc P w 0 (fun _ => true) true fuel T cs = some x → ∃ a, d.K w a cs ∧ good a
def OpensSeq {α : Type} {H : Type} (enc : TypeId × Value → H) (P : Program) (w : World) (fs : List (TypeId × Nat)) (d : Kd α) (good : α → Prop) : Prop :=
 ∀ (fuel : Nat) (cs : List Value), cs.length = (fs.map (·.2)).sum → (∀ (j : Nat) (T n : Nat), fs[j]? = some (T, n) → ∃ x, DataW.trod enc P w 0 (fun _ => true) true fuel T ((cs.drop ((fs.take j).map (·.2)).sum).take n) = some x) → ∃ a, d.K w a cs ∧ good a

section
variable {H : Type} {enc : TypeId × Value → H} {P : Program} {w : World}

def IntGood (k : IntKind) (a : Int) : Prop := (Lit.int k a).wf = true
def StrGood (a : ByteArray) : Prop := a.size ≤ 9223372036854775807
def ListGood {α : Type} (g : α → Prop) (l : List α) : Prop := l.length ≤ 9223372036854775807 ∧ ∀ x ∈ l, g x

theorem opens_int {T : TypeId} {k : IntKind} (ht : P.underlying T = some (.int k)) : Opens enc P w T (Kd.int k) (IntGood k) := by
 intro fuel cs x h
 obtain ⟨n, rfl, _, hw⟩ := DataW.trod_int ht h
 exact ⟨n, rfl, hw⟩
theorem opens_bool {T : TypeId} (ht : P.underlying T = some .bool) : Opens enc P w T Kd.bool (fun _ => True) := by
 intro fuel cs x h
 obtain ⟨n, rfl, _⟩ := DataW.trod_bool ht h
 exact ⟨n, rfl, trivial⟩
theorem opens_string {T : TypeId} (ht : P.underlying T = some .string) : Opens enc P w T Kd.string StrGood := by
 intro fuel cs x h
 obtain ⟨s, rfl, _, hs⟩ := DataW.trod_string ht h
 exact ⟨s, rfl, (by unfold StrGood; unfold maxLen at hs; omega)⟩

theorem choose_list {α : Type} {n : Nat} {p : Nat → α → Prop} (h : ∀ i, i < n → ∃ a, p i a) : ∃ l : List α, l.length = n ∧ ∀ i a, l[i]? = some a → p i a := by
 induction n with
 | zero => exact ⟨[], rfl, fun i a hi => by simp at hi⟩
 | succ n ih =>
  obtain ⟨l, hl, hp⟩ := ih (fun i hi => h i (by omega))
  obtain ⟨a, ha⟩ := h n (by omega)
  refine ⟨l ++ [a], (by simp [hl]), fun i b hi => ?_⟩
  rcases Nat.lt_or_ge i l.length with hlt | hge
  ·
   rw [List.getElem?_append_left hlt] at hi
   exact hp i b hi
  ·
   rw [List.getElem?_append_right hge] at hi
   have : i - l.length = 0 := by
    rcases Nat.eq_zero_or_pos (i - l.length) with h0 | h0
    ·
     exact h0
    ·
     rw [List.getElem?_eq_none (by simp; omega)] at hi; simp at hi
   rw [this] at hi
   simp at hi
   subst hi
   have : i = n := by omega
   rw [this]
   exact ha

theorem opens_slice {α : Type} {d : Kd α} {good : α → Prop} {T e : TypeId} (ht : P.underlying T = some (.slice e)) (hc : P.cellsOf e = d.sz) (ho : Opens enc P w e d good) : Opens enc P w T (Kd.slice e d) (ListGood good) := by
 intro fuel cs x h
 rcases Deep.open_slice ht h with ⟨rfl, _⟩ | ⟨a, len, cap, m, n, D, Pl, rfl, _, hl, hm, hmm, _, hx⟩
 ·
  exact ⟨[], ⟨none, 0, rfl, Nat.le_refl _, ⟨rfl, (by simp), fun h0 => by simp at h0⟩⟩, ⟨(by simp), fun x hx => by simp at hx⟩⟩
 ·
  have hle : len ≤ m := by rw [hmm]; split <;> omega
  have hex : ∀ i, i < len → ∃ b : α, (∃ c, c.length = d.sz ∧ d.K w b c ∧ ∀ j u, c[j]? = some u → w.cell? (a.add (i * d.sz + j)) = some u) ∧ good b := by
   intro i hi
   obtain ⟨cs', h1, h2⟩ := hx i (by omega)
   obtain ⟨b, hK, hg⟩ := ho _ _ _ h2
   obtain ⟨_, hlen, hcell⟩ := World.cells?_some h1
   refine ⟨b, ⟨cs', (by rw [hlen, hc]), hK, fun j u hu => ?_⟩, hg⟩
   have hj : j < P.cellsOf e := by
    rw [← hlen]
    exact (List.getElem?_eq_some_iff.1 hu).1
   rw [← Deep.add_add, ← hc, hcell j hj, hu]
  obtain ⟨l, hll, hp⟩ := choose_list hex
  unfold maxLen at hm
  refine ⟨l, ⟨some a, cap, by rw [hll], by omega, ⟨rfl, by omega, fun _ => ⟨a, rfl, fun j p hj => (hp j p hj).1⟩⟩⟩, ⟨(by omega), fun x hx => ?_⟩⟩
  obtain ⟨i, hi, rfl⟩ := List.getElem_of_mem hx
  exact (hp i _ (List.getElem?_eq_getElem hi)).2

theorem opensSeq_one {α : Type} {d : Kd α} {good : α → Prop} {T n : Nat} (ho : Opens enc P w T d good) : OpensSeq enc P w [(T, n)] d good := by
 intro fuel cs hlen h
 obtain ⟨x, hx⟩ := h 0 T n rfl
 simp at hlen
 simp [List.take_of_length_le (Nat.le_of_eq hlen)] at hx
 exact ho _ _ _ hx
theorem opensSeq_cons {α β : Type} {d : Kd α} {good : α → Prop} {d2 : Kd β} {good2 : β → Prop} {T n : Nat} {fs : List (TypeId × Nat)} (ho : Opens enc P w T d good) (hs : OpensSeq enc P w fs d2 good2) :
  OpensSeq enc P w ((T, n) :: fs) (Kd.pair d d2) (fun x => good x.1 ∧ good2 x.2) := by
 intro fuel cs hlen h
 obtain ⟨x, hx⟩ := h 0 T n rfl
 simp at hx
 obtain ⟨a, hK, hg⟩ := ho _ _ _ hx
 simp only [List.map_cons, List.sum_cons] at hlen
 obtain ⟨b, hK2, hg2⟩ := hs fuel (cs.drop n) (by rw [List.length_drop, hlen]; omega) (fun j T' n' hj => by
  obtain ⟨y, hy⟩ := h (j + 1) T' n' (by simpa using hj)
  refine ⟨y, ?_⟩
  simp only [List.take_succ_cons, List.map_cons, List.sum_cons] at hy
  rw [List.drop_drop]
  exact hy)
 exact ⟨(a, b), ⟨cs.take n, cs.drop n, (List.take_append_drop n cs).symm, hK, hK2⟩, hg, hg2⟩
theorem opens_struct {α β : Type} {d : Kd α} {good : α → Prop} {T : TypeId} {fs : Array Field} {l : List (TypeId × Nat)} (f : β → α) (g : α → β) (hfg : ∀ a, f (g a) = a) (ht : P.underlying T = some (.struct fs))
  (hl : l.length = fs.size) (hf : ∀ (j : Nat) (T' n : Nat), l[j]? = some (T', n) → ∃ fd, fs[j]? = some fd ∧ fd.type = T' ∧ P.cellsOf T' = n ∧ fd.offset = ((l.take j).map (·.2)).sum) (hc : P.cellsOf T = (l.map (·.2)).sum)
  (hs : OpensSeq enc P w l d good) : Opens enc P w T (Kd.iso d f) (fun x => good (f x)) := by
 intro fuel cs x h
 obtain ⟨xs, n, _, _, hlen, hxl, hx⟩ := DataW.trod_struct ht h
 obtain ⟨a, hK, hg⟩ := hs n cs (by rw [hlen, hc]) (fun j T' n' hj => by
  obtain ⟨fd, h1, h2, h3, h4⟩ := hf j T' n' hj
  have h5 := hx j fd h1
  have hj2 : j < xs.length := by
   have := (List.getElem?_eq_some_iff.1 hj).1
   omega
  rw [List.getElem?_eq_getElem hj2, h2, h3, h4] at h5
  exact ⟨_, h5⟩)
 refine ⟨g a, ?_, ?_⟩
 ·
  show d.K w (f (g a)) cs
  rw [hfg]; exact hK
 ·
  show good (f (g a))
  rw [hfg]; exact hg
end
end Go.Proofs.YtokljkneflejdaaDoorO
end
section
/- A call of a function value that is known: words of this session beside the print's own (YtokljkneflejdaaDoor: the seat's name). -/
namespace Go.Proofs.YtokljkneflejdaaDoorW.PrintLast
open Go.RowKit Go.Proofs.YtokljkneflejdaaDoorW.PrintWords
section
variable {P : Program} {ops : Array Oper} {Q : Exit → Act → World → Prop}
theorem goesV_ {oi : Oper} {N : Option Tmp} {a : Act} {w : World} {K : Act → World → Prop} {f : FuncId} {fn : Func} {s : Operand} {ops_ : Array Operand} {ts : Array TypeId} (hf : P.funcs[f]? = some fn) (hname : (fn.name == "runtime.NumGoroutine") = false) (hb : fn.body.isSome = true) (args : Array Value)
  (hw : Region.wanted oi (yielded ops a.tmps) = true) (hN : oi.dst = N) (hop : oi.op = .call { callee := .value s, args := ops_, argTypes := ts }) (hs : a.eval s = .func (.func f) #[] #[]) (hargs : ops_.map a.eval = args)
  (h : Calls P f args w fun e w' => ∃ v, e = .returned v ∧ K (a.put N v) w') : if Region.wanted oi (yielded ops a.tmps) = true then Oper.wp P oi a w K Q else K (a.put N undef) w := by
 refine call_ f args hw hN ?_ h
 have he := enters_ hf hname hb args w
 unfold execOp
 simp [hop, resolve, Deferred.ofValue, invoke, hs, hargs, he]
end
end Go.Proofs.YtokljkneflejdaaDoorW.PrintLast
end
section
namespace Go.Proofs.YtokljkneflejdaaDoor.PT
open Go.RowKit Go.Proofs.YtokljkneflejdaaDoorW.PrintWords Go.Proofs.YtokljkneflejdaaDoorW.PrintLast Go.Proofs.YtokljkneflejdaaDoorW.PrintMore
attribute [local go_sem] max2_int min2_int max_two min_two max_three min_three max_four min_four   -- for this text's walks alone
set_option linter.unusedVariables false
set_option linter.unusedSimpArgs false



def errW : Option Int → Value
 | none => .nilIface
 | some c => .iface 87 (.int .i64 c)
theorem errW_none : errW none = .nilIface := rfl
theorem errW_some (c : Int) : errW (some c) = .iface 87 (.int .i64 c) := rfl

theorem info3 : (Tryd.prog.info? 3).map (fun i => (i.zero, i.size, i.bytes)) = some (some (.int .i64 0), 1, 8) := by kernel_rfl
theorem info5 : (Tryd.prog.info? 5).map (fun i => (i.zero, i.size, i.bytes)) = some (some (.int .u8 0), 1, 1) := by kernel_rfl
theorem info9 : (Tryd.prog.info? 9).map (fun i => (i.zero, i.size, i.bytes)) = some (some (.string ⟨#[]⟩), 1, 16) := by kernel_rfl
theorem info30 : (Tryd.prog.info? 30).map (fun i => (i.zero, i.size, i.bytes)) = some (some (.agg #[(.int .i64 0), (.int .i64 0), (.int .i64 0), (.int .i64 0)]), 4, 32) := by kernel_rfl
-- the values' own types
structure S30 where
 f0 : Int
 f1 : Int
 f2 : Int
 f3 : Int
def z30 : S30 := ⟨(0 : Int), (0 : Int), (0 : Int), (0 : Int)⟩
def k30 : Kd S30 := Kd.iso (Kd.pair (Kd.int .i64) (Kd.pair (Kd.int .i64) (Kd.pair (Kd.int .i64) (Kd.int .i64)))) (fun x : S30 => (x.f0, x.f1, x.f2, x.f3))
theorem k30_open {w : World} {x : S30} {cs : List Value} (h : k30.K w x cs) : cs = [.int .i64 x.f0, .int .i64 x.f1, .int .i64 x.f2, .int .i64 x.f3] := by
 obtain ⟨_, _, rfl, rfl, ⟨_, _, rfl, rfl, ⟨_, _, rfl, rfl, rfl⟩⟩⟩ := h
 exact rfl
theorem k30_openM {w : World} {base : Nat} {ok : Nat → Prop} {x : S30} {cs : List Value} (h : k30.M w base ok x cs) : cs = [.int .i64 x.f0, .int .i64 x.f1, .int .i64 x.f2, .int .i64 x.f3] := by
 obtain ⟨_, _, rfl, rfl, ⟨_, _, rfl, rfl, ⟨_, _, rfl, rfl, rfl⟩⟩⟩ := h
 exact rfl
theorem k30_mk (w : World) (x : S30)  : k30.K w x [.int .i64 x.f0, .int .i64 x.f1, .int .i64 x.f2, .int .i64 x.f3] := ⟨[.int .i64 x.f0], [.int .i64 x.f1, .int .i64 x.f2, .int .i64 x.f3], rfl, rfl, ⟨[.int .i64 x.f1], [.int .i64 x.f2, .int .i64 x.f3], rfl, rfl, ⟨[.int .i64 x.f2], [.int .i64 x.f3], rfl, rfl, rfl⟩⟩⟩
theorem k30_mkM (w : World) (base : Nat) (ok : Nat → Prop) (x : S30)  : k30.M w base ok x [.int .i64 x.f0, .int .i64 x.f1, .int .i64 x.f2, .int .i64 x.f3] := ⟨[.int .i64 x.f0], [.int .i64 x.f1, .int .i64 x.f2, .int .i64 x.f3], rfl, rfl, ⟨[.int .i64 x.f1], [.int .i64 x.f2, .int .i64 x.f3], rfl, rfl, ⟨[.int .i64 x.f2], [.int .i64 x.f3], rfl, rfl, rfl⟩⟩⟩
def rd_T30 (xs : List S30) (i : Int) : S30 := xs.getD i.toNat z30
theorem at_T30 {w : World} {A : Option Addr} {n : Nat} {xs : List S30} (h : Kd.C k30 w A n xs) (i : Int) (h0 : 0 ≤ i) (h1 : i < n) : ∃ ad , A = some ad ∧ w.cell? (ad.add (i.toNat * 4)) = some (.int .i64 (rd_T30 xs i).f0) ∧ w.cell? ⟨(ad.add (i.toNat * 4)).block, (ad.add (i.toNat * 4)).off + 1, none⟩ = some (.int .i64 (rd_T30 xs i).f1) ∧ w.cell? ⟨(ad.add (i.toNat * 4)).block, (ad.add (i.toNat * 4)).off + 2, none⟩ = some (.int .i64 (rd_T30 xs i).f2) ∧ w.cell? ⟨(ad.add (i.toNat * 4)).block, (ad.add (i.toNat * 4)).off + 3, none⟩ = some (.int .i64 (rd_T30 xs i).f3) := by
 obtain ⟨ad, c, e, _, hK, hc0⟩ := Kd.C_get h z30 i h0 h1
 have hc : ∀ j u, c[j]? = some u → w.cell? (ad.add (i.toNat * 4 + j)) = some u := hc0
 obtain rfl := k30_open hK
 exact ⟨ad, e, hc 0 _ rfl, (by rw [← add_field _ _ 1 (by omega)]; exact hc 1 _ rfl), (by rw [← add_field _ _ 2 (by omega)]; exact hc 2 _ rfl), (by rw [← add_field _ _ 3 (by omega)]; exact hc 3 _ rfl)⟩

end Go.Proofs.YtokljkneflejdaaDoor.PT
end
section
/- The field and the greater field, over whole numbers: what the printed functions of chapters 2 and 3 come to. -/
namespace Go.Proofs.YtokljkneflejdaaDoor.PT
open Go.RowKit Go.Proofs.YtokljkneflejdaaDoorW.PrintWords Go.Proofs.YtokljkneflejdaaDoorW.PrintLast Go.Proofs.YtokljkneflejdaaDoorW.PrintMore
set_option linter.unusedVariables false
set_option linter.unusedSimpArgs false

theorem w64 {n : Int} (h0 : -9223372036854775808 ≤ n) (h1 : n ≤ 9223372036854775807) : wrap64 n = n := by unfold wrap64; omega
theorem tmod_nn {a b : Int} (h : 0 ≤ a) : Int.tmod a b = a % b := Int.tmod_eq_emod_of_nonneg h
theorem tdiv_nn {a b : Int} (h : 0 ≤ a) : Int.tdiv a b = a / b := Int.tdiv_eq_ediv_of_nonneg h

def inF (a : Int) : Prop := 0 ≤ a ∧ a ≤ 2130706432
instance (a : Int) : Decidable (inF a) := by unfold inF; infer_instance
theorem inF_0 : inF 0 := by decide
def impl_in.f (a0 : Int) (a1 : Int) (a2 : Int) : Option (Bool) := if a1 ≤ a0 then (some (decide (a0 ≤ a2))) else (some false)
set_option maxHeartbeats 8000000 in
set_option maxRecDepth 100000 in
theorem impl_in.calls (a0 : Int) (a1 : Int) (a2 : Int) (r : Bool) (w : World) (h : impl_in.f a0 a1 a2 = some r) :
  Calls Tryd.prog 30 #[.int .i64 a0, .int .i64 a1, .int .i64 a2] w fun e w' => e = .returned (.bool r) ∧ Drawn0 w w' := by
 have H : (if a1 ≤ a0 then (some (decide (a0 ≤ a2))) else (some false)) = some r := h
 clear h
 by_cases c4 : a1 ≤ a0
 ·
  rw [if_pos c4] at H
  have c4b0 : decide (a1 ≤ a0) = true := decide_eq_true c4
  clear c4
  obtain rfl := Option.some.inj H
  go_enter Tryd.func30, Tryd.ntmps30
  go_wp2
  go_ret
  exact ⟨qz0_, qz1_⟩
 ·
  rw [if_neg c4] at H
  have c4b0 : decide (a1 ≤ a0) = false := decide_eq_false c4
  clear c4
  obtain rfl := Option.some.inj H
  go_enter Tryd.func30, Tryd.ntmps30
  go_wp2
  go_ret
  exact ⟨qz0_, qz1_⟩

def impl_FieldOK.f (a0 : Int) : Option (Bool) := (impl_in.f a0 0 2130706432).bind fun t101 => (some t101)
set_option maxHeartbeats 8000000 in
set_option maxRecDepth 100000 in
theorem impl_FieldOK.calls (a0 : Int) (r : Bool) (w : World) (h : impl_FieldOK.f a0 = some r) :
  Calls Tryd.prog 29 #[.int .i64 a0] w fun e w' => e = .returned (.bool r) ∧ Drawn0 w w' := by
 have H : ((impl_in.f a0 0 2130706432).bind fun t101 => (some t101)) = some r := h
 clear h
 replace H := Option.bind_eq_some_iff.mp H
 obtain ⟨t101, A20, H⟩ := H
 replace H : (some t101) = some r := H
 have A2 := am_ A20
 clear A20
 obtain rfl := Option.some.inj H
 go_enter Tryd.func29, Tryd.ntmps29
 go_wp2_with (first | ((with_reducible refine gate_callee (f := 30) rfl ?_); refine goesL_ (some 4) rfl rfl Tryd.func30 (by kernel_rfl) rfl #[.int .i64 a0, .int .i64 0, .int .i64 2130706432] rfl qz2_ ?_; (with_reducible refine (impl_in.calls a0 0 2130706432 t101 _ A2.out).mono ?_); rintro e w' ⟨rfl, ⟨nd, rfl⟩⟩; refine ⟨_, rfl, ?_⟩))
 go_ret
 exact ⟨qz0_, qz1_⟩

def spec_l01In.f (a0 : Int) (a1 : Int) (a2 : Int) : Option (Bool) := if a1 ≤ a0 then (some (decide (a0 ≤ a2))) else (some false)
set_option maxHeartbeats 8000000 in
set_option maxRecDepth 100000 in
theorem spec_l01In.calls (a0 : Int) (a1 : Int) (a2 : Int) (r : Bool) (w : World) (h : spec_l01In.f a0 a1 a2 = some r) :
  Calls Tryd.prog 32 #[.int .i64 a0, .int .i64 a1, .int .i64 a2] w fun e w' => e = .returned (.bool r) ∧ Drawn0 w w' := by
 have H : (if a1 ≤ a0 then (some (decide (a0 ≤ a2))) else (some false)) = some r := h
 clear h
 by_cases c4 : a1 ≤ a0
 ·
  rw [if_pos c4] at H
  have c4b0 : decide (a1 ≤ a0) = true := decide_eq_true c4
  clear c4
  obtain rfl := Option.some.inj H
  go_enter Tryd.func32, Tryd.ntmps32
  go_wp2
  go_ret
  exact ⟨qz0_, qz1_⟩
 ·
  rw [if_neg c4] at H
  have c4b0 : decide (a1 ≤ a0) = false := decide_eq_false c4
  clear c4
  obtain rfl := Option.some.inj H
  go_enter Tryd.func32, Tryd.ntmps32
  go_wp2
  go_ret
  exact ⟨qz0_, qz1_⟩

def spec_FieldOK.f (a0 : Int) : Option (Bool) := (spec_l01In.f a0 0 2130706432).bind fun t101 => (some t101)
set_option maxHeartbeats 8000000 in
set_option maxRecDepth 100000 in
theorem spec_FieldOK.calls (a0 : Int) (r : Bool) (w : World) (h : spec_FieldOK.f a0 = some r) :
  Calls Tryd.prog 33 #[.int .i64 a0] w fun e w' => e = .returned (.bool r) ∧ Drawn0 w w' := by
 have H : ((spec_l01In.f a0 0 2130706432).bind fun t101 => (some t101)) = some r := h
 clear h
 replace H := Option.bind_eq_some_iff.mp H
 obtain ⟨t101, A20, H⟩ := H
 replace H : (some t101) = some r := H
 have A2 := am_ A20
 clear A20
 obtain rfl := Option.some.inj H
 go_enter Tryd.func33, Tryd.ntmps33
 go_wp2_with (first | ((with_reducible refine gate_callee (f := 32) rfl ?_); refine goesL_ (some 4) rfl rfl Tryd.func32 (by kernel_rfl) rfl #[.int .i64 a0, .int .i64 0, .int .i64 2130706432] rfl qz2_ ?_; (with_reducible refine (spec_l01In.calls a0 0 2130706432 t101 _ A2.out).mono ?_); rintro e w' ⟨rfl, ⟨nd, rfl⟩⟩; refine ⟨_, rfl, ?_⟩))
 go_ret
 exact ⟨qz0_, qz1_⟩

end Go.Proofs.YtokljkneflejdaaDoor.PT
end
section
/- What the printed functions of the field and of the greater field answer: the same sums and products on both sides. -/
namespace Go.Proofs.YtokljkneflejdaaDoor.PT
open Go.RowKit Go.Proofs.YtokljkneflejdaaDoorW.PrintWords Go.Proofs.YtokljkneflejdaaDoorW.PrintLast Go.Proofs.YtokljkneflejdaaDoorW.PrintMore
set_option linter.unusedVariables false
set_option linter.unusedSimpArgs false

theorem impl_in_eq (a b c : Int) : impl_in.f a b c = some (decide (b ≤ a ∧ a ≤ c)) := by
 unfold impl_in.f; by_cases h : b ≤ a <;> simp [h]
theorem spec_l01In_eq (a b c : Int) : spec_l01In.f a b c = some (decide (b ≤ a ∧ a ≤ c)) := by
 unfold spec_l01In.f; by_cases h : b ≤ a <;> simp [h]
theorem impl_FieldOK_eq (a : Int) : impl_FieldOK.f a = some (decide (inF a)) := by
 unfold impl_FieldOK.f; rw [impl_in_eq]; rfl
theorem spec_FieldOK_eq (a : Int) : spec_FieldOK.f a = some (decide (inF a)) := by
 unfold spec_FieldOK.f; rw [spec_l01In_eq]; rfl
end Go.Proofs.YtokljkneflejdaaDoor.PT
end
section
/- The laws' own helpers: elements copied, compared, marked; and powers of two. -/
namespace Go.Proofs.YtokljkneflejdaaDoor.PT
open Go.RowKit Go.Proofs.YtokljkneflejdaaDoorW.PrintWords Go.Proofs.YtokljkneflejdaaDoorW.PrintLast Go.Proofs.YtokljkneflejdaaDoorW.PrintMore
set_option linter.unusedVariables false
set_option linter.unusedSimpArgs false

theorem getD_at {α : Type} {l : List α} {z : α} {i : Nat} (h : i < l.length) : l.getD i z = l[i] := by
 rw [List.getD_eq_getElem?_getD, List.getElem?_eq_getElem h]; rfl
end Go.Proofs.YtokljkneflejdaaDoor.PT
end
section
/- Steps that several laws share: same answers compared, lists turned in place. -/
namespace Go.Proofs.YtokljkneflejdaaDoor.PT
open Go.RowKit Go.Proofs.YtokljkneflejdaaDoorW.PrintWords Go.Proofs.YtokljkneflejdaaDoorW.PrintLast Go.Proofs.YtokljkneflejdaaDoorW.PrintMore
set_option linter.unusedVariables false
set_option linter.unusedSimpArgs false
theorem bS {α β : Type} (a : α) (f : α → Option β) : (some a).bind f = f a := Eq.trans (Eq.refl _) (Option.bind_some a f)
end Go.Proofs.YtokljkneflejdaaDoor.PT
end
section
/- The equality weight, at a point and as a table: both sides walk the same numbers. -/
namespace Go.Proofs.YtokljkneflejdaaDoor.PT
open Go.RowKit Go.Proofs.YtokljkneflejdaaDoorW.PrintWords Go.Proofs.YtokljkneflejdaaDoorW.PrintLast Go.Proofs.YtokljkneflejdaaDoorW.PrintMore
set_option linter.unusedVariables false
set_option linter.unusedSimpArgs false
end Go.Proofs.YtokljkneflejdaaDoor.PT
end
section
/- Tables turned in place, folded, and read at a point: both sides walk the same numbers. -/
namespace Go.Proofs.YtokljkneflejdaaDoor.PT
open Go.RowKit Go.Proofs.YtokljkneflejdaaDoorW.PrintWords Go.Proofs.YtokljkneflejdaaDoorW.PrintLast Go.Proofs.YtokljkneflejdaaDoorW.PrintMore
set_option linter.unusedVariables false
set_option linter.unusedSimpArgs false
end Go.Proofs.YtokljkneflejdaaDoor.PT
end
section
/- Powers, inverses and the line: what the printed functions of chapter 2 come to. -/
namespace Go.Proofs.YtokljkneflejdaaDoor.PT
open Go.RowKit Go.Proofs.YtokljkneflejdaaDoorW.PrintWords Go.Proofs.YtokljkneflejdaaDoorW.PrintLast Go.Proofs.YtokljkneflejdaaDoorW.PrintMore
set_option linter.unusedVariables false
set_option linter.unusedSimpArgs false
def IsS52 (w0 W : World) (g : Nat) (f0 : List Int) (f1 : Int) (f2 : Int) : Prop := ∃ A0 c0, W.heap[g]? = some (.cells #[.slice A0 f0.length c0, .int .i64 f1, .int .i64 f2] 52 (0, 0)) ∧ w0.heap.size ≤ g ∧ Kd.C (Kd.int .u8) w0 A0 f0.length f0
theorem IsS52.grown {w0 W : World} {g : Nat} {f0 : List Int} {f1 : Int} {f2 : Int} {W1 : World} {row : Option Nat} (h : IsS52 w0 W g f0 f1 f2) (hw : W.grownBy W1 row) (hne : some g ≠ row) : IsS52 w0 W1 g f0 f1 f2 := by
 obtain ⟨A0, c0, hb, hg, hr0⟩ := h
 exact ⟨A0, c0, blk_grown hb hw hne, hg, hr0⟩
theorem IsS52.own_neN {w0 W : World} {g : Nat} {f0 : List Int} {f1 : Int} {f2 : Int} {α : Type} {d : Kd α} {e : Nat} {base : Nat} {ok : Nat → Prop} {v : Value} {xs : List α} (h : IsS52 w0 W g f0 f1 f2) (ho : Kd.N d e W base ok v xs) (ht : e ≠ 52) : some g ≠ v.ownBlock := by
 obtain ⟨A0, c0, hb, hg, hr0⟩ := h
 exact Kd.N_ne ho hb ht
theorem IsS52.fresh {w0 W : World} {g : Nat} {f0 : List Int} {f1 : Int} {f2 : Int} (h : IsS52 w0 W g f0 f1 f2) : ∀ k, W.heap.size ≤ k → k ≠ g := by
 obtain ⟨A0, c0, hb, hg, hr0⟩ := h
 exact Kd.freshB hb
theorem IsS52.kept {w0 W : World} {g : Nat} {f0 : List Int} {f1 : Int} {f2 : Int} {W1 : World} {S : Nat → Prop} (h : IsS52 w0 W g f0 f1 f2) (hk : Kept W W1 S) (hne : ¬ S g) : IsS52 w0 W1 g f0 f1 f2 := by
 obtain ⟨A0, c0, hb, hg, hr0⟩ := h
 exact ⟨A0, c0, blk_kept hb hk hne, hg, hr0⟩
theorem IsS52.below {w0 W : World} {g : Nat} {f0 : List Int} {f1 : Int} {f2 : Int} {W1 : World} (h : IsS52 w0 W g f0 f1 f2) (hw : Below W.heap.size W W1) : IsS52 w0 W1 g f0 f1 f2 := h.grown (grown_of_below hw none) (by simp)
theorem IsS52.alloc {w0 W : World} {g : Nat} {f0 : List Int} {f1 : Int} {f2 : Int} (h : IsS52 w0 W g f0 f1 f2) (o : Obj) : IsS52 w0 (W.alloc o) g f0 f1 f2 := h.below (below_alloc (Below.refl _ _) o)
theorem IsS52.drewN {w0 W : World} {g : Nat} {f0 : List Int} {f1 : Int} {f2 : Int} (h : IsS52 w0 W g f0 f1 f2) (m : Nat) : IsS52 w0 (W.drewN m) g f0 f1 f2 := h
theorem IsS52.drew {w0 W : World} {g : Nat} {f0 : List Int} {f1 : Int} {f2 : Int} (h : IsS52 w0 W g f0 f1 f2) : IsS52 w0 W.drew g f0 f1 f2 := h
theorem IsS52.at_ {w0 W : World} {g : Nat} {f0 : List Int} {f1 : Int} {f2 : Int} {w' : World} {m : Nat} (hq : W.drewN m = w') (h : IsS52 w0 W g f0 f1 f2) : IsS52 w0 w' g f0 f1 f2 := by subst hq; exact IsS52.drewN h m
theorem IsS52.apart {w0 W : World} {g : Nat} {f0 : List Int} {f1 : Int} {f2 : Int} {α : Type} {d : Kd α} {e : Nat} {base : Nat} {ok : Nat → Prop} {v : Value} {xs : List α} (h : IsS52 w0 W g f0 f1 f2) (ho : d.R e W base ok v xs) (ht : ∀ q, q ∈ e :: d.E → q ≠ 52) : d.R e W base (fun k => ok k ∧ k ≠ g) v xs := by
 obtain ⟨A0, c0, hb, hg, hr0⟩ := h
 exact Kd.R_types ho hb ht
theorem IsS52.own_ne {w0 W : World} {g : Nat} {f0 : List Int} {f1 : Int} {f2 : Int} {α : Type} {d : Kd α} {e : Nat} {base : Nat} {ok : Nat → Prop} {v : Value} {xs : List α} (h : IsS52 w0 W g f0 f1 f2) (ho : d.R e W base ok v xs) (ht : e ≠ 52) : some g ≠ v.ownBlock := by
 obtain ⟨A0, c0, hb, hg, hr0⟩ := h
 exact Kd.R_ne ho hb ht
theorem IsS52.apartQ {w0 W : World} {g : Nat} {f0 : List Int} {f1 : Int} {f2 : Int} {α : Type} {d : Kd α} {e : Nat} {base : Nat} {ok : Nat → Prop} {v : Value} {xs : List α} (h : IsS52 w0 W g f0 f1 f2) (ho : d.Q e W base ok v xs) (ht : ∀ q, q ∈ e :: d.E → q ≠ 52) : d.Q e W base (fun k => ok k ∧ k ≠ g) v xs := by
 obtain ⟨A0, c0, hb, hg, hr0⟩ := h
 exact Kd.Q_types ho hb ht
theorem IsS52.own_neQ {w0 W : World} {g : Nat} {f0 : List Int} {f1 : Int} {f2 : Int} {α : Type} {d : Kd α} {e : Nat} {base : Nat} {ok : Nat → Prop} {v : Value} {xs : List α} (h : IsS52 w0 W g f0 f1 f2) (ho : d.Q e W base ok v xs) (ht : e ≠ 52) : some g ≠ v.ownBlock := by
 obtain ⟨A0, c0, hb, hg, hr0⟩ := h
 exact Kd.Q_ne ho hb ht
theorem IsS52.apartS {w0 W : World} {g : Nat} {f0 : List Int} {f1 : Int} {f2 : Int} {α : Type} {d : Kd α} {e : Nat} {base : Nat} {ok : Nat → Prop} {v : Value} {xs : List α} (h : IsS52 w0 W g f0 f1 f2) (ho : d.S e W base ok v xs) (ht : ∀ q, q ∈ e :: d.E → q ≠ 52) : d.S e W base (fun k => ok k ∧ k ≠ g) v xs := by
 obtain ⟨A0, c0, hb, hg, hr0⟩ := h
 exact Kd.S_types ho hb ht
theorem IsS52.own_neS {w0 W : World} {g : Nat} {f0 : List Int} {f1 : Int} {f2 : Int} {α : Type} {d : Kd α} {e : Nat} {base : Nat} {ok : Nat → Prop} {v : Value} {xs : List α} (h : IsS52 w0 W g f0 f1 f2) (ho : d.S e W base ok v xs) (ht : e ≠ 52) : some g ≠ v.ownBlock := by
 obtain ⟨A0, c0, hb, hg, hr0⟩ := h
 exact Kd.S_ne ho hb ht
theorem IsS52.lt {w0 W : World} {g : Nat} {f0 : List Int} {f1 : Int} {f2 : Int} (h : IsS52 w0 W g f0 f1 f2) : g < W.heap.size := by
 obtain ⟨A0, c0, hb, hg, hr0⟩ := h
 exact blk_lt hb
theorem IsS52.ge {w0 W : World} {g : Nat} {f0 : List Int} {f1 : Int} {f2 : Int} (h : IsS52 w0 W g f0 f1 f2) : w0.heap.size ≤ g := by
 obtain ⟨A0, c0, hb, hg, hr0⟩ := h
 exact hg
theorem IsS52.ne_blk {w0 W : World} {g : Nat} {f0 : List Int} {f1 : Int} {f2 : Int} {a : Nat} {cs : Array Value} {t : TypeId} {fr : Nat × Nat} (h : IsS52 w0 W g f0 f1 f2) (hb2 : W.heap[a]? = some (.cells cs t fr)) (ht : t ≠ 52) : g ≠ a := by
 obtain ⟨A0, c0, hb, hg, hr0⟩ := h
 rintro rfl
 rw [hb] at hb2
 injection hb2 with hb2
 injection hb2 with _ ht2
 exact ht ht2.symm
theorem IsS52.far {w0 W : World} {g : Nat} {f0 : List Int} {f1 : Int} {f2 : Int} {p : Addr} (h : IsS52 w0 W g f0 f1 f2) (hne : g ≠ p.block) (u : Value) : IsS52 w0 (W.setCell p u) g f0 f1 f2 := by
 obtain ⟨A0, c0, hb, hg, hr0⟩ := h
 exact ⟨A0, c0, blk_far hb hne u, hg, hr0⟩
theorem cellS52_0 {W : World} {g : Nat} {A0 : Option Addr} {c0 : Nat} {f0 : List Int} {f1 : Int} {f2 : Int} (h : W.heap[g]? = some (.cells #[.slice A0 f0.length c0, .int .i64 f1, .int .i64 f2] 52 (0, 0))) : W.cell? ⟨g, 0, none⟩ = some (.slice A0 f0.length c0) := (blk_cell h 0).trans rfl
theorem cellS52_1 {W : World} {g : Nat} {A0 : Option Addr} {c0 : Nat} {f0 : List Int} {f1 : Int} {f2 : Int} (h : W.heap[g]? = some (.cells #[.slice A0 f0.length c0, .int .i64 f1, .int .i64 f2] 52 (0, 0))) : W.cell? ⟨g, 1, none⟩ = some (.int .i64 f1) := (blk_cell h 1).trans rfl
theorem IsS52.set_1 {w0 W : World} {g : Nat} {f0 : List Int} {f1 : Int} {f2 : Int} (h : IsS52 w0 W g f0 f1 f2) (x : Int) : IsS52 w0 (W.setCell ⟨g, 1, none⟩ (.int .i64 x)) g f0 x f2 := by
 obtain ⟨A0, c0, hb, hg, hr0⟩ := h
 exact ⟨A0, c0, (by simpa using blk_set hb 1 (.int .i64 x)), hg, hr0⟩
theorem cellS52_2 {W : World} {g : Nat} {A0 : Option Addr} {c0 : Nat} {f0 : List Int} {f1 : Int} {f2 : Int} (h : W.heap[g]? = some (.cells #[.slice A0 f0.length c0, .int .i64 f1, .int .i64 f2] 52 (0, 0))) : W.cell? ⟨g, 2, none⟩ = some (.int .i64 f2) := (blk_cell h 2).trans rfl
theorem IsS52.set_2 {w0 W : World} {g : Nat} {f0 : List Int} {f1 : Int} {f2 : Int} (h : IsS52 w0 W g f0 f1 f2) (x : Int) : IsS52 w0 (W.setCell ⟨g, 2, none⟩ (.int .i64 x)) g f0 f1 x := by
 obtain ⟨A0, c0, hb, hg, hr0⟩ := h
 exact ⟨A0, c0, (by simpa using blk_set hb 2 (.int .i64 x)), hg, hr0⟩
theorem IsS52.new (w0 W : World) (A0 : Option Addr) (c0 : Nat) (f0 : List Int) (f1 : Int) (f2 : Int) (hB : Below w0.heap.size w0 W) (hr0 : Kd.C (Kd.int .u8) w0 A0 f0.length f0) : IsS52 w0 (W.alloc (.cells #[.slice A0 f0.length c0, .int .i64 f1, .int .i64 f2] 52)) W.heap.size f0 f1 f2 := ⟨A0, c0, (by simpa using heap_alloc_new W _), hB.size, hr0⟩
def spec_l00Source.f (l0 : List Int) : Option (List Int × Int × Int) := some (l0, 0, (l0.length : Int) % 1000)
set_option maxHeartbeats 8000000 in
set_option maxRecDepth 100000 in
theorem spec_l00Source.calls (A0 : Option Addr) (c0 : Nat) (l0 : List Int) (r1 : List Int) (r2 : Int) (r3 : Int) (w0 w : World) (hB : Below w0.heap.size w0 w) (hr0 : Kd.C (Kd.int .u8) w0 A0 l0.length l0) (hc0 : l0.length ≤ c0) (h : spec_l00Source.f l0 = some (r1, r2, r3)) :
  Calls Tryd.prog 11 #[.slice A0 l0.length c0] w fun e w' => ∃ g_ : Nat, e = .returned (.pointer (some ⟨g_, 0, none⟩)) ∧ IsS52 w0 w' g_ r1 r2 r3 ∧ Below w0.heap.size w0 w' ∧ Below w.heap.size w w' := by
 have hu52 := Tryd.underlying52
 have HR0 := am_ hr0
 have HC0 := am_ hc0
 clear hr0 hc0
 have HBW := am_ (Below.refl w.heap.size w)
 have HW0 := am_ hB.size
 have HB := am_ hB
 clear hB
 have H : (some (l0, 0, (l0.length : Int) % 1000)) = some (r1, r2, r3) := h
 clear h
 simp only [Option.some.injEq, Prod.mk.injEq] at H
 obtain ⟨rfl, rfl, rfl⟩ := H
 go_enter Tryd.func11, Tryd.ntmps11
 go_wp2_with (first | ((with_reducible refine gate_dst (N := 8) rfl ?_); refine box_event ?hg (N := 8) ?hd (cs := #[.slice A0 l0.length c0, .int .i64 0, .int .i64 ((l0.length : Int) % 1000)]) (t := 52) ?hr ?_; (case hd => rfl); (case hg => rfl); (case hr => first | (go_simp; done) | (go_simp; rfl)); intro gb101 hg w2 hbox hb; have n0_ := am_ (below_step HBW.out hb); have n1_ := am_ (below_step qz3_ hb); have n2_ := am_ (hbox); have n3_ := am_ ((by rw [hg]; exact (below_size (by repeat (first | (with_reducible first | exact HBW.out | apply below_alloc | apply pw_below_drewN | apply below_drew1) | exact HBW.out))) : w.heap.size ≤ gb101)); have n4_ := am_ ((Nat.le_trans HW0.out (by rw [hg]; exact (below_size (by repeat (first | (with_reducible first | exact HBW.out | apply below_alloc | apply pw_below_drewN | apply below_drew1) | exact HBW.out))) : w.heap.size ≤ gb101) : w0.heap.size ≤ gb101)); clear HBW; clear HB; have HBW := n0_; have HB := n1_; have BK101 := n2_; have GW101 := n3_; have GE101 := n4_; clear n0_ n1_ n2_ n3_ n4_; clear hb hbox hg))
 go_ret
 exact ⟨_, rfl, (show IsS52 w0 _ gb101 l0 0 ((l0.length : Int) % 1000) from ⟨_, _, qz4_, GE101.out, HR0.out⟩), by repeat (first | (with_reducible first | exact HB.out | apply below_alloc | apply pw_below_drewN | apply below_drew1 | refine below_set ?_ GE101.out) | exact HB.out), by repeat (first | (with_reducible first | exact HBW.out | apply below_alloc | apply pw_below_drewN | apply below_drew1 | refine below_set ?_ GW101.out) | exact HBW.out)⟩

def spec_l00Src_byte.next (s : Int) : Int := (s * 1103515245 + 12345) % 2147483648
def spec_l00Src_byte.f (s0_0 : List Int) (s0_1 s0_2 : Int) : Option (Int × Int × Int) :=
 if 0 ≤ s0_1 ∧ s0_1 ≤ 1000000000000 ∧ 0 ≤ s0_2 ∧ s0_2 < 2147483648 then
  (if s0_1 < (s0_0.length : Int) then (if 0 ≤ rd s0_0 s0_1 ∧ rd s0_0 s0_1 ≤ 255 then some (rd s0_0 s0_1, s0_1 + 1, (s0_2 * 31 + rd s0_0 s0_1 + 7) % 2147483648) else none)
  else if 2999 < s0_1 then some (0, s0_1 + 1, s0_2) else some (spec_l00Src_byte.next s0_2 / 65536 % 256, s0_1 + 1, spec_l00Src_byte.next s0_2))
 else none
set_option maxHeartbeats 8000000 in
set_option maxRecDepth 100000 in
theorem spec_l00Src_byte.calls (g : Nat) (s0_0 : List Int) (s0_1 s0_2 : Int) (r1 r2 r3 : Int) (w0 w : World) (hI : IsS52 w0 w g s0_0 s0_1 s0_2) (hB : Below w0.heap.size w0 w) (h : spec_l00Src_byte.f s0_0 s0_1 s0_2 = some (r1, r2, r3)) :
  Calls Tryd.prog 42 #[.pointer (some ⟨g, 0, none⟩)] w fun e w' => e = .returned (.int .i64 r1) ∧ IsS52 w0 w' g s0_0 r2 r3 ∧ Below w0.heap.size w0 w' ∧ KeepBut w w' g none := by
 unfold spec_l00Src_byte.f at h
 by_cases hd : 0 ≤ s0_1 ∧ s0_1 ≤ 1000000000000 ∧ 0 ≤ s0_2 ∧ s0_2 < 2147483648
 ·
  rw [if_pos hd] at h
  obtain ⟨d1, d2, d3, d4⟩ := hd
  have HI := am_ hI
  have HB := am_ hB
  have HK := am_ (KeepBut.refl w g none)
  obtain ⟨A0, c0, hb, hge, hr0⟩ := hI
  have q0 := cellS52_0 hb
  have q1 := cellS52_1 hb
  have q2 := cellS52_2 hb
  have z0 := blk_frozen hb 0
  have z1 := blk_frozen hb 1
  have z2 := blk_frozen hb 2
  clear hB
  go_enter Tryd.func42, Tryd.ntmps42
  go_wp2_with fail
  have hI1 := HI.out.set_1 (s0_1 + 1)
  have hB1 : Below w0.heap.size w0 (w.setCell ⟨g, 1, none⟩ (.int .i64 (s0_1 + 1))) := below_set HB.out hge
  have hK1 := HK.out.set_ 1 (.int .i64 (s0_1 + 1))
  clear HI HB HK hb hr0 q0 q1 q2 z0 z1 z2
  generalize w.setCell ⟨g, 1, none⟩ (.int .i64 (s0_1 + 1)) = W1 at hI1 hB1 hK1 ⊢
  have HI := am_ hI1
  have HB := am_ hB1
  have HK := am_ hK1
  clear hB1 hK1
  obtain ⟨A1, c1, hb, _, hr0⟩ := hI1
  have q0 := cellS52_0 hb
  have q1 := cellS52_1 hb
  have q2 := cellS52_2 hb
  have z0 := blk_frozen hb 0
  have z1 := blk_frozen hb 1
  have z2 := blk_frozen hb 2
  have HR0 := am_ hr0
  clear hr0 hb
  by_cases hlt : s0_1 < (s0_0.length : Int)
  ·
   rw [if_pos hlt] at h
   by_cases hbyte : 0 ≤ rd s0_0 s0_1 ∧ rd s0_0 s0_1 ≤ 255
   ·
    rw [if_pos hbyte] at h
    simp only [Option.some.injEq, Prod.mk.injEq] at h
    obtain ⟨rfl, rfl, rfl⟩ := h
    obtain ⟨hb0, hb1⟩ := hbyte
    obtain ⟨ad, e_, hx⟩ := Kd.at_int HR0.out s0_1 d1 hlt
    cases e_
    have hx0 := am_ hx
    replace hx := (HB.out.cell (World.block_lt_of_cell? w0 _ hx)).trans hx
    have t1 : decide (s0_1 + 1 ≤ (s0_0.length : Int)) = true := decide_eq_true (by omega)
    have t2 : s0_1 + 1 - 1 = s0_1 := by omega
    go_quiet (fail)
    go_wp2_with fail
    refine wp_region_still_tail 23 (by kernel_rfl) (by kernel_rfl) ?_
    have q0' : (W1.drewN nq).drew.cell? ⟨g, 0, none⟩ = _ := q0
    have q1' : (W1.drewN nq).drew.cell? ⟨g, 1, none⟩ = _ := q1
    have q2' : (W1.drewN nq).drew.cell? ⟨g, 2, none⟩ = _ := q2
    have hx' : (W1.drewN nq).drew.cell? (ad.add s0_1.toNat) = _ := hx
    have z1' : (W1.drewN nq).drew.frozen? ⟨g, 1, none⟩ = _ := z1
    have z2' : (W1.drewN nq).drew.frozen? ⟨g, 2, none⟩ = _ := z2
    have hI1 : IsS52 w0 (W1.drewN nq).drew g s0_0 (s0_1 + 1) s0_2 := HI.out
    have hB1 : Below w0.heap.size w0 (W1.drewN nq).drew := by repeat (first | (with_reducible first | exact HB.out | apply below_alloc | apply pw_below_drewN | apply below_drew1) | exact HB.out)
    have hK1 : KeepBut w (W1.drewN nq).drew g none := HK.out
    clear q0 q1 q2 z0 z1 z2 hx HI HB HK
    change wpStill Tryd.prog _ (W1.drewN nq).drew (fun a' => wpList Tryd.prog _ _ _ a' (W1.drewN nq).drew) _ _
    generalize (W1.drewN nq).drew = W2 at q0' q1' q2' hx' z1' z2' hI1 hB1 hK1 ⊢
    have HI := am_ hI1
    have HB := am_ hB1
    have HK := am_ hK1
    clear hI1 hB1 hK1
    simp only [List.take_succ_cons, List.take_zero, List.drop_succ_cons, List.drop_zero]
    have v1 : IntKind.i64.wrap s0_1 = s0_1 := IntWalk.i64_in _ (by omega)
    have v2 : IntKind.i64.wrap (s0_2 * 31) = s0_2 * 31 := IntWalk.i64_in _ (by omega)
    have v3 : IntKind.i64.wrap (rd s0_0 s0_1) = rd s0_0 s0_1 := IntWalk.i64_in _ (by omega)
    have v4 : IntKind.i64.wrap (s0_2 * 31 + rd s0_0 s0_1) = s0_2 * 31 + rd s0_0 s0_1 := IntWalk.i64_in _ (by omega)
    have v5 : IntKind.i64.wrap (s0_2 * 31 + rd s0_0 s0_1 + 7) = s0_2 * 31 + rd s0_0 s0_1 + 7 := IntWalk.i64_in _ (by omega)
    have v6 : (s0_2 * 31 + rd s0_0 s0_1 + 7).tmod 2147483648 = (s0_2 * 31 + rd s0_0 s0_1 + 7) % 2147483648 := Int.tmod_eq_emod_of_nonneg (by omega)
    repeat still_step
    refine wpStill_nil ?_
    clear v1 v2 v3 v4 v5 v6
    go_wp2_with fail
    have hI2 := HI.out.set_2 ((s0_2 * 31 + rd s0_0 s0_1 + 7) % 2147483648)
    have hB2 : Below w0.heap.size w0 (W2.setCell ⟨g, 2, none⟩ (.int .i64 ((s0_2 * 31 + rd s0_0 s0_1 + 7) % 2147483648))) := below_set HB.out hge
    have hK2 := HK.out.set_ 2 (.int .i64 ((s0_2 * 31 + rd s0_0 s0_1 + 7) % 2147483648))
    have hx2 : (W2.setCell ⟨g, 2, none⟩ (.int .i64 ((s0_2 * 31 + rd s0_0 s0_1 + 7) % 2147483648))).cell? (ad.add s0_1.toNat) = some (.int .u8 (rd s0_0 s0_1)) := (hB2.cell (World.block_lt_of_cell? w0 _ hx0.out)).trans hx0.out
    clear q0' q1' q2' z1' z2' hx' HI HB HK
    generalize W2.setCell ⟨g, 2, none⟩ (.int .i64 ((s0_2 * 31 + rd s0_0 s0_1 + 7) % 2147483648)) = W3 at hI2 hB2 hK2 hx2 ⊢
    have HI := am_ hI2
    have HB := am_ hB2
    have HK := am_ hK2
    clear hB2 hK2
    obtain ⟨A3, c3, hb, _, hr3⟩ := hI2
    have q0 := cellS52_0 hb
    have q1 := cellS52_1 hb
    have HR3 := am_ hr3
    clear hr3 hb
    obtain ⟨ad3, e3, hx3⟩ := Kd.at_int HR3.out s0_1 d1 hlt
    cases e3
    replace hx3 := (HB.out.cell (World.block_lt_of_cell? w0 _ hx3)).trans hx3
    clear hx2
    have v1 : IntKind.i64.wrap s0_1 = s0_1 := IntWalk.i64_in _ (by omega)
    have v3 : IntKind.i64.wrap (rd s0_0 s0_1) = rd s0_0 s0_1 := IntWalk.i64_in _ (by omega)
    go_quiet (fail)
    clear v1 v3
    go_wp2_with fail
    go_ret
    exact ⟨(by first | rfl | simp), HI.out.drewN _, qz3_, HK.out⟩
   ·
    rw [if_neg hbyte] at h; exact absurd h (by simp)
  ·
   rw [if_neg hlt] at h
   have t1 : decide (s0_1 + 1 ≤ (s0_0.length : Int)) = false := decide_eq_false (by omega)
   by_cases h3 : 2999 < s0_1
   ·
    rw [if_pos h3] at h
    simp only [Option.some.injEq, Prod.mk.injEq] at h
    obtain ⟨rfl, rfl, rfl⟩ := h
    have t3 : decide (3000 < s0_1 + 1) = true := decide_eq_true (by omega)
    go_quiet (fail)
    go_wp2_with fail
    go_ret
    exact ⟨(by first | rfl | simp), HI.out.drewN _, qz3_, HK.out⟩
   ·
    rw [if_neg h3] at h
    simp only [Option.some.injEq, Prod.mk.injEq] at h
    obtain ⟨rfl, rfl, rfl⟩ := h
    have t3 : decide (3000 < s0_1 + 1) = false := decide_eq_false (by omega)
    go_quiet (fail)
    go_wp2_with fail
    go_ret
    exact ⟨rfl, (HI.out.drewN _).set_2 _, below_set qz3_ hge, HK.out.set_ 2 _⟩
 ·
  rw [if_neg hd] at h; exact absurd h (by simp)

def spec_l00Src_next.f (s0_0 : List Int) (s0_1 : Int) (s0_2 : Int) (a1 : Int) : Option (Int × Int × Int) := if a1 ≤ 1 then (some (0, s0_1, s0_2)) else (if a1 ≤ 256 then ((spec_l00Src_byte.f s0_0 s0_1 s0_2).bind fun bt101 => (if a1 = 0 then (none) else (some (Int.tmod bt101.1 a1, bt101.2.1, bt101.2.2)))) else ((spec_l00Src_byte.f s0_0 s0_1 s0_2).bind fun bt104 => ((spec_l00Src_byte.f s0_0 bt104.2.1 bt104.2.2).bind fun bt107 => ((spec_l00Src_byte.f s0_0 bt107.2.1 bt107.2.2).bind fun bt110 => (if a1 = 0 then (none) else (some (Int.tmod (wrap64 ((wrap64 ((wrap64 (bt104.1 * 65536)) + (wrap64 (bt107.1 * 256)))) + bt110.1)) a1, bt110.2.1, bt110.2.2)))))))
set_option maxHeartbeats 8000000 in
set_option maxRecDepth 100000 in
theorem spec_l00Src_next.calls (g : Nat) (s0_0 : List Int) (s0_1 : Int) (s0_2 : Int) (a1 : Int) (r1 : Int) (r2 : Int) (r3 : Int) (w0 w : World) (hI : IsS52 w0 w g s0_0 s0_1 s0_2) (hB : Below w0.heap.size w0 w) (h : spec_l00Src_next.f s0_0 s0_1 s0_2 a1 = some (r1, r2, r3)) :
  Calls Tryd.prog 25 #[.pointer (some ⟨g, 0, none⟩), .int .i64 a1] w fun e w' => e = .returned (.int .i64 r1) ∧ IsS52 w0 w' g s0_0 r2 r3 ∧ Below w0.heap.size w0 w' ∧ KeepBut w w' g none := by
 have HI0 := am_ hI
 have HK := am_ (KeepBut.refl w g none)
 have HL := am_ hB.size
 clear hI
 have HW0 := am_ hB.size
 have HB := am_ hB
 clear hB
 have H : (if a1 ≤ 1 then (some (0, s0_1, s0_2)) else (if a1 ≤ 256 then ((spec_l00Src_byte.f s0_0 s0_1 s0_2).bind fun bt101 => (if a1 = 0 then (none) else (some (Int.tmod bt101.1 a1, bt101.2.1, bt101.2.2)))) else ((spec_l00Src_byte.f s0_0 s0_1 s0_2).bind fun bt104 => ((spec_l00Src_byte.f s0_0 bt104.2.1 bt104.2.2).bind fun bt107 => ((spec_l00Src_byte.f s0_0 bt107.2.1 bt107.2.2).bind fun bt110 => (if a1 = 0 then (none) else (some (Int.tmod (wrap64 ((wrap64 ((wrap64 (bt104.1 * 65536)) + (wrap64 (bt107.1 * 256)))) + bt110.1)) a1, bt110.2.1, bt110.2.2)))))))) = some (r1, r2, r3) := h
 clear h
 by_cases c3 : a1 ≤ 1
 ·
  rw [if_pos c3] at H
  have c3b0 : decide (a1 ≤ 1) = true := decide_eq_true c3
  clear c3
  simp only [Option.some.injEq, Prod.mk.injEq] at H
  obtain ⟨rfl, rfl, rfl⟩ := H
  go_enter Tryd.func25, Tryd.ntmps25
  go_wp2
  go_ret
  exact ⟨qz5_, qz6_, qz7_, qz8_⟩
 ·
  rw [if_neg c3] at H
  have c3b0 : decide (a1 ≤ 1) = false := decide_eq_false c3
  clear c3
  by_cases c4 : a1 ≤ 256
  ·
   rw [if_pos c4] at H
   have c4b0 : decide (a1 ≤ 256) = true := decide_eq_true c4
   clear c4
   replace H := Option.bind_eq_some_iff.mp H
   obtain ⟨⟨t101, t102, t103⟩, A50, H⟩ := H
   replace H : (if a1 = 0 then (none) else (some (Int.tmod t101 a1, t102, t103))) = some (r1, r2, r3) := H
   have A5 := am_ A50
   clear A50
   by_cases c6 : a1 = 0
   ·
    rw [if_pos c6] at H
    exact absurd H (by simp)
   ·
    rw [if_neg c6] at H
    have c6b0 : (a1 == 0) = false := beq_eq_false_iff_ne.mpr c6
    have c6b1 : (a1 != 0) = true := bne_iff_ne.mpr c6
    simp only [Option.some.injEq, Prod.mk.injEq] at H
    obtain ⟨rfl, rfl, rfl⟩ := H
    go_enter Tryd.func25, Tryd.ntmps25
    go_wp2_with (first | ((with_reducible refine gate_callee (f := 42) rfl ?_); refine goesL_ (some 13) rfl rfl Tryd.func42 (by kernel_rfl) rfl #[.pointer (some ⟨g, 0, none⟩)] rfl qz2_ ?_; (with_reducible refine (spec_l00Src_byte.calls g s0_0 s0_1 s0_2 t101 t102 t103 w0 _ ?side1 ?side2 A5.out).mono ?_); (case side1 => repeat (first | (with_reducible first | exact HI0.out | apply IsS52.alloc | apply IsS52.drewN | apply IsS52.drew | apply IsS52.set_1 | apply IsS52.set_2) | exact HI0.out)); (case side2 => repeat (first | (with_reducible first | exact HB.out | apply below_alloc | apply pw_below_drewN | apply below_drew1 | refine below_set ?_ (IsS52.ge HI0.out)) | exact HB.out)); rintro e w7 ⟨rfl, hi, hb, hk⟩; refine ⟨_, rfl, ?_⟩; have n0_ := am_ (KeepBut.trans qz8_ hk (.inl rfl)); have n1_ := am_ (hb); have n2_ := am_ (hi); clear HK; clear HB; clear HI0; have HK := n0_; have HB := n1_; have HI0 := n2_; clear n0_ n1_ n2_; (try clear hb); (try clear hb2); (try clear hk); (try clear hi)))
    go_ret
    exact ⟨qz5_, qz6_, qz7_, qz8_⟩
  ·
   rw [if_neg c4] at H
   have c4b0 : decide (a1 ≤ 256) = false := decide_eq_false c4
   clear c4
   replace H := Option.bind_eq_some_iff.mp H
   obtain ⟨⟨t104, t105, t106⟩, A80, H⟩ := H
   replace H : ((spec_l00Src_byte.f s0_0 t105 t106).bind fun bt107 => ((spec_l00Src_byte.f s0_0 bt107.2.1 bt107.2.2).bind fun bt110 => (if a1 = 0 then (none) else (some (Int.tmod (wrap64 ((wrap64 ((wrap64 (t104 * 65536)) + (wrap64 (bt107.1 * 256)))) + bt110.1)) a1, bt110.2.1, bt110.2.2))))) = some (r1, r2, r3) := H
   have A8 := am_ A80
   clear A80
   replace H := Option.bind_eq_some_iff.mp H
   obtain ⟨⟨t107, t108, t109⟩, A90, H⟩ := H
   replace H : ((spec_l00Src_byte.f s0_0 t108 t109).bind fun bt110 => (if a1 = 0 then (none) else (some (Int.tmod (wrap64 ((wrap64 ((wrap64 (t104 * 65536)) + (wrap64 (t107 * 256)))) + bt110.1)) a1, bt110.2.1, bt110.2.2)))) = some (r1, r2, r3) := H
   have A9 := am_ A90
   clear A90
   replace H := Option.bind_eq_some_iff.mp H
   obtain ⟨⟨t110, t111, t112⟩, A100, H⟩ := H
   replace H : (if a1 = 0 then (none) else (some (Int.tmod (wrap64 ((wrap64 ((wrap64 (t104 * 65536)) + (wrap64 (t107 * 256)))) + t110)) a1, t111, t112))) = some (r1, r2, r3) := H
   have A10 := am_ A100
   clear A100
   by_cases c11 : a1 = 0
   ·
    rw [if_pos c11] at H
    exact absurd H (by simp)
   ·
    rw [if_neg c11] at H
    have c11b0 : (a1 == 0) = false := beq_eq_false_iff_ne.mpr c11
    have c11b1 : (a1 != 0) = true := bne_iff_ne.mpr c11
    simp only [Option.some.injEq, Prod.mk.injEq] at H
    obtain ⟨rfl, rfl, rfl⟩ := H
    go_enter Tryd.func25, Tryd.ntmps25
    go_wp2_with (first | ((with_reducible refine gate_callee (f := 42) rfl ?_); refine goesL_ (some 17) rfl rfl Tryd.func42 (by kernel_rfl) rfl #[.pointer (some ⟨g, 0, none⟩)] rfl qz2_ ?_; (with_reducible refine (spec_l00Src_byte.calls g s0_0 s0_1 s0_2 t104 t105 t106 w0 _ ?side1 ?side2 A8.out).mono ?_); (case side1 => repeat (first | (with_reducible first | exact HI0.out | apply IsS52.alloc | apply IsS52.drewN | apply IsS52.drew | apply IsS52.set_1 | apply IsS52.set_2) | exact HI0.out)); (case side2 => repeat (first | (with_reducible first | exact HB.out | apply below_alloc | apply pw_below_drewN | apply below_drew1 | refine below_set ?_ (IsS52.ge HI0.out)) | exact HB.out)); rintro e w12 ⟨rfl, hi, hb, hk⟩; refine ⟨_, rfl, ?_⟩; have n0_ := am_ (KeepBut.trans qz8_ hk (.inl rfl)); have n1_ := am_ (hb); have n2_ := am_ (hi); clear HK; clear HB; clear HI0; have HK := n0_; have HB := n1_; have HI0 := n2_; clear n0_ n1_ n2_; (try clear hb); (try clear hb2); (try clear hk); (try clear hi)) | ((with_reducible refine gate_callee (f := 42) rfl ?_); refine goesL_ (some 19) rfl rfl Tryd.func42 (by kernel_rfl) rfl #[.pointer (some ⟨g, 0, none⟩)] rfl qz2_ ?_; (with_reducible refine (spec_l00Src_byte.calls g s0_0 t105 t106 t107 t108 t109 w0 _ ?side1 ?side2 A9.out).mono ?_); (case side1 => repeat (first | (with_reducible first | exact HI0.out | apply IsS52.alloc | apply IsS52.drewN | apply IsS52.drew | apply IsS52.set_1 | apply IsS52.set_2) | exact HI0.out)); (case side2 => repeat (first | (with_reducible first | exact HB.out | apply below_alloc | apply pw_below_drewN | apply below_drew1 | refine below_set ?_ (IsS52.ge HI0.out)) | exact HB.out)); rintro e w13 ⟨rfl, hi, hb, hk⟩; refine ⟨_, rfl, ?_⟩; have n0_ := am_ (KeepBut.trans qz8_ hk (.inl rfl)); have n1_ := am_ (hb); have n2_ := am_ (hi); clear HK; clear HB; clear HI0; have HK := n0_; have HB := n1_; have HI0 := n2_; clear n0_ n1_ n2_; (try clear hb); (try clear hb2); (try clear hk); (try clear hi)) | ((with_reducible refine gate_callee (f := 42) rfl ?_); refine goesL_ (some 21) rfl rfl Tryd.func42 (by kernel_rfl) rfl #[.pointer (some ⟨g, 0, none⟩)] rfl qz2_ ?_; (with_reducible refine (spec_l00Src_byte.calls g s0_0 t108 t109 t110 t111 t112 w0 _ ?side1 ?side2 A10.out).mono ?_); (case side1 => repeat (first | (with_reducible first | exact HI0.out | apply IsS52.alloc | apply IsS52.drewN | apply IsS52.drew | apply IsS52.set_1 | apply IsS52.set_2) | exact HI0.out)); (case side2 => repeat (first | (with_reducible first | exact HB.out | apply below_alloc | apply pw_below_drewN | apply below_drew1 | refine below_set ?_ (IsS52.ge HI0.out)) | exact HB.out)); rintro e w14 ⟨rfl, hi, hb, hk⟩; refine ⟨_, rfl, ?_⟩; have n0_ := am_ (KeepBut.trans qz8_ hk (.inl rfl)); have n1_ := am_ (hb); have n2_ := am_ (hi); clear HK; clear HB; clear HI0; have HK := n0_; have HB := n1_; have HI0 := n2_; clear n0_ n1_ n2_; (try clear hb); (try clear hb2); (try clear hk); (try clear hi)))
    go_ret
    exact ⟨qz5_, qz6_, qz7_, qz8_⟩

def spec_l00Src_chance.f (s0_0 : List Int) (s0_1 : Int) (s0_2 : Int) (a1 : Int) : Option (Bool × Int × Int) := (spec_l00Src_next.f s0_0 s0_1 s0_2 a1).bind fun bt101 => (some ((bt101.1 == (wrap64 (a1 - 1))), bt101.2.1, bt101.2.2))
set_option maxHeartbeats 8000000 in
set_option maxRecDepth 100000 in
theorem spec_l00Src_chance.calls (g : Nat) (s0_0 : List Int) (s0_1 : Int) (s0_2 : Int) (a1 : Int) (r1 : Bool) (r2 : Int) (r3 : Int) (w0 w : World) (hI : IsS52 w0 w g s0_0 s0_1 s0_2) (hB : Below w0.heap.size w0 w) (h : spec_l00Src_chance.f s0_0 s0_1 s0_2 a1 = some (r1, r2, r3)) :
  Calls Tryd.prog 26 #[.pointer (some ⟨g, 0, none⟩), .int .i64 a1] w fun e w' => e = .returned (.bool r1) ∧ IsS52 w0 w' g s0_0 r2 r3 ∧ Below w0.heap.size w0 w' ∧ KeepBut w w' g none := by
 have HI0 := am_ hI
 have HK := am_ (KeepBut.refl w g none)
 have HL := am_ hB.size
 clear hI
 have HW0 := am_ hB.size
 have HB := am_ hB
 clear hB
 have H : ((spec_l00Src_next.f s0_0 s0_1 s0_2 a1).bind fun bt101 => (some ((bt101.1 == (wrap64 (a1 - 1))), bt101.2.1, bt101.2.2))) = some (r1, r2, r3) := h
 clear h
 replace H := Option.bind_eq_some_iff.mp H
 obtain ⟨⟨t101, t102, t103⟩, A30, H⟩ := H
 replace H : (some ((t101 == (wrap64 (a1 - 1))), t102, t103)) = some (r1, r2, r3) := H
 have A3 := am_ A30
 clear A30
 simp only [Option.some.injEq, Prod.mk.injEq] at H
 obtain ⟨rfl, rfl, rfl⟩ := H
 go_enter Tryd.func26, Tryd.ntmps26
 go_wp2_with (first | ((with_reducible refine gate_callee (f := 25) rfl ?_); refine goesL_ (some 7) rfl rfl Tryd.func25 (by kernel_rfl) rfl #[.pointer (some ⟨g, 0, none⟩), .int .i64 a1] rfl qz2_ ?_; (with_reducible refine (spec_l00Src_next.calls g s0_0 s0_1 s0_2 a1 t101 t102 t103 w0 _ ?side1 ?side2 A3.out).mono ?_); (case side1 => repeat (first | (with_reducible first | exact HI0.out | apply IsS52.alloc | apply IsS52.drewN | apply IsS52.drew | apply IsS52.set_1 | apply IsS52.set_2) | exact HI0.out)); (case side2 => repeat (first | (with_reducible first | exact HB.out | apply below_alloc | apply pw_below_drewN | apply below_drew1 | refine below_set ?_ (IsS52.ge HI0.out)) | exact HB.out)); rintro e w4 ⟨rfl, hi, hb, hk⟩; refine ⟨_, rfl, ?_⟩; have n0_ := am_ (KeepBut.trans qz8_ hk (.inl rfl)); have n1_ := am_ (hb); have n2_ := am_ (hi); clear HK; clear HB; clear HI0; have HK := n0_; have HB := n1_; have HI0 := n2_; clear n0_ n1_ n2_; (try clear hb); (try clear hb2); (try clear hk); (try clear hi)))
 go_ret
 exact ⟨qz5_, qz6_, qz7_, qz8_⟩

def spec_l00Src_field.l0 : Nat → Int → Int → List Int → Int → Int → Option (Int × Int × Int)
 | 0, _, _, _, _, _ => none
 | k + 1, x3, x4, x1000, x1001, x1002 => if x4 < 5 then ((spec_l00Src_next.f x1000 x1001 x1002 256).bind fun bt110 => (spec_l00Src_field.l0 k (Int.tmod (wrap64 ((wrap64 (x3 * 256)) + bt110.1)) 2130706433) (wrap64 (x4 + 1)) x1000 bt110.2.1 bt110.2.2)) else (some (x3, x1001, x1002))
def spec_l00Src_field.f (k : Nat) (s0_0 : List Int) (s0_1 : Int) (s0_2 : Int) : Option (Int × Int × Int) := (spec_l00Src_next.f s0_0 s0_1 s0_2 5).bind fun bt101 => (if bt101.1 = 0 then ((spec_l00Src_next.f s0_0 bt101.2.1 bt101.2.2 4).bind fun bt104 => (some (bt104.1, bt104.2.1, bt104.2.2))) else (if bt101.1 = 1 then ((spec_l00Src_next.f s0_0 bt101.2.1 bt101.2.2 3).bind fun bt107 => (some (wrap64 (2130706432 - bt107.1), bt107.2.1, bt107.2.2))) else (spec_l00Src_field.l0 k 0 0 s0_0 bt101.2.1 bt101.2.2)))
theorem spec_l00Src_field.mono_l : ∀ k, (∀ y0 y1 y2 y3 y4, LeO (spec_l00Src_field.l0 k y0 y1 y2 y3 y4) (spec_l00Src_field.l0 (k + 1) y0 y1 y2 y3 y4))
 | 0 => fun _ _ _ _ _ r h => by simp [spec_l00Src_field.l0] at h
 | k + 1 => by
  have ih0 := spec_l00Src_field.mono_l k
  ·
   intro y0 y1 y2 y3 y4
   unfold spec_l00Src_field.l0
   repeat' first
   | (with_reducible exact ih0 _ _ _ _ _)
   | (with_reducible exact LeO.refl _)
   | (with_reducible exact LeO.none _)
   | (with_reducible refine LeO.ite ?_ ?_)
   | (with_reducible refine LeO.bind ?_ (fun _ => ?_))
   | exact ih0 _ _ _ _ _
   | exact LeO.none _
   | refine LeO.ite ?_ ?_
   | refine LeO.bind ?_ (fun _ => ?_)
theorem spec_l00Src_field.mono : ∀ a0 a1 a2 k, LeO (spec_l00Src_field.f k a0 a1 a2) (spec_l00Src_field.f (k + 1) a0 a1 a2) := by
 intro a0 a1 a2 k
 have ih0 := spec_l00Src_field.mono_l k
 unfold spec_l00Src_field.f
 repeat' first
   | (with_reducible exact ih0 _ _ _ _ _)
   | (with_reducible exact LeO.refl _)
   | (with_reducible exact LeO.none _)
   | (with_reducible refine LeO.ite ?_ ?_)
   | (with_reducible refine LeO.bind ?_ (fun _ => ?_))
   | exact ih0 _ _ _ _ _
   | exact LeO.none _
   | refine LeO.ite ?_ ?_
   | refine LeO.bind ?_ (fun _ => ?_)
set_option maxHeartbeats 8000000 in
set_option maxRecDepth 100000 in
theorem spec_l00Src_field.calls (k : Nat) (g : Nat) (s0_0 : List Int) (s0_1 : Int) (s0_2 : Int) (r1 : Int) (r2 : Int) (r3 : Int) (w0 w : World) (hI : IsS52 w0 w g s0_0 s0_1 s0_2) (hB : Below w0.heap.size w0 w) (h : spec_l00Src_field.f k s0_0 s0_1 s0_2 = some (r1, r2, r3)) :
  Calls Tryd.prog 28 #[.pointer (some ⟨g, 0, none⟩)] w fun e w' => e = .returned (.int .i64 r1) ∧ IsS52 w0 w' g s0_0 r2 r3 ∧ Below w0.heap.size w0 w' ∧ KeepBut w w' g none := by
 have HI0 := am_ hI
 have HK := am_ (KeepBut.refl w g none)
 have HL := am_ hB.size
 clear hI
 have HW0 := am_ hB.size
 have HB := am_ hB
 clear hB
 have H : ((spec_l00Src_next.f s0_0 s0_1 s0_2 5).bind fun bt101 => (if bt101.1 = 0 then ((spec_l00Src_next.f s0_0 bt101.2.1 bt101.2.2 4).bind fun bt104 => (some (bt104.1, bt104.2.1, bt104.2.2))) else (if bt101.1 = 1 then ((spec_l00Src_next.f s0_0 bt101.2.1 bt101.2.2 3).bind fun bt107 => (some (wrap64 (2130706432 - bt107.1), bt107.2.1, bt107.2.2))) else (spec_l00Src_field.l0 k 0 0 s0_0 bt101.2.1 bt101.2.2)))) = some (r1, r2, r3) := h
 clear h
 replace H := Option.bind_eq_some_iff.mp H
 obtain ⟨⟨t101, t102, t103⟩, A20, H⟩ := H
 replace H : (if t101 = 0 then ((spec_l00Src_next.f s0_0 t102 t103 4).bind fun bt104 => (some (bt104.1, bt104.2.1, bt104.2.2))) else (if t101 = 1 then ((spec_l00Src_next.f s0_0 t102 t103 3).bind fun bt107 => (some (wrap64 (2130706432 - bt107.1), bt107.2.1, bt107.2.2))) else (spec_l00Src_field.l0 k 0 0 s0_0 t102 t103))) = some (r1, r2, r3) := H
 have A2 := am_ A20
 clear A20
 by_cases c3 : t101 = 0
 ·
  rw [if_pos c3] at H
  have c3b0 : (t101 == 0) = true := beq_iff_eq.mpr c3
  have c3b1 : (t101 != 0) = false := bne_eq_false_iff_eq.mpr c3
  clear c3
  replace H := Option.bind_eq_some_iff.mp H
  obtain ⟨⟨t104, t105, t106⟩, A40, H⟩ := H
  replace H : (some (t104, t105, t106)) = some (r1, r2, r3) := H
  have A4 := am_ A40
  clear A40
  simp only [Option.some.injEq, Prod.mk.injEq] at H
  obtain ⟨rfl, rfl, rfl⟩ := H
  go_enter Tryd.func28, Tryd.ntmps28
  go_wp2_with (first | ((with_reducible refine gate_callee (f := 25) rfl ?_); refine goesL_ (some 6) rfl rfl Tryd.func25 (by kernel_rfl) rfl #[.pointer (some ⟨g, 0, none⟩), .int .i64 5] rfl qz2_ ?_; (with_reducible refine (spec_l00Src_next.calls g s0_0 s0_1 s0_2 5 t101 t102 t103 w0 _ ?side1 ?side2 A2.out).mono ?_); (case side1 => repeat (first | (with_reducible first | exact HI0.out | apply IsS52.alloc | apply IsS52.drewN | apply IsS52.drew | apply IsS52.set_1 | apply IsS52.set_2) | exact HI0.out)); (case side2 => repeat (first | (with_reducible first | exact HB.out | apply below_alloc | apply pw_below_drewN | apply below_drew1 | refine below_set ?_ (IsS52.ge HI0.out)) | exact HB.out)); rintro e w5 ⟨rfl, hi, hb, hk⟩; refine ⟨_, rfl, ?_⟩; have n0_ := am_ (KeepBut.trans qz8_ hk (.inl rfl)); have n1_ := am_ (hb); have n2_ := am_ (hi); clear HK; clear HB; clear HI0; have HK := n0_; have HB := n1_; have HI0 := n2_; clear n0_ n1_ n2_; (try clear hb); (try clear hb2); (try clear hk); (try clear hi)) | ((with_reducible refine gate_callee (f := 25) rfl ?_); refine goesL_ (some 10) rfl rfl Tryd.func25 (by kernel_rfl) rfl #[.pointer (some ⟨g, 0, none⟩), .int .i64 4] rfl qz2_ ?_; (with_reducible refine (spec_l00Src_next.calls g s0_0 t102 t103 4 t104 t105 t106 w0 _ ?side1 ?side2 A4.out).mono ?_); (case side1 => repeat (first | (with_reducible first | exact HI0.out | apply IsS52.alloc | apply IsS52.drewN | apply IsS52.drew | apply IsS52.set_1 | apply IsS52.set_2) | exact HI0.out)); (case side2 => repeat (first | (with_reducible first | exact HB.out | apply below_alloc | apply pw_below_drewN | apply below_drew1 | refine below_set ?_ (IsS52.ge HI0.out)) | exact HB.out)); rintro e w6 ⟨rfl, hi, hb, hk⟩; refine ⟨_, rfl, ?_⟩; have n0_ := am_ (KeepBut.trans qz8_ hk (.inl rfl)); have n1_ := am_ (hb); have n2_ := am_ (hi); clear HK; clear HB; clear HI0; have HK := n0_; have HB := n1_; have HI0 := n2_; clear n0_ n1_ n2_; (try clear hb); (try clear hb2); (try clear hk); (try clear hi)))
  go_ret
  exact ⟨qz5_, qz6_, qz7_, qz8_⟩
 ·
  rw [if_neg c3] at H
  have c3b0 : (t101 == 0) = false := beq_eq_false_iff_ne.mpr c3
  have c3b1 : (t101 != 0) = true := bne_iff_ne.mpr c3
  by_cases c7 : t101 = 1
  ·
   rw [if_pos c7] at H
   have c7b0 : (t101 == 1) = true := beq_iff_eq.mpr c7
   have c7b1 : (t101 != 1) = false := bne_eq_false_iff_eq.mpr c7
   clear c7
   replace H := Option.bind_eq_some_iff.mp H
   obtain ⟨⟨t107, t108, t109⟩, A80, H⟩ := H
   replace H : (some (wrap64 (2130706432 - t107), t108, t109)) = some (r1, r2, r3) := H
   have A8 := am_ A80
   clear A80
   simp only [Option.some.injEq, Prod.mk.injEq] at H
   obtain ⟨rfl, rfl, rfl⟩ := H
   go_enter Tryd.func28, Tryd.ntmps28
   go_wp2_with (first | ((with_reducible refine gate_callee (f := 25) rfl ?_); refine goesL_ (some 6) rfl rfl Tryd.func25 (by kernel_rfl) rfl #[.pointer (some ⟨g, 0, none⟩), .int .i64 5] rfl qz2_ ?_; (with_reducible refine (spec_l00Src_next.calls g s0_0 s0_1 s0_2 5 t101 t102 t103 w0 _ ?side1 ?side2 A2.out).mono ?_); (case side1 => repeat (first | (with_reducible first | exact HI0.out | apply IsS52.alloc | apply IsS52.drewN | apply IsS52.drew | apply IsS52.set_1 | apply IsS52.set_2) | exact HI0.out)); (case side2 => repeat (first | (with_reducible first | exact HB.out | apply below_alloc | apply pw_below_drewN | apply below_drew1 | refine below_set ?_ (IsS52.ge HI0.out)) | exact HB.out)); rintro e w9 ⟨rfl, hi, hb, hk⟩; refine ⟨_, rfl, ?_⟩; have n0_ := am_ (KeepBut.trans qz8_ hk (.inl rfl)); have n1_ := am_ (hb); have n2_ := am_ (hi); clear HK; clear HB; clear HI0; have HK := n0_; have HB := n1_; have HI0 := n2_; clear n0_ n1_ n2_; (try clear hb); (try clear hb2); (try clear hk); (try clear hi)) | ((with_reducible refine gate_callee (f := 25) rfl ?_); refine goesL_ (some 14) rfl rfl Tryd.func25 (by kernel_rfl) rfl #[.pointer (some ⟨g, 0, none⟩), .int .i64 3] rfl qz2_ ?_; (with_reducible refine (spec_l00Src_next.calls g s0_0 t102 t103 3 t107 t108 t109 w0 _ ?side1 ?side2 A8.out).mono ?_); (case side1 => repeat (first | (with_reducible first | exact HI0.out | apply IsS52.alloc | apply IsS52.drewN | apply IsS52.drew | apply IsS52.set_1 | apply IsS52.set_2) | exact HI0.out)); (case side2 => repeat (first | (with_reducible first | exact HB.out | apply below_alloc | apply pw_below_drewN | apply below_drew1 | refine below_set ?_ (IsS52.ge HI0.out)) | exact HB.out)); rintro e w10 ⟨rfl, hi, hb, hk⟩; refine ⟨_, rfl, ?_⟩; have n0_ := am_ (KeepBut.trans qz8_ hk (.inl rfl)); have n1_ := am_ (hb); have n2_ := am_ (hi); clear HK; clear HB; clear HI0; have HK := n0_; have HB := n1_; have HI0 := n2_; clear n0_ n1_ n2_; (try clear hb); (try clear hb2); (try clear hk); (try clear hi)))
   go_ret
   exact ⟨qz5_, qz6_, qz7_, qz8_⟩
  ·
   rw [if_neg c7] at H
   have c7b0 : (t101 == 1) = false := beq_eq_false_iff_ne.mpr c7
   have c7b1 : (t101 != 1) = true := bne_iff_ne.mpr c7
   have H' := am_ H
   clear H
   go_enter Tryd.func28, Tryd.ntmps28
   go_wp2_with (first | ((with_reducible refine gate_callee (f := 25) rfl ?_); refine goesL_ (some 6) rfl rfl Tryd.func25 (by kernel_rfl) rfl #[.pointer (some ⟨g, 0, none⟩), .int .i64 5] rfl qz2_ ?_; (with_reducible refine (spec_l00Src_next.calls g s0_0 s0_1 s0_2 5 t101 t102 t103 w0 _ ?side1 ?side2 A2.out).mono ?_); (case side1 => repeat (first | (with_reducible first | exact HI0.out | apply IsS52.alloc | apply IsS52.drewN | apply IsS52.drew | apply IsS52.set_1 | apply IsS52.set_2) | exact HI0.out)); (case side2 => repeat (first | (with_reducible first | exact HB.out | apply below_alloc | apply pw_below_drewN | apply below_drew1 | refine below_set ?_ (IsS52.ge HI0.out)) | exact HB.out)); rintro e w11 ⟨rfl, hi, hb, hk⟩; refine ⟨_, rfl, ?_⟩; have n0_ := am_ (KeepBut.trans qz8_ hk (.inl rfl)); have n1_ := am_ (hb); have n2_ := am_ (hi); clear HK; clear HB; clear HI0; have HK := n0_; have HB := n1_; have HI0 := n2_; clear n0_ n1_ n2_; (try clear hb); (try clear hb2); (try clear hk); (try clear hi)))
   go_loopg [3, 4] k (fun kq v3 v4 w' => ∃ (x3_1 : Int) (x4_1 : Int) (x1001_1 : Int) (x1002_1 : Int), v3 = .int .i64 x3_1 ∧ v4 = .int .i64 x4_1 ∧ Aside0 (spec_l00Src_field.l0 kq x3_1 x4_1 s0_0 x1001_1 x1002_1 = some (r1, r2, r3)) ∧ Aside0 (kq ≤ k) ∧ Aside0 (IsS52 w0 w' g s0_0 x1001_1 x1002_1) ∧ Aside0 (KeepBut w w' g none) ∧ Aside0 (Below w0.heap.size w0 w'))
   case atStart => exact ⟨(0), (0), (t102), (t103), qz0_, qz0_, H', ⟨Nat.le_refl _⟩, ⟨qz6_⟩, ⟨qz8_⟩, ⟨qz7_⟩⟩
   case round =>
    clear H'
    try clear c2
    try clear p2
    try clear c3
    try clear c3b0
    try clear c3b1
    try clear p6
    try clear c7
    try clear c7b0
    try clear c7b1
    obtain ⟨x3_1, x4_1, x1001_1, x1002_1, rfl, rfl, HA, HK1, HI0, HK, HB⟩ := hrel
    cases gk with
    | zero => exact absurd HA.out (by simp [spec_l00Src_field.l0])
    | succ k1 =>
     have H := HA.out
     clear HA
     simp only [spec_l00Src_field.l0] at H
     by_cases c12 : x4_1 < 5
     ·
      rw [if_pos c12] at H
      have c12b0 : decide (x4_1 < 5) = true := decide_eq_true c12
      clear c12
      replace H := Option.bind_eq_some_iff.mp H
      obtain ⟨⟨t110, t111, t112⟩, A130, H⟩ := H
      replace H : (spec_l00Src_field.l0 k1 (Int.tmod (wrap64 ((wrap64 (x3_1 * 256)) + t110)) 2130706433) (wrap64 (x4_1 + 1)) s0_0 t111 t112) = some (r1, r2, r3) := H
      have A13 := am_ A130
      clear A130
      have H' := am_ H
      clear H
      go_wp2_with (first | ((with_reducible refine gate_callee (f := 25) rfl ?_); refine goesL_ (some 23) rfl rfl Tryd.func25 (by kernel_rfl) rfl #[.pointer (some ⟨g, 0, none⟩), .int .i64 256] rfl qz2_ ?_; (with_reducible refine (spec_l00Src_next.calls g s0_0 x1001_1 x1002_1 256 t110 t111 t112 w0 _ ?side1 ?side2 A13.out).mono ?_); (case side1 => repeat (first | (with_reducible first | exact HI0.out | apply IsS52.alloc | apply IsS52.drewN | apply IsS52.drew | apply IsS52.set_1 | apply IsS52.set_2) | exact HI0.out)); (case side2 => repeat (first | (with_reducible first | exact HB.out | apply below_alloc | apply pw_below_drewN | apply below_drew1 | refine below_set ?_ (IsS52.ge HI0.out)) | exact HB.out)); rintro e w14 ⟨rfl, hi, hb, hk⟩; refine ⟨_, rfl, ?_⟩; have n0_ := am_ (KeepBut.trans qz8_ hk (.inl rfl)); have n1_ := am_ (hb); have n2_ := am_ (hi); clear HK; clear HB; clear HI0; have HK := n0_; have HB := n1_; have HI0 := n2_; clear n0_ n1_ n2_; (try clear hb); (try clear hb2); (try clear hk); (try clear hi)))
      go_roundg k1
      case measure => have := HK1.out; omega
      case rel => exact ⟨(Int.tmod (wrap64 ((wrap64 (x3_1 * 256)) + t110)) 2130706433), (wrap64 (x4_1 + 1)), (t111), (t112), qz0_, qz0_, H', ⟨(by have := HK1.out; omega)⟩, ⟨qz6_⟩, ⟨qz8_⟩, ⟨qz7_⟩⟩
     ·
      rw [if_neg c12] at H
      have c12b0 : decide (x4_1 < 5) = false := decide_eq_false c12
      clear c12
      simp only [Option.some.injEq, Prod.mk.injEq] at H
      obtain ⟨rfl, rfl, rfl⟩ := H
      go_wp2
      go_ret
      exact ⟨qz5_, qz6_, qz7_, qz8_⟩

end Go.Proofs.YtokljkneflejdaaDoor.PT
end
section
/- What is drawn from bytes: the numbers and elements that the laws draw are of the field. -/
namespace Go.Proofs.YtokljkneflejdaaDoor.PT
open Go.RowKit Go.Proofs.YtokljkneflejdaaDoorW.PrintWords Go.Proofs.YtokljkneflejdaaDoorW.PrintLast Go.Proofs.YtokljkneflejdaaDoorW.PrintMore
set_option linter.unusedVariables false
set_option linter.unusedSimpArgs false
def bytesL (l : List Int) : Prop := ∀ x ∈ l, 0 ≤ x ∧ x ≤ 255
theorem bytesL_rd {l : List Int} (h : bytesL l) {i : Int} (h0 : 0 ≤ i) (h1 : i < l.length) : 0 ≤ rd l i ∧ rd l i ≤ 255 := by
 show 0 ≤ l.getD i.toNat 0 ∧ l.getD i.toNat 0 ≤ 255
 rw [getD_at (show i.toNat < l.length by omega)]
 exact h _ (List.getElem_mem _)
def stOK (p s : Int) (b : Int) : Prop := 0 ≤ p ∧ p ≤ b ∧ 0 ≤ s ∧ s < 2147483648
theorem byte_ok {l : List Int} (h : bytesL l) {p s b : Int} (hs : stOK p s b) (hb : b ≤ 1000000000) : ∃ v s', spec_l00Src_byte.f l p s = some (v, p + 1, s') ∧ 0 ≤ v ∧ v ≤ 255 ∧ stOK (p + 1) s' (b + 1) := by
 obtain ⟨h0, h1, h2, h3⟩ := hs
 unfold spec_l00Src_byte.f
 rw [if_pos (by omega)]
 by_cases h4 : p < (l.length : Int)
 ·
  have hr := bytesL_rd h h0 h4
  rw [if_pos h4, if_pos hr]
  exact ⟨_, _, rfl, hr.1, hr.2, (by unfold stOK; omega)⟩
 ·
  rw [if_neg h4]
  by_cases h5 : 2999 < p
  ·
   rw [if_pos h5]; exact ⟨_, _, rfl, (by omega), (by omega), (by unfold stOK; omega)⟩
  ·
   rw [if_neg h5]
   refine ⟨_, _, rfl, (by omega), (by omega), ?_⟩
   unfold stOK spec_l00Src_byte.next; omega
theorem next_ok {l : List Int} (h : bytesL l) {p s b a : Int} (hs : stOK p s b) (hb : b ≤ 1000000000) (ha : 2 ≤ a) (ha2 : a ≤ 256) : ∃ v s', spec_l00Src_next.f l p s a = some (v, p + 1, s') ∧ 0 ≤ v ∧ v < a ∧ v ≤ 255 ∧ stOK (p + 1) s' (b + 1) := by
 obtain ⟨v, s', e, h0, h1, h2⟩ := byte_ok h hs hb
 unfold spec_l00Src_next.f
 rw [if_neg (by omega), if_pos ha2, e]
 simp only [bS]
 rw [if_neg (by omega), tmod_nn h0]
 have hm : v % a ≤ v := by
  rcases Int.lt_or_le v a with h | h
  ·
   rw [Int.emod_eq_of_lt h0 h]; exact Int.le_refl _
  ·
   have := Int.emod_lt_of_pos v (show 0 < a by omega); omega
 exact ⟨_, _, rfl, Int.emod_nonneg _ (by omega), Int.emod_lt_of_pos _ (by omega), (by omega), h2⟩
theorem field_l0 {l : List Int} (h : bytesL l) (d : Nat) : ∀ (k i : Nat) (v p s b : Int), i + d = 5 → d < k → inF v → stOK p s b → b + d ≤ 1000000000 →
  ∃ v' p' s', spec_l00Src_field.l0 k v i l p s = some (v', p', s') ∧ inF v' ∧ stOK p' s' (b + d) := by
 induction d with
 | zero =>
  intro k i v p s b hi hk hv hs hb
  obtain ⟨k, rfl⟩ : ∃ m, k = m + 1 := ⟨k - 1, (by omega)⟩
  simp only [spec_l00Src_field.l0]
  rw [if_neg (by omega)]
  exact ⟨_, _, _, rfl, hv, (by unfold stOK at *; omega)⟩
 | succ d ih =>
  intro k i v p s b hi hk hv hs hb
  obtain ⟨k, rfl⟩ : ∃ m, k = m + 1 := ⟨k - 1, (by omega)⟩
  obtain ⟨u, s', e, h0, h1, h2, h3⟩ := next_ok h hs (by omega) (a := 256) (by omega) (by omega)
  simp only [spec_l00Src_field.l0]
  rw [if_pos (by omega), e]
  simp only [bS]
  unfold inF at hv
  rw [w64 (n := v * 256) (by omega) (by omega), w64 (n := v * 256 + u) (by omega) (by omega), tmod_nn (by omega), w64 (by omega) (by omega), show (i : Int) + 1 = ((i + 1 : Nat) : Int) by omega]
  obtain ⟨v', p', s'', e2, hv', hs'⟩ := ih k (i + 1) ((v * 256 + u) % 2130706433) (p + 1) s' (b + 1) (by omega) (by omega) (by unfold inF; omega) h3 (by omega)
  exact ⟨v', p', s'', e2, hv', (by unfold stOK at *; omega)⟩
theorem field_ok {l : List Int} (h : bytesL l) {p s b : Int} (hs : stOK p s b) (hb : b ≤ 900000000) {k : Nat} (hk : 10 < k) : ∃ v p' s', spec_l00Src_field.f k l p s = some (v, p', s') ∧ inF v ∧ stOK p' s' (b + 10) := by
 obtain ⟨u, s1, e1, h0, h1, _, h2⟩ := next_ok h hs (by omega) (a := 5) (by omega) (by omega)
 unfold spec_l00Src_field.f
 rw [e1]
 simp only [bS]
 by_cases hu : u = 0
 ·
  obtain ⟨v, s2, e2, h3, h4, _, h5⟩ := next_ok h h2 (by omega) (a := 4) (by omega) (by omega)
  rw [if_pos hu, e2]
  simp only [bS]
  exact ⟨_, _, _, rfl, (by unfold inF; omega), (by unfold stOK at *; omega)⟩
 ·
  rw [if_neg hu]
  by_cases hu1 : u = 1
  ·
   obtain ⟨v, s2, e2, h3, h4, _, h5⟩ := next_ok h h2 (by omega) (a := 3) (by omega) (by omega)
   rw [if_pos hu1, e2]
   simp only [bS]
   rw [w64 (by omega) (by omega)]
   exact ⟨_, _, _, rfl, (by unfold inF; omega), (by unfold stOK at *; omega)⟩
  ·
   rw [if_neg hu1]
   obtain ⟨v', p', s', e2, hv, h5⟩ := field_l0 h 5 k 0 0 (p + 1) s1 (b + 1) (by omega) (by omega) inF_0 h2 (by omega)
   rw [Int.natCast_zero] at e2
   exact ⟨v', p', s', e2, hv, (by unfold stOK at *; omega)⟩
theorem source_ok (l : List Int) : ∃ s, spec_l00Source.f l = some (l, 0, s) ∧ stOK 0 s 0 := by
 unfold spec_l00Source.f
 exact ⟨_, rfl, (by unfold stOK; omega)⟩
end Go.Proofs.YtokljkneflejdaaDoor.PT
end
section
namespace Go.Proofs.YtokljkneflejdaaDoor.PT
open Go.RowKit Go.Proofs.YtokljkneflejdaaDoorW.PrintWords Go.Proofs.YtokljkneflejdaaDoorW.PrintLast Go.Proofs.YtokljkneflejdaaDoorW.PrintMore
attribute [local go_sem] max2_int min2_int max_two min_two max_three min_three max_four min_four   -- for this text's walks alone
set_option linter.unusedVariables false
set_option linter.unusedSimpArgs false
def impl_isGate.j0 : Nat → Int → Bool → Bool → Bool → Int → Bool → Int → Int → Int → Int → Option (Bool)
 | 0, _, _, _, _, _, _, _, _, _, _ => none
 | k + 1, x1, x5, x6, x7, x18, x24, x102000, x102001, x102002, x102003 => if x24 = true then ((impl_in.f x102001 0 (wrap64 (x1 - 1))).bind fun t104 => ((impl_in.f x102002 0 (wrap64 (x1 - 1))).bind fun t105 => ((impl_in.f x102000 1 8).bind fun t106 => (if t106 = true then (if t104 = true then (if t105 = true then (some x7) else (some false)) else (some false)) else (some false))))) else (if x18 = 8 then ((impl_in.f x102001 0 (wrap64 (x1 - 1))).bind fun t107 => ((impl_in.f x102000 1 8).bind fun t108 => (if t108 = true then (if t107 = true then (if x6 = true then (some x7) else (some false)) else (some false)) else (some false)))) else ((impl_in.f x102000 1 8).bind fun t109 => (if t109 = true then (if x5 = true then (if x6 = true then (some x7) else (some false)) else (some false)) else (some false))))
def impl_isGate.f (k : Nat) (a0_0 : Int) (a0_1 : Int) (a0_2 : Int) (a0_3 : Int) (a1 : Int) : Option (Bool) := if a0_0 = 3 then ((impl_FieldOK.f a0_3).bind fun t102 => ((impl_in.f a0_0 1 8).bind fun t103 => (if t103 = true then (if a0_1 = 0 then (if a0_2 = 0 then (some t102) else (some false)) else (some false)) else (some false)))) else (if a0_0 = 4 then (impl_isGate.j0 k a1 (a0_1 == 0) (a0_2 == 0) (a0_3 == 0) a0_0 (a0_0 == 4) a0_0 a0_1 a0_2 a0_3) else (if a0_0 = 5 then (impl_isGate.j0 k a1 (a0_1 == 0) (a0_2 == 0) (a0_3 == 0) a0_0 (a0_0 == 5) a0_0 a0_1 a0_2 a0_3) else (if a0_0 = 6 then (impl_isGate.j0 k a1 (a0_1 == 0) (a0_2 == 0) (a0_3 == 0) a0_0 (a0_0 == 6) a0_0 a0_1 a0_2 a0_3) else (impl_isGate.j0 k a1 (a0_1 == 0) (a0_2 == 0) (a0_3 == 0) a0_0 (a0_0 == 7) a0_0 a0_1 a0_2 a0_3))))
theorem impl_isGate.mono_l : ∀ k, (∀ y0 y1 y2 y3 y4 y5 y6 y7 y8 y9, LeO (impl_isGate.j0 k y0 y1 y2 y3 y4 y5 y6 y7 y8 y9) (impl_isGate.j0 (k + 1) y0 y1 y2 y3 y4 y5 y6 y7 y8 y9))
 | 0 => fun _ _ _ _ _ _ _ _ _ _ r h => by simp [impl_isGate.j0] at h
 | k + 1 => by
  have ih0 := impl_isGate.mono_l k
  ·
   intro y0 y1 y2 y3 y4 y5 y6 y7 y8 y9
   unfold impl_isGate.j0
   repeat' first
   | (with_reducible exact ih0 _ _ _ _ _ _ _ _ _ _)
   | (with_reducible exact LeO.refl _)
   | (with_reducible exact LeO.none _)
   | (with_reducible refine LeO.ite ?_ ?_)
   | (with_reducible refine LeO.bind ?_ (fun _ => ?_))
   | exact ih0 _ _ _ _ _ _ _ _ _ _
   | exact LeO.none _
   | refine LeO.ite ?_ ?_
   | refine LeO.bind ?_ (fun _ => ?_)
theorem impl_isGate.mono : ∀ a0 a1 a2 a3 a4 k, LeO (impl_isGate.f k a0 a1 a2 a3 a4) (impl_isGate.f (k + 1) a0 a1 a2 a3 a4) := by
 intro a0 a1 a2 a3 a4 k
 have ih0 := impl_isGate.mono_l k
 unfold impl_isGate.f
 repeat' first
   | (with_reducible exact ih0 _ _ _ _ _ _ _ _ _ _)
   | (with_reducible exact LeO.refl _)
   | (with_reducible exact LeO.none _)
   | (with_reducible refine LeO.ite ?_ ?_)
   | (with_reducible refine LeO.bind ?_ (fun _ => ?_))
   | exact ih0 _ _ _ _ _ _ _ _ _ _
   | exact LeO.none _
   | refine LeO.ite ?_ ?_
   | refine LeO.bind ?_ (fun _ => ?_)
set_option maxHeartbeats 8000000 in
set_option maxRecDepth 100000 in
theorem impl_isGate.calls (k : Nat) (a0_0 : Int) (a0_1 : Int) (a0_2 : Int) (a0_3 : Int) (a1 : Int) (r : Bool) (w : World) (h : impl_isGate.f k a0_0 a0_1 a0_2 a0_3 a1 = some r) :
  Calls Tryd.prog 13 #[.agg #[.int .i64 a0_0, .int .i64 a0_1, .int .i64 a0_2, .int .i64 a0_3], .int .i64 a1] w fun e w' => e = .returned (.bool r) ∧ Below w.heap.size w w' := by
 have hu30 := Tryd.underlying30
 have HB := am_ (Below.refl w.heap.size w)
 have H : (if a0_0 = 3 then ((impl_FieldOK.f a0_3).bind fun t102 => ((impl_in.f a0_0 1 8).bind fun t103 => (if t103 = true then (if a0_1 = 0 then (if a0_2 = 0 then (some t102) else (some false)) else (some false)) else (some false)))) else (if a0_0 = 4 then (impl_isGate.j0 k a1 (a0_1 == 0) (a0_2 == 0) (a0_3 == 0) a0_0 (a0_0 == 4) a0_0 a0_1 a0_2 a0_3) else (if a0_0 = 5 then (impl_isGate.j0 k a1 (a0_1 == 0) (a0_2 == 0) (a0_3 == 0) a0_0 (a0_0 == 5) a0_0 a0_1 a0_2 a0_3) else (if a0_0 = 6 then (impl_isGate.j0 k a1 (a0_1 == 0) (a0_2 == 0) (a0_3 == 0) a0_0 (a0_0 == 6) a0_0 a0_1 a0_2 a0_3) else (impl_isGate.j0 k a1 (a0_1 == 0) (a0_2 == 0) (a0_3 == 0) a0_0 (a0_0 == 7) a0_0 a0_1 a0_2 a0_3))))) = some r := h
 clear h
 by_cases c3 : a0_0 = 3
 ·
  rw [if_pos c3] at H
  have c3b0 : (a0_0 == 3) = true := beq_iff_eq.mpr c3
  have c3b1 : (a0_0 != 3) = false := bne_eq_false_iff_eq.mpr c3
  clear c3
  replace H := Option.bind_eq_some_iff.mp H
  obtain ⟨t102, A40, H⟩ := H
  replace H : ((impl_in.f a0_0 1 8).bind fun t103 => (if t103 = true then (if a0_1 = 0 then (if a0_2 = 0 then (some t102) else (some false)) else (some false)) else (some false))) = some r := H
  have A4 := am_ A40
  clear A40
  replace H := Option.bind_eq_some_iff.mp H
  obtain ⟨t103, A50, H⟩ := H
  replace H : (if t103 = true then (if a0_1 = 0 then (if a0_2 = 0 then (some t102) else (some false)) else (some false)) else (some false)) = some r := H
  have A5 := am_ A50
  clear A50
  by_cases c6 : t103 = true
  ·
   subst c6
   have H1 : (if a0_1 = 0 then (if a0_2 = 0 then (some t102) else (some false)) else (some false)) = some r := by rw [if_pos rfl] at H; exact H
   clear H
   have H := H1
   clear H1
   by_cases c7 : a0_1 = 0
   ·
    rw [if_pos c7] at H
    have c7b0 : (a0_1 == 0) = true := beq_iff_eq.mpr c7
    have c7b1 : (a0_1 != 0) = false := bne_eq_false_iff_eq.mpr c7
    clear c7
    by_cases c8 : a0_2 = 0
    ·
     rw [if_pos c8] at H
     have c8b0 : (a0_2 == 0) = true := beq_iff_eq.mpr c8
     have c8b1 : (a0_2 != 0) = false := bne_eq_false_iff_eq.mpr c8
     clear c8
     obtain rfl := Option.some.inj H
     go_enter Tryd.func13, Tryd.ntmps13
     go_wp2_with (first | ((with_reducible refine gate_dst (N := 2) rfl ?_); refine box_event ?hg (N := 2) ?hd (cs := #[.int .i64 a0_0, .int .i64 a0_1, .int .i64 a0_2, .int .i64 a0_3]) (t := 30) ?hr ?_; (case hd => rfl); (case hg => rfl); (case hr => first | (go_simp; done) | (go_simp; rfl)); intro gb101 hg w9 hbox hb; have n0_ := am_ (below_step qz3_ hb); have n1_ := am_ (hbox); have n2_ := am_ ((by rw [hg]; exact (below_size qz3_) : w.heap.size ≤ gb101)); have n3_ := am_ ((by rw [hg]; exact (below_size qz3_) : w.heap.size ≤ gb101)); clear HB; have HB := n0_; have BK101 := n1_; have GW101 := n2_; have GE101 := n3_; clear n0_ n1_ n2_ n3_; clear hb hbox hg; have hcz10_0 : w9.cell? ⟨gb101, 0, none⟩ = some (.int .i64 a0_0) := (blk_cell BK101.out 0).trans rfl; have hcz10_1 : w9.cell? ⟨gb101, 1, none⟩ = some (.int .i64 a0_1) := (blk_cell BK101.out 1).trans rfl; have hcz10_2 : w9.cell? ⟨gb101, 2, none⟩ = some (.int .i64 a0_2) := (blk_cell BK101.out 2).trans rfl; have hcz10_3 : w9.cell? ⟨gb101, 3, none⟩ = some (.int .i64 a0_3) := (blk_cell BK101.out 3).trans rfl; have hfz10_0 := blk_frozen BK101.out 0; have hfz10_1 := blk_frozen BK101.out 1; have hfz10_2 := blk_frozen BK101.out 2; have hfz10_3 := blk_frozen BK101.out 3) | (go_at_call 29; (with_reducible refine (impl_FieldOK.calls a0_3 t102 _ A4.out).mono ?_); rintro e w' ⟨rfl, ⟨nd, rfl⟩⟩; (try first | exact ⟨rfl, _, qd1_⟩ | exact ⟨rfl, _, qd2_⟩)) | (go_at_call 30; (with_reducible refine (impl_in.calls a0_0 1 8 true _ A5.out).mono ?_); rintro e w' ⟨rfl, ⟨nd, rfl⟩⟩; (try first | exact ⟨rfl, _, qd1_⟩ | exact ⟨rfl, _, qd2_⟩)))
     repeat (go_quiet (first | ((with_reducible refine gate_dst (N := 2) rfl ?_); refine box_event ?hg (N := 2) ?hd (cs := #[.int .i64 a0_0, .int .i64 a0_1, .int .i64 a0_2, .int .i64 a0_3]) (t := 30) ?hr ?_; (case hd => rfl); (case hg => rfl); (case hr => first | (go_simp; done) | (go_simp; rfl)); intro gb101 hg w9 hbox hb; have n0_ := am_ (below_step qz3_ hb); have n1_ := am_ (hbox); have n2_ := am_ ((by rw [hg]; exact (below_size qz3_) : w.heap.size ≤ gb101)); have n3_ := am_ ((by rw [hg]; exact (below_size qz3_) : w.heap.size ≤ gb101)); clear HB; have HB := n0_; have BK101 := n1_; have GW101 := n2_; have GE101 := n3_; clear n0_ n1_ n2_ n3_; clear hb hbox hg; have hcz10_0 : w9.cell? ⟨gb101, 0, none⟩ = some (.int .i64 a0_0) := (blk_cell BK101.out 0).trans rfl; have hcz10_1 : w9.cell? ⟨gb101, 1, none⟩ = some (.int .i64 a0_1) := (blk_cell BK101.out 1).trans rfl; have hcz10_2 : w9.cell? ⟨gb101, 2, none⟩ = some (.int .i64 a0_2) := (blk_cell BK101.out 2).trans rfl; have hcz10_3 : w9.cell? ⟨gb101, 3, none⟩ = some (.int .i64 a0_3) := (blk_cell BK101.out 3).trans rfl; have hfz10_0 := blk_frozen BK101.out 0; have hfz10_1 := blk_frozen BK101.out 1; have hfz10_2 := blk_frozen BK101.out 2; have hfz10_3 := blk_frozen BK101.out 3) | (go_at_call 29; (with_reducible refine (impl_FieldOK.calls a0_3 t102 _ A4.out).mono ?_); rintro e w' ⟨rfl, ⟨nd, rfl⟩⟩; (try first | exact ⟨rfl, _, qd1_⟩ | exact ⟨rfl, _, qd2_⟩)) | (go_at_call 30; (with_reducible refine (impl_in.calls a0_0 1 8 true _ A5.out).mono ?_); rintro e w' ⟨rfl, ⟨nd, rfl⟩⟩; (try first | exact ⟨rfl, _, qd1_⟩ | exact ⟨rfl, _, qd2_⟩))); try go_wp2_with (first | ((with_reducible refine gate_dst (N := 2) rfl ?_); refine box_event ?hg (N := 2) ?hd (cs := #[.int .i64 a0_0, .int .i64 a0_1, .int .i64 a0_2, .int .i64 a0_3]) (t := 30) ?hr ?_; (case hd => rfl); (case hg => rfl); (case hr => first | (go_simp; done) | (go_simp; rfl)); intro gb101 hg w9 hbox hb; have n0_ := am_ (below_step qz3_ hb); have n1_ := am_ (hbox); have n2_ := am_ ((by rw [hg]; exact (below_size qz3_) : w.heap.size ≤ gb101)); have n3_ := am_ ((by rw [hg]; exact (below_size qz3_) : w.heap.size ≤ gb101)); clear HB; have HB := n0_; have BK101 := n1_; have GW101 := n2_; have GE101 := n3_; clear n0_ n1_ n2_ n3_; clear hb hbox hg; have hcz10_0 : w9.cell? ⟨gb101, 0, none⟩ = some (.int .i64 a0_0) := (blk_cell BK101.out 0).trans rfl; have hcz10_1 : w9.cell? ⟨gb101, 1, none⟩ = some (.int .i64 a0_1) := (blk_cell BK101.out 1).trans rfl; have hcz10_2 : w9.cell? ⟨gb101, 2, none⟩ = some (.int .i64 a0_2) := (blk_cell BK101.out 2).trans rfl; have hcz10_3 : w9.cell? ⟨gb101, 3, none⟩ = some (.int .i64 a0_3) := (blk_cell BK101.out 3).trans rfl; have hfz10_0 := blk_frozen BK101.out 0; have hfz10_1 := blk_frozen BK101.out 1; have hfz10_2 := blk_frozen BK101.out 2; have hfz10_3 := blk_frozen BK101.out 3) | (go_at_call 29; (with_reducible refine (impl_FieldOK.calls a0_3 t102 _ A4.out).mono ?_); rintro e w' ⟨rfl, ⟨nd, rfl⟩⟩; (try first | exact ⟨rfl, _, qd1_⟩ | exact ⟨rfl, _, qd2_⟩)) | (go_at_call 30; (with_reducible refine (impl_in.calls a0_0 1 8 true _ A5.out).mono ?_); rintro e w' ⟨rfl, ⟨nd, rfl⟩⟩; (try first | exact ⟨rfl, _, qd1_⟩ | exact ⟨rfl, _, qd2_⟩))))
     go_ret
     exact ⟨qz5_, qz9_⟩
    ·
     rw [if_neg c8] at H
     have c8b0 : (a0_2 == 0) = false := beq_eq_false_iff_ne.mpr c8
     have c8b1 : (a0_2 != 0) = true := bne_iff_ne.mpr c8
     obtain rfl := Option.some.inj H
     go_enter Tryd.func13, Tryd.ntmps13
     go_wp2_with (first | ((with_reducible refine gate_dst (N := 2) rfl ?_); refine box_event ?hg (N := 2) ?hd (cs := #[.int .i64 a0_0, .int .i64 a0_1, .int .i64 a0_2, .int .i64 a0_3]) (t := 30) ?hr ?_; (case hd => rfl); (case hg => rfl); (case hr => first | (go_simp; done) | (go_simp; rfl)); intro gb101 hg w11 hbox hb; have n0_ := am_ (below_step qz3_ hb); have n1_ := am_ (hbox); have n2_ := am_ ((by rw [hg]; exact (below_size qz3_) : w.heap.size ≤ gb101)); have n3_ := am_ ((by rw [hg]; exact (below_size qz3_) : w.heap.size ≤ gb101)); clear HB; have HB := n0_; have BK101 := n1_; have GW101 := n2_; have GE101 := n3_; clear n0_ n1_ n2_ n3_; clear hb hbox hg; have hcz12_0 : w11.cell? ⟨gb101, 0, none⟩ = some (.int .i64 a0_0) := (blk_cell BK101.out 0).trans rfl; have hcz12_1 : w11.cell? ⟨gb101, 1, none⟩ = some (.int .i64 a0_1) := (blk_cell BK101.out 1).trans rfl; have hcz12_2 : w11.cell? ⟨gb101, 2, none⟩ = some (.int .i64 a0_2) := (blk_cell BK101.out 2).trans rfl; have hcz12_3 : w11.cell? ⟨gb101, 3, none⟩ = some (.int .i64 a0_3) := (blk_cell BK101.out 3).trans rfl; have hfz12_0 := blk_frozen BK101.out 0; have hfz12_1 := blk_frozen BK101.out 1; have hfz12_2 := blk_frozen BK101.out 2; have hfz12_3 := blk_frozen BK101.out 3) | (go_at_call 29; (with_reducible refine (impl_FieldOK.calls a0_3 t102 _ A4.out).mono ?_); rintro e w' ⟨rfl, ⟨nd, rfl⟩⟩; (try first | exact ⟨rfl, _, qd1_⟩ | exact ⟨rfl, _, qd2_⟩)) | (go_at_call 30; (with_reducible refine (impl_in.calls a0_0 1 8 true _ A5.out).mono ?_); rintro e w' ⟨rfl, ⟨nd, rfl⟩⟩; (try first | exact ⟨rfl, _, qd1_⟩ | exact ⟨rfl, _, qd2_⟩)))
     repeat (go_quiet (first | ((with_reducible refine gate_dst (N := 2) rfl ?_); refine box_event ?hg (N := 2) ?hd (cs := #[.int .i64 a0_0, .int .i64 a0_1, .int .i64 a0_2, .int .i64 a0_3]) (t := 30) ?hr ?_; (case hd => rfl); (case hg => rfl); (case hr => first | (go_simp; done) | (go_simp; rfl)); intro gb101 hg w11 hbox hb; have n0_ := am_ (below_step qz3_ hb); have n1_ := am_ (hbox); have n2_ := am_ ((by rw [hg]; exact (below_size qz3_) : w.heap.size ≤ gb101)); have n3_ := am_ ((by rw [hg]; exact (below_size qz3_) : w.heap.size ≤ gb101)); clear HB; have HB := n0_; have BK101 := n1_; have GW101 := n2_; have GE101 := n3_; clear n0_ n1_ n2_ n3_; clear hb hbox hg; have hcz12_0 : w11.cell? ⟨gb101, 0, none⟩ = some (.int .i64 a0_0) := (blk_cell BK101.out 0).trans rfl; have hcz12_1 : w11.cell? ⟨gb101, 1, none⟩ = some (.int .i64 a0_1) := (blk_cell BK101.out 1).trans rfl; have hcz12_2 : w11.cell? ⟨gb101, 2, none⟩ = some (.int .i64 a0_2) := (blk_cell BK101.out 2).trans rfl; have hcz12_3 : w11.cell? ⟨gb101, 3, none⟩ = some (.int .i64 a0_3) := (blk_cell BK101.out 3).trans rfl; have hfz12_0 := blk_frozen BK101.out 0; have hfz12_1 := blk_frozen BK101.out 1; have hfz12_2 := blk_frozen BK101.out 2; have hfz12_3 := blk_frozen BK101.out 3) | (go_at_call 29; (with_reducible refine (impl_FieldOK.calls a0_3 t102 _ A4.out).mono ?_); rintro e w' ⟨rfl, ⟨nd, rfl⟩⟩; (try first | exact ⟨rfl, _, qd1_⟩ | exact ⟨rfl, _, qd2_⟩)) | (go_at_call 30; (with_reducible refine (impl_in.calls a0_0 1 8 true _ A5.out).mono ?_); rintro e w' ⟨rfl, ⟨nd, rfl⟩⟩; (try first | exact ⟨rfl, _, qd1_⟩ | exact ⟨rfl, _, qd2_⟩))); try go_wp2_with (first | ((with_reducible refine gate_dst (N := 2) rfl ?_); refine box_event ?hg (N := 2) ?hd (cs := #[.int .i64 a0_0, .int .i64 a0_1, .int .i64 a0_2, .int .i64 a0_3]) (t := 30) ?hr ?_; (case hd => rfl); (case hg => rfl); (case hr => first | (go_simp; done) | (go_simp; rfl)); intro gb101 hg w11 hbox hb; have n0_ := am_ (below_step qz3_ hb); have n1_ := am_ (hbox); have n2_ := am_ ((by rw [hg]; exact (below_size qz3_) : w.heap.size ≤ gb101)); have n3_ := am_ ((by rw [hg]; exact (below_size qz3_) : w.heap.size ≤ gb101)); clear HB; have HB := n0_; have BK101 := n1_; have GW101 := n2_; have GE101 := n3_; clear n0_ n1_ n2_ n3_; clear hb hbox hg; have hcz12_0 : w11.cell? ⟨gb101, 0, none⟩ = some (.int .i64 a0_0) := (blk_cell BK101.out 0).trans rfl; have hcz12_1 : w11.cell? ⟨gb101, 1, none⟩ = some (.int .i64 a0_1) := (blk_cell BK101.out 1).trans rfl; have hcz12_2 : w11.cell? ⟨gb101, 2, none⟩ = some (.int .i64 a0_2) := (blk_cell BK101.out 2).trans rfl; have hcz12_3 : w11.cell? ⟨gb101, 3, none⟩ = some (.int .i64 a0_3) := (blk_cell BK101.out 3).trans rfl; have hfz12_0 := blk_frozen BK101.out 0; have hfz12_1 := blk_frozen BK101.out 1; have hfz12_2 := blk_frozen BK101.out 2; have hfz12_3 := blk_frozen BK101.out 3) | (go_at_call 29; (with_reducible refine (impl_FieldOK.calls a0_3 t102 _ A4.out).mono ?_); rintro e w' ⟨rfl, ⟨nd, rfl⟩⟩; (try first | exact ⟨rfl, _, qd1_⟩ | exact ⟨rfl, _, qd2_⟩)) | (go_at_call 30; (with_reducible refine (impl_in.calls a0_0 1 8 true _ A5.out).mono ?_); rintro e w' ⟨rfl, ⟨nd, rfl⟩⟩; (try first | exact ⟨rfl, _, qd1_⟩ | exact ⟨rfl, _, qd2_⟩))))
     go_ret
     exact ⟨qz5_, qz9_⟩
   ·
    rw [if_neg c7] at H
    have c7b0 : (a0_1 == 0) = false := beq_eq_false_iff_ne.mpr c7
    have c7b1 : (a0_1 != 0) = true := bne_iff_ne.mpr c7
    obtain rfl := Option.some.inj H
    go_enter Tryd.func13, Tryd.ntmps13
    go_wp2_with (first | ((with_reducible refine gate_dst (N := 2) rfl ?_); refine box_event ?hg (N := 2) ?hd (cs := #[.int .i64 a0_0, .int .i64 a0_1, .int .i64 a0_2, .int .i64 a0_3]) (t := 30) ?hr ?_; (case hd => rfl); (case hg => rfl); (case hr => first | (go_simp; done) | (go_simp; rfl)); intro gb101 hg w13 hbox hb; have n0_ := am_ (below_step qz3_ hb); have n1_ := am_ (hbox); have n2_ := am_ ((by rw [hg]; exact (below_size qz3_) : w.heap.size ≤ gb101)); have n3_ := am_ ((by rw [hg]; exact (below_size qz3_) : w.heap.size ≤ gb101)); clear HB; have HB := n0_; have BK101 := n1_; have GW101 := n2_; have GE101 := n3_; clear n0_ n1_ n2_ n3_; clear hb hbox hg; have hcz14_0 : w13.cell? ⟨gb101, 0, none⟩ = some (.int .i64 a0_0) := (blk_cell BK101.out 0).trans rfl; have hcz14_1 : w13.cell? ⟨gb101, 1, none⟩ = some (.int .i64 a0_1) := (blk_cell BK101.out 1).trans rfl; have hcz14_2 : w13.cell? ⟨gb101, 2, none⟩ = some (.int .i64 a0_2) := (blk_cell BK101.out 2).trans rfl; have hcz14_3 : w13.cell? ⟨gb101, 3, none⟩ = some (.int .i64 a0_3) := (blk_cell BK101.out 3).trans rfl; have hfz14_0 := blk_frozen BK101.out 0; have hfz14_1 := blk_frozen BK101.out 1; have hfz14_2 := blk_frozen BK101.out 2; have hfz14_3 := blk_frozen BK101.out 3) | (go_at_call 29; (with_reducible refine (impl_FieldOK.calls a0_3 t102 _ A4.out).mono ?_); rintro e w' ⟨rfl, ⟨nd, rfl⟩⟩; (try first | exact ⟨rfl, _, qd1_⟩ | exact ⟨rfl, _, qd2_⟩)) | (go_at_call 30; (with_reducible refine (impl_in.calls a0_0 1 8 true _ A5.out).mono ?_); rintro e w' ⟨rfl, ⟨nd, rfl⟩⟩; (try first | exact ⟨rfl, _, qd1_⟩ | exact ⟨rfl, _, qd2_⟩)))
    repeat (go_quiet (first | ((with_reducible refine gate_dst (N := 2) rfl ?_); refine box_event ?hg (N := 2) ?hd (cs := #[.int .i64 a0_0, .int .i64 a0_1, .int .i64 a0_2, .int .i64 a0_3]) (t := 30) ?hr ?_; (case hd => rfl); (case hg => rfl); (case hr => first | (go_simp; done) | (go_simp; rfl)); intro gb101 hg w13 hbox hb; have n0_ := am_ (below_step qz3_ hb); have n1_ := am_ (hbox); have n2_ := am_ ((by rw [hg]; exact (below_size qz3_) : w.heap.size ≤ gb101)); have n3_ := am_ ((by rw [hg]; exact (below_size qz3_) : w.heap.size ≤ gb101)); clear HB; have HB := n0_; have BK101 := n1_; have GW101 := n2_; have GE101 := n3_; clear n0_ n1_ n2_ n3_; clear hb hbox hg; have hcz14_0 : w13.cell? ⟨gb101, 0, none⟩ = some (.int .i64 a0_0) := (blk_cell BK101.out 0).trans rfl; have hcz14_1 : w13.cell? ⟨gb101, 1, none⟩ = some (.int .i64 a0_1) := (blk_cell BK101.out 1).trans rfl; have hcz14_2 : w13.cell? ⟨gb101, 2, none⟩ = some (.int .i64 a0_2) := (blk_cell BK101.out 2).trans rfl; have hcz14_3 : w13.cell? ⟨gb101, 3, none⟩ = some (.int .i64 a0_3) := (blk_cell BK101.out 3).trans rfl; have hfz14_0 := blk_frozen BK101.out 0; have hfz14_1 := blk_frozen BK101.out 1; have hfz14_2 := blk_frozen BK101.out 2; have hfz14_3 := blk_frozen BK101.out 3) | (go_at_call 29; (with_reducible refine (impl_FieldOK.calls a0_3 t102 _ A4.out).mono ?_); rintro e w' ⟨rfl, ⟨nd, rfl⟩⟩; (try first | exact ⟨rfl, _, qd1_⟩ | exact ⟨rfl, _, qd2_⟩)) | (go_at_call 30; (with_reducible refine (impl_in.calls a0_0 1 8 true _ A5.out).mono ?_); rintro e w' ⟨rfl, ⟨nd, rfl⟩⟩; (try first | exact ⟨rfl, _, qd1_⟩ | exact ⟨rfl, _, qd2_⟩))); try go_wp2_with (first | ((with_reducible refine gate_dst (N := 2) rfl ?_); refine box_event ?hg (N := 2) ?hd (cs := #[.int .i64 a0_0, .int .i64 a0_1, .int .i64 a0_2, .int .i64 a0_3]) (t := 30) ?hr ?_; (case hd => rfl); (case hg => rfl); (case hr => first | (go_simp; done) | (go_simp; rfl)); intro gb101 hg w13 hbox hb; have n0_ := am_ (below_step qz3_ hb); have n1_ := am_ (hbox); have n2_ := am_ ((by rw [hg]; exact (below_size qz3_) : w.heap.size ≤ gb101)); have n3_ := am_ ((by rw [hg]; exact (below_size qz3_) : w.heap.size ≤ gb101)); clear HB; have HB := n0_; have BK101 := n1_; have GW101 := n2_; have GE101 := n3_; clear n0_ n1_ n2_ n3_; clear hb hbox hg; have hcz14_0 : w13.cell? ⟨gb101, 0, none⟩ = some (.int .i64 a0_0) := (blk_cell BK101.out 0).trans rfl; have hcz14_1 : w13.cell? ⟨gb101, 1, none⟩ = some (.int .i64 a0_1) := (blk_cell BK101.out 1).trans rfl; have hcz14_2 : w13.cell? ⟨gb101, 2, none⟩ = some (.int .i64 a0_2) := (blk_cell BK101.out 2).trans rfl; have hcz14_3 : w13.cell? ⟨gb101, 3, none⟩ = some (.int .i64 a0_3) := (blk_cell BK101.out 3).trans rfl; have hfz14_0 := blk_frozen BK101.out 0; have hfz14_1 := blk_frozen BK101.out 1; have hfz14_2 := blk_frozen BK101.out 2; have hfz14_3 := blk_frozen BK101.out 3) | (go_at_call 29; (with_reducible refine (impl_FieldOK.calls a0_3 t102 _ A4.out).mono ?_); rintro e w' ⟨rfl, ⟨nd, rfl⟩⟩; (try first | exact ⟨rfl, _, qd1_⟩ | exact ⟨rfl, _, qd2_⟩)) | (go_at_call 30; (with_reducible refine (impl_in.calls a0_0 1 8 true _ A5.out).mono ?_); rintro e w' ⟨rfl, ⟨nd, rfl⟩⟩; (try first | exact ⟨rfl, _, qd1_⟩ | exact ⟨rfl, _, qd2_⟩))))
    go_ret
    exact ⟨qz5_, qz9_⟩
  ·
   replace c6 := Bool.eq_false_iff.mpr c6
   subst c6
   have H1 : (some false) = some r := by rw [if_neg (show ¬ (false = true) by decide)] at H; exact H
   clear H
   have H := H1
   clear H1
   obtain rfl := Option.some.inj H
   go_enter Tryd.func13, Tryd.ntmps13
   go_wp2_with (first | ((with_reducible refine gate_dst (N := 2) rfl ?_); refine box_event ?hg (N := 2) ?hd (cs := #[.int .i64 a0_0, .int .i64 a0_1, .int .i64 a0_2, .int .i64 a0_3]) (t := 30) ?hr ?_; (case hd => rfl); (case hg => rfl); (case hr => first | (go_simp; done) | (go_simp; rfl)); intro gb101 hg w15 hbox hb; have n0_ := am_ (below_step qz3_ hb); have n1_ := am_ (hbox); have n2_ := am_ ((by rw [hg]; exact (below_size qz3_) : w.heap.size ≤ gb101)); have n3_ := am_ ((by rw [hg]; exact (below_size qz3_) : w.heap.size ≤ gb101)); clear HB; have HB := n0_; have BK101 := n1_; have GW101 := n2_; have GE101 := n3_; clear n0_ n1_ n2_ n3_; clear hb hbox hg; have hcz16_0 : w15.cell? ⟨gb101, 0, none⟩ = some (.int .i64 a0_0) := (blk_cell BK101.out 0).trans rfl; have hcz16_1 : w15.cell? ⟨gb101, 1, none⟩ = some (.int .i64 a0_1) := (blk_cell BK101.out 1).trans rfl; have hcz16_2 : w15.cell? ⟨gb101, 2, none⟩ = some (.int .i64 a0_2) := (blk_cell BK101.out 2).trans rfl; have hcz16_3 : w15.cell? ⟨gb101, 3, none⟩ = some (.int .i64 a0_3) := (blk_cell BK101.out 3).trans rfl; have hfz16_0 := blk_frozen BK101.out 0; have hfz16_1 := blk_frozen BK101.out 1; have hfz16_2 := blk_frozen BK101.out 2; have hfz16_3 := blk_frozen BK101.out 3) | (go_at_call 29; (with_reducible refine (impl_FieldOK.calls a0_3 t102 _ A4.out).mono ?_); rintro e w' ⟨rfl, ⟨nd, rfl⟩⟩; (try first | exact ⟨rfl, _, qd1_⟩ | exact ⟨rfl, _, qd2_⟩)) | (go_at_call 30; (with_reducible refine (impl_in.calls a0_0 1 8 false _ A5.out).mono ?_); rintro e w' ⟨rfl, ⟨nd, rfl⟩⟩; (try first | exact ⟨rfl, _, qd1_⟩ | exact ⟨rfl, _, qd2_⟩)))
   repeat (go_quiet (first | ((with_reducible refine gate_dst (N := 2) rfl ?_); refine box_event ?hg (N := 2) ?hd (cs := #[.int .i64 a0_0, .int .i64 a0_1, .int .i64 a0_2, .int .i64 a0_3]) (t := 30) ?hr ?_; (case hd => rfl); (case hg => rfl); (case hr => first | (go_simp; done) | (go_simp; rfl)); intro gb101 hg w15 hbox hb; have n0_ := am_ (below_step qz3_ hb); have n1_ := am_ (hbox); have n2_ := am_ ((by rw [hg]; exact (below_size qz3_) : w.heap.size ≤ gb101)); have n3_ := am_ ((by rw [hg]; exact (below_size qz3_) : w.heap.size ≤ gb101)); clear HB; have HB := n0_; have BK101 := n1_; have GW101 := n2_; have GE101 := n3_; clear n0_ n1_ n2_ n3_; clear hb hbox hg; have hcz16_0 : w15.cell? ⟨gb101, 0, none⟩ = some (.int .i64 a0_0) := (blk_cell BK101.out 0).trans rfl; have hcz16_1 : w15.cell? ⟨gb101, 1, none⟩ = some (.int .i64 a0_1) := (blk_cell BK101.out 1).trans rfl; have hcz16_2 : w15.cell? ⟨gb101, 2, none⟩ = some (.int .i64 a0_2) := (blk_cell BK101.out 2).trans rfl; have hcz16_3 : w15.cell? ⟨gb101, 3, none⟩ = some (.int .i64 a0_3) := (blk_cell BK101.out 3).trans rfl; have hfz16_0 := blk_frozen BK101.out 0; have hfz16_1 := blk_frozen BK101.out 1; have hfz16_2 := blk_frozen BK101.out 2; have hfz16_3 := blk_frozen BK101.out 3) | (go_at_call 29; (with_reducible refine (impl_FieldOK.calls a0_3 t102 _ A4.out).mono ?_); rintro e w' ⟨rfl, ⟨nd, rfl⟩⟩; (try first | exact ⟨rfl, _, qd1_⟩ | exact ⟨rfl, _, qd2_⟩)) | (go_at_call 30; (with_reducible refine (impl_in.calls a0_0 1 8 false _ A5.out).mono ?_); rintro e w' ⟨rfl, ⟨nd, rfl⟩⟩; (try first | exact ⟨rfl, _, qd1_⟩ | exact ⟨rfl, _, qd2_⟩))); try go_wp2_with (first | ((with_reducible refine gate_dst (N := 2) rfl ?_); refine box_event ?hg (N := 2) ?hd (cs := #[.int .i64 a0_0, .int .i64 a0_1, .int .i64 a0_2, .int .i64 a0_3]) (t := 30) ?hr ?_; (case hd => rfl); (case hg => rfl); (case hr => first | (go_simp; done) | (go_simp; rfl)); intro gb101 hg w15 hbox hb; have n0_ := am_ (below_step qz3_ hb); have n1_ := am_ (hbox); have n2_ := am_ ((by rw [hg]; exact (below_size qz3_) : w.heap.size ≤ gb101)); have n3_ := am_ ((by rw [hg]; exact (below_size qz3_) : w.heap.size ≤ gb101)); clear HB; have HB := n0_; have BK101 := n1_; have GW101 := n2_; have GE101 := n3_; clear n0_ n1_ n2_ n3_; clear hb hbox hg; have hcz16_0 : w15.cell? ⟨gb101, 0, none⟩ = some (.int .i64 a0_0) := (blk_cell BK101.out 0).trans rfl; have hcz16_1 : w15.cell? ⟨gb101, 1, none⟩ = some (.int .i64 a0_1) := (blk_cell BK101.out 1).trans rfl; have hcz16_2 : w15.cell? ⟨gb101, 2, none⟩ = some (.int .i64 a0_2) := (blk_cell BK101.out 2).trans rfl; have hcz16_3 : w15.cell? ⟨gb101, 3, none⟩ = some (.int .i64 a0_3) := (blk_cell BK101.out 3).trans rfl; have hfz16_0 := blk_frozen BK101.out 0; have hfz16_1 := blk_frozen BK101.out 1; have hfz16_2 := blk_frozen BK101.out 2; have hfz16_3 := blk_frozen BK101.out 3) | (go_at_call 29; (with_reducible refine (impl_FieldOK.calls a0_3 t102 _ A4.out).mono ?_); rintro e w' ⟨rfl, ⟨nd, rfl⟩⟩; (try first | exact ⟨rfl, _, qd1_⟩ | exact ⟨rfl, _, qd2_⟩)) | (go_at_call 30; (with_reducible refine (impl_in.calls a0_0 1 8 false _ A5.out).mono ?_); rintro e w' ⟨rfl, ⟨nd, rfl⟩⟩; (try first | exact ⟨rfl, _, qd1_⟩ | exact ⟨rfl, _, qd2_⟩))))
   go_ret
   exact ⟨qz5_, qz9_⟩
 ·
  rw [if_neg c3] at H
  have c3b0 : (a0_0 == 3) = false := beq_eq_false_iff_ne.mpr c3
  have c3b1 : (a0_0 != 3) = true := bne_iff_ne.mpr c3
  have HC17 := am_ H
  clear H
  go_enter Tryd.func13, Tryd.ntmps13
  go_upto_if 24 with (first | ((with_reducible refine gate_dst (N := 2) rfl ?_); refine box_event ?hg (N := 2) ?hd (cs := #[.int .i64 a0_0, .int .i64 a0_1, .int .i64 a0_2, .int .i64 a0_3]) (t := 30) ?hr ?_; (case hd => rfl); (case hg => rfl); (case hr => first | (go_simp; done) | (go_simp; rfl)); intro gb101 hg w18 hbox hb; have n0_ := am_ (below_step qz3_ hb); have n1_ := am_ (hbox); have n2_ := am_ ((by rw [hg]; exact (below_size qz3_) : w.heap.size ≤ gb101)); have n3_ := am_ ((by rw [hg]; exact (below_size qz3_) : w.heap.size ≤ gb101)); clear HB; have HB := n0_; have BK101 := n1_; have GW101 := n2_; have GE101 := n3_; clear n0_ n1_ n2_ n3_; clear hb hbox hg; have hcz19_0 : w18.cell? ⟨gb101, 0, none⟩ = some (.int .i64 a0_0) := (blk_cell BK101.out 0).trans rfl; have hcz19_1 : w18.cell? ⟨gb101, 1, none⟩ = some (.int .i64 a0_1) := (blk_cell BK101.out 1).trans rfl; have hcz19_2 : w18.cell? ⟨gb101, 2, none⟩ = some (.int .i64 a0_2) := (blk_cell BK101.out 2).trans rfl; have hcz19_3 : w18.cell? ⟨gb101, 3, none⟩ = some (.int .i64 a0_3) := (blk_cell BK101.out 3).trans rfl; have hfz19_0 := blk_frozen BK101.out 0; have hfz19_1 := blk_frozen BK101.out 1; have hfz19_2 := blk_frozen BK101.out 2; have hfz19_3 := blk_frozen BK101.out 3))
  repeat (go_quiet (first | ((with_reducible refine gate_dst (N := 2) rfl ?_); refine box_event ?hg (N := 2) ?hd (cs := #[.int .i64 a0_0, .int .i64 a0_1, .int .i64 a0_2, .int .i64 a0_3]) (t := 30) ?hr ?_; (case hd => rfl); (case hg => rfl); (case hr => first | (go_simp; done) | (go_simp; rfl)); intro gb101 hg w18 hbox hb; have n0_ := am_ (below_step qz3_ hb); have n1_ := am_ (hbox); have n2_ := am_ ((by rw [hg]; exact (below_size qz3_) : w.heap.size ≤ gb101)); have n3_ := am_ ((by rw [hg]; exact (below_size qz3_) : w.heap.size ≤ gb101)); clear HB; have HB := n0_; have BK101 := n1_; have GW101 := n2_; have GE101 := n3_; clear n0_ n1_ n2_ n3_; clear hb hbox hg; have hcz19_0 : w18.cell? ⟨gb101, 0, none⟩ = some (.int .i64 a0_0) := (blk_cell BK101.out 0).trans rfl; have hcz19_1 : w18.cell? ⟨gb101, 1, none⟩ = some (.int .i64 a0_1) := (blk_cell BK101.out 1).trans rfl; have hcz19_2 : w18.cell? ⟨gb101, 2, none⟩ = some (.int .i64 a0_2) := (blk_cell BK101.out 2).trans rfl; have hcz19_3 : w18.cell? ⟨gb101, 3, none⟩ = some (.int .i64 a0_3) := (blk_cell BK101.out 3).trans rfl; have hfz19_0 := blk_frozen BK101.out 0; have hfz19_1 := blk_frozen BK101.out 1; have hfz19_2 := blk_frozen BK101.out 2; have hfz19_3 := blk_frozen BK101.out 3)); go_upto_if 24 with (first | ((with_reducible refine gate_dst (N := 2) rfl ?_); refine box_event ?hg (N := 2) ?hd (cs := #[.int .i64 a0_0, .int .i64 a0_1, .int .i64 a0_2, .int .i64 a0_3]) (t := 30) ?hr ?_; (case hd => rfl); (case hg => rfl); (case hr => first | (go_simp; done) | (go_simp; rfl)); intro gb101 hg w18 hbox hb; have n0_ := am_ (below_step qz3_ hb); have n1_ := am_ (hbox); have n2_ := am_ ((by rw [hg]; exact (below_size qz3_) : w.heap.size ≤ gb101)); have n3_ := am_ ((by rw [hg]; exact (below_size qz3_) : w.heap.size ≤ gb101)); clear HB; have HB := n0_; have BK101 := n1_; have GW101 := n2_; have GE101 := n3_; clear n0_ n1_ n2_ n3_; clear hb hbox hg; have hcz19_0 : w18.cell? ⟨gb101, 0, none⟩ = some (.int .i64 a0_0) := (blk_cell BK101.out 0).trans rfl; have hcz19_1 : w18.cell? ⟨gb101, 1, none⟩ = some (.int .i64 a0_1) := (blk_cell BK101.out 1).trans rfl; have hcz19_2 : w18.cell? ⟨gb101, 2, none⟩ = some (.int .i64 a0_2) := (blk_cell BK101.out 2).trans rfl; have hcz19_3 : w18.cell? ⟨gb101, 3, none⟩ = some (.int .i64 a0_3) := (blk_cell BK101.out 3).trans rfl; have hfz19_0 := blk_frozen BK101.out 0; have hfz19_1 := blk_frozen BK101.out 1; have hfz19_2 := blk_frozen BK101.out 2; have hfz19_3 := blk_frozen BK101.out 3)))
  (try simp only [Act.put, List.setIfInBounds_toArray, List.set_cons_zero, List.set_cons_succ])
  go_cut [24] (fun v24 wc => ∃ (kq : Nat) (x24_16 : Bool), v24 = .bool x24_16 ∧ Aside0 (impl_isGate.j0 kq a1 (a0_1 == 0) (a0_2 == 0) (a0_3 == 0) a0_0 x24_16 a0_0 a0_1 a0_2 a0_3 = some r) ∧ Aside0 (kq ≤ k) ∧ Aside0 (wc.heap[gb101]? = some (.cells #[.int .i64 a0_0, .int .i64 a0_1, .int .i64 a0_2, .int .i64 a0_3] 30 (0, 0))) ∧ Aside0 (Below w.heap.size w wc))
  case first =>
   have H := HC17.out
   clear HC17
   by_cases c20 : a0_0 = 4
   ·
    rw [if_pos c20] at H
    have c20b0 : (a0_0 == 4) = true := beq_iff_eq.mpr c20
    have c20b1 : (a0_0 != 4) = false := bne_eq_false_iff_eq.mpr c20
    clear c20
    (first | rw [c20b0] | (simp only [i64_w, i32_w]; rw [c20b0]) | skip)
    have H' := am_ H
    clear H
    go_wp2
    repeat (go_quiet (fail); try go_wp2)
    go_meet
    case rel => exact ⟨_, ((a0_0 == 4)), qz0_, H', ⟨qz10_⟩, ⟨qz4_⟩, ⟨qz9_⟩⟩
   ·
    rw [if_neg c20] at H
    have c20b0 : (a0_0 == 4) = false := beq_eq_false_iff_ne.mpr c20
    have c20b1 : (a0_0 != 4) = true := bne_iff_ne.mpr c20
    (first | rw [c20b0] | (simp only [i64_w, i32_w]; rw [c20b0]) | skip)
    by_cases c21 : a0_0 = 5
    ·
     rw [if_pos c21] at H
     have c21b0 : (a0_0 == 5) = true := beq_iff_eq.mpr c21
     have c21b1 : (a0_0 != 5) = false := bne_eq_false_iff_eq.mpr c21
     clear c21
     have H' := am_ H
     clear H
     go_wp2
     repeat (go_quiet (fail); try go_wp2)
     go_meet
     case rel => exact ⟨_, ((a0_0 == 5)), qz0_, H', ⟨qz10_⟩, ⟨qz4_⟩, ⟨qz9_⟩⟩
    ·
     rw [if_neg c21] at H
     have c21b0 : (a0_0 == 5) = false := beq_eq_false_iff_ne.mpr c21
     have c21b1 : (a0_0 != 5) = true := bne_iff_ne.mpr c21
     by_cases c22 : a0_0 = 6
     ·
      rw [if_pos c22] at H
      have c22b0 : (a0_0 == 6) = true := beq_iff_eq.mpr c22
      have c22b1 : (a0_0 != 6) = false := bne_eq_false_iff_eq.mpr c22
      clear c22
      have H' := am_ H
      clear H
      go_wp2
      repeat (go_quiet (fail); try go_wp2)
      go_meet
      case rel => exact ⟨_, ((a0_0 == 6)), qz0_, H', ⟨qz10_⟩, ⟨qz4_⟩, ⟨qz9_⟩⟩
     ·
      rw [if_neg c22] at H
      have c22b0 : (a0_0 == 6) = false := beq_eq_false_iff_ne.mpr c22
      have c22b1 : (a0_0 != 6) = true := bne_iff_ne.mpr c22
      have H' := am_ H
      clear H
      go_wp2
      repeat (go_quiet (fail); try go_wp2)
      go_meet
      case rel => exact ⟨_, ((a0_0 == 7)), qz0_, H', ⟨qz10_⟩, ⟨qz4_⟩, ⟨qz9_⟩⟩
  case rest =>
   clear HC17
   try clear c1
   try clear c2
   try clear p2
   try clear c3
   try clear c3b0
   try clear c3b1
   try clear c6
   try clear c7
   try clear c7b0
   try clear c7b1
   try clear c8
   try clear c8b0
   try clear c8b1
   try clear c13
   try clear c20
   try clear c20b0
   try clear c20b1
   try clear c21
   try clear c21b0
   try clear c21b1
   try clear c22
   try clear c22b0
   try clear c22b1
   try clear hcz10_0
   try clear hcz10_1
   try clear hcz10_2
   try clear hcz10_3
   try clear hcz12_0
   try clear hcz12_1
   try clear hcz12_2
   try clear hcz12_3
   try clear hcz14_0
   try clear hcz14_1
   try clear hcz14_2
   try clear hcz14_3
   try clear hcz16_0
   try clear hcz16_1
   try clear hcz16_2
   try clear hcz16_3
   try clear hcz19_0
   try clear hcz19_1
   try clear hcz19_2
   try clear hcz19_3
   try clear hfz10_0
   try clear hfz10_1
   try clear hfz10_2
   try clear hfz10_3
   try clear hfz12_0
   try clear hfz12_1
   try clear hfz12_2
   try clear hfz12_3
   try clear hfz14_0
   try clear hfz14_1
   try clear hfz14_2
   try clear hfz14_3
   try clear hfz16_0
   try clear hfz16_1
   try clear hfz16_2
   try clear hfz16_3
   try clear hfz19_0
   try clear hfz19_1
   try clear hfz19_2
   try clear hfz19_3
   obtain ⟨kq, x24_16, rfl, HA, HJ16, BK101, HB⟩ := hcut
   cases kq with
   | zero => exact absurd HA.out (by simp [impl_isGate.j0])
   | succ kj16 =>
    have H := HA.out
    clear HA
    simp only [impl_isGate.j0] at H
    by_cases c23 : x24_16 = true
    ·
     subst c23
     have H1 : ((impl_in.f a0_1 0 (wrap64 (a1 - 1))).bind fun t104 => ((impl_in.f a0_2 0 (wrap64 (a1 - 1))).bind fun t105 => ((impl_in.f a0_0 1 8).bind fun t106 => (if t106 = true then (if t104 = true then (if t105 = true then (some (a0_3 == 0)) else (some false)) else (some false)) else (some false))))) = some r := by rw [if_pos rfl] at H; exact H
     clear H
     have H := H1
     clear H1
     replace H := Option.bind_eq_some_iff.mp H
     obtain ⟨t104, A240, H⟩ := H
     replace H : ((impl_in.f a0_2 0 (wrap64 (a1 - 1))).bind fun t105 => ((impl_in.f a0_0 1 8).bind fun t106 => (if t106 = true then (if t104 = true then (if t105 = true then (some (a0_3 == 0)) else (some false)) else (some false)) else (some false)))) = some r := H
     have A24 := am_ A240
     clear A240
     replace H := Option.bind_eq_some_iff.mp H
     obtain ⟨t105, A250, H⟩ := H
     replace H : ((impl_in.f a0_0 1 8).bind fun t106 => (if t106 = true then (if t104 = true then (if t105 = true then (some (a0_3 == 0)) else (some false)) else (some false)) else (some false))) = some r := H
     have A25 := am_ A250
     clear A250
     replace H := Option.bind_eq_some_iff.mp H
     obtain ⟨t106, A260, H⟩ := H
     replace H : (if t106 = true then (if t104 = true then (if t105 = true then (some (a0_3 == 0)) else (some false)) else (some false)) else (some false)) = some r := H
     have A26 := am_ A260
     clear A260
     by_cases c27 : t106 = true
     ·
      subst c27
      have H1 : (if t104 = true then (if t105 = true then (some (a0_3 == 0)) else (some false)) else (some false)) = some r := by rw [if_pos rfl] at H; exact H
      clear H
      have H := H1
      clear H1
      by_cases c28 : t104 = true
      ·
       subst c28
       have H1 : (if t105 = true then (some (a0_3 == 0)) else (some false)) = some r := by rw [if_pos rfl] at H; exact H
       clear H
       have H := H1
       clear H1
       by_cases c29 : t105 = true
       ·
        subst c29
        have H1 : (some (a0_3 == 0)) = some r := by rw [if_pos rfl] at H; exact H
        clear H
        have H := H1
        clear H1
        obtain rfl := Option.some.inj H
        have hcz30_0 : wc.cell? ⟨gb101, 0, none⟩ = some (.int .i64 a0_0) := (blk_cell BK101.out 0).trans rfl
        have hcz30_1 : wc.cell? ⟨gb101, 1, none⟩ = some (.int .i64 a0_1) := (blk_cell BK101.out 1).trans rfl
        have hcz30_2 : wc.cell? ⟨gb101, 2, none⟩ = some (.int .i64 a0_2) := (blk_cell BK101.out 2).trans rfl
        have hcz30_3 : wc.cell? ⟨gb101, 3, none⟩ = some (.int .i64 a0_3) := (blk_cell BK101.out 3).trans rfl
        have hfz30_0 := blk_frozen BK101.out 0
        have hfz30_1 := blk_frozen BK101.out 1
        have hfz30_2 := blk_frozen BK101.out 2
        have hfz30_3 := blk_frozen BK101.out 3
        go_wp2_with (first | (go_at_call 30; (with_reducible refine (impl_in.calls a0_1 0 (wrap64 (a1 - 1)) true _ A24.out).mono ?_); rintro e w' ⟨rfl, ⟨nd, rfl⟩⟩; (try first | exact ⟨rfl, _, qd1_⟩ | exact ⟨rfl, _, qd2_⟩)) | (go_at_call 30; (with_reducible refine (impl_in.calls a0_2 0 (wrap64 (a1 - 1)) true _ A25.out).mono ?_); rintro e w' ⟨rfl, ⟨nd, rfl⟩⟩; (try first | exact ⟨rfl, _, qd1_⟩ | exact ⟨rfl, _, qd2_⟩)) | (go_at_call 30; (with_reducible refine (impl_in.calls a0_0 1 8 true _ A26.out).mono ?_); rintro e w' ⟨rfl, ⟨nd, rfl⟩⟩; (try first | exact ⟨rfl, _, qd1_⟩ | exact ⟨rfl, _, qd2_⟩)))
        repeat (go_quiet (first | (go_at_call 30; (with_reducible refine (impl_in.calls a0_1 0 (wrap64 (a1 - 1)) true _ A24.out).mono ?_); rintro e w' ⟨rfl, ⟨nd, rfl⟩⟩; (try first | exact ⟨rfl, _, qd1_⟩ | exact ⟨rfl, _, qd2_⟩)) | (go_at_call 30; (with_reducible refine (impl_in.calls a0_2 0 (wrap64 (a1 - 1)) true _ A25.out).mono ?_); rintro e w' ⟨rfl, ⟨nd, rfl⟩⟩; (try first | exact ⟨rfl, _, qd1_⟩ | exact ⟨rfl, _, qd2_⟩)) | (go_at_call 30; (with_reducible refine (impl_in.calls a0_0 1 8 true _ A26.out).mono ?_); rintro e w' ⟨rfl, ⟨nd, rfl⟩⟩; (try first | exact ⟨rfl, _, qd1_⟩ | exact ⟨rfl, _, qd2_⟩))); try go_wp2_with (first | (go_at_call 30; (with_reducible refine (impl_in.calls a0_1 0 (wrap64 (a1 - 1)) true _ A24.out).mono ?_); rintro e w' ⟨rfl, ⟨nd, rfl⟩⟩; (try first | exact ⟨rfl, _, qd1_⟩ | exact ⟨rfl, _, qd2_⟩)) | (go_at_call 30; (with_reducible refine (impl_in.calls a0_2 0 (wrap64 (a1 - 1)) true _ A25.out).mono ?_); rintro e w' ⟨rfl, ⟨nd, rfl⟩⟩; (try first | exact ⟨rfl, _, qd1_⟩ | exact ⟨rfl, _, qd2_⟩)) | (go_at_call 30; (with_reducible refine (impl_in.calls a0_0 1 8 true _ A26.out).mono ?_); rintro e w' ⟨rfl, ⟨nd, rfl⟩⟩; (try first | exact ⟨rfl, _, qd1_⟩ | exact ⟨rfl, _, qd2_⟩))))
        go_ret
        exact ⟨qz5_, qz9_⟩
       ·
        replace c29 := Bool.eq_false_iff.mpr c29
        subst c29
        have H1 : (some false) = some r := by rw [if_neg (show ¬ (false = true) by decide)] at H; exact H
        clear H
        have H := H1
        clear H1
        obtain rfl := Option.some.inj H
        have hcz31_0 : wc.cell? ⟨gb101, 0, none⟩ = some (.int .i64 a0_0) := (blk_cell BK101.out 0).trans rfl
        have hcz31_1 : wc.cell? ⟨gb101, 1, none⟩ = some (.int .i64 a0_1) := (blk_cell BK101.out 1).trans rfl
        have hcz31_2 : wc.cell? ⟨gb101, 2, none⟩ = some (.int .i64 a0_2) := (blk_cell BK101.out 2).trans rfl
        have hcz31_3 : wc.cell? ⟨gb101, 3, none⟩ = some (.int .i64 a0_3) := (blk_cell BK101.out 3).trans rfl
        have hfz31_0 := blk_frozen BK101.out 0
        have hfz31_1 := blk_frozen BK101.out 1
        have hfz31_2 := blk_frozen BK101.out 2
        have hfz31_3 := blk_frozen BK101.out 3
        go_wp2_with (first | (go_at_call 30; (with_reducible refine (impl_in.calls a0_1 0 (wrap64 (a1 - 1)) true _ A24.out).mono ?_); rintro e w' ⟨rfl, ⟨nd, rfl⟩⟩; (try first | exact ⟨rfl, _, qd1_⟩ | exact ⟨rfl, _, qd2_⟩)) | (go_at_call 30; (with_reducible refine (impl_in.calls a0_2 0 (wrap64 (a1 - 1)) false _ A25.out).mono ?_); rintro e w' ⟨rfl, ⟨nd, rfl⟩⟩; (try first | exact ⟨rfl, _, qd1_⟩ | exact ⟨rfl, _, qd2_⟩)) | (go_at_call 30; (with_reducible refine (impl_in.calls a0_0 1 8 true _ A26.out).mono ?_); rintro e w' ⟨rfl, ⟨nd, rfl⟩⟩; (try first | exact ⟨rfl, _, qd1_⟩ | exact ⟨rfl, _, qd2_⟩)))
        repeat (go_quiet (first | (go_at_call 30; (with_reducible refine (impl_in.calls a0_1 0 (wrap64 (a1 - 1)) true _ A24.out).mono ?_); rintro e w' ⟨rfl, ⟨nd, rfl⟩⟩; (try first | exact ⟨rfl, _, qd1_⟩ | exact ⟨rfl, _, qd2_⟩)) | (go_at_call 30; (with_reducible refine (impl_in.calls a0_2 0 (wrap64 (a1 - 1)) false _ A25.out).mono ?_); rintro e w' ⟨rfl, ⟨nd, rfl⟩⟩; (try first | exact ⟨rfl, _, qd1_⟩ | exact ⟨rfl, _, qd2_⟩)) | (go_at_call 30; (with_reducible refine (impl_in.calls a0_0 1 8 true _ A26.out).mono ?_); rintro e w' ⟨rfl, ⟨nd, rfl⟩⟩; (try first | exact ⟨rfl, _, qd1_⟩ | exact ⟨rfl, _, qd2_⟩))); try go_wp2_with (first | (go_at_call 30; (with_reducible refine (impl_in.calls a0_1 0 (wrap64 (a1 - 1)) true _ A24.out).mono ?_); rintro e w' ⟨rfl, ⟨nd, rfl⟩⟩; (try first | exact ⟨rfl, _, qd1_⟩ | exact ⟨rfl, _, qd2_⟩)) | (go_at_call 30; (with_reducible refine (impl_in.calls a0_2 0 (wrap64 (a1 - 1)) false _ A25.out).mono ?_); rintro e w' ⟨rfl, ⟨nd, rfl⟩⟩; (try first | exact ⟨rfl, _, qd1_⟩ | exact ⟨rfl, _, qd2_⟩)) | (go_at_call 30; (with_reducible refine (impl_in.calls a0_0 1 8 true _ A26.out).mono ?_); rintro e w' ⟨rfl, ⟨nd, rfl⟩⟩; (try first | exact ⟨rfl, _, qd1_⟩ | exact ⟨rfl, _, qd2_⟩))))
        go_ret
        exact ⟨qz5_, qz9_⟩
      ·
       replace c28 := Bool.eq_false_iff.mpr c28
       subst c28
       have H1 : (some false) = some r := by rw [if_neg (show ¬ (false = true) by decide)] at H; exact H
       clear H
       have H := H1
       clear H1
       obtain rfl := Option.some.inj H
       have hcz32_0 : wc.cell? ⟨gb101, 0, none⟩ = some (.int .i64 a0_0) := (blk_cell BK101.out 0).trans rfl
       have hcz32_1 : wc.cell? ⟨gb101, 1, none⟩ = some (.int .i64 a0_1) := (blk_cell BK101.out 1).trans rfl
       have hcz32_2 : wc.cell? ⟨gb101, 2, none⟩ = some (.int .i64 a0_2) := (blk_cell BK101.out 2).trans rfl
       have hcz32_3 : wc.cell? ⟨gb101, 3, none⟩ = some (.int .i64 a0_3) := (blk_cell BK101.out 3).trans rfl
       have hfz32_0 := blk_frozen BK101.out 0
       have hfz32_1 := blk_frozen BK101.out 1
       have hfz32_2 := blk_frozen BK101.out 2
       have hfz32_3 := blk_frozen BK101.out 3
       go_wp2_with (first | (go_at_call 30; (with_reducible refine (impl_in.calls a0_1 0 (wrap64 (a1 - 1)) false _ A24.out).mono ?_); rintro e w' ⟨rfl, ⟨nd, rfl⟩⟩; (try first | exact ⟨rfl, _, qd1_⟩ | exact ⟨rfl, _, qd2_⟩)) | (go_at_call 30; (with_reducible refine (impl_in.calls a0_2 0 (wrap64 (a1 - 1)) t105 _ A25.out).mono ?_); rintro e w' ⟨rfl, ⟨nd, rfl⟩⟩; (try first | exact ⟨rfl, _, qd1_⟩ | exact ⟨rfl, _, qd2_⟩)) | (go_at_call 30; (with_reducible refine (impl_in.calls a0_0 1 8 true _ A26.out).mono ?_); rintro e w' ⟨rfl, ⟨nd, rfl⟩⟩; (try first | exact ⟨rfl, _, qd1_⟩ | exact ⟨rfl, _, qd2_⟩)))
       repeat (go_quiet (first | (go_at_call 30; (with_reducible refine (impl_in.calls a0_1 0 (wrap64 (a1 - 1)) false _ A24.out).mono ?_); rintro e w' ⟨rfl, ⟨nd, rfl⟩⟩; (try first | exact ⟨rfl, _, qd1_⟩ | exact ⟨rfl, _, qd2_⟩)) | (go_at_call 30; (with_reducible refine (impl_in.calls a0_2 0 (wrap64 (a1 - 1)) t105 _ A25.out).mono ?_); rintro e w' ⟨rfl, ⟨nd, rfl⟩⟩; (try first | exact ⟨rfl, _, qd1_⟩ | exact ⟨rfl, _, qd2_⟩)) | (go_at_call 30; (with_reducible refine (impl_in.calls a0_0 1 8 true _ A26.out).mono ?_); rintro e w' ⟨rfl, ⟨nd, rfl⟩⟩; (try first | exact ⟨rfl, _, qd1_⟩ | exact ⟨rfl, _, qd2_⟩))); try go_wp2_with (first | (go_at_call 30; (with_reducible refine (impl_in.calls a0_1 0 (wrap64 (a1 - 1)) false _ A24.out).mono ?_); rintro e w' ⟨rfl, ⟨nd, rfl⟩⟩; (try first | exact ⟨rfl, _, qd1_⟩ | exact ⟨rfl, _, qd2_⟩)) | (go_at_call 30; (with_reducible refine (impl_in.calls a0_2 0 (wrap64 (a1 - 1)) t105 _ A25.out).mono ?_); rintro e w' ⟨rfl, ⟨nd, rfl⟩⟩; (try first | exact ⟨rfl, _, qd1_⟩ | exact ⟨rfl, _, qd2_⟩)) | (go_at_call 30; (with_reducible refine (impl_in.calls a0_0 1 8 true _ A26.out).mono ?_); rintro e w' ⟨rfl, ⟨nd, rfl⟩⟩; (try first | exact ⟨rfl, _, qd1_⟩ | exact ⟨rfl, _, qd2_⟩))))
       go_ret
       exact ⟨qz5_, qz9_⟩
     ·
      replace c27 := Bool.eq_false_iff.mpr c27
      subst c27
      have H1 : (some false) = some r := by rw [if_neg (show ¬ (false = true) by decide)] at H; exact H
      clear H
      have H := H1
      clear H1
      obtain rfl := Option.some.inj H
      have hcz33_0 : wc.cell? ⟨gb101, 0, none⟩ = some (.int .i64 a0_0) := (blk_cell BK101.out 0).trans rfl
      have hcz33_1 : wc.cell? ⟨gb101, 1, none⟩ = some (.int .i64 a0_1) := (blk_cell BK101.out 1).trans rfl
      have hcz33_2 : wc.cell? ⟨gb101, 2, none⟩ = some (.int .i64 a0_2) := (blk_cell BK101.out 2).trans rfl
      have hcz33_3 : wc.cell? ⟨gb101, 3, none⟩ = some (.int .i64 a0_3) := (blk_cell BK101.out 3).trans rfl
      have hfz33_0 := blk_frozen BK101.out 0
      have hfz33_1 := blk_frozen BK101.out 1
      have hfz33_2 := blk_frozen BK101.out 2
      have hfz33_3 := blk_frozen BK101.out 3
      go_wp2_with (first | (go_at_call 30; (with_reducible refine (impl_in.calls a0_1 0 (wrap64 (a1 - 1)) t104 _ A24.out).mono ?_); rintro e w' ⟨rfl, ⟨nd, rfl⟩⟩; (try first | exact ⟨rfl, _, qd1_⟩ | exact ⟨rfl, _, qd2_⟩)) | (go_at_call 30; (with_reducible refine (impl_in.calls a0_2 0 (wrap64 (a1 - 1)) t105 _ A25.out).mono ?_); rintro e w' ⟨rfl, ⟨nd, rfl⟩⟩; (try first | exact ⟨rfl, _, qd1_⟩ | exact ⟨rfl, _, qd2_⟩)) | (go_at_call 30; (with_reducible refine (impl_in.calls a0_0 1 8 false _ A26.out).mono ?_); rintro e w' ⟨rfl, ⟨nd, rfl⟩⟩; (try first | exact ⟨rfl, _, qd1_⟩ | exact ⟨rfl, _, qd2_⟩)))
      repeat (go_quiet (first | (go_at_call 30; (with_reducible refine (impl_in.calls a0_1 0 (wrap64 (a1 - 1)) t104 _ A24.out).mono ?_); rintro e w' ⟨rfl, ⟨nd, rfl⟩⟩; (try first | exact ⟨rfl, _, qd1_⟩ | exact ⟨rfl, _, qd2_⟩)) | (go_at_call 30; (with_reducible refine (impl_in.calls a0_2 0 (wrap64 (a1 - 1)) t105 _ A25.out).mono ?_); rintro e w' ⟨rfl, ⟨nd, rfl⟩⟩; (try first | exact ⟨rfl, _, qd1_⟩ | exact ⟨rfl, _, qd2_⟩)) | (go_at_call 30; (with_reducible refine (impl_in.calls a0_0 1 8 false _ A26.out).mono ?_); rintro e w' ⟨rfl, ⟨nd, rfl⟩⟩; (try first | exact ⟨rfl, _, qd1_⟩ | exact ⟨rfl, _, qd2_⟩))); try go_wp2_with (first | (go_at_call 30; (with_reducible refine (impl_in.calls a0_1 0 (wrap64 (a1 - 1)) t104 _ A24.out).mono ?_); rintro e w' ⟨rfl, ⟨nd, rfl⟩⟩; (try first | exact ⟨rfl, _, qd1_⟩ | exact ⟨rfl, _, qd2_⟩)) | (go_at_call 30; (with_reducible refine (impl_in.calls a0_2 0 (wrap64 (a1 - 1)) t105 _ A25.out).mono ?_); rintro e w' ⟨rfl, ⟨nd, rfl⟩⟩; (try first | exact ⟨rfl, _, qd1_⟩ | exact ⟨rfl, _, qd2_⟩)) | (go_at_call 30; (with_reducible refine (impl_in.calls a0_0 1 8 false _ A26.out).mono ?_); rintro e w' ⟨rfl, ⟨nd, rfl⟩⟩; (try first | exact ⟨rfl, _, qd1_⟩ | exact ⟨rfl, _, qd2_⟩))))
      go_ret
      exact ⟨qz5_, qz9_⟩
    ·
     replace c23 := Bool.eq_false_iff.mpr c23
     subst c23
     have H1 : (if a0_0 = 8 then ((impl_in.f a0_1 0 (wrap64 (a1 - 1))).bind fun t107 => ((impl_in.f a0_0 1 8).bind fun t108 => (if t108 = true then (if t107 = true then (if (a0_2 == 0) = true then (some (a0_3 == 0)) else (some false)) else (some false)) else (some false)))) else ((impl_in.f a0_0 1 8).bind fun t109 => (if t109 = true then (if (a0_1 == 0) = true then (if (a0_2 == 0) = true then (some (a0_3 == 0)) else (some false)) else (some false)) else (some false)))) = some r := by rw [if_neg (show ¬ (false = true) by decide)] at H; exact H
     clear H
     have H := H1
     clear H1
     by_cases c34 : a0_0 = 8
     ·
      rw [if_pos c34] at H
      have c34b0 : (a0_0 == 8) = true := beq_iff_eq.mpr c34
      have c34b1 : (a0_0 != 8) = false := bne_eq_false_iff_eq.mpr c34
      clear c34
      replace H := Option.bind_eq_some_iff.mp H
      obtain ⟨t107, A350, H⟩ := H
      replace H : ((impl_in.f a0_0 1 8).bind fun t108 => (if t108 = true then (if t107 = true then (if (a0_2 == 0) = true then (some (a0_3 == 0)) else (some false)) else (some false)) else (some false))) = some r := H
      have A35 := am_ A350
      clear A350
      replace H := Option.bind_eq_some_iff.mp H
      obtain ⟨t108, A360, H⟩ := H
      replace H : (if t108 = true then (if t107 = true then (if (a0_2 == 0) = true then (some (a0_3 == 0)) else (some false)) else (some false)) else (some false)) = some r := H
      have A36 := am_ A360
      clear A360
      by_cases c37 : t108 = true
      ·
       subst c37
       have H1 : (if t107 = true then (if (a0_2 == 0) = true then (some (a0_3 == 0)) else (some false)) else (some false)) = some r := by rw [if_pos rfl] at H; exact H
       clear H
       have H := H1
       clear H1
       by_cases c38 : t107 = true
       ·
        subst c38
        have H1 : (if (a0_2 == 0) = true then (some (a0_3 == 0)) else (some false)) = some r := by rw [if_pos rfl] at H; exact H
        clear H
        have H := H1
        clear H1
        by_cases c39 : (a0_2 == 0) = true
        ·
         rw [if_pos c39] at H
         have c39b0 : (a0_2 == 0) = true := c39
         (try (have c39b1 : decide (a0_2 = 0) = true := by simpa using c39))
         (try (have c39b2 : (a0_2 == 0) = true := by simpa using c39))
         clear c39
         obtain rfl := Option.some.inj H
         have hcz40_0 : wc.cell? ⟨gb101, 0, none⟩ = some (.int .i64 a0_0) := (blk_cell BK101.out 0).trans rfl
         have hcz40_1 : wc.cell? ⟨gb101, 1, none⟩ = some (.int .i64 a0_1) := (blk_cell BK101.out 1).trans rfl
         have hcz40_2 : wc.cell? ⟨gb101, 2, none⟩ = some (.int .i64 a0_2) := (blk_cell BK101.out 2).trans rfl
         have hcz40_3 : wc.cell? ⟨gb101, 3, none⟩ = some (.int .i64 a0_3) := (blk_cell BK101.out 3).trans rfl
         have hfz40_0 := blk_frozen BK101.out 0
         have hfz40_1 := blk_frozen BK101.out 1
         have hfz40_2 := blk_frozen BK101.out 2
         have hfz40_3 := blk_frozen BK101.out 3
         go_wp2_with (first | (go_at_call 30; (with_reducible refine (impl_in.calls a0_1 0 (wrap64 (a1 - 1)) true _ A35.out).mono ?_); rintro e w' ⟨rfl, ⟨nd, rfl⟩⟩; (try first | exact ⟨rfl, _, qd1_⟩ | exact ⟨rfl, _, qd2_⟩)) | (go_at_call 30; (with_reducible refine (impl_in.calls a0_0 1 8 true _ A36.out).mono ?_); rintro e w' ⟨rfl, ⟨nd, rfl⟩⟩; (try first | exact ⟨rfl, _, qd1_⟩ | exact ⟨rfl, _, qd2_⟩)))
         repeat (go_quiet (first | (go_at_call 30; (with_reducible refine (impl_in.calls a0_1 0 (wrap64 (a1 - 1)) true _ A35.out).mono ?_); rintro e w' ⟨rfl, ⟨nd, rfl⟩⟩; (try first | exact ⟨rfl, _, qd1_⟩ | exact ⟨rfl, _, qd2_⟩)) | (go_at_call 30; (with_reducible refine (impl_in.calls a0_0 1 8 true _ A36.out).mono ?_); rintro e w' ⟨rfl, ⟨nd, rfl⟩⟩; (try first | exact ⟨rfl, _, qd1_⟩ | exact ⟨rfl, _, qd2_⟩))); try go_wp2_with (first | (go_at_call 30; (with_reducible refine (impl_in.calls a0_1 0 (wrap64 (a1 - 1)) true _ A35.out).mono ?_); rintro e w' ⟨rfl, ⟨nd, rfl⟩⟩; (try first | exact ⟨rfl, _, qd1_⟩ | exact ⟨rfl, _, qd2_⟩)) | (go_at_call 30; (with_reducible refine (impl_in.calls a0_0 1 8 true _ A36.out).mono ?_); rintro e w' ⟨rfl, ⟨nd, rfl⟩⟩; (try first | exact ⟨rfl, _, qd1_⟩ | exact ⟨rfl, _, qd2_⟩))))
         go_ret
         exact ⟨qz5_, qz9_⟩
        ·
         rw [if_neg c39] at H
         have c39b0 : (a0_2 == 0) = false := by simpa using c39
         (try (have c39b1 : decide (a0_2 = 0) = false := by simpa using c39))
         (try (have c39b2 : (a0_2 == 0) = false := by simpa using c39))
         (try (have c39b3 : ¬ (a0_2 = 0) := by simpa using c39))
         clear c39
         obtain rfl := Option.some.inj H
         have hcz41_0 : wc.cell? ⟨gb101, 0, none⟩ = some (.int .i64 a0_0) := (blk_cell BK101.out 0).trans rfl
         have hcz41_1 : wc.cell? ⟨gb101, 1, none⟩ = some (.int .i64 a0_1) := (blk_cell BK101.out 1).trans rfl
         have hcz41_2 : wc.cell? ⟨gb101, 2, none⟩ = some (.int .i64 a0_2) := (blk_cell BK101.out 2).trans rfl
         have hcz41_3 : wc.cell? ⟨gb101, 3, none⟩ = some (.int .i64 a0_3) := (blk_cell BK101.out 3).trans rfl
         have hfz41_0 := blk_frozen BK101.out 0
         have hfz41_1 := blk_frozen BK101.out 1
         have hfz41_2 := blk_frozen BK101.out 2
         have hfz41_3 := blk_frozen BK101.out 3
         go_wp2_with (first | (go_at_call 30; (with_reducible refine (impl_in.calls a0_1 0 (wrap64 (a1 - 1)) true _ A35.out).mono ?_); rintro e w' ⟨rfl, ⟨nd, rfl⟩⟩; (try first | exact ⟨rfl, _, qd1_⟩ | exact ⟨rfl, _, qd2_⟩)) | (go_at_call 30; (with_reducible refine (impl_in.calls a0_0 1 8 true _ A36.out).mono ?_); rintro e w' ⟨rfl, ⟨nd, rfl⟩⟩; (try first | exact ⟨rfl, _, qd1_⟩ | exact ⟨rfl, _, qd2_⟩)))
         repeat (go_quiet (first | (go_at_call 30; (with_reducible refine (impl_in.calls a0_1 0 (wrap64 (a1 - 1)) true _ A35.out).mono ?_); rintro e w' ⟨rfl, ⟨nd, rfl⟩⟩; (try first | exact ⟨rfl, _, qd1_⟩ | exact ⟨rfl, _, qd2_⟩)) | (go_at_call 30; (with_reducible refine (impl_in.calls a0_0 1 8 true _ A36.out).mono ?_); rintro e w' ⟨rfl, ⟨nd, rfl⟩⟩; (try first | exact ⟨rfl, _, qd1_⟩ | exact ⟨rfl, _, qd2_⟩))); try go_wp2_with (first | (go_at_call 30; (with_reducible refine (impl_in.calls a0_1 0 (wrap64 (a1 - 1)) true _ A35.out).mono ?_); rintro e w' ⟨rfl, ⟨nd, rfl⟩⟩; (try first | exact ⟨rfl, _, qd1_⟩ | exact ⟨rfl, _, qd2_⟩)) | (go_at_call 30; (with_reducible refine (impl_in.calls a0_0 1 8 true _ A36.out).mono ?_); rintro e w' ⟨rfl, ⟨nd, rfl⟩⟩; (try first | exact ⟨rfl, _, qd1_⟩ | exact ⟨rfl, _, qd2_⟩))))
         go_ret
         exact ⟨qz5_, qz9_⟩
       ·
        replace c38 := Bool.eq_false_iff.mpr c38
        subst c38
        have H1 : (some false) = some r := by rw [if_neg (show ¬ (false = true) by decide)] at H; exact H
        clear H
        have H := H1
        clear H1
        obtain rfl := Option.some.inj H
        have hcz42_0 : wc.cell? ⟨gb101, 0, none⟩ = some (.int .i64 a0_0) := (blk_cell BK101.out 0).trans rfl
        have hcz42_1 : wc.cell? ⟨gb101, 1, none⟩ = some (.int .i64 a0_1) := (blk_cell BK101.out 1).trans rfl
        have hcz42_2 : wc.cell? ⟨gb101, 2, none⟩ = some (.int .i64 a0_2) := (blk_cell BK101.out 2).trans rfl
        have hcz42_3 : wc.cell? ⟨gb101, 3, none⟩ = some (.int .i64 a0_3) := (blk_cell BK101.out 3).trans rfl
        have hfz42_0 := blk_frozen BK101.out 0
        have hfz42_1 := blk_frozen BK101.out 1
        have hfz42_2 := blk_frozen BK101.out 2
        have hfz42_3 := blk_frozen BK101.out 3
        go_wp2_with (first | (go_at_call 30; (with_reducible refine (impl_in.calls a0_1 0 (wrap64 (a1 - 1)) false _ A35.out).mono ?_); rintro e w' ⟨rfl, ⟨nd, rfl⟩⟩; (try first | exact ⟨rfl, _, qd1_⟩ | exact ⟨rfl, _, qd2_⟩)) | (go_at_call 30; (with_reducible refine (impl_in.calls a0_0 1 8 true _ A36.out).mono ?_); rintro e w' ⟨rfl, ⟨nd, rfl⟩⟩; (try first | exact ⟨rfl, _, qd1_⟩ | exact ⟨rfl, _, qd2_⟩)))
        repeat (go_quiet (first | (go_at_call 30; (with_reducible refine (impl_in.calls a0_1 0 (wrap64 (a1 - 1)) false _ A35.out).mono ?_); rintro e w' ⟨rfl, ⟨nd, rfl⟩⟩; (try first | exact ⟨rfl, _, qd1_⟩ | exact ⟨rfl, _, qd2_⟩)) | (go_at_call 30; (with_reducible refine (impl_in.calls a0_0 1 8 true _ A36.out).mono ?_); rintro e w' ⟨rfl, ⟨nd, rfl⟩⟩; (try first | exact ⟨rfl, _, qd1_⟩ | exact ⟨rfl, _, qd2_⟩))); try go_wp2_with (first | (go_at_call 30; (with_reducible refine (impl_in.calls a0_1 0 (wrap64 (a1 - 1)) false _ A35.out).mono ?_); rintro e w' ⟨rfl, ⟨nd, rfl⟩⟩; (try first | exact ⟨rfl, _, qd1_⟩ | exact ⟨rfl, _, qd2_⟩)) | (go_at_call 30; (with_reducible refine (impl_in.calls a0_0 1 8 true _ A36.out).mono ?_); rintro e w' ⟨rfl, ⟨nd, rfl⟩⟩; (try first | exact ⟨rfl, _, qd1_⟩ | exact ⟨rfl, _, qd2_⟩))))
        go_ret
        exact ⟨qz5_, qz9_⟩
      ·
       replace c37 := Bool.eq_false_iff.mpr c37
       subst c37
       have H1 : (some false) = some r := by rw [if_neg (show ¬ (false = true) by decide)] at H; exact H
       clear H
       have H := H1
       clear H1
       obtain rfl := Option.some.inj H
       have hcz43_0 : wc.cell? ⟨gb101, 0, none⟩ = some (.int .i64 a0_0) := (blk_cell BK101.out 0).trans rfl
       have hcz43_1 : wc.cell? ⟨gb101, 1, none⟩ = some (.int .i64 a0_1) := (blk_cell BK101.out 1).trans rfl
       have hcz43_2 : wc.cell? ⟨gb101, 2, none⟩ = some (.int .i64 a0_2) := (blk_cell BK101.out 2).trans rfl
       have hcz43_3 : wc.cell? ⟨gb101, 3, none⟩ = some (.int .i64 a0_3) := (blk_cell BK101.out 3).trans rfl
       have hfz43_0 := blk_frozen BK101.out 0
       have hfz43_1 := blk_frozen BK101.out 1
       have hfz43_2 := blk_frozen BK101.out 2
       have hfz43_3 := blk_frozen BK101.out 3
       go_wp2_with (first | (go_at_call 30; (with_reducible refine (impl_in.calls a0_1 0 (wrap64 (a1 - 1)) t107 _ A35.out).mono ?_); rintro e w' ⟨rfl, ⟨nd, rfl⟩⟩; (try first | exact ⟨rfl, _, qd1_⟩ | exact ⟨rfl, _, qd2_⟩)) | (go_at_call 30; (with_reducible refine (impl_in.calls a0_0 1 8 false _ A36.out).mono ?_); rintro e w' ⟨rfl, ⟨nd, rfl⟩⟩; (try first | exact ⟨rfl, _, qd1_⟩ | exact ⟨rfl, _, qd2_⟩)))
       repeat (go_quiet (first | (go_at_call 30; (with_reducible refine (impl_in.calls a0_1 0 (wrap64 (a1 - 1)) t107 _ A35.out).mono ?_); rintro e w' ⟨rfl, ⟨nd, rfl⟩⟩; (try first | exact ⟨rfl, _, qd1_⟩ | exact ⟨rfl, _, qd2_⟩)) | (go_at_call 30; (with_reducible refine (impl_in.calls a0_0 1 8 false _ A36.out).mono ?_); rintro e w' ⟨rfl, ⟨nd, rfl⟩⟩; (try first | exact ⟨rfl, _, qd1_⟩ | exact ⟨rfl, _, qd2_⟩))); try go_wp2_with (first | (go_at_call 30; (with_reducible refine (impl_in.calls a0_1 0 (wrap64 (a1 - 1)) t107 _ A35.out).mono ?_); rintro e w' ⟨rfl, ⟨nd, rfl⟩⟩; (try first | exact ⟨rfl, _, qd1_⟩ | exact ⟨rfl, _, qd2_⟩)) | (go_at_call 30; (with_reducible refine (impl_in.calls a0_0 1 8 false _ A36.out).mono ?_); rintro e w' ⟨rfl, ⟨nd, rfl⟩⟩; (try first | exact ⟨rfl, _, qd1_⟩ | exact ⟨rfl, _, qd2_⟩))))
       go_ret
       exact ⟨qz5_, qz9_⟩
     ·
      rw [if_neg c34] at H
      have c34b0 : (a0_0 == 8) = false := beq_eq_false_iff_ne.mpr c34
      have c34b1 : (a0_0 != 8) = true := bne_iff_ne.mpr c34
      replace H := Option.bind_eq_some_iff.mp H
      obtain ⟨t109, A440, H⟩ := H
      replace H : (if t109 = true then (if (a0_1 == 0) = true then (if (a0_2 == 0) = true then (some (a0_3 == 0)) else (some false)) else (some false)) else (some false)) = some r := H
      have A44 := am_ A440
      clear A440
      by_cases c45 : t109 = true
      ·
       subst c45
       have H1 : (if (a0_1 == 0) = true then (if (a0_2 == 0) = true then (some (a0_3 == 0)) else (some false)) else (some false)) = some r := by rw [if_pos rfl] at H; exact H
       clear H
       have H := H1
       clear H1
       by_cases c46 : (a0_1 == 0) = true
       ·
        rw [if_pos c46] at H
        have c46b0 : (a0_1 == 0) = true := c46
        (try (have c46b1 : decide (a0_1 = 0) = true := by simpa using c46))
        (try (have c46b2 : (a0_1 == 0) = true := by simpa using c46))
        clear c46
        by_cases c47 : (a0_2 == 0) = true
        ·
         rw [if_pos c47] at H
         have c47b0 : (a0_2 == 0) = true := c47
         (try (have c47b1 : decide (a0_2 = 0) = true := by simpa using c47))
         (try (have c47b2 : (a0_2 == 0) = true := by simpa using c47))
         clear c47
         obtain rfl := Option.some.inj H
         have hcz48_0 : wc.cell? ⟨gb101, 0, none⟩ = some (.int .i64 a0_0) := (blk_cell BK101.out 0).trans rfl
         have hcz48_1 : wc.cell? ⟨gb101, 1, none⟩ = some (.int .i64 a0_1) := (blk_cell BK101.out 1).trans rfl
         have hcz48_2 : wc.cell? ⟨gb101, 2, none⟩ = some (.int .i64 a0_2) := (blk_cell BK101.out 2).trans rfl
         have hcz48_3 : wc.cell? ⟨gb101, 3, none⟩ = some (.int .i64 a0_3) := (blk_cell BK101.out 3).trans rfl
         have hfz48_0 := blk_frozen BK101.out 0
         have hfz48_1 := blk_frozen BK101.out 1
         have hfz48_2 := blk_frozen BK101.out 2
         have hfz48_3 := blk_frozen BK101.out 3
         go_wp2_with (first | (go_at_call 30; (with_reducible refine (impl_in.calls a0_0 1 8 true _ A44.out).mono ?_); rintro e w' ⟨rfl, ⟨nd, rfl⟩⟩; (try first | exact ⟨rfl, _, qd1_⟩ | exact ⟨rfl, _, qd2_⟩)))
         repeat (go_quiet (first | (go_at_call 30; (with_reducible refine (impl_in.calls a0_0 1 8 true _ A44.out).mono ?_); rintro e w' ⟨rfl, ⟨nd, rfl⟩⟩; (try first | exact ⟨rfl, _, qd1_⟩ | exact ⟨rfl, _, qd2_⟩))); try go_wp2_with (first | (go_at_call 30; (with_reducible refine (impl_in.calls a0_0 1 8 true _ A44.out).mono ?_); rintro e w' ⟨rfl, ⟨nd, rfl⟩⟩; (try first | exact ⟨rfl, _, qd1_⟩ | exact ⟨rfl, _, qd2_⟩))))
         go_ret
         exact ⟨qz5_, qz9_⟩
        ·
         rw [if_neg c47] at H
         have c47b0 : (a0_2 == 0) = false := by simpa using c47
         (try (have c47b1 : decide (a0_2 = 0) = false := by simpa using c47))
         (try (have c47b2 : (a0_2 == 0) = false := by simpa using c47))
         (try (have c47b3 : ¬ (a0_2 = 0) := by simpa using c47))
         clear c47
         obtain rfl := Option.some.inj H
         have hcz49_0 : wc.cell? ⟨gb101, 0, none⟩ = some (.int .i64 a0_0) := (blk_cell BK101.out 0).trans rfl
         have hcz49_1 : wc.cell? ⟨gb101, 1, none⟩ = some (.int .i64 a0_1) := (blk_cell BK101.out 1).trans rfl
         have hcz49_2 : wc.cell? ⟨gb101, 2, none⟩ = some (.int .i64 a0_2) := (blk_cell BK101.out 2).trans rfl
         have hcz49_3 : wc.cell? ⟨gb101, 3, none⟩ = some (.int .i64 a0_3) := (blk_cell BK101.out 3).trans rfl
         have hfz49_0 := blk_frozen BK101.out 0
         have hfz49_1 := blk_frozen BK101.out 1
         have hfz49_2 := blk_frozen BK101.out 2
         have hfz49_3 := blk_frozen BK101.out 3
         go_wp2_with (first | (go_at_call 30; (with_reducible refine (impl_in.calls a0_0 1 8 true _ A44.out).mono ?_); rintro e w' ⟨rfl, ⟨nd, rfl⟩⟩; (try first | exact ⟨rfl, _, qd1_⟩ | exact ⟨rfl, _, qd2_⟩)))
         repeat (go_quiet (first | (go_at_call 30; (with_reducible refine (impl_in.calls a0_0 1 8 true _ A44.out).mono ?_); rintro e w' ⟨rfl, ⟨nd, rfl⟩⟩; (try first | exact ⟨rfl, _, qd1_⟩ | exact ⟨rfl, _, qd2_⟩))); try go_wp2_with (first | (go_at_call 30; (with_reducible refine (impl_in.calls a0_0 1 8 true _ A44.out).mono ?_); rintro e w' ⟨rfl, ⟨nd, rfl⟩⟩; (try first | exact ⟨rfl, _, qd1_⟩ | exact ⟨rfl, _, qd2_⟩))))
         go_ret
         exact ⟨qz5_, qz9_⟩
       ·
        rw [if_neg c46] at H
        have c46b0 : (a0_1 == 0) = false := by simpa using c46
        (try (have c46b1 : decide (a0_1 = 0) = false := by simpa using c46))
        (try (have c46b2 : (a0_1 == 0) = false := by simpa using c46))
        (try (have c46b3 : ¬ (a0_1 = 0) := by simpa using c46))
        clear c46
        obtain rfl := Option.some.inj H
        have hcz50_0 : wc.cell? ⟨gb101, 0, none⟩ = some (.int .i64 a0_0) := (blk_cell BK101.out 0).trans rfl
        have hcz50_1 : wc.cell? ⟨gb101, 1, none⟩ = some (.int .i64 a0_1) := (blk_cell BK101.out 1).trans rfl
        have hcz50_2 : wc.cell? ⟨gb101, 2, none⟩ = some (.int .i64 a0_2) := (blk_cell BK101.out 2).trans rfl
        have hcz50_3 : wc.cell? ⟨gb101, 3, none⟩ = some (.int .i64 a0_3) := (blk_cell BK101.out 3).trans rfl
        have hfz50_0 := blk_frozen BK101.out 0
        have hfz50_1 := blk_frozen BK101.out 1
        have hfz50_2 := blk_frozen BK101.out 2
        have hfz50_3 := blk_frozen BK101.out 3
        go_wp2_with (first | (go_at_call 30; (with_reducible refine (impl_in.calls a0_0 1 8 true _ A44.out).mono ?_); rintro e w' ⟨rfl, ⟨nd, rfl⟩⟩; (try first | exact ⟨rfl, _, qd1_⟩ | exact ⟨rfl, _, qd2_⟩)))
        repeat (go_quiet (first | (go_at_call 30; (with_reducible refine (impl_in.calls a0_0 1 8 true _ A44.out).mono ?_); rintro e w' ⟨rfl, ⟨nd, rfl⟩⟩; (try first | exact ⟨rfl, _, qd1_⟩ | exact ⟨rfl, _, qd2_⟩))); try go_wp2_with (first | (go_at_call 30; (with_reducible refine (impl_in.calls a0_0 1 8 true _ A44.out).mono ?_); rintro e w' ⟨rfl, ⟨nd, rfl⟩⟩; (try first | exact ⟨rfl, _, qd1_⟩ | exact ⟨rfl, _, qd2_⟩))))
        go_ret
        exact ⟨qz5_, qz9_⟩
      ·
       replace c45 := Bool.eq_false_iff.mpr c45
       subst c45
       have H1 : (some false) = some r := by rw [if_neg (show ¬ (false = true) by decide)] at H; exact H
       clear H
       have H := H1
       clear H1
       obtain rfl := Option.some.inj H
       have hcz51_0 : wc.cell? ⟨gb101, 0, none⟩ = some (.int .i64 a0_0) := (blk_cell BK101.out 0).trans rfl
       have hcz51_1 : wc.cell? ⟨gb101, 1, none⟩ = some (.int .i64 a0_1) := (blk_cell BK101.out 1).trans rfl
       have hcz51_2 : wc.cell? ⟨gb101, 2, none⟩ = some (.int .i64 a0_2) := (blk_cell BK101.out 2).trans rfl
       have hcz51_3 : wc.cell? ⟨gb101, 3, none⟩ = some (.int .i64 a0_3) := (blk_cell BK101.out 3).trans rfl
       have hfz51_0 := blk_frozen BK101.out 0
       have hfz51_1 := blk_frozen BK101.out 1
       have hfz51_2 := blk_frozen BK101.out 2
       have hfz51_3 := blk_frozen BK101.out 3
       go_wp2_with (first | (go_at_call 30; (with_reducible refine (impl_in.calls a0_0 1 8 false _ A44.out).mono ?_); rintro e w' ⟨rfl, ⟨nd, rfl⟩⟩; (try first | exact ⟨rfl, _, qd1_⟩ | exact ⟨rfl, _, qd2_⟩)))
       repeat (go_quiet (first | (go_at_call 30; (with_reducible refine (impl_in.calls a0_0 1 8 false _ A44.out).mono ?_); rintro e w' ⟨rfl, ⟨nd, rfl⟩⟩; (try first | exact ⟨rfl, _, qd1_⟩ | exact ⟨rfl, _, qd2_⟩))); try go_wp2_with (first | (go_at_call 30; (with_reducible refine (impl_in.calls a0_0 1 8 false _ A44.out).mono ?_); rintro e w' ⟨rfl, ⟨nd, rfl⟩⟩; (try first | exact ⟨rfl, _, qd1_⟩ | exact ⟨rfl, _, qd2_⟩))))
       go_ret
       exact ⟨qz5_, qz9_⟩

def spec_l11Uses.f (a0 : Int) : Option (Int) := (spec_l01In.f a0 4 7).bind fun t101 => (if t101 = true then (some 2) else (if a0 = 8 then (some 1) else (some 0)))
set_option maxHeartbeats 8000000 in
set_option maxRecDepth 100000 in
theorem spec_l11Uses.calls (a0 : Int) (r : Int) (w : World) (h : spec_l11Uses.f a0 = some r) :
  Calls Tryd.prog 19 #[.int .i64 a0] w fun e w' => e = .returned (.int .i64 r) ∧ Drawn0 w w' := by
 have H : ((spec_l01In.f a0 4 7).bind fun t101 => (if t101 = true then (some 2) else (if a0 = 8 then (some 1) else (some 0)))) = some r := h
 clear h
 replace H := Option.bind_eq_some_iff.mp H
 obtain ⟨t101, A20, H⟩ := H
 replace H : (if t101 = true then (some 2) else (if a0 = 8 then (some 1) else (some 0))) = some r := H
 have A2 := am_ A20
 clear A20
 by_cases c3 : t101 = true
 ·
  subst c3
  have H1 : (some 2) = some r := by rw [if_pos rfl] at H; exact H
  clear H
  have H := H1
  clear H1
  obtain rfl := Option.some.inj H
  go_enter Tryd.func19, Tryd.ntmps19
  go_wp2_with (first | ((with_reducible refine gate_callee (f := 32) rfl ?_); refine goesL_ (some 5) rfl rfl Tryd.func32 (by kernel_rfl) rfl #[.int .i64 a0, .int .i64 4, .int .i64 7] rfl qz2_ ?_; (with_reducible refine (spec_l01In.calls a0 4 7 true _ A2.out).mono ?_); rintro e w' ⟨rfl, ⟨nd, rfl⟩⟩; refine ⟨_, rfl, ?_⟩))
  go_ret
  exact ⟨qz0_, qz1_⟩
 ·
  replace c3 := Bool.eq_false_iff.mpr c3
  subst c3
  have H1 : (if a0 = 8 then (some 1) else (some 0)) = some r := by rw [if_neg (show ¬ (false = true) by decide)] at H; exact H
  clear H
  have H := H1
  clear H1
  by_cases c4 : a0 = 8
  ·
   rw [if_pos c4] at H
   have c4b0 : (a0 == 8) = true := beq_iff_eq.mpr c4
   have c4b1 : (a0 != 8) = false := bne_eq_false_iff_eq.mpr c4
   clear c4
   obtain rfl := Option.some.inj H
   go_enter Tryd.func19, Tryd.ntmps19
   go_wp2_with (first | ((with_reducible refine gate_callee (f := 32) rfl ?_); refine goesL_ (some 5) rfl rfl Tryd.func32 (by kernel_rfl) rfl #[.int .i64 a0, .int .i64 4, .int .i64 7] rfl qz2_ ?_; (with_reducible refine (spec_l01In.calls a0 4 7 false _ A2.out).mono ?_); rintro e w' ⟨rfl, ⟨nd, rfl⟩⟩; refine ⟨_, rfl, ?_⟩))
   go_ret
   exact ⟨qz0_, qz1_⟩
  ·
   rw [if_neg c4] at H
   have c4b0 : (a0 == 8) = false := beq_eq_false_iff_ne.mpr c4
   have c4b1 : (a0 != 8) = true := bne_iff_ne.mpr c4
   obtain rfl := Option.some.inj H
   go_enter Tryd.func19, Tryd.ntmps19
   go_wp2_with (first | ((with_reducible refine gate_callee (f := 32) rfl ?_); refine goesL_ (some 5) rfl rfl Tryd.func32 (by kernel_rfl) rfl #[.int .i64 a0, .int .i64 4, .int .i64 7] rfl qz2_ ?_; (with_reducible refine (spec_l01In.calls a0 4 7 false _ A2.out).mono ?_); rintro e w' ⟨rfl, ⟨nd, rfl⟩⟩; refine ⟨_, rfl, ?_⟩))
   go_ret
   exact ⟨qz0_, qz1_⟩

end Go.Proofs.YtokljkneflejdaaDoor.PT
end
section
namespace Go.Proofs.YtokljkneflejdaaDoor.PT
open Go.RowKit Go.Proofs.YtokljkneflejdaaDoorW.PrintWords Go.Proofs.YtokljkneflejdaaDoorW.PrintLast Go.Proofs.YtokljkneflejdaaDoorW.PrintMore
attribute [local go_sem] max2_int min2_int max_two min_two max_three min_three max_four min_four   -- for this text's walks alone
set_option linter.unusedVariables false
set_option linter.unusedSimpArgs false
def spec_l11Gate.j0 : Nat → Bool → Int → Int → Int → Int → Option (Bool)
 | 0, _, _, _, _, _ => none
 | k + 1, x52, x102000, x102001, x102002, x102003 => if x52 = true then (some false) else (if x102000 = 3 then ((spec_FieldOK.f x102003).bind fun t109 => (some t109)) else (some (x102003 == 0)))
def spec_l11Gate.f (k : Nat) (a0_0 : Int) (a0_1 : Int) (a0_2 : Int) (a0_3 : Int) (a1 : Int) : Option (Bool) := (spec_l01In.f a0_0 1 8).bind fun t102 => (if t102 = true then ((spec_l11Uses.f a0_0).bind fun t103 => (if t103 > 0 then ((spec_l01In.f a0_1 0 (wrap64 (a1 - 1))).bind fun t104 => (if t104 = true then (if t103 = 0 then (if a0_1 = 0 then (if t103 > 1 then ((spec_l01In.f a0_2 0 (wrap64 (a1 - 1))).bind fun t105 => (if t105 = true then (if t103 < 2 then (spec_l11Gate.j0 k (a0_2 != 0) a0_0 a0_1 a0_2 a0_3) else (spec_l11Gate.j0 k false a0_0 a0_1 a0_2 a0_3)) else (spec_l11Gate.j0 k true a0_0 a0_1 a0_2 a0_3))) else (if t103 < 2 then (spec_l11Gate.j0 k (a0_2 != 0) a0_0 a0_1 a0_2 a0_3) else (spec_l11Gate.j0 k false a0_0 a0_1 a0_2 a0_3))) else (spec_l11Gate.j0 k true a0_0 a0_1 a0_2 a0_3)) else (if t103 > 1 then ((spec_l01In.f a0_2 0 (wrap64 (a1 - 1))).bind fun t106 => (if t106 = true then (if t103 < 2 then (spec_l11Gate.j0 k (a0_2 != 0) a0_0 a0_1 a0_2 a0_3) else (spec_l11Gate.j0 k false a0_0 a0_1 a0_2 a0_3)) else (spec_l11Gate.j0 k true a0_0 a0_1 a0_2 a0_3))) else (if t103 < 2 then (spec_l11Gate.j0 k (a0_2 != 0) a0_0 a0_1 a0_2 a0_3) else (spec_l11Gate.j0 k false a0_0 a0_1 a0_2 a0_3)))) else (spec_l11Gate.j0 k true a0_0 a0_1 a0_2 a0_3))) else (if t103 = 0 then (if a0_1 = 0 then (if t103 > 1 then ((spec_l01In.f a0_2 0 (wrap64 (a1 - 1))).bind fun t107 => (if t107 = true then (if t103 < 2 then (spec_l11Gate.j0 k (a0_2 != 0) a0_0 a0_1 a0_2 a0_3) else (spec_l11Gate.j0 k false a0_0 a0_1 a0_2 a0_3)) else (spec_l11Gate.j0 k true a0_0 a0_1 a0_2 a0_3))) else (if t103 < 2 then (spec_l11Gate.j0 k (a0_2 != 0) a0_0 a0_1 a0_2 a0_3) else (spec_l11Gate.j0 k false a0_0 a0_1 a0_2 a0_3))) else (spec_l11Gate.j0 k true a0_0 a0_1 a0_2 a0_3)) else (if t103 > 1 then ((spec_l01In.f a0_2 0 (wrap64 (a1 - 1))).bind fun t108 => (if t108 = true then (if t103 < 2 then (spec_l11Gate.j0 k (a0_2 != 0) a0_0 a0_1 a0_2 a0_3) else (spec_l11Gate.j0 k false a0_0 a0_1 a0_2 a0_3)) else (spec_l11Gate.j0 k true a0_0 a0_1 a0_2 a0_3))) else (if t103 < 2 then (spec_l11Gate.j0 k (a0_2 != 0) a0_0 a0_1 a0_2 a0_3) else (spec_l11Gate.j0 k false a0_0 a0_1 a0_2 a0_3)))))) else (some false))
theorem spec_l11Gate.mono_l : ∀ k, (∀ y0 y1 y2 y3 y4, LeO (spec_l11Gate.j0 k y0 y1 y2 y3 y4) (spec_l11Gate.j0 (k + 1) y0 y1 y2 y3 y4))
 | 0 => fun _ _ _ _ _ r h => by simp [spec_l11Gate.j0] at h
 | k + 1 => by
  have ih0 := spec_l11Gate.mono_l k
  ·
   intro y0 y1 y2 y3 y4
   unfold spec_l11Gate.j0
   repeat' first
   | (with_reducible exact ih0 _ _ _ _ _)
   | (with_reducible exact LeO.refl _)
   | (with_reducible exact LeO.none _)
   | (with_reducible refine LeO.ite ?_ ?_)
   | (with_reducible refine LeO.bind ?_ (fun _ => ?_))
   | exact ih0 _ _ _ _ _
   | exact LeO.none _
   | refine LeO.ite ?_ ?_
   | refine LeO.bind ?_ (fun _ => ?_)
theorem spec_l11Gate.mono : ∀ a0 a1 a2 a3 a4 k, LeO (spec_l11Gate.f k a0 a1 a2 a3 a4) (spec_l11Gate.f (k + 1) a0 a1 a2 a3 a4) := by
 intro a0 a1 a2 a3 a4 k
 have ih0 := spec_l11Gate.mono_l k
 unfold spec_l11Gate.f
 repeat' first
   | (with_reducible exact ih0 _ _ _ _ _)
   | (with_reducible exact LeO.refl _)
   | (with_reducible exact LeO.none _)
   | (with_reducible refine LeO.ite ?_ ?_)
   | (with_reducible refine LeO.bind ?_ (fun _ => ?_))
   | exact ih0 _ _ _ _ _
   | exact LeO.none _
   | refine LeO.ite ?_ ?_
   | refine LeO.bind ?_ (fun _ => ?_)
set_option maxHeartbeats 8000000 in
set_option maxRecDepth 100000 in
theorem spec_l11Gate.calls (k : Nat) (a0_0 : Int) (a0_1 : Int) (a0_2 : Int) (a0_3 : Int) (a1 : Int) (r : Bool) (w : World) (h : spec_l11Gate.f k a0_0 a0_1 a0_2 a0_3 a1 = some r) :
  Calls Tryd.prog 17 #[.agg #[.int .i64 a0_0, .int .i64 a0_1, .int .i64 a0_2, .int .i64 a0_3], .int .i64 a1] w fun e w' => e = .returned (.bool r) ∧ Below w.heap.size w w' := by
 have hu30 := Tryd.underlying30
 have HB := am_ (Below.refl w.heap.size w)
 have H : ((spec_l01In.f a0_0 1 8).bind fun t102 => (if t102 = true then ((spec_l11Uses.f a0_0).bind fun t103 => (if t103 > 0 then ((spec_l01In.f a0_1 0 (wrap64 (a1 - 1))).bind fun t104 => (if t104 = true then (if t103 = 0 then (if a0_1 = 0 then (if t103 > 1 then ((spec_l01In.f a0_2 0 (wrap64 (a1 - 1))).bind fun t105 => (if t105 = true then (if t103 < 2 then (spec_l11Gate.j0 k (a0_2 != 0) a0_0 a0_1 a0_2 a0_3) else (spec_l11Gate.j0 k false a0_0 a0_1 a0_2 a0_3)) else (spec_l11Gate.j0 k true a0_0 a0_1 a0_2 a0_3))) else (if t103 < 2 then (spec_l11Gate.j0 k (a0_2 != 0) a0_0 a0_1 a0_2 a0_3) else (spec_l11Gate.j0 k false a0_0 a0_1 a0_2 a0_3))) else (spec_l11Gate.j0 k true a0_0 a0_1 a0_2 a0_3)) else (if t103 > 1 then ((spec_l01In.f a0_2 0 (wrap64 (a1 - 1))).bind fun t106 => (if t106 = true then (if t103 < 2 then (spec_l11Gate.j0 k (a0_2 != 0) a0_0 a0_1 a0_2 a0_3) else (spec_l11Gate.j0 k false a0_0 a0_1 a0_2 a0_3)) else (spec_l11Gate.j0 k true a0_0 a0_1 a0_2 a0_3))) else (if t103 < 2 then (spec_l11Gate.j0 k (a0_2 != 0) a0_0 a0_1 a0_2 a0_3) else (spec_l11Gate.j0 k false a0_0 a0_1 a0_2 a0_3)))) else (spec_l11Gate.j0 k true a0_0 a0_1 a0_2 a0_3))) else (if t103 = 0 then (if a0_1 = 0 then (if t103 > 1 then ((spec_l01In.f a0_2 0 (wrap64 (a1 - 1))).bind fun t107 => (if t107 = true then (if t103 < 2 then (spec_l11Gate.j0 k (a0_2 != 0) a0_0 a0_1 a0_2 a0_3) else (spec_l11Gate.j0 k false a0_0 a0_1 a0_2 a0_3)) else (spec_l11Gate.j0 k true a0_0 a0_1 a0_2 a0_3))) else (if t103 < 2 then (spec_l11Gate.j0 k (a0_2 != 0) a0_0 a0_1 a0_2 a0_3) else (spec_l11Gate.j0 k false a0_0 a0_1 a0_2 a0_3))) else (spec_l11Gate.j0 k true a0_0 a0_1 a0_2 a0_3)) else (if t103 > 1 then ((spec_l01In.f a0_2 0 (wrap64 (a1 - 1))).bind fun t108 => (if t108 = true then (if t103 < 2 then (spec_l11Gate.j0 k (a0_2 != 0) a0_0 a0_1 a0_2 a0_3) else (spec_l11Gate.j0 k false a0_0 a0_1 a0_2 a0_3)) else (spec_l11Gate.j0 k true a0_0 a0_1 a0_2 a0_3))) else (if t103 < 2 then (spec_l11Gate.j0 k (a0_2 != 0) a0_0 a0_1 a0_2 a0_3) else (spec_l11Gate.j0 k false a0_0 a0_1 a0_2 a0_3)))))) else (some false))) = some r := h
 clear h
 replace H := Option.bind_eq_some_iff.mp H
 obtain ⟨t102, A30, H⟩ := H
 replace H : (if t102 = true then ((spec_l11Uses.f a0_0).bind fun t103 => (if t103 > 0 then ((spec_l01In.f a0_1 0 (wrap64 (a1 - 1))).bind fun t104 => (if t104 = true then (if t103 = 0 then (if a0_1 = 0 then (if t103 > 1 then ((spec_l01In.f a0_2 0 (wrap64 (a1 - 1))).bind fun t105 => (if t105 = true then (if t103 < 2 then (spec_l11Gate.j0 k (a0_2 != 0) a0_0 a0_1 a0_2 a0_3) else (spec_l11Gate.j0 k false a0_0 a0_1 a0_2 a0_3)) else (spec_l11Gate.j0 k true a0_0 a0_1 a0_2 a0_3))) else (if t103 < 2 then (spec_l11Gate.j0 k (a0_2 != 0) a0_0 a0_1 a0_2 a0_3) else (spec_l11Gate.j0 k false a0_0 a0_1 a0_2 a0_3))) else (spec_l11Gate.j0 k true a0_0 a0_1 a0_2 a0_3)) else (if t103 > 1 then ((spec_l01In.f a0_2 0 (wrap64 (a1 - 1))).bind fun t106 => (if t106 = true then (if t103 < 2 then (spec_l11Gate.j0 k (a0_2 != 0) a0_0 a0_1 a0_2 a0_3) else (spec_l11Gate.j0 k false a0_0 a0_1 a0_2 a0_3)) else (spec_l11Gate.j0 k true a0_0 a0_1 a0_2 a0_3))) else (if t103 < 2 then (spec_l11Gate.j0 k (a0_2 != 0) a0_0 a0_1 a0_2 a0_3) else (spec_l11Gate.j0 k false a0_0 a0_1 a0_2 a0_3)))) else (spec_l11Gate.j0 k true a0_0 a0_1 a0_2 a0_3))) else (if t103 = 0 then (if a0_1 = 0 then (if t103 > 1 then ((spec_l01In.f a0_2 0 (wrap64 (a1 - 1))).bind fun t107 => (if t107 = true then (if t103 < 2 then (spec_l11Gate.j0 k (a0_2 != 0) a0_0 a0_1 a0_2 a0_3) else (spec_l11Gate.j0 k false a0_0 a0_1 a0_2 a0_3)) else (spec_l11Gate.j0 k true a0_0 a0_1 a0_2 a0_3))) else (if t103 < 2 then (spec_l11Gate.j0 k (a0_2 != 0) a0_0 a0_1 a0_2 a0_3) else (spec_l11Gate.j0 k false a0_0 a0_1 a0_2 a0_3))) else (spec_l11Gate.j0 k true a0_0 a0_1 a0_2 a0_3)) else (if t103 > 1 then ((spec_l01In.f a0_2 0 (wrap64 (a1 - 1))).bind fun t108 => (if t108 = true then (if t103 < 2 then (spec_l11Gate.j0 k (a0_2 != 0) a0_0 a0_1 a0_2 a0_3) else (spec_l11Gate.j0 k false a0_0 a0_1 a0_2 a0_3)) else (spec_l11Gate.j0 k true a0_0 a0_1 a0_2 a0_3))) else (if t103 < 2 then (spec_l11Gate.j0 k (a0_2 != 0) a0_0 a0_1 a0_2 a0_3) else (spec_l11Gate.j0 k false a0_0 a0_1 a0_2 a0_3)))))) else (some false)) = some r := H
 have A3 := am_ A30
 clear A30
 by_cases c4 : t102 = true
 ·
  subst c4
  have H1 : ((spec_l11Uses.f a0_0).bind fun t103 => (if t103 > 0 then ((spec_l01In.f a0_1 0 (wrap64 (a1 - 1))).bind fun t104 => (if t104 = true then (if t103 = 0 then (if a0_1 = 0 then (if t103 > 1 then ((spec_l01In.f a0_2 0 (wrap64 (a1 - 1))).bind fun t105 => (if t105 = true then (if t103 < 2 then (spec_l11Gate.j0 k (a0_2 != 0) a0_0 a0_1 a0_2 a0_3) else (spec_l11Gate.j0 k false a0_0 a0_1 a0_2 a0_3)) else (spec_l11Gate.j0 k true a0_0 a0_1 a0_2 a0_3))) else (if t103 < 2 then (spec_l11Gate.j0 k (a0_2 != 0) a0_0 a0_1 a0_2 a0_3) else (spec_l11Gate.j0 k false a0_0 a0_1 a0_2 a0_3))) else (spec_l11Gate.j0 k true a0_0 a0_1 a0_2 a0_3)) else (if t103 > 1 then ((spec_l01In.f a0_2 0 (wrap64 (a1 - 1))).bind fun t106 => (if t106 = true then (if t103 < 2 then (spec_l11Gate.j0 k (a0_2 != 0) a0_0 a0_1 a0_2 a0_3) else (spec_l11Gate.j0 k false a0_0 a0_1 a0_2 a0_3)) else (spec_l11Gate.j0 k true a0_0 a0_1 a0_2 a0_3))) else (if t103 < 2 then (spec_l11Gate.j0 k (a0_2 != 0) a0_0 a0_1 a0_2 a0_3) else (spec_l11Gate.j0 k false a0_0 a0_1 a0_2 a0_3)))) else (spec_l11Gate.j0 k true a0_0 a0_1 a0_2 a0_3))) else (if t103 = 0 then (if a0_1 = 0 then (if t103 > 1 then ((spec_l01In.f a0_2 0 (wrap64 (a1 - 1))).bind fun t107 => (if t107 = true then (if t103 < 2 then (spec_l11Gate.j0 k (a0_2 != 0) a0_0 a0_1 a0_2 a0_3) else (spec_l11Gate.j0 k false a0_0 a0_1 a0_2 a0_3)) else (spec_l11Gate.j0 k true a0_0 a0_1 a0_2 a0_3))) else (if t103 < 2 then (spec_l11Gate.j0 k (a0_2 != 0) a0_0 a0_1 a0_2 a0_3) else (spec_l11Gate.j0 k false a0_0 a0_1 a0_2 a0_3))) else (spec_l11Gate.j0 k true a0_0 a0_1 a0_2 a0_3)) else (if t103 > 1 then ((spec_l01In.f a0_2 0 (wrap64 (a1 - 1))).bind fun t108 => (if t108 = true then (if t103 < 2 then (spec_l11Gate.j0 k (a0_2 != 0) a0_0 a0_1 a0_2 a0_3) else (spec_l11Gate.j0 k false a0_0 a0_1 a0_2 a0_3)) else (spec_l11Gate.j0 k true a0_0 a0_1 a0_2 a0_3))) else (if t103 < 2 then (spec_l11Gate.j0 k (a0_2 != 0) a0_0 a0_1 a0_2 a0_3) else (spec_l11Gate.j0 k false a0_0 a0_1 a0_2 a0_3)))))) = some r := by rw [if_pos rfl] at H; exact H
  clear H
  have H := H1
  clear H1
  replace H := Option.bind_eq_some_iff.mp H
  obtain ⟨t103, A50, H⟩ := H
  replace H : (if t103 > 0 then ((spec_l01In.f a0_1 0 (wrap64 (a1 - 1))).bind fun t104 => (if t104 = true then (if t103 = 0 then (if a0_1 = 0 then (if t103 > 1 then ((spec_l01In.f a0_2 0 (wrap64 (a1 - 1))).bind fun t105 => (if t105 = true then (if t103 < 2 then (spec_l11Gate.j0 k (a0_2 != 0) a0_0 a0_1 a0_2 a0_3) else (spec_l11Gate.j0 k false a0_0 a0_1 a0_2 a0_3)) else (spec_l11Gate.j0 k true a0_0 a0_1 a0_2 a0_3))) else (if t103 < 2 then (spec_l11Gate.j0 k (a0_2 != 0) a0_0 a0_1 a0_2 a0_3) else (spec_l11Gate.j0 k false a0_0 a0_1 a0_2 a0_3))) else (spec_l11Gate.j0 k true a0_0 a0_1 a0_2 a0_3)) else (if t103 > 1 then ((spec_l01In.f a0_2 0 (wrap64 (a1 - 1))).bind fun t106 => (if t106 = true then (if t103 < 2 then (spec_l11Gate.j0 k (a0_2 != 0) a0_0 a0_1 a0_2 a0_3) else (spec_l11Gate.j0 k false a0_0 a0_1 a0_2 a0_3)) else (spec_l11Gate.j0 k true a0_0 a0_1 a0_2 a0_3))) else (if t103 < 2 then (spec_l11Gate.j0 k (a0_2 != 0) a0_0 a0_1 a0_2 a0_3) else (spec_l11Gate.j0 k false a0_0 a0_1 a0_2 a0_3)))) else (spec_l11Gate.j0 k true a0_0 a0_1 a0_2 a0_3))) else (if t103 = 0 then (if a0_1 = 0 then (if t103 > 1 then ((spec_l01In.f a0_2 0 (wrap64 (a1 - 1))).bind fun t107 => (if t107 = true then (if t103 < 2 then (spec_l11Gate.j0 k (a0_2 != 0) a0_0 a0_1 a0_2 a0_3) else (spec_l11Gate.j0 k false a0_0 a0_1 a0_2 a0_3)) else (spec_l11Gate.j0 k true a0_0 a0_1 a0_2 a0_3))) else (if t103 < 2 then (spec_l11Gate.j0 k (a0_2 != 0) a0_0 a0_1 a0_2 a0_3) else (spec_l11Gate.j0 k false a0_0 a0_1 a0_2 a0_3))) else (spec_l11Gate.j0 k true a0_0 a0_1 a0_2 a0_3)) else (if t103 > 1 then ((spec_l01In.f a0_2 0 (wrap64 (a1 - 1))).bind fun t108 => (if t108 = true then (if t103 < 2 then (spec_l11Gate.j0 k (a0_2 != 0) a0_0 a0_1 a0_2 a0_3) else (spec_l11Gate.j0 k false a0_0 a0_1 a0_2 a0_3)) else (spec_l11Gate.j0 k true a0_0 a0_1 a0_2 a0_3))) else (if t103 < 2 then (spec_l11Gate.j0 k (a0_2 != 0) a0_0 a0_1 a0_2 a0_3) else (spec_l11Gate.j0 k false a0_0 a0_1 a0_2 a0_3))))) = some r := H
  have A5 := am_ A50
  clear A50
  have HC6 := am_ H
  clear H
  go_enter Tryd.func17, Tryd.ntmps17
  go_upto_region 4 with (first | ((with_reducible refine gate_dst (N := 2) rfl ?_); refine box_event ?hg (N := 2) ?hd (cs := #[.int .i64 a0_0, .int .i64 a0_1, .int .i64 a0_2, .int .i64 a0_3]) (t := 30) ?hr ?_; (case hd => rfl); (case hg => rfl); (case hr => first | (go_simp; done) | (go_simp; rfl)); intro gb101 hg w7 hbox hb; have n0_ := am_ (below_step qz3_ hb); have n1_ := am_ (hbox); have n2_ := am_ ((by rw [hg]; exact (below_size qz3_) : w.heap.size ≤ gb101)); have n3_ := am_ ((by rw [hg]; exact (below_size qz3_) : w.heap.size ≤ gb101)); clear HB; have HB := n0_; have BK101 := n1_; have GW101 := n2_; have GE101 := n3_; clear n0_ n1_ n2_ n3_; clear hb hbox hg; have hcz8_0 : w7.cell? ⟨gb101, 0, none⟩ = some (.int .i64 a0_0) := (blk_cell BK101.out 0).trans rfl; have hcz8_1 : w7.cell? ⟨gb101, 1, none⟩ = some (.int .i64 a0_1) := (blk_cell BK101.out 1).trans rfl; have hcz8_2 : w7.cell? ⟨gb101, 2, none⟩ = some (.int .i64 a0_2) := (blk_cell BK101.out 2).trans rfl; have hcz8_3 : w7.cell? ⟨gb101, 3, none⟩ = some (.int .i64 a0_3) := (blk_cell BK101.out 3).trans rfl; have hfz8_0 := blk_frozen BK101.out 0; have hfz8_1 := blk_frozen BK101.out 1; have hfz8_2 := blk_frozen BK101.out 2; have hfz8_3 := blk_frozen BK101.out 3) | ((with_reducible refine gate_callee (f := 32) rfl ?_); refine goesL_ (some 8) rfl rfl Tryd.func32 (by kernel_rfl) rfl #[.int .i64 a0_0, .int .i64 1, .int .i64 8] rfl qz2_ ?_; (with_reducible refine (spec_l01In.calls a0_0 1 8 true _ A3.out).mono ?_); rintro e w' ⟨rfl, ⟨nd, rfl⟩⟩; refine ⟨_, rfl, ?_⟩) | ((with_reducible refine gate_callee (f := 19) rfl ?_); refine goesL_ (some 12) rfl rfl Tryd.func19 (by kernel_rfl) rfl #[.int .i64 a0_0] rfl qz2_ ?_; (with_reducible refine (spec_l11Uses.calls a0_0 t103 _ A5.out).mono ?_); rintro e w' ⟨rfl, ⟨nd, rfl⟩⟩; refine ⟨_, rfl, ?_⟩))
  (try simp only [Act.put, List.setIfInBounds_toArray, List.set_cons_zero, List.set_cons_succ])
  go_cut [52] (fun v52 wc => ∃ (kq : Nat) (x52_5 : Bool), v52 = .bool x52_5 ∧ Aside0 (spec_l11Gate.j0 kq x52_5 a0_0 a0_1 a0_2 a0_3 = some r) ∧ Aside0 (kq ≤ k) ∧ Aside0 (wc.heap[gb101]? = some (.cells #[.int .i64 a0_0, .int .i64 a0_1, .int .i64 a0_2, .int .i64 a0_3] 30 (0, 0))) ∧ Aside0 (Below w.heap.size w wc))
  case first =>
   have H := HC6.out
   clear HC6
   by_cases c9 : t103 > 0
   ·
    rw [if_pos c9] at H
    have c9b0 : decide (0 < t103) = true := decide_eq_true c9
    clear c9
    (first | rw [c9b0] | (simp only [i64_w, i32_w]; rw [c9b0]) | skip)
    replace H := Option.bind_eq_some_iff.mp H
    obtain ⟨t104, A100, H⟩ := H
    replace H : (if t104 = true then (if t103 = 0 then (if a0_1 = 0 then (if t103 > 1 then ((spec_l01In.f a0_2 0 (wrap64 (a1 - 1))).bind fun t105 => (if t105 = true then (if t103 < 2 then (spec_l11Gate.j0 k (a0_2 != 0) a0_0 a0_1 a0_2 a0_3) else (spec_l11Gate.j0 k false a0_0 a0_1 a0_2 a0_3)) else (spec_l11Gate.j0 k true a0_0 a0_1 a0_2 a0_3))) else (if t103 < 2 then (spec_l11Gate.j0 k (a0_2 != 0) a0_0 a0_1 a0_2 a0_3) else (spec_l11Gate.j0 k false a0_0 a0_1 a0_2 a0_3))) else (spec_l11Gate.j0 k true a0_0 a0_1 a0_2 a0_3)) else (if t103 > 1 then ((spec_l01In.f a0_2 0 (wrap64 (a1 - 1))).bind fun t106 => (if t106 = true then (if t103 < 2 then (spec_l11Gate.j0 k (a0_2 != 0) a0_0 a0_1 a0_2 a0_3) else (spec_l11Gate.j0 k false a0_0 a0_1 a0_2 a0_3)) else (spec_l11Gate.j0 k true a0_0 a0_1 a0_2 a0_3))) else (if t103 < 2 then (spec_l11Gate.j0 k (a0_2 != 0) a0_0 a0_1 a0_2 a0_3) else (spec_l11Gate.j0 k false a0_0 a0_1 a0_2 a0_3)))) else (spec_l11Gate.j0 k true a0_0 a0_1 a0_2 a0_3)) = some r := H
    have A10 := am_ A100
    clear A100
    by_cases c11 : t104 = true
    ·
     subst c11
     have H1 : (if t103 = 0 then (if a0_1 = 0 then (if t103 > 1 then ((spec_l01In.f a0_2 0 (wrap64 (a1 - 1))).bind fun t105 => (if t105 = true then (if t103 < 2 then (spec_l11Gate.j0 k (a0_2 != 0) a0_0 a0_1 a0_2 a0_3) else (spec_l11Gate.j0 k false a0_0 a0_1 a0_2 a0_3)) else (spec_l11Gate.j0 k true a0_0 a0_1 a0_2 a0_3))) else (if t103 < 2 then (spec_l11Gate.j0 k (a0_2 != 0) a0_0 a0_1 a0_2 a0_3) else (spec_l11Gate.j0 k false a0_0 a0_1 a0_2 a0_3))) else (spec_l11Gate.j0 k true a0_0 a0_1 a0_2 a0_3)) else (if t103 > 1 then ((spec_l01In.f a0_2 0 (wrap64 (a1 - 1))).bind fun t106 => (if t106 = true then (if t103 < 2 then (spec_l11Gate.j0 k (a0_2 != 0) a0_0 a0_1 a0_2 a0_3) else (spec_l11Gate.j0 k false a0_0 a0_1 a0_2 a0_3)) else (spec_l11Gate.j0 k true a0_0 a0_1 a0_2 a0_3))) else (if t103 < 2 then (spec_l11Gate.j0 k (a0_2 != 0) a0_0 a0_1 a0_2 a0_3) else (spec_l11Gate.j0 k false a0_0 a0_1 a0_2 a0_3)))) = some r := by rw [if_pos rfl] at H; exact H
     clear H
     have H := H1
     clear H1
     by_cases c12 : t103 = 0
     ·
      rw [if_pos c12] at H
      have c12b0 : (t103 == 0) = true := beq_iff_eq.mpr c12
      have c12b1 : (t103 != 0) = false := bne_eq_false_iff_eq.mpr c12
      clear c12
      by_cases c13 : a0_1 = 0
      ·
       rw [if_pos c13] at H
       have c13b0 : (a0_1 == 0) = true := beq_iff_eq.mpr c13
       have c13b1 : (a0_1 != 0) = false := bne_eq_false_iff_eq.mpr c13
       clear c13
       by_cases c14 : t103 > 1
       ·
        rw [if_pos c14] at H
        have c14b0 : decide (1 < t103) = true := decide_eq_true c14
        clear c14
        replace H := Option.bind_eq_some_iff.mp H
        obtain ⟨t105, A150, H⟩ := H
        replace H : (if t105 = true then (if t103 < 2 then (spec_l11Gate.j0 k (a0_2 != 0) a0_0 a0_1 a0_2 a0_3) else (spec_l11Gate.j0 k false a0_0 a0_1 a0_2 a0_3)) else (spec_l11Gate.j0 k true a0_0 a0_1 a0_2 a0_3)) = some r := H
        have A15 := am_ A150
        clear A150
        by_cases c16 : t105 = true
        ·
         subst c16
         have H1 : (if t103 < 2 then (spec_l11Gate.j0 k (a0_2 != 0) a0_0 a0_1 a0_2 a0_3) else (spec_l11Gate.j0 k false a0_0 a0_1 a0_2 a0_3)) = some r := by rw [if_pos rfl] at H; exact H
         clear H
         have H := H1
         clear H1
         by_cases c17 : t103 < 2
         ·
          rw [if_pos c17] at H
          have c17b0 : decide (t103 < 2) = true := decide_eq_true c17
          clear c17
          have H' := am_ H
          clear H
          have hcz18_0 : w7.cell? ⟨gb101, 0, none⟩ = some (.int .i64 a0_0) := (blk_cell BK101.out 0).trans rfl
          have hcz18_1 : w7.cell? ⟨gb101, 1, none⟩ = some (.int .i64 a0_1) := (blk_cell BK101.out 1).trans rfl
          have hcz18_2 : w7.cell? ⟨gb101, 2, none⟩ = some (.int .i64 a0_2) := (blk_cell BK101.out 2).trans rfl
          have hcz18_3 : w7.cell? ⟨gb101, 3, none⟩ = some (.int .i64 a0_3) := (blk_cell BK101.out 3).trans rfl
          have hfz18_0 := blk_frozen BK101.out 0
          have hfz18_1 := blk_frozen BK101.out 1
          have hfz18_2 := blk_frozen BK101.out 2
          have hfz18_3 := blk_frozen BK101.out 3
          go_wp2_with (first | (go_at_call 32; (with_reducible refine (spec_l01In.calls a0_1 0 (wrap64 (a1 - 1)) true _ A10.out).mono ?_); rintro e w' ⟨rfl, ⟨nd, rfl⟩⟩) | (go_at_call 32; (with_reducible refine (spec_l01In.calls a0_2 0 (wrap64 (a1 - 1)) true _ A15.out).mono ?_); rintro e w' ⟨rfl, ⟨nd, rfl⟩⟩))
          go_meet
          case rel => exact ⟨_, ((a0_2 != 0)), qz0_, H', ⟨qz10_⟩, ⟨qz4_⟩, ⟨qz9_⟩⟩
         ·
          rw [if_neg c17] at H
          have c17b0 : decide (t103 < 2) = false := decide_eq_false c17
          clear c17
          have H' := am_ H
          clear H
          have hcz19_0 : w7.cell? ⟨gb101, 0, none⟩ = some (.int .i64 a0_0) := (blk_cell BK101.out 0).trans rfl
          have hcz19_1 : w7.cell? ⟨gb101, 1, none⟩ = some (.int .i64 a0_1) := (blk_cell BK101.out 1).trans rfl
          have hcz19_2 : w7.cell? ⟨gb101, 2, none⟩ = some (.int .i64 a0_2) := (blk_cell BK101.out 2).trans rfl
          have hcz19_3 : w7.cell? ⟨gb101, 3, none⟩ = some (.int .i64 a0_3) := (blk_cell BK101.out 3).trans rfl
          have hfz19_0 := blk_frozen BK101.out 0
          have hfz19_1 := blk_frozen BK101.out 1
          have hfz19_2 := blk_frozen BK101.out 2
          have hfz19_3 := blk_frozen BK101.out 3
          go_wp2_with (first | (go_at_call 32; (with_reducible refine (spec_l01In.calls a0_1 0 (wrap64 (a1 - 1)) true _ A10.out).mono ?_); rintro e w' ⟨rfl, ⟨nd, rfl⟩⟩) | (go_at_call 32; (with_reducible refine (spec_l01In.calls a0_2 0 (wrap64 (a1 - 1)) true _ A15.out).mono ?_); rintro e w' ⟨rfl, ⟨nd, rfl⟩⟩))
          go_meet
          case rel => exact ⟨_, (false), qz0_, H', ⟨qz10_⟩, ⟨qz4_⟩, ⟨qz9_⟩⟩
        ·
         replace c16 := Bool.eq_false_iff.mpr c16
         subst c16
         have H1 : (spec_l11Gate.j0 k true a0_0 a0_1 a0_2 a0_3) = some r := by rw [if_neg (show ¬ (false = true) by decide)] at H; exact H
         clear H
         have H := H1
         clear H1
         have H' := am_ H
         clear H
         have hcz20_0 : w7.cell? ⟨gb101, 0, none⟩ = some (.int .i64 a0_0) := (blk_cell BK101.out 0).trans rfl
         have hcz20_1 : w7.cell? ⟨gb101, 1, none⟩ = some (.int .i64 a0_1) := (blk_cell BK101.out 1).trans rfl
         have hcz20_2 : w7.cell? ⟨gb101, 2, none⟩ = some (.int .i64 a0_2) := (blk_cell BK101.out 2).trans rfl
         have hcz20_3 : w7.cell? ⟨gb101, 3, none⟩ = some (.int .i64 a0_3) := (blk_cell BK101.out 3).trans rfl
         have hfz20_0 := blk_frozen BK101.out 0
         have hfz20_1 := blk_frozen BK101.out 1
         have hfz20_2 := blk_frozen BK101.out 2
         have hfz20_3 := blk_frozen BK101.out 3
         go_wp2_with (first | (go_at_call 32; (with_reducible refine (spec_l01In.calls a0_1 0 (wrap64 (a1 - 1)) true _ A10.out).mono ?_); rintro e w' ⟨rfl, ⟨nd, rfl⟩⟩) | (go_at_call 32; (with_reducible refine (spec_l01In.calls a0_2 0 (wrap64 (a1 - 1)) false _ A15.out).mono ?_); rintro e w' ⟨rfl, ⟨nd, rfl⟩⟩))
         go_meet
         case rel => exact ⟨_, (true), qz0_, H', ⟨qz10_⟩, ⟨qz4_⟩, ⟨qz9_⟩⟩
       ·
        rw [if_neg c14] at H
        have c14b0 : decide (1 < t103) = false := decide_eq_false c14
        clear c14
        by_cases c21 : t103 < 2
        ·
         rw [if_pos c21] at H
         have c21b0 : decide (t103 < 2) = true := decide_eq_true c21
         clear c21
         have H' := am_ H
         clear H
         have hcz22_0 : w7.cell? ⟨gb101, 0, none⟩ = some (.int .i64 a0_0) := (blk_cell BK101.out 0).trans rfl
         have hcz22_1 : w7.cell? ⟨gb101, 1, none⟩ = some (.int .i64 a0_1) := (blk_cell BK101.out 1).trans rfl
         have hcz22_2 : w7.cell? ⟨gb101, 2, none⟩ = some (.int .i64 a0_2) := (blk_cell BK101.out 2).trans rfl
         have hcz22_3 : w7.cell? ⟨gb101, 3, none⟩ = some (.int .i64 a0_3) := (blk_cell BK101.out 3).trans rfl
         have hfz22_0 := blk_frozen BK101.out 0
         have hfz22_1 := blk_frozen BK101.out 1
         have hfz22_2 := blk_frozen BK101.out 2
         have hfz22_3 := blk_frozen BK101.out 3
         go_wp2_with (first | (go_at_call 32; (with_reducible refine (spec_l01In.calls a0_1 0 (wrap64 (a1 - 1)) true _ A10.out).mono ?_); rintro e w' ⟨rfl, ⟨nd, rfl⟩⟩))
         go_meet
         case rel => exact ⟨_, ((a0_2 != 0)), qz0_, H', ⟨qz10_⟩, ⟨qz4_⟩, ⟨qz9_⟩⟩
        ·
         rw [if_neg c21] at H
         have c21b0 : decide (t103 < 2) = false := decide_eq_false c21
         clear c21
         have H' := am_ H
         clear H
         have hcz23_0 : w7.cell? ⟨gb101, 0, none⟩ = some (.int .i64 a0_0) := (blk_cell BK101.out 0).trans rfl
         have hcz23_1 : w7.cell? ⟨gb101, 1, none⟩ = some (.int .i64 a0_1) := (blk_cell BK101.out 1).trans rfl
         have hcz23_2 : w7.cell? ⟨gb101, 2, none⟩ = some (.int .i64 a0_2) := (blk_cell BK101.out 2).trans rfl
         have hcz23_3 : w7.cell? ⟨gb101, 3, none⟩ = some (.int .i64 a0_3) := (blk_cell BK101.out 3).trans rfl
         have hfz23_0 := blk_frozen BK101.out 0
         have hfz23_1 := blk_frozen BK101.out 1
         have hfz23_2 := blk_frozen BK101.out 2
         have hfz23_3 := blk_frozen BK101.out 3
         go_wp2_with (first | (go_at_call 32; (with_reducible refine (spec_l01In.calls a0_1 0 (wrap64 (a1 - 1)) true _ A10.out).mono ?_); rintro e w' ⟨rfl, ⟨nd, rfl⟩⟩))
         go_meet
         case rel => exact ⟨_, (false), qz0_, H', ⟨qz10_⟩, ⟨qz4_⟩, ⟨qz9_⟩⟩
      ·
       rw [if_neg c13] at H
       have c13b0 : (a0_1 == 0) = false := beq_eq_false_iff_ne.mpr c13
       have c13b1 : (a0_1 != 0) = true := bne_iff_ne.mpr c13
       have H' := am_ H
       clear H
       have hcz24_0 : w7.cell? ⟨gb101, 0, none⟩ = some (.int .i64 a0_0) := (blk_cell BK101.out 0).trans rfl
       have hcz24_1 : w7.cell? ⟨gb101, 1, none⟩ = some (.int .i64 a0_1) := (blk_cell BK101.out 1).trans rfl
       have hcz24_2 : w7.cell? ⟨gb101, 2, none⟩ = some (.int .i64 a0_2) := (blk_cell BK101.out 2).trans rfl
       have hcz24_3 : w7.cell? ⟨gb101, 3, none⟩ = some (.int .i64 a0_3) := (blk_cell BK101.out 3).trans rfl
       have hfz24_0 := blk_frozen BK101.out 0
       have hfz24_1 := blk_frozen BK101.out 1
       have hfz24_2 := blk_frozen BK101.out 2
       have hfz24_3 := blk_frozen BK101.out 3
       go_wp2_with (first | (go_at_call 32; (with_reducible refine (spec_l01In.calls a0_1 0 (wrap64 (a1 - 1)) true _ A10.out).mono ?_); rintro e w' ⟨rfl, ⟨nd, rfl⟩⟩))
       go_meet
       case rel => exact ⟨_, (true), qz0_, H', ⟨qz10_⟩, ⟨qz4_⟩, ⟨qz9_⟩⟩
     ·
      rw [if_neg c12] at H
      have c12b0 : (t103 == 0) = false := beq_eq_false_iff_ne.mpr c12
      have c12b1 : (t103 != 0) = true := bne_iff_ne.mpr c12
      by_cases c25 : t103 > 1
      ·
       rw [if_pos c25] at H
       have c25b0 : decide (1 < t103) = true := decide_eq_true c25
       clear c25
       replace H := Option.bind_eq_some_iff.mp H
       obtain ⟨t106, A260, H⟩ := H
       replace H : (if t106 = true then (if t103 < 2 then (spec_l11Gate.j0 k (a0_2 != 0) a0_0 a0_1 a0_2 a0_3) else (spec_l11Gate.j0 k false a0_0 a0_1 a0_2 a0_3)) else (spec_l11Gate.j0 k true a0_0 a0_1 a0_2 a0_3)) = some r := H
       have A26 := am_ A260
       clear A260
       by_cases c27 : t106 = true
       ·
        subst c27
        have H1 : (if t103 < 2 then (spec_l11Gate.j0 k (a0_2 != 0) a0_0 a0_1 a0_2 a0_3) else (spec_l11Gate.j0 k false a0_0 a0_1 a0_2 a0_3)) = some r := by rw [if_pos rfl] at H; exact H
        clear H
        have H := H1
        clear H1
        by_cases c28 : t103 < 2
        ·
         rw [if_pos c28] at H
         have c28b0 : decide (t103 < 2) = true := decide_eq_true c28
         clear c28
         have H' := am_ H
         clear H
         have hcz29_0 : w7.cell? ⟨gb101, 0, none⟩ = some (.int .i64 a0_0) := (blk_cell BK101.out 0).trans rfl
         have hcz29_1 : w7.cell? ⟨gb101, 1, none⟩ = some (.int .i64 a0_1) := (blk_cell BK101.out 1).trans rfl
         have hcz29_2 : w7.cell? ⟨gb101, 2, none⟩ = some (.int .i64 a0_2) := (blk_cell BK101.out 2).trans rfl
         have hcz29_3 : w7.cell? ⟨gb101, 3, none⟩ = some (.int .i64 a0_3) := (blk_cell BK101.out 3).trans rfl
         have hfz29_0 := blk_frozen BK101.out 0
         have hfz29_1 := blk_frozen BK101.out 1
         have hfz29_2 := blk_frozen BK101.out 2
         have hfz29_3 := blk_frozen BK101.out 3
         go_wp2_with (first | (go_at_call 32; (with_reducible refine (spec_l01In.calls a0_1 0 (wrap64 (a1 - 1)) true _ A10.out).mono ?_); rintro e w' ⟨rfl, ⟨nd, rfl⟩⟩) | (go_at_call 32; (with_reducible refine (spec_l01In.calls a0_2 0 (wrap64 (a1 - 1)) true _ A26.out).mono ?_); rintro e w' ⟨rfl, ⟨nd, rfl⟩⟩))
         go_meet
         case rel => exact ⟨_, ((a0_2 != 0)), qz0_, H', ⟨qz10_⟩, ⟨qz4_⟩, ⟨qz9_⟩⟩
        ·
         rw [if_neg c28] at H
         have c28b0 : decide (t103 < 2) = false := decide_eq_false c28
         clear c28
         have H' := am_ H
         clear H
         have hcz30_0 : w7.cell? ⟨gb101, 0, none⟩ = some (.int .i64 a0_0) := (blk_cell BK101.out 0).trans rfl
         have hcz30_1 : w7.cell? ⟨gb101, 1, none⟩ = some (.int .i64 a0_1) := (blk_cell BK101.out 1).trans rfl
         have hcz30_2 : w7.cell? ⟨gb101, 2, none⟩ = some (.int .i64 a0_2) := (blk_cell BK101.out 2).trans rfl
         have hcz30_3 : w7.cell? ⟨gb101, 3, none⟩ = some (.int .i64 a0_3) := (blk_cell BK101.out 3).trans rfl
         have hfz30_0 := blk_frozen BK101.out 0
         have hfz30_1 := blk_frozen BK101.out 1
         have hfz30_2 := blk_frozen BK101.out 2
         have hfz30_3 := blk_frozen BK101.out 3
         go_wp2_with (first | (go_at_call 32; (with_reducible refine (spec_l01In.calls a0_1 0 (wrap64 (a1 - 1)) true _ A10.out).mono ?_); rintro e w' ⟨rfl, ⟨nd, rfl⟩⟩) | (go_at_call 32; (with_reducible refine (spec_l01In.calls a0_2 0 (wrap64 (a1 - 1)) true _ A26.out).mono ?_); rintro e w' ⟨rfl, ⟨nd, rfl⟩⟩))
         go_meet
         case rel => exact ⟨_, (false), qz0_, H', ⟨qz10_⟩, ⟨qz4_⟩, ⟨qz9_⟩⟩
       ·
        replace c27 := Bool.eq_false_iff.mpr c27
        subst c27
        have H1 : (spec_l11Gate.j0 k true a0_0 a0_1 a0_2 a0_3) = some r := by rw [if_neg (show ¬ (false = true) by decide)] at H; exact H
        clear H
        have H := H1
        clear H1
        have H' := am_ H
        clear H
        have hcz31_0 : w7.cell? ⟨gb101, 0, none⟩ = some (.int .i64 a0_0) := (blk_cell BK101.out 0).trans rfl
        have hcz31_1 : w7.cell? ⟨gb101, 1, none⟩ = some (.int .i64 a0_1) := (blk_cell BK101.out 1).trans rfl
        have hcz31_2 : w7.cell? ⟨gb101, 2, none⟩ = some (.int .i64 a0_2) := (blk_cell BK101.out 2).trans rfl
        have hcz31_3 : w7.cell? ⟨gb101, 3, none⟩ = some (.int .i64 a0_3) := (blk_cell BK101.out 3).trans rfl
        have hfz31_0 := blk_frozen BK101.out 0
        have hfz31_1 := blk_frozen BK101.out 1
        have hfz31_2 := blk_frozen BK101.out 2
        have hfz31_3 := blk_frozen BK101.out 3
        go_wp2_with (first | (go_at_call 32; (with_reducible refine (spec_l01In.calls a0_1 0 (wrap64 (a1 - 1)) true _ A10.out).mono ?_); rintro e w' ⟨rfl, ⟨nd, rfl⟩⟩) | (go_at_call 32; (with_reducible refine (spec_l01In.calls a0_2 0 (wrap64 (a1 - 1)) false _ A26.out).mono ?_); rintro e w' ⟨rfl, ⟨nd, rfl⟩⟩))
        go_meet
        case rel => exact ⟨_, (true), qz0_, H', ⟨qz10_⟩, ⟨qz4_⟩, ⟨qz9_⟩⟩
      ·
       rw [if_neg c25] at H
       have c25b0 : decide (1 < t103) = false := decide_eq_false c25
       clear c25
       by_cases c32 : t103 < 2
       ·
        rw [if_pos c32] at H
        have c32b0 : decide (t103 < 2) = true := decide_eq_true c32
        clear c32
        have H' := am_ H
        clear H
        have hcz33_0 : w7.cell? ⟨gb101, 0, none⟩ = some (.int .i64 a0_0) := (blk_cell BK101.out 0).trans rfl
        have hcz33_1 : w7.cell? ⟨gb101, 1, none⟩ = some (.int .i64 a0_1) := (blk_cell BK101.out 1).trans rfl
        have hcz33_2 : w7.cell? ⟨gb101, 2, none⟩ = some (.int .i64 a0_2) := (blk_cell BK101.out 2).trans rfl
        have hcz33_3 : w7.cell? ⟨gb101, 3, none⟩ = some (.int .i64 a0_3) := (blk_cell BK101.out 3).trans rfl
        have hfz33_0 := blk_frozen BK101.out 0
        have hfz33_1 := blk_frozen BK101.out 1
        have hfz33_2 := blk_frozen BK101.out 2
        have hfz33_3 := blk_frozen BK101.out 3
        go_wp2_with (first | (go_at_call 32; (with_reducible refine (spec_l01In.calls a0_1 0 (wrap64 (a1 - 1)) true _ A10.out).mono ?_); rintro e w' ⟨rfl, ⟨nd, rfl⟩⟩))
        go_meet
        case rel => exact ⟨_, ((a0_2 != 0)), qz0_, H', ⟨qz10_⟩, ⟨qz4_⟩, ⟨qz9_⟩⟩
       ·
        rw [if_neg c32] at H
        have c32b0 : decide (t103 < 2) = false := decide_eq_false c32
        clear c32
        have H' := am_ H
        clear H
        have hcz34_0 : w7.cell? ⟨gb101, 0, none⟩ = some (.int .i64 a0_0) := (blk_cell BK101.out 0).trans rfl
        have hcz34_1 : w7.cell? ⟨gb101, 1, none⟩ = some (.int .i64 a0_1) := (blk_cell BK101.out 1).trans rfl
        have hcz34_2 : w7.cell? ⟨gb101, 2, none⟩ = some (.int .i64 a0_2) := (blk_cell BK101.out 2).trans rfl
        have hcz34_3 : w7.cell? ⟨gb101, 3, none⟩ = some (.int .i64 a0_3) := (blk_cell BK101.out 3).trans rfl
        have hfz34_0 := blk_frozen BK101.out 0
        have hfz34_1 := blk_frozen BK101.out 1
        have hfz34_2 := blk_frozen BK101.out 2
        have hfz34_3 := blk_frozen BK101.out 3
        go_wp2_with (first | (go_at_call 32; (with_reducible refine (spec_l01In.calls a0_1 0 (wrap64 (a1 - 1)) true _ A10.out).mono ?_); rintro e w' ⟨rfl, ⟨nd, rfl⟩⟩))
        go_meet
        case rel => exact ⟨_, (false), qz0_, H', ⟨qz10_⟩, ⟨qz4_⟩, ⟨qz9_⟩⟩
    ·
     replace c11 := Bool.eq_false_iff.mpr c11
     subst c11
     have H1 : (spec_l11Gate.j0 k true a0_0 a0_1 a0_2 a0_3) = some r := by rw [if_neg (show ¬ (false = true) by decide)] at H; exact H
     clear H
     have H := H1
     clear H1
     have H' := am_ H
     clear H
     have hcz35_0 : w7.cell? ⟨gb101, 0, none⟩ = some (.int .i64 a0_0) := (blk_cell BK101.out 0).trans rfl
     have hcz35_1 : w7.cell? ⟨gb101, 1, none⟩ = some (.int .i64 a0_1) := (blk_cell BK101.out 1).trans rfl
     have hcz35_2 : w7.cell? ⟨gb101, 2, none⟩ = some (.int .i64 a0_2) := (blk_cell BK101.out 2).trans rfl
     have hcz35_3 : w7.cell? ⟨gb101, 3, none⟩ = some (.int .i64 a0_3) := (blk_cell BK101.out 3).trans rfl
     have hfz35_0 := blk_frozen BK101.out 0
     have hfz35_1 := blk_frozen BK101.out 1
     have hfz35_2 := blk_frozen BK101.out 2
     have hfz35_3 := blk_frozen BK101.out 3
     go_wp2_with (first | (go_at_call 32; (with_reducible refine (spec_l01In.calls a0_1 0 (wrap64 (a1 - 1)) false _ A10.out).mono ?_); rintro e w' ⟨rfl, ⟨nd, rfl⟩⟩))
     go_meet
     case rel => exact ⟨_, (true), qz0_, H', ⟨qz10_⟩, ⟨qz4_⟩, ⟨qz9_⟩⟩
   ·
    rw [if_neg c9] at H
    have c9b0 : decide (0 < t103) = false := decide_eq_false c9
    clear c9
    (first | rw [c9b0] | (simp only [i64_w, i32_w]; rw [c9b0]) | skip)
    by_cases c36 : t103 = 0
    ·
     rw [if_pos c36] at H
     have c36b0 : (t103 == 0) = true := beq_iff_eq.mpr c36
     have c36b1 : (t103 != 0) = false := bne_eq_false_iff_eq.mpr c36
     clear c36
     by_cases c37 : a0_1 = 0
     ·
      rw [if_pos c37] at H
      have c37b0 : (a0_1 == 0) = true := beq_iff_eq.mpr c37
      have c37b1 : (a0_1 != 0) = false := bne_eq_false_iff_eq.mpr c37
      clear c37
      by_cases c38 : t103 > 1
      ·
       rw [if_pos c38] at H
       have c38b0 : decide (1 < t103) = true := decide_eq_true c38
       clear c38
       replace H := Option.bind_eq_some_iff.mp H
       obtain ⟨t107, A390, H⟩ := H
       replace H : (if t107 = true then (if t103 < 2 then (spec_l11Gate.j0 k (a0_2 != 0) a0_0 a0_1 a0_2 a0_3) else (spec_l11Gate.j0 k false a0_0 a0_1 a0_2 a0_3)) else (spec_l11Gate.j0 k true a0_0 a0_1 a0_2 a0_3)) = some r := H
       have A39 := am_ A390
       clear A390
       by_cases c40 : t107 = true
       ·
        subst c40
        have H1 : (if t103 < 2 then (spec_l11Gate.j0 k (a0_2 != 0) a0_0 a0_1 a0_2 a0_3) else (spec_l11Gate.j0 k false a0_0 a0_1 a0_2 a0_3)) = some r := by rw [if_pos rfl] at H; exact H
        clear H
        have H := H1
        clear H1
        by_cases c41 : t103 < 2
        ·
         rw [if_pos c41] at H
         have c41b0 : decide (t103 < 2) = true := decide_eq_true c41
         clear c41
         have H' := am_ H
         clear H
         have hcz42_0 : w7.cell? ⟨gb101, 0, none⟩ = some (.int .i64 a0_0) := (blk_cell BK101.out 0).trans rfl
         have hcz42_1 : w7.cell? ⟨gb101, 1, none⟩ = some (.int .i64 a0_1) := (blk_cell BK101.out 1).trans rfl
         have hcz42_2 : w7.cell? ⟨gb101, 2, none⟩ = some (.int .i64 a0_2) := (blk_cell BK101.out 2).trans rfl
         have hcz42_3 : w7.cell? ⟨gb101, 3, none⟩ = some (.int .i64 a0_3) := (blk_cell BK101.out 3).trans rfl
         have hfz42_0 := blk_frozen BK101.out 0
         have hfz42_1 := blk_frozen BK101.out 1
         have hfz42_2 := blk_frozen BK101.out 2
         have hfz42_3 := blk_frozen BK101.out 3
         go_wp2_with (first | (go_at_call 32; (with_reducible refine (spec_l01In.calls a0_2 0 (wrap64 (a1 - 1)) true _ A39.out).mono ?_); rintro e w' ⟨rfl, ⟨nd, rfl⟩⟩))
         go_meet
         case rel => exact ⟨_, ((a0_2 != 0)), qz0_, H', ⟨qz10_⟩, ⟨qz4_⟩, ⟨qz9_⟩⟩
        ·
         rw [if_neg c41] at H
         have c41b0 : decide (t103 < 2) = false := decide_eq_false c41
         clear c41
         have H' := am_ H
         clear H
         have hcz43_0 : w7.cell? ⟨gb101, 0, none⟩ = some (.int .i64 a0_0) := (blk_cell BK101.out 0).trans rfl
         have hcz43_1 : w7.cell? ⟨gb101, 1, none⟩ = some (.int .i64 a0_1) := (blk_cell BK101.out 1).trans rfl
         have hcz43_2 : w7.cell? ⟨gb101, 2, none⟩ = some (.int .i64 a0_2) := (blk_cell BK101.out 2).trans rfl
         have hcz43_3 : w7.cell? ⟨gb101, 3, none⟩ = some (.int .i64 a0_3) := (blk_cell BK101.out 3).trans rfl
         have hfz43_0 := blk_frozen BK101.out 0
         have hfz43_1 := blk_frozen BK101.out 1
         have hfz43_2 := blk_frozen BK101.out 2
         have hfz43_3 := blk_frozen BK101.out 3
         go_wp2_with (first | (go_at_call 32; (with_reducible refine (spec_l01In.calls a0_2 0 (wrap64 (a1 - 1)) true _ A39.out).mono ?_); rintro e w' ⟨rfl, ⟨nd, rfl⟩⟩))
         go_meet
         case rel => exact ⟨_, (false), qz0_, H', ⟨qz10_⟩, ⟨qz4_⟩, ⟨qz9_⟩⟩
       ·
        replace c40 := Bool.eq_false_iff.mpr c40
        subst c40
        have H1 : (spec_l11Gate.j0 k true a0_0 a0_1 a0_2 a0_3) = some r := by rw [if_neg (show ¬ (false = true) by decide)] at H; exact H
        clear H
        have H := H1
        clear H1
        have H' := am_ H
        clear H
        have hcz44_0 : w7.cell? ⟨gb101, 0, none⟩ = some (.int .i64 a0_0) := (blk_cell BK101.out 0).trans rfl
        have hcz44_1 : w7.cell? ⟨gb101, 1, none⟩ = some (.int .i64 a0_1) := (blk_cell BK101.out 1).trans rfl
        have hcz44_2 : w7.cell? ⟨gb101, 2, none⟩ = some (.int .i64 a0_2) := (blk_cell BK101.out 2).trans rfl
        have hcz44_3 : w7.cell? ⟨gb101, 3, none⟩ = some (.int .i64 a0_3) := (blk_cell BK101.out 3).trans rfl
        have hfz44_0 := blk_frozen BK101.out 0
        have hfz44_1 := blk_frozen BK101.out 1
        have hfz44_2 := blk_frozen BK101.out 2
        have hfz44_3 := blk_frozen BK101.out 3
        go_wp2_with (first | (go_at_call 32; (with_reducible refine (spec_l01In.calls a0_2 0 (wrap64 (a1 - 1)) false _ A39.out).mono ?_); rintro e w' ⟨rfl, ⟨nd, rfl⟩⟩))
        go_meet
        case rel => exact ⟨_, (true), qz0_, H', ⟨qz10_⟩, ⟨qz4_⟩, ⟨qz9_⟩⟩
      ·
       rw [if_neg c38] at H
       have c38b0 : decide (1 < t103) = false := decide_eq_false c38
       clear c38
       by_cases c45 : t103 < 2
       ·
        rw [if_pos c45] at H
        have c45b0 : decide (t103 < 2) = true := decide_eq_true c45
        clear c45
        have H' := am_ H
        clear H
        have hcz46_0 : w7.cell? ⟨gb101, 0, none⟩ = some (.int .i64 a0_0) := (blk_cell BK101.out 0).trans rfl
        have hcz46_1 : w7.cell? ⟨gb101, 1, none⟩ = some (.int .i64 a0_1) := (blk_cell BK101.out 1).trans rfl
        have hcz46_2 : w7.cell? ⟨gb101, 2, none⟩ = some (.int .i64 a0_2) := (blk_cell BK101.out 2).trans rfl
        have hcz46_3 : w7.cell? ⟨gb101, 3, none⟩ = some (.int .i64 a0_3) := (blk_cell BK101.out 3).trans rfl
        have hfz46_0 := blk_frozen BK101.out 0
        have hfz46_1 := blk_frozen BK101.out 1
        have hfz46_2 := blk_frozen BK101.out 2
        have hfz46_3 := blk_frozen BK101.out 3
        go_wp2
        go_meet
        case rel => exact ⟨_, ((a0_2 != 0)), qz0_, H', ⟨qz10_⟩, ⟨qz4_⟩, ⟨qz9_⟩⟩
       ·
        rw [if_neg c45] at H
        have c45b0 : decide (t103 < 2) = false := decide_eq_false c45
        clear c45
        have H' := am_ H
        clear H
        have hcz47_0 : w7.cell? ⟨gb101, 0, none⟩ = some (.int .i64 a0_0) := (blk_cell BK101.out 0).trans rfl
        have hcz47_1 : w7.cell? ⟨gb101, 1, none⟩ = some (.int .i64 a0_1) := (blk_cell BK101.out 1).trans rfl
        have hcz47_2 : w7.cell? ⟨gb101, 2, none⟩ = some (.int .i64 a0_2) := (blk_cell BK101.out 2).trans rfl
        have hcz47_3 : w7.cell? ⟨gb101, 3, none⟩ = some (.int .i64 a0_3) := (blk_cell BK101.out 3).trans rfl
        have hfz47_0 := blk_frozen BK101.out 0
        have hfz47_1 := blk_frozen BK101.out 1
        have hfz47_2 := blk_frozen BK101.out 2
        have hfz47_3 := blk_frozen BK101.out 3
        go_wp2
        go_meet
        case rel => exact ⟨_, (false), qz0_, H', ⟨qz10_⟩, ⟨qz4_⟩, ⟨qz9_⟩⟩
     ·
      rw [if_neg c37] at H
      have c37b0 : (a0_1 == 0) = false := beq_eq_false_iff_ne.mpr c37
      have c37b1 : (a0_1 != 0) = true := bne_iff_ne.mpr c37
      have H' := am_ H
      clear H
      have hcz48_0 : w7.cell? ⟨gb101, 0, none⟩ = some (.int .i64 a0_0) := (blk_cell BK101.out 0).trans rfl
      have hcz48_1 : w7.cell? ⟨gb101, 1, none⟩ = some (.int .i64 a0_1) := (blk_cell BK101.out 1).trans rfl
      have hcz48_2 : w7.cell? ⟨gb101, 2, none⟩ = some (.int .i64 a0_2) := (blk_cell BK101.out 2).trans rfl
      have hcz48_3 : w7.cell? ⟨gb101, 3, none⟩ = some (.int .i64 a0_3) := (blk_cell BK101.out 3).trans rfl
      have hfz48_0 := blk_frozen BK101.out 0
      have hfz48_1 := blk_frozen BK101.out 1
      have hfz48_2 := blk_frozen BK101.out 2
      have hfz48_3 := blk_frozen BK101.out 3
      go_wp2
      go_meet
      case rel => exact ⟨_, (true), qz0_, H', ⟨qz10_⟩, ⟨qz4_⟩, ⟨qz9_⟩⟩
    ·
     rw [if_neg c36] at H
     have c36b0 : (t103 == 0) = false := beq_eq_false_iff_ne.mpr c36
     have c36b1 : (t103 != 0) = true := bne_iff_ne.mpr c36
     by_cases c49 : t103 > 1
     ·
      rw [if_pos c49] at H
      have c49b0 : decide (1 < t103) = true := decide_eq_true c49
      clear c49
      replace H := Option.bind_eq_some_iff.mp H
      obtain ⟨t108, A500, H⟩ := H
      replace H : (if t108 = true then (if t103 < 2 then (spec_l11Gate.j0 k (a0_2 != 0) a0_0 a0_1 a0_2 a0_3) else (spec_l11Gate.j0 k false a0_0 a0_1 a0_2 a0_3)) else (spec_l11Gate.j0 k true a0_0 a0_1 a0_2 a0_3)) = some r := H
      have A50 := am_ A500
      clear A500
      by_cases c51 : t108 = true
      ·
       subst c51
       have H1 : (if t103 < 2 then (spec_l11Gate.j0 k (a0_2 != 0) a0_0 a0_1 a0_2 a0_3) else (spec_l11Gate.j0 k false a0_0 a0_1 a0_2 a0_3)) = some r := by rw [if_pos rfl] at H; exact H
       clear H
       have H := H1
       clear H1
       by_cases c52 : t103 < 2
       ·
        rw [if_pos c52] at H
        have c52b0 : decide (t103 < 2) = true := decide_eq_true c52
        clear c52
        have H' := am_ H
        clear H
        have hcz53_0 : w7.cell? ⟨gb101, 0, none⟩ = some (.int .i64 a0_0) := (blk_cell BK101.out 0).trans rfl
        have hcz53_1 : w7.cell? ⟨gb101, 1, none⟩ = some (.int .i64 a0_1) := (blk_cell BK101.out 1).trans rfl
        have hcz53_2 : w7.cell? ⟨gb101, 2, none⟩ = some (.int .i64 a0_2) := (blk_cell BK101.out 2).trans rfl
        have hcz53_3 : w7.cell? ⟨gb101, 3, none⟩ = some (.int .i64 a0_3) := (blk_cell BK101.out 3).trans rfl
        have hfz53_0 := blk_frozen BK101.out 0
        have hfz53_1 := blk_frozen BK101.out 1
        have hfz53_2 := blk_frozen BK101.out 2
        have hfz53_3 := blk_frozen BK101.out 3
        go_wp2_with (first | (go_at_call 32; (with_reducible refine (spec_l01In.calls a0_2 0 (wrap64 (a1 - 1)) true _ A50.out).mono ?_); rintro e w' ⟨rfl, ⟨nd, rfl⟩⟩))
        go_meet
        case rel => exact ⟨_, ((a0_2 != 0)), qz0_, H', ⟨qz10_⟩, ⟨qz4_⟩, ⟨qz9_⟩⟩
       ·
        rw [if_neg c52] at H
        have c52b0 : decide (t103 < 2) = false := decide_eq_false c52
        clear c52
        have H' := am_ H
        clear H
        have hcz54_0 : w7.cell? ⟨gb101, 0, none⟩ = some (.int .i64 a0_0) := (blk_cell BK101.out 0).trans rfl
        have hcz54_1 : w7.cell? ⟨gb101, 1, none⟩ = some (.int .i64 a0_1) := (blk_cell BK101.out 1).trans rfl
        have hcz54_2 : w7.cell? ⟨gb101, 2, none⟩ = some (.int .i64 a0_2) := (blk_cell BK101.out 2).trans rfl
        have hcz54_3 : w7.cell? ⟨gb101, 3, none⟩ = some (.int .i64 a0_3) := (blk_cell BK101.out 3).trans rfl
        have hfz54_0 := blk_frozen BK101.out 0
        have hfz54_1 := blk_frozen BK101.out 1
        have hfz54_2 := blk_frozen BK101.out 2
        have hfz54_3 := blk_frozen BK101.out 3
        go_wp2_with (first | (go_at_call 32; (with_reducible refine (spec_l01In.calls a0_2 0 (wrap64 (a1 - 1)) true _ A50.out).mono ?_); rintro e w' ⟨rfl, ⟨nd, rfl⟩⟩))
        go_meet
        case rel => exact ⟨_, (false), qz0_, H', ⟨qz10_⟩, ⟨qz4_⟩, ⟨qz9_⟩⟩
      ·
       replace c51 := Bool.eq_false_iff.mpr c51
       subst c51
       have H1 : (spec_l11Gate.j0 k true a0_0 a0_1 a0_2 a0_3) = some r := by rw [if_neg (show ¬ (false = true) by decide)] at H; exact H
       clear H
       have H := H1
       clear H1
       have H' := am_ H
       clear H
       have hcz55_0 : w7.cell? ⟨gb101, 0, none⟩ = some (.int .i64 a0_0) := (blk_cell BK101.out 0).trans rfl
       have hcz55_1 : w7.cell? ⟨gb101, 1, none⟩ = some (.int .i64 a0_1) := (blk_cell BK101.out 1).trans rfl
       have hcz55_2 : w7.cell? ⟨gb101, 2, none⟩ = some (.int .i64 a0_2) := (blk_cell BK101.out 2).trans rfl
       have hcz55_3 : w7.cell? ⟨gb101, 3, none⟩ = some (.int .i64 a0_3) := (blk_cell BK101.out 3).trans rfl
       have hfz55_0 := blk_frozen BK101.out 0
       have hfz55_1 := blk_frozen BK101.out 1
       have hfz55_2 := blk_frozen BK101.out 2
       have hfz55_3 := blk_frozen BK101.out 3
       go_wp2_with (first | (go_at_call 32; (with_reducible refine (spec_l01In.calls a0_2 0 (wrap64 (a1 - 1)) false _ A50.out).mono ?_); rintro e w' ⟨rfl, ⟨nd, rfl⟩⟩))
       go_meet
       case rel => exact ⟨_, (true), qz0_, H', ⟨qz10_⟩, ⟨qz4_⟩, ⟨qz9_⟩⟩
     ·
      rw [if_neg c49] at H
      have c49b0 : decide (1 < t103) = false := decide_eq_false c49
      clear c49
      by_cases c56 : t103 < 2
      ·
       rw [if_pos c56] at H
       have c56b0 : decide (t103 < 2) = true := decide_eq_true c56
       clear c56
       have H' := am_ H
       clear H
       have hcz57_0 : w7.cell? ⟨gb101, 0, none⟩ = some (.int .i64 a0_0) := (blk_cell BK101.out 0).trans rfl
       have hcz57_1 : w7.cell? ⟨gb101, 1, none⟩ = some (.int .i64 a0_1) := (blk_cell BK101.out 1).trans rfl
       have hcz57_2 : w7.cell? ⟨gb101, 2, none⟩ = some (.int .i64 a0_2) := (blk_cell BK101.out 2).trans rfl
       have hcz57_3 : w7.cell? ⟨gb101, 3, none⟩ = some (.int .i64 a0_3) := (blk_cell BK101.out 3).trans rfl
       have hfz57_0 := blk_frozen BK101.out 0
       have hfz57_1 := blk_frozen BK101.out 1
       have hfz57_2 := blk_frozen BK101.out 2
       have hfz57_3 := blk_frozen BK101.out 3
       go_wp2
       go_meet
       case rel => exact ⟨_, ((a0_2 != 0)), qz0_, H', ⟨qz10_⟩, ⟨qz4_⟩, ⟨qz9_⟩⟩
      ·
       rw [if_neg c56] at H
       have c56b0 : decide (t103 < 2) = false := decide_eq_false c56
       clear c56
       have H' := am_ H
       clear H
       go_wp2
       go_meet
       case rel => exact ⟨_, (false), qz0_, H', ⟨qz10_⟩, ⟨qz4_⟩, ⟨qz9_⟩⟩
  case rest =>
   clear HC6
   try clear c1
   try clear c2
   try clear p2
   try clear c3
   try clear c4
   try clear c5
   try clear p6
   try clear c9
   try clear c9b0
   try clear c11
   try clear c12
   try clear c12b0
   try clear c12b1
   try clear c13
   try clear c13b0
   try clear c13b1
   try clear c14
   try clear c14b0
   try clear c16
   try clear c17
   try clear c17b0
   try clear c19
   try clear c21
   try clear c21b0
   try clear c25
   try clear c25b0
   try clear c27
   try clear c28
   try clear c28b0
   try clear c32
   try clear c32b0
   try clear c36
   try clear c36b0
   try clear c36b1
   try clear c37
   try clear c37b0
   try clear c37b1
   try clear c38
   try clear c38b0
   try clear c40
   try clear c41
   try clear c41b0
   try clear c45
   try clear c45b0
   try clear c49
   try clear c49b0
   try clear c51
   try clear c52
   try clear c52b0
   try clear c56
   try clear c56b0
   try clear hcz18_0
   try clear hcz18_1
   try clear hcz18_2
   try clear hcz18_3
   try clear hcz19_0
   try clear hcz19_1
   try clear hcz19_2
   try clear hcz19_3
   try clear hcz20_0
   try clear hcz20_1
   try clear hcz20_2
   try clear hcz20_3
   try clear hcz22_0
   try clear hcz22_1
   try clear hcz22_2
   try clear hcz22_3
   try clear hcz23_0
   try clear hcz23_1
   try clear hcz23_2
   try clear hcz23_3
   try clear hcz24_0
   try clear hcz24_1
   try clear hcz24_2
   try clear hcz24_3
   try clear hcz29_0
   try clear hcz29_1
   try clear hcz29_2
   try clear hcz29_3
   try clear hcz30_0
   try clear hcz30_1
   try clear hcz30_2
   try clear hcz30_3
   try clear hcz31_0
   try clear hcz31_1
   try clear hcz31_2
   try clear hcz31_3
   try clear hcz33_0
   try clear hcz33_1
   try clear hcz33_2
   try clear hcz33_3
   try clear hcz34_0
   try clear hcz34_1
   try clear hcz34_2
   try clear hcz34_3
   try clear hcz35_0
   try clear hcz35_1
   try clear hcz35_2
   try clear hcz35_3
   try clear hcz42_0
   try clear hcz42_1
   try clear hcz42_2
   try clear hcz42_3
   try clear hcz43_0
   try clear hcz43_1
   try clear hcz43_2
   try clear hcz43_3
   try clear hcz44_0
   try clear hcz44_1
   try clear hcz44_2
   try clear hcz44_3
   try clear hcz46_0
   try clear hcz46_1
   try clear hcz46_2
   try clear hcz46_3
   try clear hcz47_0
   try clear hcz47_1
   try clear hcz47_2
   try clear hcz47_3
   try clear hcz48_0
   try clear hcz48_1
   try clear hcz48_2
   try clear hcz48_3
   try clear hcz53_0
   try clear hcz53_1
   try clear hcz53_2
   try clear hcz53_3
   try clear hcz54_0
   try clear hcz54_1
   try clear hcz54_2
   try clear hcz54_3
   try clear hcz55_0
   try clear hcz55_1
   try clear hcz55_2
   try clear hcz55_3
   try clear hcz57_0
   try clear hcz57_1
   try clear hcz57_2
   try clear hcz57_3
   try clear hcz8_0
   try clear hcz8_1
   try clear hcz8_2
   try clear hcz8_3
   try clear hfz18_0
   try clear hfz18_1
   try clear hfz18_2
   try clear hfz18_3
   try clear hfz19_0
   try clear hfz19_1
   try clear hfz19_2
   try clear hfz19_3
   try clear hfz20_0
   try clear hfz20_1
   try clear hfz20_2
   try clear hfz20_3
   try clear hfz22_0
   try clear hfz22_1
   try clear hfz22_2
   try clear hfz22_3
   try clear hfz23_0
   try clear hfz23_1
   try clear hfz23_2
   try clear hfz23_3
   try clear hfz24_0
   try clear hfz24_1
   try clear hfz24_2
   try clear hfz24_3
   try clear hfz29_0
   try clear hfz29_1
   try clear hfz29_2
   try clear hfz29_3
   try clear hfz30_0
   try clear hfz30_1
   try clear hfz30_2
   try clear hfz30_3
   try clear hfz31_0
   try clear hfz31_1
   try clear hfz31_2
   try clear hfz31_3
   try clear hfz33_0
   try clear hfz33_1
   try clear hfz33_2
   try clear hfz33_3
   try clear hfz34_0
   try clear hfz34_1
   try clear hfz34_2
   try clear hfz34_3
   try clear hfz35_0
   try clear hfz35_1
   try clear hfz35_2
   try clear hfz35_3
   try clear hfz42_0
   try clear hfz42_1
   try clear hfz42_2
   try clear hfz42_3
   try clear hfz43_0
   try clear hfz43_1
   try clear hfz43_2
   try clear hfz43_3
   try clear hfz44_0
   try clear hfz44_1
   try clear hfz44_2
   try clear hfz44_3
   try clear hfz46_0
   try clear hfz46_1
   try clear hfz46_2
   try clear hfz46_3
   try clear hfz47_0
   try clear hfz47_1
   try clear hfz47_2
   try clear hfz47_3
   try clear hfz48_0
   try clear hfz48_1
   try clear hfz48_2
   try clear hfz48_3
   try clear hfz53_0
   try clear hfz53_1
   try clear hfz53_2
   try clear hfz53_3
   try clear hfz54_0
   try clear hfz54_1
   try clear hfz54_2
   try clear hfz54_3
   try clear hfz55_0
   try clear hfz55_1
   try clear hfz55_2
   try clear hfz55_3
   try clear hfz57_0
   try clear hfz57_1
   try clear hfz57_2
   try clear hfz57_3
   try clear hfz8_0
   try clear hfz8_1
   try clear hfz8_2
   try clear hfz8_3
   obtain ⟨kq, x52_5, rfl, HA, HJ5, BK101, HB⟩ := hcut
   cases kq with
   | zero => exact absurd HA.out (by simp [spec_l11Gate.j0])
   | succ kj5 =>
    have H := HA.out
    clear HA
    simp only [spec_l11Gate.j0] at H
    by_cases c58 : x52_5 = true
    ·
     subst c58
     have H1 : (some false) = some r := by rw [if_pos rfl] at H; exact H
     clear H
     have H := H1
     clear H1
     obtain rfl := Option.some.inj H
     go_wp2
     go_ret
     exact ⟨qz5_, qz9_⟩
    ·
     replace c58 := Bool.eq_false_iff.mpr c58
     subst c58
     have H1 : (if a0_0 = 3 then ((spec_FieldOK.f a0_3).bind fun t109 => (some t109)) else (some (a0_3 == 0))) = some r := by rw [if_neg (show ¬ (false = true) by decide)] at H; exact H
     clear H
     have H := H1
     clear H1
     by_cases c59 : a0_0 = 3
     ·
      rw [if_pos c59] at H
      have c59b0 : (a0_0 == 3) = true := beq_iff_eq.mpr c59
      have c59b1 : (a0_0 != 3) = false := bne_eq_false_iff_eq.mpr c59
      clear c59
      replace H := Option.bind_eq_some_iff.mp H
      obtain ⟨t109, A600, H⟩ := H
      replace H : (some t109) = some r := H
      have A60 := am_ A600
      clear A600
      obtain rfl := Option.some.inj H
      have hcz61_0 : wc.cell? ⟨gb101, 0, none⟩ = some (.int .i64 a0_0) := (blk_cell BK101.out 0).trans rfl
      have hcz61_1 : wc.cell? ⟨gb101, 1, none⟩ = some (.int .i64 a0_1) := (blk_cell BK101.out 1).trans rfl
      have hcz61_2 : wc.cell? ⟨gb101, 2, none⟩ = some (.int .i64 a0_2) := (blk_cell BK101.out 2).trans rfl
      have hcz61_3 : wc.cell? ⟨gb101, 3, none⟩ = some (.int .i64 a0_3) := (blk_cell BK101.out 3).trans rfl
      have hfz61_0 := blk_frozen BK101.out 0
      have hfz61_1 := blk_frozen BK101.out 1
      have hfz61_2 := blk_frozen BK101.out 2
      have hfz61_3 := blk_frozen BK101.out 3
      go_wp2_with (first | ((with_reducible refine gate_callee (f := 33) rfl ?_); refine goesL_ (some 58) rfl rfl Tryd.func33 (by kernel_rfl) rfl #[.int .i64 a0_3] rfl qz2_ ?_; (with_reducible refine (spec_FieldOK.calls a0_3 t109 _ A60.out).mono ?_); rintro e w' ⟨rfl, ⟨nd, rfl⟩⟩; refine ⟨_, rfl, ?_⟩))
      go_ret
      exact ⟨qz5_, qz9_⟩
     ·
      rw [if_neg c59] at H
      have c59b0 : (a0_0 == 3) = false := beq_eq_false_iff_ne.mpr c59
      have c59b1 : (a0_0 != 3) = true := bne_iff_ne.mpr c59
      obtain rfl := Option.some.inj H
      have hcz62_0 : wc.cell? ⟨gb101, 0, none⟩ = some (.int .i64 a0_0) := (blk_cell BK101.out 0).trans rfl
      have hcz62_1 : wc.cell? ⟨gb101, 1, none⟩ = some (.int .i64 a0_1) := (blk_cell BK101.out 1).trans rfl
      have hcz62_2 : wc.cell? ⟨gb101, 2, none⟩ = some (.int .i64 a0_2) := (blk_cell BK101.out 2).trans rfl
      have hcz62_3 : wc.cell? ⟨gb101, 3, none⟩ = some (.int .i64 a0_3) := (blk_cell BK101.out 3).trans rfl
      have hfz62_0 := blk_frozen BK101.out 0
      have hfz62_1 := blk_frozen BK101.out 1
      have hfz62_2 := blk_frozen BK101.out 2
      have hfz62_3 := blk_frozen BK101.out 3
      go_wp2
      go_ret
      exact ⟨qz5_, qz9_⟩
 ·
  replace c4 := Bool.eq_false_iff.mpr c4
  subst c4
  have H1 : (some false) = some r := by rw [if_neg (show ¬ (false = true) by decide)] at H; exact H
  clear H
  have H := H1
  clear H1
  obtain rfl := Option.some.inj H
  go_enter Tryd.func17, Tryd.ntmps17
  go_wp2_with (first | ((with_reducible refine gate_dst (N := 2) rfl ?_); refine box_event ?hg (N := 2) ?hd (cs := #[.int .i64 a0_0, .int .i64 a0_1, .int .i64 a0_2, .int .i64 a0_3]) (t := 30) ?hr ?_; (case hd => rfl); (case hg => rfl); (case hr => first | (go_simp; done) | (go_simp; rfl)); intro gb101 hg w63 hbox hb; have n0_ := am_ (below_step qz3_ hb); have n1_ := am_ (hbox); have n2_ := am_ ((by rw [hg]; exact (below_size qz3_) : w.heap.size ≤ gb101)); have n3_ := am_ ((by rw [hg]; exact (below_size qz3_) : w.heap.size ≤ gb101)); clear HB; have HB := n0_; have BK101 := n1_; have GW101 := n2_; have GE101 := n3_; clear n0_ n1_ n2_ n3_; clear hb hbox hg; have hcz64_0 : w63.cell? ⟨gb101, 0, none⟩ = some (.int .i64 a0_0) := (blk_cell BK101.out 0).trans rfl; have hcz64_1 : w63.cell? ⟨gb101, 1, none⟩ = some (.int .i64 a0_1) := (blk_cell BK101.out 1).trans rfl; have hcz64_2 : w63.cell? ⟨gb101, 2, none⟩ = some (.int .i64 a0_2) := (blk_cell BK101.out 2).trans rfl; have hcz64_3 : w63.cell? ⟨gb101, 3, none⟩ = some (.int .i64 a0_3) := (blk_cell BK101.out 3).trans rfl; have hfz64_0 := blk_frozen BK101.out 0; have hfz64_1 := blk_frozen BK101.out 1; have hfz64_2 := blk_frozen BK101.out 2; have hfz64_3 := blk_frozen BK101.out 3) | ((with_reducible refine gate_callee (f := 32) rfl ?_); refine goesL_ (some 8) rfl rfl Tryd.func32 (by kernel_rfl) rfl #[.int .i64 a0_0, .int .i64 1, .int .i64 8] rfl qz2_ ?_; (with_reducible refine (spec_l01In.calls a0_0 1 8 false _ A3.out).mono ?_); rintro e w' ⟨rfl, ⟨nd, rfl⟩⟩; refine ⟨_, rfl, ?_⟩))
  go_ret
  exact ⟨qz5_, qz9_⟩

def spec_l01Bit.f (a0 : Bool) : Option (Int) := if a0 = true then (some 1) else (some 0)
set_option maxHeartbeats 8000000 in
set_option maxRecDepth 100000 in
theorem spec_l01Bit.calls (a0 : Bool) (r : Int) (w : World) (h : spec_l01Bit.f a0 = some r) :
  Calls Tryd.prog 41 #[.bool a0] w fun e w' => e = .returned (.int .i64 r) ∧ Drawn0 w w' := by
 have H : (if a0 = true then (some 1) else (some 0)) = some r := h
 clear h
 by_cases c2 : a0 = true
 ·
  subst c2
  have H1 : (some 1) = some r := by rw [if_pos rfl] at H; exact H
  clear H
  have H := H1
  clear H1
  obtain rfl := Option.some.inj H
  go_enter Tryd.func41, Tryd.ntmps41
  go_wp2
  go_ret
  exact ⟨qz0_, qz1_⟩
 ·
  replace c2 := Bool.eq_false_iff.mpr c2
  subst c2
  have H1 : (some 0) = some r := by rw [if_neg (show ¬ (false = true) by decide)] at H; exact H
  clear H
  have H := H1
  clear H1
  obtain rfl := Option.some.inj H
  go_enter Tryd.func41, Tryd.ntmps41
  go_wp2
  go_ret
  exact ⟨qz0_, qz1_⟩

def spec_l11Count.l0 : Nat → Int → Int → Int → List (S30) → Option (Int)
 | 0, _, _, _, _ => none
 | k + 1, x1, x5, x6, x102000 => if x6 < (x102000.length : Int) then (if 0 ≤ x6 then ((spec_l01Bit.f (((rd_T30 x102000 x6).f0) == x1)).bind fun t103 => (spec_l11Count.l0 k x1 (wrap64 (x5 + t103)) (wrap64 (x6 + 1)) x102000)) else (none)) else (some x5)
def spec_l11Count.f (k : Nat) (l0_0 : List (S30)) (a1 : Int) : Option (Int) := spec_l11Count.l0 k a1 0 0 l0_0
theorem spec_l11Count.mono_l : ∀ k, (∀ y0 y1 y2 y3, LeO (spec_l11Count.l0 k y0 y1 y2 y3) (spec_l11Count.l0 (k + 1) y0 y1 y2 y3))
 | 0 => fun _ _ _ _ r h => by simp [spec_l11Count.l0] at h
 | k + 1 => by
  have ih0 := spec_l11Count.mono_l k
  ·
   intro y0 y1 y2 y3
   unfold spec_l11Count.l0
   repeat' first
   | (with_reducible exact ih0 _ _ _ _)
   | (with_reducible exact LeO.refl _)
   | (with_reducible exact LeO.none _)
   | (with_reducible refine LeO.ite ?_ ?_)
   | (with_reducible refine LeO.bind ?_ (fun _ => ?_))
   | exact ih0 _ _ _ _
   | exact LeO.none _
   | refine LeO.ite ?_ ?_
   | refine LeO.bind ?_ (fun _ => ?_)
theorem spec_l11Count.mono : ∀ a0 a1 k, LeO (spec_l11Count.f k a0 a1) (spec_l11Count.f (k + 1) a0 a1) := by
 intro a0 a1 k
 have ih0 := spec_l11Count.mono_l k
 unfold spec_l11Count.f
 repeat' first
   | (with_reducible exact ih0 _ _ _ _)
   | (with_reducible exact LeO.refl _)
   | (with_reducible exact LeO.none _)
   | (with_reducible refine LeO.ite ?_ ?_)
   | (with_reducible refine LeO.bind ?_ (fun _ => ?_))
   | exact ih0 _ _ _ _
   | exact LeO.none _
   | refine LeO.ite ?_ ?_
   | refine LeO.bind ?_ (fun _ => ?_)
set_option maxHeartbeats 8000000 in
set_option maxRecDepth 100000 in
theorem spec_l11Count.calls (k : Nat) (A0_0 : Option Addr) (c0_0 : Nat) (l0_0 : List (S30)) (a1 : Int) (r : Int) (w : World) (hr0_0 : Kd.C k30 w A0_0 l0_0.length l0_0) (hc0_0 : l0_0.length ≤ c0_0) (h : spec_l11Count.f k l0_0 a1 = some r) :
  Calls Tryd.prog 27 #[.agg #[.slice A0_0 l0_0.length c0_0], .int .i64 a1] w fun e w' => e = .returned (.int .i64 r) ∧ Below w.heap.size w w' := by
 have hu25 := Tryd.underlying25
 have HR0_0 := am_ hr0_0
 have HC0_0 := am_ hc0_0
 clear hr0_0 hc0_0
 have HB := am_ (Below.refl w.heap.size w)
 have H : (spec_l11Count.l0 k a1 0 0 l0_0) = some r := h
 clear h
 have H' := am_ H
 clear H
 go_enter Tryd.func27, Tryd.ntmps27
 go_wp2_with (first | ((with_reducible refine gate_dst (N := 2) rfl ?_); refine box_event ?hg (N := 2) ?hd (cs := #[.slice A0_0 l0_0.length c0_0]) (t := 25) ?hr ?_; (case hd => rfl); (case hg => rfl); (case hr => first | (go_simp; done) | (go_simp; rfl)); intro gb101 hg w3 hbox hb; have n0_ := am_ (below_step qz3_ hb); have n1_ := am_ (hbox); have n2_ := am_ ((by rw [hg]; exact (below_size qz3_) : w.heap.size ≤ gb101)); have n3_ := am_ ((by rw [hg]; exact (below_size qz3_) : w.heap.size ≤ gb101)); clear HB; have HB := n0_; have BK101 := n1_; have GW101 := n2_; have GE101 := n3_; clear n0_ n1_ n2_ n3_; clear hb hbox hg))
 go_loopg [5, 6] k (fun kq v5 v6 w' => ∃ (x5_1 : Int) (x6_1 : Int), v5 = .int .i64 x5_1 ∧ v6 = .int .i64 x6_1 ∧ Aside0 (spec_l11Count.l0 kq a1 x5_1 x6_1 l0_0 = some r) ∧ Aside0 (kq ≤ k) ∧ Aside0 (w'.heap[gb101]? = some (.cells #[(.slice A0_0 l0_0.length c0_0)] 25 (0, 0))) ∧ Aside0 (Below w.heap.size w w'))
 case atStart => exact ⟨(0), (0), qz0_, qz0_, H', ⟨Nat.le_refl _⟩, ⟨qz4_⟩, ⟨qz9_⟩⟩
 case round =>
  clear H'
  try clear c2
  try clear p2
  obtain ⟨x5_1, x6_1, rfl, rfl, HA, HK1, BK101, HB⟩ := hrel
  cases gk with
  | zero => exact absurd HA.out (by simp [spec_l11Count.l0])
  | succ k1 =>
   have H := HA.out
   clear HA
   simp only [spec_l11Count.l0] at H
   by_cases c4 : x6_1 < (l0_0.length : Int)
   ·
    rw [if_pos c4] at H
    have c4b0 : decide (x6_1 < (l0_0.length : Int)) = true := decide_eq_true c4
    clear c4
    by_cases c5 : 0 ≤ x6_1
    ·
     rw [if_pos c5] at H
     have c5b0 : decide (0 ≤ x6_1) = true := decide_eq_true c5
     clear c5
     replace H := Option.bind_eq_some_iff.mp H
     obtain ⟨t103, A60, H⟩ := H
     replace H : (spec_l11Count.l0 k1 a1 (wrap64 (x5_1 + t103)) (wrap64 (x6_1 + 1)) l0_0) = some r := H
     have A6 := am_ A60
     clear A60
     have H' := am_ H
     clear H
     have hcz7_0 : wr.cell? ⟨gb101, 0, none⟩ = some (.slice A0_0 l0_0.length c0_0) := (blk_cell BK101.out 0).trans rfl
     have hfz7_0 := blk_frozen BK101.out 0
     have p102 : 0 ≤ (x6_1 : Int) := of_decide_eq_true qz11_
     have q102 : x6_1 < (l0_0.length : Int) := of_decide_eq_true qz11_
     obtain ⟨ad102, e102, hx102_0, hx102_1, hx102_2, hx102_3⟩ := at_T30 HR0_0.out x6_1 p102 q102
     cases e102
     replace hx102_0 := (HB.out.cell (World.block_lt_of_cell? w _ hx102_0)).trans hx102_0
     replace hx102_1 := (HB.out.cell (World.block_lt_of_cell? w _ hx102_1)).trans hx102_1
     replace hx102_2 := (HB.out.cell (World.block_lt_of_cell? w _ hx102_2)).trans hx102_2
     replace hx102_3 := (HB.out.cell (World.block_lt_of_cell? w _ hx102_3)).trans hx102_3
     replace p102 := eq_true p102
     replace q102 := eq_true q102
     go_wp2_with (first | ((with_reducible refine gate_callee (f := 41) rfl ?_); refine goesL_ (some 23) rfl rfl Tryd.func41 (by kernel_rfl) rfl #[.bool (((rd_T30 l0_0 x6_1).f0) == a1)] rfl qz2_ ?_; (with_reducible refine (spec_l01Bit.calls (((rd_T30 l0_0 x6_1).f0) == a1) t103 _ A6.out).mono ?_); rintro e w' ⟨rfl, ⟨nd, rfl⟩⟩; refine ⟨_, rfl, ?_⟩))
     go_roundg k1
     case measure => have := HK1.out; omega
     case rel => exact ⟨(wrap64 (x5_1 + t103)), (wrap64 (x6_1 + 1)), qz0_, qz0_, H', ⟨(by have := HK1.out; omega)⟩, ⟨qz4_⟩, ⟨qz9_⟩⟩
    ·
     rw [if_neg c5] at H
     exact absurd H (by simp)
   ·
    rw [if_neg c4] at H
    have c4b0 : decide (x6_1 < (l0_0.length : Int)) = false := decide_eq_false c4
    clear c4
    obtain rfl := Option.some.inj H
    have hcz8_0 : wr.cell? ⟨gb101, 0, none⟩ = some (.slice A0_0 l0_0.length c0_0) := (blk_cell BK101.out 0).trans rfl
    have hfz8_0 := blk_frozen BK101.out 0
    go_wp2
    go_ret
    exact ⟨qz5_, qz9_⟩

end Go.Proofs.YtokljkneflejdaaDoor.PT
end
section
/- Gates and circuits: the laws' helpers, and what both sides answer. -/
namespace Go.Proofs.YtokljkneflejdaaDoor.PT
open Go.RowKit Go.Proofs.YtokljkneflejdaaDoorW.PrintWords Go.Proofs.YtokljkneflejdaaDoorW.PrintLast Go.Proofs.YtokljkneflejdaaDoorW.PrintMore
set_option linter.unusedVariables false
set_option linter.unusedSimpArgs false
def gateB (x : S30) (i : Int) : Bool :=
 decide (1 ≤ x.f0 ∧ x.f0 ≤ 8) &&
 (if 4 ≤ x.f0 ∧ x.f0 ≤ 7 then decide (0 ≤ x.f1 ∧ x.f1 ≤ i - 1) && decide (0 ≤ x.f2 ∧ x.f2 ≤ i - 1) && (x.f3 == 0)
 else if x.f0 = 8 then decide (0 ≤ x.f1 ∧ x.f1 ≤ i - 1) && (x.f2 == 0) && (x.f3 == 0)
 else if x.f0 = 3 then (x.f1 == 0) && (x.f2 == 0) && decide (inF x.f3)
 else (x.f1 == 0) && (x.f2 == 0) && (x.f3 == 0))
theorem l11Gate_eq (x : S30) {i : Int} (h0 : 0 ≤ i) (h1 : i ≤ 1048576) {k : Nat} (hk : 0 < k) : spec_l11Gate.f k x.f0 x.f1 x.f2 x.f3 i = some (gateB x i) := by
 obtain ⟨k, rfl⟩ : ∃ m, k = m + 1 := ⟨k - 1, (by omega)⟩
 obtain ⟨a, b, c, d⟩ := x
 have j1 : ∀ e, spec_l11Gate.j0 (k + 1) e a b c d = some (if e = true then false else if a = 3 then decide (inF d) else (d == 0)) := by
  intro e
  simp only [spec_l11Gate.j0]
  cases e
  ·
   simp only [Bool.false_eq_true, if_false]
   by_cases h3 : a = 3
   ·
    rw [if_pos h3, if_pos h3, spec_FieldOK_eq]; rfl
   ·
    rw [if_neg h3, if_neg h3]
  ·
   rfl
 unfold spec_l11Gate.f gateB spec_l11Uses.f
 simp only [spec_l01In_eq, bS, j1]
 rw [w64 (n := i - 1) (by omega) (by omega)]
 by_cases hk : 1 ≤ a ∧ a ≤ 8
 ·
  rw [decide_eq_true hk]
  simp only [if_true, Bool.true_and]
  by_cases h4 : 4 ≤ a ∧ a ≤ 7
  ·
   have n3 : ¬ a = 3 := by omega
   rw [decide_eq_true h4, if_pos h4]
   simp only [if_true, bS, n3, if_false]
   by_cases hb : 0 ≤ b ∧ b ≤ i - 1
   ·
    by_cases hc : 0 ≤ c ∧ c ≤ i - 1
    ·
     simp [hb, hc]
    ·
     simp [hb, hc]
   ·
    simp [hb]
  ·
   rw [decide_eq_false h4, if_neg h4]
   by_cases h8 : a = 8
   ·
    have n3 : ¬ a = 3 := by omega
    simp only [h8, if_true, bS, Bool.false_eq_true, if_false]
    by_cases hb : 0 ≤ b ∧ b ≤ i - 1
    ·
     by_cases hc : c = 0
     ·
      simp [hb, hc]
     ·
      simp [hb, hc]
    ·
     simp [hb]
   ·
    simp only [h8, if_false, bS, Bool.false_eq_true]
    by_cases hb : b = 0
    ·
     by_cases hc : c = 0
     ·
      by_cases h3 : a = 3
      ·
       simp [hb, hc, h3]
      ·
       simp [hb, hc, h3]
     ·
      by_cases h3 : a = 3
      ·
       simp [hb, hc, h3]
      ·
       simp [hb, hc, h3]
    ·
     by_cases h3 : a = 3
     ·
      simp [hb, h3]
     ·
      simp [hb, h3]
 ·
  rw [decide_eq_false hk]; rfl
theorem isGate_eq (x : S30) {i : Int} (h0 : 0 ≤ i) (h1 : i ≤ 1048576) {k : Nat} (hk : 0 < k) : impl_isGate.f k x.f0 x.f1 x.f2 x.f3 i = some (gateB x i) := by
 obtain ⟨k, rfl⟩ : ∃ m, k = m + 1 := ⟨k - 1, (by omega)⟩
 obtain ⟨a, b, c, d⟩ := x
 unfold impl_isGate.f gateB
 simp only [impl_isGate.j0, impl_in_eq, impl_FieldOK_eq, bS]
 rw [w64 (n := i - 1) (by omega) (by omega)]
 by_cases h3 : a = 3
 ·
  subst h3
  by_cases hb : b = 0 <;> by_cases hc : c = 0 <;> simp [hb, hc]
 ·
  by_cases h4 : a = 4
  ·
   subst h4
   by_cases hb : 0 ≤ b ∧ b ≤ i - 1 <;> by_cases hc : 0 ≤ c ∧ c ≤ i - 1 <;> simp [hb, hc]
  ·
   by_cases h5 : a = 5
   ·
    subst h5
    by_cases hb : 0 ≤ b ∧ b ≤ i - 1 <;> by_cases hc : 0 ≤ c ∧ c ≤ i - 1 <;> simp [hb, hc]
   ·
    by_cases h6 : a = 6
    ·
     subst h6
     by_cases hb : 0 ≤ b ∧ b ≤ i - 1 <;> by_cases hc : 0 ≤ c ∧ c ≤ i - 1 <;> simp [hb, hc]
    ·
     by_cases h7 : a = 7
     ·
      subst h7
      by_cases hb : 0 ≤ b ∧ b ≤ i - 1 <;> by_cases hc : 0 ≤ c ∧ c ≤ i - 1 <;> simp [hb, hc]
     ·
      have n4 : ¬ (4 ≤ a ∧ a ≤ 7) := by omega
      by_cases h8 : a = 8
      ·
       subst h8
       by_cases hb : 0 ≤ b ∧ b ≤ i - 1 <;> by_cases hc : c = 0 <;> simp [hb, hc]
      ·
       by_cases hk : 1 ≤ a ∧ a ≤ 8
       ·
        by_cases hb : b = 0 <;> by_cases hc : c = 0 <;> simp [h3, h4, h5, h6, h7, h8, n4, hk, hb, hc]
       ·
        simp [h3, h4, h5, h6, h7, h8, n4, hk]
end Go.Proofs.YtokljkneflejdaaDoor.PT
end
section
/- What a circuit is drawn by: numbers, chances, counts. -/
namespace Go.Proofs.YtokljkneflejdaaDoor.PT
open Go.RowKit Go.Proofs.YtokljkneflejdaaDoorW.PrintWords Go.Proofs.YtokljkneflejdaaDoorW.PrintLast Go.Proofs.YtokljkneflejdaaDoorW.PrintMore
set_option linter.unusedVariables false
set_option linter.unusedSimpArgs false
theorem stOK.up {p s b c : Int} (h : stOK p s b) (hc : b ≤ c) : stOK p s c := by unfold stOK at *; omega
theorem next_any {l : List Int} (h : bytesL l) {p s b a : Int} (hs : stOK p s b) (hb : b ≤ 1000000000) (ha : 0 ≤ a) (ha2 : a ≤ 256) : ∃ v p' s', spec_l00Src_next.f l p s a = some (v, p', s') ∧ 0 ≤ v ∧ (v < a ∨ v = 0) ∧ stOK p' s' (b + 1) := by
 by_cases h1 : a ≤ 1
 ·
  unfold spec_l00Src_next.f
  rw [if_pos h1]
  exact ⟨0, p, s, rfl, (by omega), .inr rfl, hs.up (by omega)⟩
 ·
  obtain ⟨v, s', e, h0, hv, _, h2⟩ := next_ok h hs hb (a := a) (by omega) ha2
  exact ⟨v, p + 1, s', e, h0, .inl hv, h2⟩
theorem chance_any {l : List Int} (h : bytesL l) {p s b n : Int} (hs : stOK p s b) (hb : b ≤ 1000000000) (hn : 2 ≤ n) (hn2 : n ≤ 256) : ∃ v p' s', spec_l00Src_chance.f l p s n = some (v, p', s') ∧ stOK p' s' (b + 1) := by
 obtain ⟨v, p', s', e, _, _, h2⟩ := next_any h hs hb (a := n) (by omega) hn2
 unfold spec_l00Src_chance.f
 rw [e]
 exact ⟨_, _, _, rfl, h2⟩
theorem bit_some (b : Bool) : ∃ v, spec_l01Bit.f b = some v ∧ 0 ≤ v ∧ v ≤ 1 := by
 unfold spec_l01Bit.f
 cases b
 ·
  exact ⟨0, rfl, (by omega), (by omega)⟩
 ·
  exact ⟨1, rfl, (by omega), (by omega)⟩
theorem count_some (gs : List S30) (a : Int) (hg : gs.length ≤ 1000) (d : Nat) : ∀ (i : Nat) (c : Int) (k : Nat), i + d = gs.length → 0 ≤ c → c ≤ i → d < k → ∃ v, spec_l11Count.l0 k a c (i : Int) gs = some v := by
 induction d with
 | zero =>
  intro i c k hi h0 hc hk
  obtain ⟨k, rfl⟩ : ∃ m, k = m + 1 := ⟨k - 1, (by omega)⟩
  exact ⟨c, (by rw [spec_l11Count.l0, if_neg (by omega)])⟩
 | succ d ih =>
  intro i c k hi h0 hc hk
  obtain ⟨k, rfl⟩ : ∃ m, k = m + 1 := ⟨k - 1, (by omega)⟩
  obtain ⟨v, e, v0, v1⟩ := bit_some (((rd_T30 gs (i : Int)).f0) == a)
  obtain ⟨r, hr⟩ := ih (i + 1) (c + v) k (by omega) (by omega) (by omega) (by omega)
  refine ⟨r, ?_⟩
  rw [spec_l11Count.l0, if_pos (by omega), if_pos (by omega), e]
  simp only [bS]
  rw [w64 (n := c + v) (by omega) (by omega), w64 (n := (i : Int) + 1) (by omega) (by omega), show (i : Int) + 1 = ((i + 1 : Nat) : Int) by omega]
  exact hr
theorem uses_eq (op : Int) : spec_l11Uses.f op = some (if 4 ≤ op ∧ op ≤ 7 then 2 else if op = 8 then 1 else 0) := by
 unfold spec_l11Uses.f
 rw [spec_l01In_eq]
 simp only [bS]
 by_cases h : 4 ≤ op ∧ op ≤ 7
 ·
  rw [decide_eq_true h, if_pos rfl, if_pos h]
 ·
  rw [decide_eq_false h, if_neg (by decide), if_neg h]
  split <;> rfl
end Go.Proofs.YtokljkneflejdaaDoor.PT
end
section
/- Rows of 64-bit words, as a block of memory holds them. -/
namespace Go.Proofs.YtokljkneflejdaaDoor.PT
open Go.RowKit Go.Proofs.YtokljkneflejdaaDoorW.PrintWords Go.Proofs.YtokljkneflejdaaDoorW.PrintLast Go.Proofs.YtokljkneflejdaaDoorW.PrintMore
set_option linter.unusedVariables false
set_option linter.unusedSimpArgs false
def uarr (k : IntKind) (xs : List Int) : Array Value := (xs.map fun x => Value.int k x).toArray
theorem uarr_size (k : IntKind) (xs : List Int) : (uarr k xs).size = xs.length := by simp [uarr]
theorem uarr_get {k : IntKind} {xs : List Int} {i : Nat} (h : i < xs.length) : (uarr k xs)[i]? = some (.int k (xs.getD i 0)) := by
 simp [uarr, List.getD, h]
theorem uarr_put (k : IntKind) (xs : List Int) (i : Nat) (v : Int) : (uarr k xs).setIfInBounds i (.int k v) = uarr k (xs.set i v) := by
 simp [uarr, List.map_set]
theorem uarr_one (k : IntKind) (xs : List Int) : (uarr k xs).all (·.oneCell') = true := by
 rw [Array.all_eq_true_iff_forall_mem]
 intro v hv
 simp only [uarr, List.mem_toArray, List.mem_map] at hv
 obtain ⟨x, _, rfl⟩ := hv
 rfl
theorem row_cell {w : World} {g : Nat} {t : TypeId} {k : IntKind} {xs : List Int} (h : w.heap[g]? = some (.cells (uarr k xs) t (0, 0))) {i : Nat} (hi : i < xs.length) : w.cell? ⟨g, i, none⟩ = some (.int k (xs.getD i 0)) := (blk_cell h i).trans (uarr_get hi)
theorem row_put {w : World} {g : Nat} {t : TypeId} {k : IntKind} {xs : List Int} (h : w.heap[g]? = some (.cells (uarr k xs) t (0, 0))) (i : Nat) (v : Int) : (w.setCell ⟨g, i, none⟩ (.int k v)).heap[g]? = some (.cells (uarr k (xs.set i v)) t (0, 0)) := blk_put h i _ (uarr_put k xs i v)
def iter {α : Type} (f : Nat → α → α) : Nat → Nat → α → α
 | 0, _, x => x
 | k + 1, j, x => iter f k (j + 1) (f j x)
end Go.Proofs.YtokljkneflejdaaDoor.PT
end
section
/- Own parts of memory, each with what is known of it, and what is known of the rest: one fact that moves with the world. -/
namespace Go.Proofs.YtokljkneflejdaaDoor.PT
open Go.RowKit Go.Proofs.YtokljkneflejdaaDoorW.PrintWords Go.Proofs.YtokljkneflejdaaDoorW.PrintLast Go.Proofs.YtokljkneflejdaaDoorW.PrintMore
set_option linter.unusedVariables false
set_option linter.unusedSimpArgs false
structure Grp where
 S : Nat → Prop
 A : World → Prop
structure Agr (w w' : World) (S : Nat → Prop) : Prop where
 os : w'.os = w.os
 tape : w'.tape = w.tape
 output : w'.output = w.output
 size : w.heap.size ≤ w'.heap.size
 block : ∀ k, k < w.heap.size → ¬ S k → w'.heap[k]? = w.heap[k]?
def NoB : Nat → Prop := fun _ => False
theorem Agr.refl (w : World) (S : Nat → Prop) : Agr w w S := ⟨rfl, rfl, rfl, Nat.le_refl _, fun _ _ _ => rfl⟩
theorem Agr.mono {w w' : World} {S T : Nat → Prop} (h : Agr w w' S) (hs : ∀ k, S k → T k) : Agr w w' T := ⟨h.os, h.tape, h.output, h.size, fun k hk hn => h.block k hk (fun hS => hn (hs k hS))⟩
theorem Agr.trans {w w1 w2 : World} {S T : Nat → Prop} (h : Agr w w1 S) (k : Agr w1 w2 T) (hT : ∀ i, T i → S i ∨ w.heap.size ≤ i) : Agr w w2 S :=
 ⟨k.os.trans h.os, k.tape.trans h.tape, k.output.trans h.output, Nat.le_trans h.size k.size, fun i hi hn => (k.block i (Nat.lt_of_lt_of_le hi h.size) (fun hk => (hT i hk).elim hn (fun h2 => absurd hi (Nat.not_lt.2 h2)))).trans (h.block i hi hn)⟩
theorem Agr.of_below {w w' : World} (h : Below w.heap.size w w') : Agr w w' NoB := ⟨h.os, h.tape, h.output, h.size, fun k hk _ => h.block k hk⟩
theorem Agr.below {w w' : World} (h : Agr w w' NoB) : Below w.heap.size w w' := ⟨h.os, h.tape, h.output, h.size, fun k hk => h.block k hk (fun h => h)⟩
theorem Agr.of_grown {w w' : World} {v : Value} (h : w.grownBy w' v.ownBlock) : Agr w w' (fun k => some k = v.ownBlock) := ⟨h.os, h.tape, h.output, h.size, fun k hk hn => h.block k hk hn⟩
theorem Agr.of_keep {w0 w w' : World} {g : Nat} (h : KeepBut w w' g none) (hb : Below w0.heap.size w0 w) (hb' : Below w0.heap.size w0 w') : Agr w w' (fun k => k = g) :=
 ⟨hb'.os.trans hb.os.symm, hb'.tape.trans hb.tape.symm, hb'.output.trans hb.output.symm, h.1, fun k hk hn => h.2 k hk hn (by simp)⟩
theorem Agr.keep {w w' : World} {g : Nat} (h : Agr w w' (fun k => k = g)) : KeepBut w w' g none := ⟨h.size, fun k hk hn _ => h.block k hk hn⟩
theorem Agr.cell {w w' : World} {S : Nat → Prop} (h : Agr w w' S) {a : Addr} {v : Value} (hc : w.cell? a = some v) (hn : ¬ S a.block) : w'.cell? a = some v := by
 have := h.block a.block (World.block_lt_of_cell? w a hc) hn
 simpa [World.cell?, this] using hc
theorem Agr.onto {w0 w w' : World} {S : Nat → Prop} (h : Agr w w' S) (hb : Below w0.heap.size w0 w) (hS : ∀ k, S k → w0.heap.size ≤ k) : Below w0.heap.size w0 w' :=
 ⟨h.os.trans hb.os, h.tape.trans hb.tape, h.output.trans hb.output, Nat.le_trans hb.size h.size, fun k hk => (h.block k (Nat.lt_of_lt_of_le hk hb.size) (fun hs => absurd hk (Nat.not_lt.2 (hS k hs)))).trans (hb.block k hk)⟩
def InL (L : List Grp) (k : Nat) : Prop := ∃ b, b ∈ L ∧ b.S k
structure Inv (w0 : World) (P : Nat → Prop) (w : World) (L : List Grp) (F : World → Prop) : Prop where
 agr : Agr w0 w P
 lt : ∀ b, b ∈ L → ∀ k, b.S k → k < w.heap.size
 new : ∀ b, b ∈ L → ∀ k, b.S k → w0.heap.size ≤ k ∨ P k
 own : ∀ b, b ∈ L → ∀ w', (∀ k, b.S k → w'.heap[k]? = w.heap[k]?) → b.A w'
 dis : L.Pairwise (fun a b => ∀ k, a.S k → ¬ b.S k)
 facts : ∀ w', Agr w w' (InL L) → F w'
namespace Inv
variable {w0 w w1 : World} {P : Nat → Prop} {L : List Grp} {F : World → Prop}
theorem start (w : World) (F : World → Prop) (hF : ∀ w', Below w.heap.size w w' → F w') : Inv w NoB w [] F :=
 ⟨Agr.refl _ _, fun _ h => (by cases h), fun _ h => (by cases h), fun _ h => (by cases h), List.Pairwise.nil, fun w' h => hF w' (h.mono (fun k hk => by obtain ⟨_, h, _⟩ := hk; cases h)).below⟩
theorem now (h : Inv w0 P w L F) : F w := h.facts w (Agr.refl _ _)
theorem get (h : Inv w0 P w L F) {b : Grp} (i : Nat) (hi : L[i]? = some b) : b.A w := h.own b (List.mem_of_getElem? hi) w (fun _ _ => rfl)
theorem below (h : Inv w0 NoB w L F) : Below w0.heap.size w0 w := h.agr.below
theorem weaken (h : Inv w0 P w L F) {G : World → Prop} (hG : ∀ w, F w → G w) : Inv w0 P w L G := ⟨h.agr, h.lt, h.new, h.own, h.dis, fun w' hw => hG _ (h.facts w' hw)⟩
theorem grow (h : Inv w0 P w L F) (hA : Below w.heap.size w w1) : Inv w0 P w1 L F :=
 ⟨h.agr.trans (Agr.of_below hA) (fun _ h => h.elim), fun b hb k hk => Nat.lt_of_lt_of_le (h.lt b hb k hk) hA.size, h.new, fun b hb w' hw => h.own b hb w' (fun k hk => (hw k hk).trans (hA.block k (h.lt b hb k hk))), h.dis,
  fun w' hw => h.facts w' ((Agr.mono (Agr.of_below hA) (fun _ h => h.elim)).trans hw (fun i hi => .inl hi))⟩
theorem push (h : Inv w0 P w L F) (hA : Below w.heap.size w w1) (b : Grp) (hS : ∀ k, b.S k → w.heap.size ≤ k ∧ k < w1.heap.size) (hown : ∀ w', (∀ k, b.S k → w'.heap[k]? = w1.heap[k]?) → b.A w') : Inv w0 P w1 (b :: L) F := by
 have hg := h.grow hA
 refine ⟨hg.agr, fun c hc k hk => ?_, fun c hc k hk => ?_, fun c hc w' hw => ?_, List.Pairwise.cons (fun c hc k hk hk2 => ?_) h.dis, fun w' hw => ?_⟩
 ·
  rcases List.mem_cons.1 hc with rfl | hc
  ·
   exact (hS k hk).2
  ·
   exact hg.lt c hc k hk
 ·
  rcases List.mem_cons.1 hc with rfl | hc
  ·
   exact .inl (Nat.le_trans h.agr.size (hS k hk).1)
  ·
   exact h.new c hc k hk
 ·
  rcases List.mem_cons.1 hc with rfl | hc
  ·
   exact hown w' hw
  ·
   exact hg.own c hc w' hw
 ·
  exact absurd (h.lt c hc k hk2) (Nat.not_lt.2 (hS k hk).1)
 ·
  refine h.facts w' ((Agr.mono (Agr.of_below hA) (fun _ h => h.elim)).trans hw (fun i hi => ?_))
  obtain ⟨c, hc, hk⟩ := hi
  rcases List.mem_cons.1 hc with rfl | hc
  ·
   exact .inr (hS i hk).1
  ·
   exact .inl ⟨c, hc, hk⟩
theorem know (h : Inv w0 P w L F) (hA : Below w.heap.size w w1) (G : World → Prop) (hG : ∀ w', (∀ k, w.heap.size ≤ k → k < w1.heap.size → w'.heap[k]? = w1.heap[k]?) → G w') : Inv w0 P w1 L (fun w => G w ∧ F w) := by
 have hg := h.grow hA
 refine ⟨hg.agr, hg.lt, hg.new, hg.own, hg.dis, fun w' hw => ⟨hG w' (fun k h1 h2 => hw.block k h2 (fun hi => ?_)), hg.facts w' hw⟩⟩
 obtain ⟨c, hc, hk⟩ := hi
 exact absurd (h.lt c hc k hk) (Nat.not_lt.2 h1)
theorem freeze {b : Grp} (h : Inv w0 P w (b :: L) F) : Inv w0 P w L (fun w => b.A w ∧ F w) := by
 refine ⟨h.agr, fun c hc => h.lt c (List.mem_cons_of_mem _ hc), fun c hc => h.new c (List.mem_cons_of_mem _ hc), fun c hc => h.own c (List.mem_cons_of_mem _ hc), (List.pairwise_cons.1 h.dis).2, fun w' hw => ⟨?_, h.facts w' (hw.mono ?_)⟩⟩
 ·
  refine h.own b List.mem_cons_self w' (fun k hk => hw.block k (h.lt b List.mem_cons_self k hk) (fun hi => ?_))
  obtain ⟨c, hc, hk2⟩ := hi
  exact (List.pairwise_cons.1 h.dis).1 c hc k hk hk2
 ·
  rintro k ⟨c, hc, hk⟩
  exact ⟨c, List.mem_cons_of_mem _ hc, hk⟩
theorem drop {b : Grp} (h : Inv w0 P w (b :: L) F) : Inv w0 P w L F := h.freeze.weaken (fun _ h => h.2)
theorem perm {L' : List Grp} (h : Inv w0 P w L F) (hp : L.Perm L') : Inv w0 P w L' F :=
 ⟨h.agr, fun b hb => h.lt b (hp.mem_iff.2 hb), fun b hb => h.new b (hp.mem_iff.2 hb), fun b hb => h.own b (hp.mem_iff.2 hb), (hp.pairwise_iff (fun {a b} hab k hk hk2 => hab k hk2 hk)).1 h.dis, fun w' hw => h.facts w' (hw.mono (fun k ⟨b, hb, hk⟩ => ⟨b, hp.mem_iff.2 hb, hk⟩))⟩
theorem swap {a b : Grp} (h : Inv w0 P w (a :: b :: L) F) : Inv w0 P w (b :: a :: L) F := h.perm (List.Perm.swap _ _ _)
theorem swap1 {a b c : Grp} (h : Inv w0 P w (a :: b :: c :: L) F) : Inv w0 P w (a :: c :: b :: L) F := h.perm ((List.Perm.swap _ _ _).cons _)
theorem front2 {a b c : Grp} (h : Inv w0 P w (a :: b :: c :: L) F) : Inv w0 P w (c :: a :: b :: L) F := h.swap1.swap
theorem front3 {a b c d : Grp} (h : Inv w0 P w (a :: b :: c :: d :: L) F) : Inv w0 P w (d :: a :: b :: c :: L) F := (h.perm (((List.Perm.swap _ _ _).cons _).cons _)).front2
theorem front4 {a b c d e : Grp} (h : Inv w0 P w (a :: b :: c :: d :: e :: L) F) : Inv w0 P w (e :: a :: b :: c :: d :: L) F := (h.perm ((((List.Perm.swap _ _ _).cons _).cons _).cons _)).front3
theorem back2 {a b c : Grp} (h : Inv w0 P w (c :: a :: b :: L) F) : Inv w0 P w (a :: b :: c :: L) F := h.swap.swap1
theorem step {b : Grp} (h : Inv w0 P w (b :: L) F) (hA : Agr w w1 b.S) (b' : Grp) (hS : ∀ k, b'.S k → (b.S k ∨ w.heap.size ≤ k) ∧ k < w1.heap.size) (hown : ∀ w', (∀ k, b'.S k → w'.heap[k]? = w1.heap[k]?) → b'.A w') : Inv w0 P w1 (b' :: L) F := by
 have hm : ∀ c, c ∈ L → ∀ k, c.S k → k < w.heap.size ∧ ¬ b.S k := fun c hc k hk => ⟨h.lt c (List.mem_cons_of_mem _ hc) k hk, fun hb => (List.pairwise_cons.1 h.dis).1 c hc k hb hk⟩
 refine ⟨h.agr.trans hA (fun i hi => (h.new b List.mem_cons_self i hi).symm), fun c hc k hk => ?_, fun c hc k hk => ?_, fun c hc w' hw => ?_, List.Pairwise.cons (fun c hc k hk hk2 => ?_) (List.pairwise_cons.1 h.dis).2, fun w' hw => ?_⟩
 ·
  rcases List.mem_cons.1 hc with rfl | hc
  ·
   exact (hS k hk).2
  ·
   exact Nat.lt_of_lt_of_le (hm c hc k hk).1 hA.size
 ·
  rcases List.mem_cons.1 hc with rfl | hc
  ·
   rcases (hS k hk).1 with h1 | h1
   ·
    exact h.new b List.mem_cons_self k h1
   ·
    exact .inl (Nat.le_trans h.agr.size h1)
  ·
   exact h.new c (List.mem_cons_of_mem _ hc) k hk
 ·
  rcases List.mem_cons.1 hc with rfl | hc
  ·
   exact hown w' hw
  ·
   exact h.own c (List.mem_cons_of_mem _ hc) w' (fun k hk => (hw k hk).trans (hA.block k (hm c hc k hk).1 (hm c hc k hk).2))
 ·
  rcases (hS k hk).1 with h1 | h1
  ·
   exact (hm c hc k hk2).2 h1
  ·
   exact absurd (hm c hc k hk2).1 (Nat.not_lt.2 h1)
 ·
  refine h.facts w' ((hA.mono (fun k hk => ⟨b, List.mem_cons_self, hk⟩)).trans hw (fun i hi => ?_))
  obtain ⟨c, hc, hk⟩ := hi
  rcases List.mem_cons.1 hc with rfl | hc
  ·
   exact (hS i hk).1.imp (fun h1 => ⟨b, List.mem_cons_self, h1⟩) id
  ·
   exact .inl ⟨c, List.mem_cons_of_mem _ hc, hk⟩
theorem drew (h : Inv w0 P w L F) : Inv w0 P w.drew L F := h.grow (below_drew (Below.refl _ _))
theorem drewN (h : Inv w0 P w L F) (n : Nat) : Inv w0 P (w.drewN n) L F := h.grow (pw_below_drewN (Below.refl _ _) n)
theorem alloc (h : Inv w0 P w L F) (o : Obj) : Inv w0 P (w.alloc o) L F := h.grow (below_alloc (Below.refl _ _) o)
end Inv
def blk (g : Nat) (t : TypeId) (cs : Array Value) : Grp := ⟨fun k => k = g, fun w => w.heap[g]? = some (.cells cs t (0, 0))⟩
def row {α : Type} (d : Kd α) (e base : Nat) (v : Value) (xs : List α) (S : Nat → Prop) : Grp := ⟨S, fun w => d.R e w base S v xs⟩
namespace Inv
variable {w0 w w1 : World} {P : Nat → Prop} {L : List Grp} {F : World → Prop}
theorem box (h : Inv w0 P w L F) {g : Nat} {t : TypeId} {cs : Array Value} (hg : g = w.heap.size) (hbox : w1.heap[g]? = some (.cells cs t (0, 0))) (hb : Below w.heap.size w w1) : Inv w0 P w1 (blk g t cs :: L) F :=
 h.push hb (blk g t cs) (fun k hk => by obtain rfl : k = g := hk; exact ⟨Nat.le_of_eq hg.symm, blk_lt hbox⟩) (fun w' hw => (hw g rfl).trans hbox)
theorem startP {g : Nat} {t : TypeId} {cs : Array Value} (w : World) (hb : w.heap[g]? = some (.cells cs t (0, 0))) (F : World → Prop) (hF : ∀ w', Agr w w' (fun k => k = g) → F w') : Inv w (fun k => k = g) w [blk g t cs] F :=
 ⟨Agr.refl _ _, fun b h k hk => (by obtain rfl := List.mem_singleton.1 h; obtain rfl : k = g := hk; exact blk_lt hb), fun b h k hk => (by obtain rfl := List.mem_singleton.1 h; exact .inr hk),
  fun b h w' hw => (by obtain rfl := List.mem_singleton.1 h; exact (hw g rfl).trans hb), List.pairwise_singleton _ _, fun w' hw => hF w' (hw.mono (fun k ⟨b, hb, hk⟩ => by obtain rfl := List.mem_singleton.1 hb; exact hk))⟩
theorem blk0 {g : Nat} {t : TypeId} {cs : Array Value} (h : Inv w0 P w (blk g t cs :: L) F) : w.heap[g]? = some (.cells cs t (0, 0)) := h.get 0 rfl
theorem ge0 {g : Nat} {t : TypeId} {cs : Array Value} (h : Inv w0 NoB w (blk g t cs :: L) F) : w0.heap.size ≤ g := (h.new _ List.mem_cons_self g rfl).elim id (fun h => h.elim)
theorem put0 {g : Nat} {t : TypeId} {cs : Array Value} (h : Inv w0 P w (blk g t cs :: L) F) (new : Array Value) : Inv w0 P (w.setRow g new) (blk g t new :: L) F :=
 h.step (w1 := w.setRow g new) ⟨rfl, rfl, rfl, (by simp), fun k _ hn => setRow_other _ _ _ _ hn⟩ (blk g t new) (fun k hk => ⟨.inl hk, (by obtain rfl : k = g := hk; simpa using blk_lt h.blk0)⟩) (fun w' hw => (hw g rfl).trans (setRow_heap _ _ _ _ _ _ h.blk0))
theorem set0 {g : Nat} {t : TypeId} {cs : Array Value} (h : Inv w0 P w (blk g t cs :: L) F) (j : Nat) (v : Value) : Inv w0 P (w.setCell ⟨g, j, none⟩ v) (blk g t (cs.setIfInBounds j v) :: L) F :=
 h.step (w1 := w.setCell ⟨g, j, none⟩ v) ⟨rfl, rfl, rfl, by simp [World.setCell], fun k _ hn => Below.heap_setCell w ⟨g, j, none⟩ v k hn⟩ (blk g t _) (fun k hk => ⟨.inl hk, (by obtain rfl : k = g := hk; have := blk_lt (blk_set h.blk0 j v); exact this)⟩) (fun w' hw => (hw g rfl).trans (blk_set h.blk0 j v))
theorem ne01 {g g' : Nat} {t t' : TypeId} {cs cs' : Array Value} (h : Inv w0 P w (blk g t cs :: blk g' t' cs' :: L) F) : g ≠ g' := fun e => (List.pairwise_cons.1 h.dis).1 _ List.mem_cons_self g rfl e
theorem rowPush {α : Type} {d : Kd α} {e : Nat} {v : Value} {xs : List α} {ok : Nat → Prop} (h : Inv w0 P w L F) (hb : Below w.heap.size w w1) (hR : d.R e w1 w.heap.size ok v xs) :
  Inv w0 P w1 (row d e w0.heap.size v xs (fun k => w.heap.size ≤ k ∧ k < w1.heap.size) :: L) F := by
 have hR2 : d.R e w1 w0.heap.size (fun k => w.heap.size ≤ k ∧ k < w1.heap.size) v xs := Kd.R_lower (Kd.R_mono (Kd.R_bound hR) (fun k hk => ⟨hk.2.1, hk.2.2.1⟩)) h.agr.size
 exact h.push hb _ (fun k hk => hk) (fun w' hw => Kd.R_step hR2 (fun k hk _ => hw k hk))
theorem rowKnow {α : Type} {d : Kd α} {e : Nat} {v : Value} {xs : List α} {ok : Nat → Prop} (h : Inv w0 P w L F) (hb : Below w.heap.size w w1) (hR : d.R e w1 w.heap.size ok v xs) :
  ∃ A c, v = .slice A xs.length c ∧ xs.length ≤ c ∧ Inv w0 P w1 L (fun w => d.C w A xs.length xs ∧ F w) := by
 have hR2 : d.R e w1 w.heap.size (fun k => w.heap.size ≤ k ∧ k < w1.heap.size) v xs := Kd.R_mono (Kd.R_bound hR) (fun k hk => ⟨hk.2.1, hk.2.2.1⟩)
 obtain ⟨A, c, rfl, hc, _⟩ := Kd.R_reads hR
 refine ⟨A, c, rfl, hc, h.know hb _ (fun w' hw => ?_)⟩
 obtain ⟨A', c', e, _, hC⟩ := Kd.R_reads (Kd.R_step hR2 (fun k hk _ => hw k hk.1 hk.2))
 cases e
 exact hC
theorem row0 {α : Type} {d : Kd α} {e b : Nat} {v : Value} {xs : List α} {S : Nat → Prop} (h : Inv w0 P w (row d e b v xs S :: L) F) : d.R e w b S v xs := h.get 0 rfl
theorem row0W {α : Type} {d : Kd α} {e b : Nat} {v : Value} {xs : List α} {S : Nat → Prop} (h : Inv w0 P w (row d e b v xs S :: L) F) : d.R e w b (fun k => S k ∨ w.heap.size ≤ k) v xs := Kd.R_mono h.row0 (fun _ hk => .inl hk)
theorem grown0 {α : Type} {d : Kd α} {e b : Nat} {v v1 : Value} {xs ys : List α} {S ok : Nat → Prop} (h : Inv w0 P w (row d e b v xs S :: L) F) (hb : Below b w w1) (hR : d.R e w1 b ok v1 ys) (hok : ∀ k, ok k → k < w1.heap.size → S k ∨ w.heap.size ≤ k) (hg : w.grownBy w1 v.ownBlock) :
  Inv w0 P w1 (row d e b v1 ys (fun k => (S k ∨ w.heap.size ≤ k) ∧ k < w1.heap.size) :: L) F := by
 have hR2 : d.R e w1 b (fun k => (S k ∨ w.heap.size ≤ k) ∧ k < w1.heap.size) v1 ys := Kd.R_mono (Kd.R_bound hR) (fun k hk => ⟨hok k hk.1 hk.2.2.1, hk.2.2.1⟩)
 exact h.step ((Agr.of_grown hg).mono (fun k hk => h.row0.1 k hk.symm)) _ (fun k hk => hk) (fun w' hw => Kd.R_step hR2 (fun k hk _ => hw k hk))
end Inv
end Go.Proofs.YtokljkneflejdaaDoor.PT
end
section
/- Own parts of memory: what later texts need besides. -/
namespace Go.Proofs.YtokljkneflejdaaDoor.PT
open Go.RowKit Go.Proofs.YtokljkneflejdaaDoorW.PrintWords Go.Proofs.YtokljkneflejdaaDoorW.PrintLast Go.Proofs.YtokljkneflejdaaDoorW.PrintMore
set_option linter.unusedVariables false
set_option linter.unusedSimpArgs false
namespace Inv
variable {w0 w w1 : World} {P : Nat → Prop} {L : List Grp} {F : World → Prop}
theorem kept0 {α : Type} {d : Kd α} {e b : Nat} {v v1 : Value} {xs ys : List α} {S ok : Nat → Prop} (h : Inv w0 NoB w (row d e b v xs S :: L) F) (hB : Below w0.heap.size w0 w1) (hk : Kept w w1 S) (hR : d.R e w1 b ok v1 ys) (hok : ∀ k, ok k → S k ∨ w.heap.size ≤ k) :
  Inv w0 NoB w1 (row d e b v1 ys (fun k => (S k ∨ w.heap.size ≤ k) ∧ k < w1.heap.size) :: L) F := by
 have hR2 : d.R e w1 b (fun k => (S k ∨ w.heap.size ≤ k) ∧ k < w1.heap.size) v1 ys := Kd.R_mono (Kd.R_bound hR) (fun k hk => ⟨hok k hk.1, hk.2.2.1⟩)
 have hb := h.below
 exact h.step ⟨hB.os.trans hb.os.symm, hB.tape.trans hb.tape.symm, hB.output.trans hb.output.symm, hk.1, fun k hlt hn => hk.2 k hlt hn⟩ _ (fun k hk => hk) (fun w' hw => Kd.R_step hR2 (fun k hk _ => hw k hk))
end Inv
end Go.Proofs.YtokljkneflejdaaDoor.PT
end
section
/- Own parts of memory that hang on what has come up. -/
namespace Go.Proofs.YtokljkneflejdaaDoor.PT
open Go Go.RowKit Go.Proofs.YtokljkneflejdaaDoorW.PrintWords Go.Proofs.YtokljkneflejdaaDoorW.PrintLast Go.Proofs.YtokljkneflejdaaDoorW.PrintMore
set_option linter.unusedVariables false
set_option linter.unusedSimpArgs false
theorem perm_erase {α : Type} : ∀ (l : List α) (i : Nat) (b : α), l[i]? = some b → l.Perm (b :: l.eraseIdx i)
 | [], i, b, h => by simp at h
 | x :: l, 0, b, h => by
  obtain rfl : x = b := by simpa using h
  exact List.Perm.refl _
 | x :: l, i + 1, b, h => ((perm_erase l i b (by simpa using h)).cons x).trans (List.Perm.swap _ _ _)
def gif (c : Bool) (g : Grp) : Grp := ⟨fun k => c = true ∧ g.S k, fun w => c = true → g.A w⟩
namespace Inv
variable {w0 w w1 : World} {P : Nat → Prop} {L : List Grp} {F : World → Prop}
theorem head {b : Grp} (h : Inv w0 P w (b :: L) F) (b' : Grp) (hS : ∀ k, b'.S k → b.S k) (hA : ∀ w', (∀ k, b'.S k → w'.heap[k]? = w.heap[k]?) → b'.A w') : Inv w0 P w (b' :: L) F :=
 h.step (Agr.refl _ _) b' (fun k hk => ⟨.inl (hS k hk), h.lt b List.mem_cons_self k (hS k hk)⟩) hA
theorem off (h : Inv w0 P w L F) {g : Grp} : Inv w0 P w (gif false g :: L) F :=
 h.push (Below.refl _ _) _ (fun _ h => by cases h.1) (fun _ _ h => by cases h)
theorem cellsEq {g : Nat} {t : TypeId} {cs cs' : Array Value} (h : Inv w0 P w (blk g t cs :: L) F) (e : cs' = cs) : Inv w0 P w (blk g t cs' :: L) F := e ▸ h
theorem perm_set {L : List Grp} {i : Nat} {x : Grp} (y : Grp) (hx : L[i]? = some x) : (L.set i y).Perm (y :: L.eraseIdx i) := by
 have hl := (List.getElem?_eq_some_iff.1 hx).1
 have h1 : (L.set i y)[i]? = some y := by simp [hl]
 have h2 := perm_erase (L.set i y) i y h1
 rw [List.eraseIdx_set_eq] at h2
 exact h2
theorem fill (c : Bool) {g : Grp} (h : Inv w0 P w (g :: L) F) (i : Nat) (hi : Nat.ble (i + 1) L.length = true) : Inv w0 P w (L.set i (gif c g)) F := by
 have hl : i < L.length := Nat.le_of_ble_eq_true hi
 have hx : L[i]? = some L[i] := List.getElem?_eq_getElem hl
 have h1 := h.perm ((perm_erase L i L[i] hx).cons g)
 have h2 := h1.swap.drop
 have h3 := h2.head (gif c g) (fun k hk => hk.2) (fun w' hw hc => h2.own g List.mem_cons_self w' (fun k hk => hw k ⟨hc, hk⟩))
 exact h3.perm (perm_set _ hx).symm
theorem take {c : Bool} {g : Grp} (h : Inv w0 P w L F) (i : Nat) (hx : L[i]? = some (gif c g)) (hc : c = true) : Inv w0 P w (g :: L.set i (gif false g)) F := by
 subst hc
 have h1 := h.perm (perm_erase L i _ hx)
 have h2 := h1.head g (fun k hk => ⟨rfl, hk⟩) (fun w' hw => h1.own _ List.mem_cons_self w' (fun k hk => hw k hk.2) rfl)
 exact (h2.off (g := g)).perm ((List.Perm.swap _ _ _).trans ((perm_set _ hx).symm.cons g))
theorem at_ (h : Inv w0 P w L F) (b : Grp) (hb : b ∈ L) : b.A w := h.own b hb w (fun _ _ => rfl)
theorem ownOther {W : World} {T : Nat → Prop} {a : Grp} (h : Inv w0 P w (a :: L) F) (ha : Agr w W T) (hT : ∀ k, T k → a.S k) (b : Grp) (hb : b ∈ L) : b.A W :=
 h.own b (List.mem_cons_of_mem _ hb) W (fun k hk => ha.block k (h.lt b (List.mem_cons_of_mem _ hb) k hk) (fun ht => (List.pairwise_cons.1 h.dis).1 b hb k (hT k ht) hk))
theorem allocBox (h : Inv w0 P w L F) (t : TypeId) (cs : Array Value) : Inv w0 P (w.alloc (.cells cs t)) (blk w.heap.size t cs :: L) F := h.box rfl (show (w.heap.push (.cells cs t))[w.heap.size]? = _ from Array.getElem?_push_size) (below_alloc (Below.refl _ _) _)
theorem nil0 (h : Inv w0 P w L F) : Inv w0 P w (⟨fun _ => False, fun _ => True⟩ :: L) F := h.push (Below.refl _ _) _ (fun _ h => h.elim) (fun _ _ => trivial)
theorem lose {b : Grp} (h : Inv w0 P w (b :: L) F) (hA : Agr w w1 b.S) : Inv w0 P w1 L F := (h.step hA ⟨fun _ => False, fun _ => True⟩ (fun _ h => h.elim) (fun _ _ => trivial)).drop
theorem rowAt {α : Type} {d : Kd α} {e b : Nat} {v : Value} {xs : List α} {S : Nat → Prop} (h : Inv w0 P w L F) (hb : row d e b v xs S ∈ L) : d.R e w b S v xs := h.at_ _ hb
end Inv
theorem Agr.of_kept {w0 w w1 : World} {S T : Nat → Prop} (hk : Kept w w1 S) (hb : Below w0.heap.size w0 w) (hb' : Below w0.heap.size w0 w1) (hT : ∀ k, S k → T k) : Agr w w1 T :=
 ⟨hb'.os.trans hb.os.symm, hb'.tape.trans hb.tape.symm, hb'.output.trans hb.output.symm, hk.1, fun k hlt hn => hk.2 k hlt (fun hs => hn (hT k hs))⟩
end Go.Proofs.YtokljkneflejdaaDoor.PT
end
section
/- Rows of rows that are read, what a state's function leaves, results of several forms. -/
namespace Go.Proofs.YtokljkneflejdaaDoor.PT
open Go Go.RowKit Go.Proofs.YtokljkneflejdaaDoorW.PrintWords Go.Proofs.YtokljkneflejdaaDoorW.PrintLast Go.Proofs.YtokljkneflejdaaDoorW.PrintMore
set_option linter.unusedVariables false
set_option linter.unusedSimpArgs false
theorem rows_get {α : Type} {d : Kd α} {e : Nat} {w : World} {S : Nat → Prop} {A : Option Addr} {n : Nat} {xs : List (List α)} (h : ∀ W', Agr w W' S → (Kd.slice e d).C W' A n xs) (i : Nat) (hi : i < n) :
  ∃ ad B c, A = some ad ∧ (xs.getD i []).length ≤ c ∧ ∀ W', Agr w W' S → (W'.cell? (ad.add i) = some (.slice B (xs.getD i []).length c) ∧ d.C W' B (xs.getD i []).length (xs.getD i [])) := by
 have at_ : ∀ W', Agr w W' S → ∃ ad B c, A = some ad ∧ W'.cell? (ad.add i) = some (.slice B (xs.getD i []).length c) ∧ (xs.getD i []).length ≤ c ∧ d.C W' B (xs.getD i []).length (xs.getD i []) := by
  intro W' hW
  obtain ⟨ad, c, e, _, hK, hc0⟩ := Kd.C_get (h W' hW) ([] : List α) (i : Int) (by omega) (by omega)
  have hc : ∀ j u, c[j]? = some u → W'.cell? (ad.add ((i : Int).toNat * 1 + j)) = some u := hc0
  rw [Int.toNat_natCast] at hc hK
  obtain ⟨B, cc, rfl, hl, hC⟩ := hK
  exact ⟨ad, B, cc, e, (by have := hc 0 _ rfl; simpa using this), hl, hC⟩
 obtain ⟨ad, B, c, rfl, hc, hl, hC⟩ := at_ w (Agr.refl _ _)
 have hS : ¬ S ad.block := fun hs => by
  obtain ⟨ad', B', c', e1, hc', _⟩ := at_ { w with heap := w.heap.setIfInBounds ad.block (.cells #[] 0 (0, 0)) } ⟨rfl, rfl, rfl, by simp, fun k hk hn => by
   have hne : ad.block ≠ k := fun e => hn (e ▸ hs)
   simp [Array.getElem?_setIfInBounds, hne]⟩
  injection e1 with e1
  subst e1
  have hlt := World.block_lt_of_cell? w _ hc
  rw [add_block] at hlt
  simp [World.cell?, add_block, Array.getElem?_setIfInBounds, hlt] at hc'
 refine ⟨ad, B, c, rfl, hl, fun W' hW => ?_⟩
 have hc2 := hW.cell hc (by rw [add_block]; exact hS)
 obtain ⟨ad', B', c', e1, hc', _, hC'⟩ := at_ W' hW
 injection e1 with e1
 subst e1
 rw [hc2] at hc'
 injection hc' with hc'
 injection hc' with e2 _ _
 subst e2
 exact ⟨hc2, hC'⟩
namespace Inv
variable {w0 w w' wb : World} {P : Nat → Prop} {F : World → Prop} {L L' : List Grp} {g : Nat} {t : TypeId} {cs cs' : Array Value}
theorem addF (h : Inv w0 P w L F) (G : World → Prop) (hG : ∀ w', Agr w w' (InL L) → G w') : Inv w0 P w L (fun W => G W ∧ F W) := ⟨h.agr, h.lt, h.new, h.own, h.dis, fun w' hw => ⟨hG w' hw, h.facts w' hw⟩⟩
theorem subL (h : Inv w0 P w L F) (hs : L'.Sublist L) : Inv w0 P w L' F :=
 ⟨h.agr, fun b hb => h.lt b (hs.subset hb), fun b hb => h.new b (hs.subset hb), fun b hb => h.own b (hs.subset hb), h.dis.sublist hs, fun w' hw => h.facts w' (hw.mono (fun k ⟨b, hb, hk⟩ => ⟨b, hs.subset hb, hk⟩))⟩
theorem keep0 (h : Inv w0 P w (blk g t cs :: L) F) (hb : Below wb.heap.size wb w) (hb' : Below wb.heap.size wb w') (hk : KeepBut w w' g none) (hblk : w'.heap[g]? = some (.cells cs' t (0, 0))) : Inv w0 P w' (blk g t cs' :: L) F :=
 h.step (Agr.of_keep hk hb hb') (blk g t cs') (fun k hk2 => ⟨.inl hk2, (by obtain rfl : k = g := hk2; exact blk_lt hblk)⟩) (fun w2 hw => (hw g rfl).trans hblk)
theorem factsKeep0 (h : Inv w0 P w (blk g t cs :: L) F) (hk : KeepBut w w' g none) : F { w with heap := w'.heap } :=
 h.facts _ ⟨rfl, rfl, rfl, hk.1, fun k hlt hn => hk.2 k hlt (fun e => hn ⟨_, List.mem_cons_self, e⟩) (by simp)⟩
theorem keepRow0 {α : Type} {d : Kd α} {e : Nat} {v : Value} {xs : List α} {ok : Nat → Prop} (h : Inv w0 P w (blk g t cs :: L) F) (hb : Below wb.heap.size wb w) (hb' : Below wb.heap.size wb w') (hk : KeepBut w w' g none) (hblk : w'.heap[g]? = some (.cells cs' t (0, 0))) (hR : d.R e w' w.heap.size ok v xs) :
  Inv w0 P w' (row d e w0.heap.size v xs (fun k => w.heap.size ≤ k ∧ k < w'.heap.size) :: blk g t cs' :: L) F := by
 have h1 := h.keep0 hb hb' hk hblk
 have hA : Agr w w' (fun k => k = g) := Agr.of_keep hk hb hb'
 have hlt : ∀ c, c ∈ blk g t cs' :: L → ∀ k, c.S k → k < w.heap.size := fun c hc k hk2 => by
  rcases List.mem_cons.1 hc with rfl | hc
  ·
   exact h.lt (blk g t cs) List.mem_cons_self k hk2
  ·
   exact h.lt c (List.mem_cons_of_mem _ hc) k hk2
 have hR2 : d.R e w' w0.heap.size (fun k => w.heap.size ≤ k ∧ k < w'.heap.size) v xs := Kd.R_lower (Kd.R_mono (Kd.R_bound hR) (fun k hk => ⟨hk.2.1, hk.2.2.1⟩)) h.agr.size
 refine ⟨h1.agr, fun c hc k hk2 => ?_, fun c hc k hk2 => ?_, fun c hc w2 hw => ?_, List.Pairwise.cons (fun c hc k hk2 hk3 => absurd (hlt c hc k hk3) (Nat.not_lt.2 hk2.1)) h1.dis, fun w2 hw => h.facts w2 ((hA.mono (fun k hk2 => ⟨blk g t cs, List.mem_cons_self, hk2⟩)).trans hw (fun i hi => ?_))⟩
 ·
  rcases List.mem_cons.1 hc with rfl | hc
  ·
   exact hk2.2
  ·
   exact h1.lt c hc k hk2
 ·
  rcases List.mem_cons.1 hc with rfl | hc
  ·
   exact .inl (Nat.le_trans h.agr.size hk2.1)
  ·
   exact h1.new c hc k hk2
 ·
  rcases List.mem_cons.1 hc with rfl | hc
  ·
   exact Kd.R_step hR2 (fun k hk2 _ => hw k hk2)
  ·
   exact h1.own c hc w2 hw
 ·
  obtain ⟨c, hc, hk2⟩ := hi
  rcases List.mem_cons.1 hc with rfl | hc
  ·
   exact .inr hk2.1
  ·
   rcases List.mem_cons.1 hc with rfl | hc
   ·
    exact .inl ⟨blk g t cs, List.mem_cons_self, hk2⟩
   ·
    exact .inl ⟨c, List.mem_cons_of_mem _ hc, hk2⟩
theorem disj {a b : Grp} (h : Inv w0 P w L F) (i j : Nat) (hij : i < j) (hi : L[i]? = some a) (hj : L[j]? = some b) : ∀ k, a.S k → ¬ b.S k := by
 obtain ⟨h1, rfl⟩ := List.getElem?_eq_some_iff.1 hi
 obtain ⟨h2, rfl⟩ := List.getElem?_eq_some_iff.1 hj
 exact List.pairwise_iff_getElem.1 h.dis i j h1 h2 hij
end Inv
theorem results_tct {P : Program} {fn : Func} {p u v : Tmp} {ty : TypeId} (h : fn.results = #[.tmp u, .cell p ty, .tmp v]) (tmps : Array Value) (w : World) (g : Nat) (t : TypeId) (cs : Array Value) (fr : Nat × Nat) (d : TypeDesc)
  (hp : tmps.getD p undef = .pointer (some ⟨g, 0, none⟩)) (hg : w.heap[g]? = some (.cells cs t fr))
  (hu : P.underlying ty = some d) (hd : (match d with | .struct _ | .array _ _ => true | _ => false) = true) (hi : (P.info? ty).map (·.size) = some cs.size) :
  (results fn tmps).run P w = .ok (.tuple #[tmps.getD u undef, .agg cs, tmps.getD v undef]) w := by
 have hp' : tmps[p]?.getD undef = .pointer (some ⟨g, 0, none⟩) := by simpa using hp
 simp [results, h, hp', asAddr, run_loadVar_row w g t ty cs fr d hg hu hd hi]
theorem results_tcct {P : Program} {fn : Func} {p p' u v : Tmp} {ty ty' : TypeId} (h : fn.results = #[.tmp u, .cell p ty, .cell p' ty', .tmp v]) (tmps : Array Value) (w : World) (g g' : Nat) (t t' : TypeId) (cs cs' : Array Value) (fr fr' : Nat × Nat) (d d' : TypeDesc)
  (hp : tmps.getD p undef = .pointer (some ⟨g, 0, none⟩)) (hg : w.heap[g]? = some (.cells cs t fr))
  (hu : P.underlying ty = some d) (hd : (match d with | .struct _ | .array _ _ => true | _ => false) = true) (hi : (P.info? ty).map (·.size) = some cs.size)
  (hp2 : tmps.getD p' undef = .pointer (some ⟨g', 0, none⟩)) (hg2 : w.heap[g']? = some (.cells cs' t' fr'))
  (hu2 : P.underlying ty' = some d') (hd2 : (match d' with | .struct _ | .array _ _ => true | _ => false) = true) (hi2 : (P.info? ty').map (·.size) = some cs'.size) :
  (results fn tmps).run P w = .ok (.tuple #[tmps.getD u undef, .agg cs, .agg cs', tmps.getD v undef]) w := by
 have hp' : tmps[p]?.getD undef = .pointer (some ⟨g, 0, none⟩) := by simpa using hp
 have hp2' : tmps[p']?.getD undef = .pointer (some ⟨g', 0, none⟩) := by simpa using hp2
 simp [results, h, hp', hp2', asAddr, run_loadVar_row w g t ty cs fr d hg hu hd hi, run_loadVar_row w g' t' ty' cs' fr' d' hg2 hu2 hd2 hi2]
theorem drop_getD_ {α : Type} (l : List α) (j : Nat) (z : α) (h : j < l.length) : l.drop j = l.getD j z :: l.drop (j + 1) := by
 rw [List.drop_eq_getElem_cons h]
 simp [List.getD, h]
end Go.Proofs.YtokljkneflejdaaDoor.PT
end
section
/- Contracts of Go's library, laid from the kit's shelf for this program. -/
namespace Go.Proofs
open Go.Shelf
def Tryd.laysM171_ren : Go.Shelf.Ren := ⟨fun | 171 => 16 | 243 => 31 | 246 => 43 | 283 => 48 | 284 => 49 | 285 => 50 | 286 => 51 | 129 => 59 | 317 => 58 | 318 => 60 | 319 => 61 | 320 => 62 | 337 => 73 | 338 => 74 | n => n, fun | 3 => 3 | 9 => 9 | 2 => 2 | 4 => 4 | 171 => 73 | 0 => 0 | 53 => 74 | 37 => 22 | 5 => 5 | 173 => 77 | 212 => 82 | 51 => 83 | 20 => 20 | 213 => 84 | 46 => 85 | 232 => 105 | 233 => 106 | n => n, fun | 17 => 0 | 18 => 4 | 19 => 5 | n => n⟩
theorem Tryd.laysM171 : Go.Proofs.LaysM.n171 Tryd.prog Tryd.laysM171_ren := {
 mixed := by kernel_rfl
 f129 := Tryd.func59.trans (congrArg some (by kernel_rfl))
 f171 := Tryd.func16.trans (congrArg some (by kernel_rfl))
 f243 := Tryd.func31.trans (congrArg some (by kernel_rfl))
 f246 := Tryd.func43.trans (congrArg some (by kernel_rfl))
 f283 := Tryd.func48.trans (congrArg some (by kernel_rfl))
 f284 := Tryd.func49.trans (congrArg some (by kernel_rfl))
 f285 := Tryd.func50.trans (congrArg some (by kernel_rfl))
 f286 := Tryd.func51.trans (congrArg some (by kernel_rfl))
 f317 := Tryd.func58.trans (congrArg some (by kernel_rfl))
 f318 := Tryd.func60.trans (congrArg some (by kernel_rfl))
 f319 := Tryd.func61.trans (congrArg some (by kernel_rfl))
 f320 := Tryd.func62.trans (congrArg some (by kernel_rfl))
 f337 := Tryd.func73.trans (congrArg some (by kernel_rfl))
 f338 := Tryd.func74.trans (congrArg some (by kernel_rfl))
 t0 := Tryd.underlying0
 a0 := Tryd.isAgg0
 z0 := Tryd.sizeOf0
 v0 := Tryd.zeroValue0
 t2 := Tryd.underlying2
 a2 := Tryd.isAgg2
 z2 := Tryd.sizeOf2
 v2 := Tryd.zeroValue2
 t3 := Tryd.underlying3
 a3 := Tryd.isAgg3
 z3 := Tryd.sizeOf3
 v3 := Tryd.zeroValue3
 t4 := Tryd.underlying4
 a4 := Tryd.isAgg4
 z4 := Tryd.sizeOf4
 v4 := Tryd.zeroValue4
 t5 := Tryd.underlying5
 a5 := Tryd.isAgg5
 z5 := Tryd.sizeOf5
 v5 := Tryd.zeroValue5
 t9 := Tryd.underlying9
 a9 := Tryd.isAgg9
 z9 := Tryd.sizeOf9
 v9 := Tryd.zeroValue9
 t20 := Tryd.underlying20
 a20 := Tryd.isAgg20
 z20 := Tryd.sizeOf20
 v20 := Tryd.zeroValue20
 t37 := Tryd.underlying22
 a37 := Tryd.isAgg22
 z37 := Tryd.sizeOf22
 v37 := Tryd.zeroValue22
 t46 := Tryd.underlying85
 a46 := Tryd.isAgg85
 z46 := Tryd.sizeOf85
 v46 := Tryd.zeroValue85
 t51 := Tryd.underlying83
 a51 := Tryd.isAgg83
 z51 := Tryd.sizeOf83
 v51 := Tryd.zeroValue83
 t53 := Tryd.underlying74
 a53 := Tryd.isAgg74
 z53 := Tryd.sizeOf74
 v53 := Tryd.zeroValue74
 t171 := Tryd.underlying73
 a171 := Tryd.isAgg73
 z171 := Tryd.sizeOf73
 v171 := Tryd.zeroValue73
 t173 := Tryd.underlying77
 a173 := Tryd.isAgg77
 z173 := Tryd.sizeOf77
 v173 := Tryd.zeroValue77
 t212 := Tryd.underlying82
 a212 := Tryd.isAgg82
 z212 := Tryd.sizeOf82
 v212 := Tryd.zeroValue82
 t213 := Tryd.underlying84
 a213 := Tryd.isAgg84
 z213 := Tryd.sizeOf84
 t232 := Tryd.underlying105
 a232 := Tryd.isAgg105
 z232 := Tryd.sizeOf105
 v232 := Tryd.zeroValue105
 t233 := Tryd.underlying106
 a233 := Tryd.isAgg106
 z233 := Tryd.sizeOf106
 v233 := Tryd.zeroValue106
 g17 := by kernel_rfl
 g18 := by kernel_rfl
 g19 := by kernel_rfl
 i0 := by kernel_rfl
 i2 := by kernel_rfl
 i3 := by kernel_rfl
 i4 := by kernel_rfl
 i5 := by kernel_rfl
 i9 := by kernel_rfl
 i20 := by kernel_rfl
 i37 := by kernel_rfl
 i46 := by kernel_rfl
 i51 := by kernel_rfl
 i53 := by kernel_rfl
 i171 := by kernel_rfl
 i173 := by kernel_rfl
 i212 := by kernel_rfl
 i232 := by kernel_rfl
 i233 := by kernel_rfl
 m17 := by kernel_rfl
 m18 := by kernel_rfl
 m19 := by kernel_rfl }
open Go.RowKit Go.Sort Go.Lib in
theorem Tryd.strconv_Itoa (n : Int) (h0 : -9223372036854775808 ≤ n) (h1 : n ≤ 9223372036854775807) (w : World) (htab : Lib.TabIs Tryd.prog w "internal/strconv.uint64pow10" .u64 Lib.pow10Tab) :
  Calls Tryd.prog 16 #[.int .i64 n] w fun e w' => e = .returned (.string ⟨(Lib.itoa n).toArray⟩) ∧ ∃ k os, w' = grow (w.drewN k) os := Any.strconv_Itoa Tryd.laysM171 n h0 h1 w htab
def Tryd.laysC172_ren : Go.Shelf.Ren := ⟨fun | 172 => 44 | 244 => 52 | 245 => 53 | 247 => 63 | 279 => 64 | 280 => 65 | 281 => 66 | 282 => 67 | 287 => 75 | 316 => 76 | 171 => 16 | 205 => 77 | 321 => 83 | 322 => 84 | 243 => 31 | 246 => 43 | 283 => 48 | 284 => 49 | 285 => 50 | 286 => 51 | 129 => 59 | 317 => 58 | 318 => 60 | 319 => 61 | 320 => 62 | 337 => 73 | 338 => 74 | n => n, fun | 9 => 9 | 3 => 3 | 75 => 67 | 76 => 68 | 4 => 4 | 5 => 5 | 167 => 87 | 37 => 22 | 0 => 0 | 85 => 88 | 2 => 2 | 168 => 90 | 53 => 74 | 175 => 99 | 46 => 85 | 210 => 103 | 127 => 108 | 145 => 111 | 143 => 109 | 21 => 21 | 171 => 73 | 173 => 77 | 212 => 82 | 51 => 83 | 20 => 20 | 213 => 84 | 232 => 105 | 233 => 106 | 80 => 118 | n => n, fun | 15 => 1 | 16 => 2 | 17 => 0 | 18 => 4 | 19 => 5 | n => n⟩
theorem Tryd.laysC172 : Go.Proofs.LaysC.n172 Tryd.prog Tryd.laysC172_ren := {
 mixed := by kernel_rfl
 f129 := Tryd.func59.trans (congrArg some (by kernel_rfl))
 f171 := Tryd.func16.trans (congrArg some (by kernel_rfl))
 f172 := Tryd.func44.trans (congrArg some (by kernel_rfl))
 f205 := Tryd.func77.trans (congrArg some (by kernel_rfl))
 f243 := Tryd.func31.trans (congrArg some (by kernel_rfl))
 f244 := Tryd.func52.trans (congrArg some (by kernel_rfl))
 f245 := Tryd.func53.trans (congrArg some (by kernel_rfl))
 f246 := Tryd.func43.trans (congrArg some (by kernel_rfl))
 f247 := Tryd.func63.trans (congrArg some (by kernel_rfl))
 f279 := Tryd.func64.trans (congrArg some (by kernel_rfl))
 f280 := Tryd.func65.trans (congrArg some (by kernel_rfl))
 f281 := Tryd.func66.trans (congrArg some (by kernel_rfl))
 f282 := Tryd.func67.trans (congrArg some (by kernel_rfl))
 f283 := Tryd.func48.trans (congrArg some (by kernel_rfl))
 f284 := Tryd.func49.trans (congrArg some (by kernel_rfl))
 f285 := Tryd.func50.trans (congrArg some (by kernel_rfl))
 f286 := Tryd.func51.trans (congrArg some (by kernel_rfl))
 f287 := Tryd.func75.trans (congrArg some (by kernel_rfl))
 f316 := Tryd.func76.trans (congrArg some (by kernel_rfl))
 f317 := Tryd.func58.trans (congrArg some (by kernel_rfl))
 f318 := Tryd.func60.trans (congrArg some (by kernel_rfl))
 f319 := Tryd.func61.trans (congrArg some (by kernel_rfl))
 f320 := Tryd.func62.trans (congrArg some (by kernel_rfl))
 f321 := Tryd.func83.trans (congrArg some (by kernel_rfl))
 f322 := Tryd.func84.trans (congrArg some (by kernel_rfl))
 f337 := Tryd.func73.trans (congrArg some (by kernel_rfl))
 f338 := Tryd.func74.trans (congrArg some (by kernel_rfl))
 t0 := Tryd.underlying0
 a0 := Tryd.isAgg0
 z0 := Tryd.sizeOf0
 v0 := Tryd.zeroValue0
 t2 := Tryd.underlying2
 a2 := Tryd.isAgg2
 z2 := Tryd.sizeOf2
 v2 := Tryd.zeroValue2
 t3 := Tryd.underlying3
 a3 := Tryd.isAgg3
 z3 := Tryd.sizeOf3
 v3 := Tryd.zeroValue3
 t4 := Tryd.underlying4
 a4 := Tryd.isAgg4
 z4 := Tryd.sizeOf4
 v4 := Tryd.zeroValue4
 t5 := Tryd.underlying5
 a5 := Tryd.isAgg5
 z5 := Tryd.sizeOf5
 v5 := Tryd.zeroValue5
 t9 := Tryd.underlying9
 a9 := Tryd.isAgg9
 z9 := Tryd.sizeOf9
 v9 := Tryd.zeroValue9
 t20 := Tryd.underlying20
 a20 := Tryd.isAgg20
 z20 := Tryd.sizeOf20
 v20 := Tryd.zeroValue20
 t21 := Tryd.underlying21
 a21 := Tryd.isAgg21
 z21 := Tryd.sizeOf21
 v21 := Tryd.zeroValue21
 t37 := Tryd.underlying22
 a37 := Tryd.isAgg22
 z37 := Tryd.sizeOf22
 v37 := Tryd.zeroValue22
 t46 := Tryd.underlying85
 a46 := Tryd.isAgg85
 z46 := Tryd.sizeOf85
 v46 := Tryd.zeroValue85
 t51 := Tryd.underlying83
 a51 := Tryd.isAgg83
 z51 := Tryd.sizeOf83
 v51 := Tryd.zeroValue83
 t53 := Tryd.underlying74
 a53 := Tryd.isAgg74
 z53 := Tryd.sizeOf74
 v53 := Tryd.zeroValue74
 t75 := Tryd.underlying67
 a75 := Tryd.isAgg67
 z75 := Tryd.sizeOf67
 v75 := Tryd.zeroValue67
 t76 := Tryd.underlying68
 a76 := Tryd.isAgg68
 z76 := Tryd.sizeOf68
 v76 := Tryd.zeroValue68
 t85 := Tryd.underlying88
 a85 := Tryd.isAgg88
 z85 := Tryd.sizeOf88
 v85 := Tryd.zeroValue88
 t127 := Tryd.underlying108
 a127 := Tryd.isAgg108
 z127 := Tryd.sizeOf108
 v127 := Tryd.zeroValue108
 t143 := Tryd.underlying109
 a143 := Tryd.isAgg109
 z143 := Tryd.sizeOf109
 v143 := Tryd.zeroValue109
 t145 := Tryd.underlying111
 a145 := Tryd.isAgg111
 z145 := Tryd.sizeOf111
 v145 := Tryd.zeroValue111
 t167 := Tryd.underlying87
 a167 := Tryd.isAgg87
 z167 := Tryd.sizeOf87
 v167 := Tryd.zeroValue87
 t168 := Tryd.underlying90
 a168 := Tryd.isAgg90
 z168 := Tryd.sizeOf90
 v168 := Tryd.zeroValue90
 t171 := Tryd.underlying73
 a171 := Tryd.isAgg73
 z171 := Tryd.sizeOf73
 v171 := Tryd.zeroValue73
 t173 := Tryd.underlying77
 a173 := Tryd.isAgg77
 z173 := Tryd.sizeOf77
 v173 := Tryd.zeroValue77
 t175 := Tryd.underlying99
 a175 := Tryd.isAgg99
 z175 := Tryd.sizeOf99
 v175 := Tryd.zeroValue99
 t210 := Tryd.underlying103
 a210 := Tryd.isAgg103
 z210 := Tryd.sizeOf103
 v210 := Tryd.zeroValue103
 t212 := Tryd.underlying82
 a212 := Tryd.isAgg82
 z212 := Tryd.sizeOf82
 v212 := Tryd.zeroValue82
 t213 := Tryd.underlying84
 a213 := Tryd.isAgg84
 z213 := Tryd.sizeOf84
 t232 := Tryd.underlying105
 a232 := Tryd.isAgg105
 z232 := Tryd.sizeOf105
 v232 := Tryd.zeroValue105
 t233 := Tryd.underlying106
 a233 := Tryd.isAgg106
 z233 := Tryd.sizeOf106
 v233 := Tryd.zeroValue106
 g15 := by kernel_rfl
 g16 := by kernel_rfl
 g17 := by kernel_rfl
 g18 := by kernel_rfl
 g19 := by kernel_rfl
 t80 := Tryd.underlying118
 a80 := Tryd.isAgg118
 z80 := Tryd.sizeOf118
 v80 := Tryd.zeroValue118
 i0 := by kernel_rfl
 i2 := by kernel_rfl
 i3 := by kernel_rfl
 i4 := by kernel_rfl
 i5 := by kernel_rfl
 i9 := by kernel_rfl
 i20 := by kernel_rfl
 i21 := by kernel_rfl
 i37 := by kernel_rfl
 i46 := by kernel_rfl
 i51 := by kernel_rfl
 i53 := by kernel_rfl
 i75 := by kernel_rfl
 i76 := by kernel_rfl
 i80 := by kernel_rfl
 i85 := by kernel_rfl
 i127 := by kernel_rfl
 i143 := by kernel_rfl
 i145 := by kernel_rfl
 i167 := by kernel_rfl
 i168 := by kernel_rfl
 i171 := by kernel_rfl
 i173 := by kernel_rfl
 i175 := by kernel_rfl
 i210 := by kernel_rfl
 i212 := by kernel_rfl
 i232 := by kernel_rfl
 i233 := by kernel_rfl
 m15 := by kernel_rfl
 m16 := by kernel_rfl
 m17 := by kernel_rfl
 m18 := by kernel_rfl
 m19 := by kernel_rfl
 c0 := by kernel_rfl
 c2 := by kernel_rfl
 c3 := by kernel_rfl
 c4 := by kernel_rfl
 c5 := by kernel_rfl
 c9 := by kernel_rfl
 c20 := by kernel_rfl
 c21 := by kernel_rfl
 c37 := by kernel_rfl
 c46 := by kernel_rfl
 c51 := by kernel_rfl
 c53 := by kernel_rfl
 c75 := by kernel_rfl
 c76 := by kernel_rfl
 c80 := by kernel_rfl
 c85 := by kernel_rfl
 c127 := by kernel_rfl
 c143 := by kernel_rfl
 c145 := by kernel_rfl
 c167 := by kernel_rfl
 c168 := by kernel_rfl
 c171 := by kernel_rfl
 c173 := by kernel_rfl
 c175 := by kernel_rfl
 c210 := by kernel_rfl
 c212 := by kernel_rfl
 c213 := by kernel_rfl
 c232 := by kernel_rfl
 c233 := by kernel_rfl }
open Go.RowKit in
theorem Tryd.strconv_Atoi_ok (s : ByteArray) (hmax : s.size ≤ 9223372036854775806) (v : Int) (h : Lib.atoiAll s.data.toList = .ok v) (w : World) :
  Calls Tryd.prog 44 #[.string s] w fun e w' => e = .returned (.tuple #[.int .i64 v, .nilIface]) ∧ (w' = w ∨ ∃ t, w' = Lib.bytesWorld w 5 t) := Any.strconv_Atoi_ok Tryd.laysC172 s hmax v h w
open Go.RowKit in
theorem Tryd.strconv_Atoi_range (s : ByteArray) (hlim : s.size ≤ 281474976710656) (h : Lib.atoiAll s.data.toList = .range) (ev : Value) (w : World) (hv : w.cell? ⟨2, 0, none⟩ = some ev) (hev : ev = .nilIface ∨ ∃ te pe, ev = .iface te pe) :
  Calls Tryd.prog 44 #[.string s] w fun e w' => ∃ N, e = .returned (.tuple #[.int .i64 (Lib.atoiSat s.data.toList), .iface 90 (.pointer (some ⟨N, 0, none⟩))]) ∧ w.heap.size ≤ N ∧ w'.heap[N]? = some (.cells #[.string ⟨#[65, 116, 111, 105]⟩, .string s, ev] 103 (0, 0)) ∧ Below w.heap.size w w' := Any.strconv_Atoi_range Tryd.laysC172 s hlim h ev w hv hev
open Go.RowKit in
theorem Tryd.strconv_Atoi_syn (s : ByteArray) (hlim : s.size ≤ 281474976710656) (h : Lib.atoiAll s.data.toList = Lib.atoiAll []) (tp : TypeId) (p : Value) (w : World) (hvar : w.var? Tryd.prog "strconv.ErrSyntax" = some #[.iface tp p]) :
  Calls Tryd.prog 44 #[.string s] w fun e w' => ∃ N, e = .returned (.tuple #[.int .i64 0, .iface 90 (.pointer (some ⟨N, 0, none⟩))]) ∧ w.heap.size ≤ N ∧ w'.heap[N]? = some (.cells #[.string ⟨#[65, 116, 111, 105]⟩, .string s, .iface tp p] 103 (0, 0)) ∧ Below w.heap.size w w' := Any.strconv_Atoi_syntax_var Tryd.laysC172 s hlim h tp p w hvar
open Go.RowKit in
theorem Tryd.strconv_Atoi_range_var (s : ByteArray) (hlim : s.size ≤ 281474976710656) (h : Lib.atoiAll s.data.toList = .range) (tp : TypeId) (p : Value) (w : World) (hvar : w.var? Tryd.prog "strconv.ErrRange" = some #[.iface tp p]) :
  Calls Tryd.prog 44 #[.string s] w fun e w' => ∃ N, e = .returned (.tuple #[.int .i64 (Lib.atoiSat s.data.toList), .iface 90 (.pointer (some ⟨N, 0, none⟩))]) ∧ w.heap.size ≤ N ∧ w'.heap[N]? = some (.cells #[.string ⟨#[65, 116, 111, 105]⟩, .string s, .iface tp p] 103 (0, 0)) ∧ Below w.heap.size w w' := Any.strconv_Atoi_range_var Tryd.laysC172 s hlim h tp p w hvar
def Tryd.lays101_ren : Go.Shelf.Ren := ⟨fun | 101 => 45 | 208 => 54 | 206 => 68 | n => n, fun | 9 => 9 | 4 => 4 | 3 => 3 | n => n, fun | n => n⟩
theorem Tryd.lays101 : Go.Proofs.Lays.n101 Tryd.prog Tryd.lays101_ren := {
 mixed := by kernel_rfl
 f101 := Tryd.func45.trans (congrArg some (by kernel_rfl))
 f206 := Tryd.func68.trans (congrArg some (by kernel_rfl))
 f208 := Tryd.func54.trans (congrArg some (by kernel_rfl))
 t3 := Tryd.underlying3
 a3 := Tryd.isAgg3
 z3 := Tryd.sizeOf3
 v3 := Tryd.zeroValue3
 t4 := Tryd.underlying4
 a4 := Tryd.isAgg4
 z4 := Tryd.sizeOf4
 v4 := Tryd.zeroValue4
 t9 := Tryd.underlying9
 a9 := Tryd.isAgg9
 z9 := Tryd.sizeOf9
 v9 := Tryd.zeroValue9 }
open Go.RowKit Go.Lib in
theorem Tryd.strings_TrimPrefix (s p : ByteArray) (w : World) :
  Calls Tryd.prog 45 #[.string s, .string p] w fun e w' => e = .returned (.string ⟨(Lib.trimPrefix s.data.toList p.data.toList).toArray⟩) ∧ w' = w := Any.strings_TrimPrefix Tryd.lays101 s p w
def Tryd.lays146_ren : Go.Shelf.Ren := ⟨fun | 146 => 37 | 221 => 47 | 268 => 55 | 138 => 56 | 143 => 57 | 195 => 69 | 197 => 70 | 218 => 71 | 219 => 72 | 260 => 78 | 217 => 79 | 225 => 80 | 224 => 81 | 267 => 82 | 266 => 85 | 314 => 86 | n => n, fun | 9 => 9 | 31 => 40 | 3 => 3 | 4 => 4 | 0 => 0 | 105 => 95 | 21 => 21 | 5 => 5 | 46 => 85 | 119 => 112 | 139 => 115 | 138 => 114 | 146 => 116 | 51 => 83 | n => n, fun | 1 => 3 | 3 => 6 | 4 => 7 | n => n⟩
theorem Tryd.lays146 : Go.Proofs.Lays.n146 Tryd.prog Tryd.lays146_ren := {
 mixed := by kernel_rfl
 f138 := Tryd.func56.trans (congrArg some (by kernel_rfl))
 f143 := Tryd.func57.trans (congrArg some (by kernel_rfl))
 f146 := Tryd.func37.trans (congrArg some (by kernel_rfl))
 f195 := Tryd.func69.trans (congrArg some (by kernel_rfl))
 f197 := Tryd.func70.trans (congrArg some (by kernel_rfl))
 f217 := Tryd.func79.trans (congrArg some (by kernel_rfl))
 f218 := Tryd.func71.trans (congrArg some (by kernel_rfl))
 f219 := Tryd.func72.trans (congrArg some (by kernel_rfl))
 f221 := Tryd.func47.trans (congrArg some (by kernel_rfl))
 f224 := Tryd.func81.trans (congrArg some (by kernel_rfl))
 f225 := Tryd.func80.trans (congrArg some (by kernel_rfl))
 f260 := Tryd.func78.trans (congrArg some (by kernel_rfl))
 f266 := Tryd.func85.trans (congrArg some (by kernel_rfl))
 f267 := Tryd.func82.trans (congrArg some (by kernel_rfl))
 f268 := Tryd.func55.trans (congrArg some (by kernel_rfl))
 f314 := Tryd.func86.trans (congrArg some (by kernel_rfl))
 t0 := Tryd.underlying0
 a0 := Tryd.isAgg0
 z0 := Tryd.sizeOf0
 v0 := Tryd.zeroValue0
 t3 := Tryd.underlying3
 a3 := Tryd.isAgg3
 z3 := Tryd.sizeOf3
 v3 := Tryd.zeroValue3
 t4 := Tryd.underlying4
 a4 := Tryd.isAgg4
 z4 := Tryd.sizeOf4
 v4 := Tryd.zeroValue4
 t5 := Tryd.underlying5
 a5 := Tryd.isAgg5
 z5 := Tryd.sizeOf5
 v5 := Tryd.zeroValue5
 t9 := Tryd.underlying9
 a9 := Tryd.isAgg9
 z9 := Tryd.sizeOf9
 v9 := Tryd.zeroValue9
 t21 := Tryd.underlying21
 a21 := Tryd.isAgg21
 z21 := Tryd.sizeOf21
 v21 := Tryd.zeroValue21
 t31 := Tryd.underlying40
 a31 := Tryd.isAgg40
 z31 := Tryd.sizeOf40
 v31 := Tryd.zeroValue40
 t46 := Tryd.underlying85
 a46 := Tryd.isAgg85
 z46 := Tryd.sizeOf85
 v46 := Tryd.zeroValue85
 t51 := Tryd.underlying83
 a51 := Tryd.isAgg83
 z51 := Tryd.sizeOf83
 v51 := Tryd.zeroValue83
 t105 := Tryd.underlying95
 a105 := Tryd.isAgg95
 z105 := Tryd.sizeOf95
 v105 := Tryd.zeroValue95
 t119 := Tryd.underlying112
 a119 := Tryd.isAgg112
 z119 := Tryd.sizeOf112
 t138 := Tryd.underlying114
 a138 := Tryd.isAgg114
 z138 := Tryd.sizeOf114
 v138 := Tryd.zeroValue114
 t139 := Tryd.underlying115
 a139 := Tryd.isAgg115
 z139 := Tryd.sizeOf115
 v139 := Tryd.zeroValue115
 t146 := Tryd.underlying116
 a146 := Tryd.isAgg116
 z146 := Tryd.sizeOf116
 v146 := Tryd.zeroValue116
 g1 := by kernel_rfl
 g3 := by kernel_rfl
 g4 := by kernel_rfl }
open Go.RowKit Go.Lib in
theorem Tryd.strings_Split (s sep : ByteArray) (m : Int) (w : World) (hs : s.size < 4294967281) (hm : w.cell? ⟨3, 0, none⟩ = some (.int .i64 m)) (h1 : 1 ≤ sep.size) :
  Calls Tryd.prog 37 #[.string s, .string sep] w fun e w' =>
   e = .returned (.slice (some ⟨w.heap.size, 0, none⟩) (Lib.countB s sep + 1) (Lib.countB s sep + 1)) ∧ w' = w.alloc (.cells ((Lib.splitB sep 0 (Lib.countB s sep) s).map Value.string).toArray 9) := Any.strings_Split Tryd.lays146 (by kernel_rfl) s sep m w hs hm h1
def Tryd.laysSlH10_f36_ren : Go.Shelf.Ren := ⟨fun | 10 => 36 | 6 => 46 | n => n, fun | 22 => 40 | 23 => 9 | 25 => 35 | 3 => 3 | 4 => 4 | 0 => 0 | n => n, fun | n => n⟩
theorem Tryd.laysSlH10_f36 : Go.Proofs.SlLaysH.n10 Tryd.prog Tryd.laysSlH10_f36_ren := {
 mixed := by kernel_rfl
 f6 := ⟨Tryd.f46.name, (by decide), Tryd.func46.trans (congrArg some (by kernel_rfl))⟩
 f10 := ⟨Tryd.f36.name, (by decide), Tryd.func36.trans (congrArg some (by kernel_rfl))⟩
 t0 := Tryd.underlying0
 a0 := Tryd.isAgg0
 z0 := Tryd.sizeOf0
 v0 := Tryd.zeroValue0
 t3 := Tryd.underlying3
 a3 := Tryd.isAgg3
 z3 := Tryd.sizeOf3
 v3 := Tryd.zeroValue3
 t4 := Tryd.underlying4
 a4 := Tryd.isAgg4
 z4 := Tryd.sizeOf4
 v4 := Tryd.zeroValue4
 t22 := Tryd.underlying40
 a22 := Tryd.isAgg40
 z22 := Tryd.sizeOf40
 v22 := Tryd.zeroValue40
 a23 := Tryd.isAgg9
 z23 := Tryd.sizeOf9
 t25 := Tryd.underlying35
 a25 := Tryd.isAgg35
 z25 := Tryd.sizeOf35
 v25 := Tryd.zeroValue35 }
open Go.RowKit Go.Lib Go.Sort in
theorem Tryd.slices_DeleteFunc {α : Type} [Inhabited α] (enc : α → Value) (hO : OneCell enc) (p : α → Bool) (g : Nat) (lb : Array Value) (eg : ∀ args w, (callFunc g args).run Tryd.prog w = .ok (.enter g args) w) (zr : α) (v23 : ∀ w, (zeroValue 9).run Tryd.prog w = .ok (enc zr) w) (blk off cap : Nat) (d : Array α) (w : World) (hp : PredAt Tryd.prog g lb enc p w) (hpo : PredOver Tryd.prog g lb enc p blk off d.size w) (hH : Holds enc w blk off d) (hsz : d.size ≤ 9223372036854775807) (hcap : d.size ≤ cap) :
  Calls Tryd.prog 36 #[.slice (some ⟨blk, off, none⟩) d.size cap, .func (.func g) #[] lb] w fun e w' => e = .returned (.slice (some ⟨blk, off, none⟩) (d.toList.filter fun x => !p x).length cap) ∧ ∃ q, w' = putRow enc (Sort.ahead w q) blk off ((d.toList.filter fun x => !p x) ++ List.replicate (d.size - (d.toList.filter fun x => !p x).length) zr).toArray := AnyE.slices_DeleteFunc Tryd.laysSlH10_f36 enc hO p g lb eg zr v23 blk off cap d w hp hpo hH hsz hcap
end Go.Proofs
end
