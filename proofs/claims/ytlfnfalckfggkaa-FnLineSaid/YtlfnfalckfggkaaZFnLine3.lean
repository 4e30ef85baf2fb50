/- Part 3 of the proof of FnLine: what functions compute, shown step by step, and what that says (the claim's last text states the law). -/
import Derived.Test.YtlfnfalckfggkaaProg
import Derived.Test.YtlfnfalckfggkaaVMore
import Derived.Test.YtlfnfalckfggkaaVWords
import Derived.Test.YtlfnfalckfggkaaVLast
import Derived.Test.YtlfnfalckfggkaaVTab
import Derived.Test.YtlfnfalckfggkaaVQPut
import Derived.Test.YtlfnfalckfggkaaVApart
import Derived.Test.YtlfnfalckfggkaaVArr
import Derived.Test.YtlfnfalckfggkaaVZeros
import Derived.Test.YtlfnfalckfggkaaVFoot
import Derived.Test.YtlfnfalckfggkaaVKept
import Derived.Test.YtlfnfalckfggkaaVShare
import Derived.Test.YtlfnfalckfggkaaVN
import Derived.Test.YtlfnfalckfggkaaVEqStruct
import Derived.Test.YtlfnfalckfggkaaVRepsOne
import Derived.Test.YtlfnfalckfggkaaVGuard
import Derived.Test.YtlfnfalckfggkaaVNEv
import Derived.Test.YtlfnfalckfggkaaRows
import Derived.JoinedOf
import Derived.WalkKit
import Derived.ProofKit
import Derived.Below
import Derived.Deep.Draws
import Derived.Deep.AppendLies
import Derived.Maps.AppendAt
import Derived.OwnWalk
import Derived.Laws.BytesArg
import Derived.Laws.MakeOwn
import Derived.Laws.OwnMore
import Derived.Deep.OwnRows
import Derived.Tactics
import Derived.Lib.ConvBytes
import Derived.Laws.Slices
import Derived.KernelRfl
import Derived.RowKit3
import Derived.Deep.LoopGhost
import Derived.Deep.QuietTactic
import Derived.BigQuiet
import Derived.WideLaws
import Derived.Deep.DeepCutAuto
import Derived.Deep.CutBlock
import Derived.Deep.RegionHeld3
import Derived.Laws.Rows
import Derived.Lib.AppendStr
import Derived.ArgAppend
import Derived.Laws.IdiomCopy
import Derived.OrdersHeld
import Derived.Laws.BitsLemmas
import Derived.RowKit
import Derived.StillTailTactics
import Derived.RangeFuncNested
import Derived.RangeFuncBound
import Derived.RangeFuncCalls
import Derived.RangeFuncLeaves
import Derived.Shelf.Abstract
import Derived.Shelf.RegionOpen
import Derived.OwnWalkIn
import Derived.TacticsInMore
import Derived.LoopNIn
import Derived.LoopIn
import Derived.OpenShut
import Derived.ShutString
import Derived.ChangeOld
import Derived.SizedLaws
import Derived.Deep.Slices
import Derived.ChangeArms
import Derived.Test.YtlfnfalckfggkaaZFnLine2
section
/- Arguments that are read as data have the kinds' own form: for each kind, compositionally. Own text, for every seat (Ytlfnfalckfggkaa: the seat's name). -/
namespace Go.Proofs.YtlfnfalckfggkaaO
open Go.RowKit Go.ChangeShapes Go.WideShapes Go.ChangeAt Go.Proofs.YtlfnfalckfggkaaW.PrintWords

/-- What is read as data of type T is of the kind d, and good. -/
def Opens {α : Type} {H : Type} (enc : TypeId × Value → H) (P : Program) (w : World) (T : TypeId) (d : Kd α) (good : α → Prop) : Prop :=
  ∀ (fuel : Nat) (cs : List Value) (x : DataW H × List MemPlace), DataW.trod enc P w 0 (fun _ => true) true fuel T cs = some x → ∃ a, d.K w a cs ∧ good a

/-- What is read as a run of fields of these types (each with its cells) is of the kind d, and good. -/
def OpensSeq {α : Type} {H : Type} (enc : TypeId × Value → H) (P : Program) (w : World) (fs : List (TypeId × Nat)) (d : Kd α) (good : α → Prop) : Prop :=
  ∀ (fuel : Nat) (cs : List Value), cs.length = (fs.map (·.2)).sum → (∀ (j : Nat) (T n : Nat), fs[j]? = some (T, n) → ∃ x, DataW.trod enc P w 0 (fun _ => true) true fuel T ((cs.drop ((fs.take j).map (·.2)).sum).take n) = some x) → ∃ a, d.K w a cs ∧ good a

section
variable {H : Type} {enc : TypeId × Value → H} {P : Program} {w : World}

def IntGood (k : IntKind) (a : Int) : Prop := (Lit.int k a).wf = true
def StrGood (a : ByteArray) : Prop := a.size ≤ 9223372036854775807
def ListGood {α : Type} (g : α → Prop) (l : List α) : Prop := l.length ≤ 9223372036854775807 ∧ ∀ x ∈ l, g x

theorem opens_int {T : TypeId} {k : IntKind} (ht : P.underlying T = some (.int k)) : Opens enc P w T (Kd.int k) (IntGood k) := by
  intro fuel cs x h
  obtain ⟨n, rfl, _, hw⟩ := DataW.trod_int ht h
  exact ⟨n, rfl, hw⟩
theorem opens_bool {T : TypeId} (ht : P.underlying T = some .bool) : Opens enc P w T Kd.bool (fun _ => True) := by
  intro fuel cs x h
  obtain ⟨n, rfl, _⟩ := DataW.trod_bool ht h
  exact ⟨n, rfl, trivial⟩
theorem opens_string {T : TypeId} (ht : P.underlying T = some .string) : Opens enc P w T Kd.string StrGood := by
  intro fuel cs x h
  obtain ⟨s, rfl, _, hs⟩ := DataW.trod_string ht h
  exact ⟨s, rfl, by unfold StrGood; unfold maxLen at hs; omega⟩

theorem choose_list {α : Type} {n : Nat} {p : Nat → α → Prop} (h : ∀ i, i < n → ∃ a, p i a) : ∃ l : List α, l.length = n ∧ ∀ i a, l[i]? = some a → p i a := by
  induction n with
  | zero => exact ⟨[], rfl, fun i a hi => by simp at hi⟩
  | succ n ih =>
    obtain ⟨l, hl, hp⟩ := ih (fun i hi => h i (by omega))
    obtain ⟨a, ha⟩ := h n (by omega)
    refine ⟨l ++ [a], by simp [hl], fun i b hi => ?_⟩
    rcases Nat.lt_or_ge i l.length with hlt | hge
    · rw [List.getElem?_append_left hlt] at hi
      exact hp i b hi
    · rw [List.getElem?_append_right hge] at hi
      have : i - l.length = 0 := by
        rcases Nat.eq_zero_or_pos (i - l.length) with h0 | h0
        · exact h0
        · rw [List.getElem?_eq_none (by simp; omega)] at hi; simp at hi
      rw [this] at hi
      simp at hi
      subst hi
      have : i = n := by omega
      rw [this]
      exact ha

theorem opens_slice {α : Type} {d : Kd α} {good : α → Prop} {T e : TypeId} (ht : P.underlying T = some (.slice e)) (hc : P.cellsOf e = d.sz) (ho : Opens enc P w e d good) : Opens enc P w T (Kd.slice e d) (ListGood good) := by
  intro fuel cs x h
  rcases Deep.open_slice ht h with ⟨rfl, _⟩ | ⟨a, len, cap, m, n, D, Pl, rfl, _, hl, hm, hmm, _, hx⟩
  · exact ⟨[], ⟨none, 0, rfl, Nat.le_refl _, ⟨rfl, by simp, fun h0 => by simp at h0⟩⟩, ⟨by simp, fun x hx => by simp at hx⟩⟩
  · have hle : len ≤ m := by rw [hmm]; split <;> omega
    have hex : ∀ i, i < len → ∃ b : α, (∃ c, c.length = d.sz ∧ d.K w b c ∧ ∀ j u, c[j]? = some u → w.cell? (a.add (i * d.sz + j)) = some u) ∧ good b := by
      intro i hi
      obtain ⟨cs', h1, h2⟩ := hx i (by omega)
      obtain ⟨b, hK, hg⟩ := ho _ _ _ h2
      obtain ⟨_, hlen, hcell⟩ := World.cells?_some h1
      refine ⟨b, ⟨cs', by rw [hlen, hc], hK, fun j u hu => ?_⟩, hg⟩
      have hj : j < P.cellsOf e := by
        rw [← hlen]
        exact (List.getElem?_eq_some_iff.1 hu).1
      rw [← Deep.add_add, ← hc, hcell j hj, hu]
    obtain ⟨l, hll, hp⟩ := choose_list hex
    unfold maxLen at hm
    refine ⟨l, ⟨some a, cap, by rw [hll], by omega, ⟨rfl, by omega, fun _ => ⟨a, rfl, fun j p hj => (hp j p hj).1⟩⟩⟩, ⟨by omega, fun x hx => ?_⟩⟩
    obtain ⟨i, hi, rfl⟩ := List.getElem_of_mem hx
    exact (hp i _ (List.getElem?_eq_getElem hi)).2

theorem opensSeq_one {α : Type} {d : Kd α} {good : α → Prop} {T n : Nat} (ho : Opens enc P w T d good) : OpensSeq enc P w [(T, n)] d good := by
  intro fuel cs hlen h
  obtain ⟨x, hx⟩ := h 0 T n rfl
  simp at hlen
  simp [List.take_of_length_le (Nat.le_of_eq hlen)] at hx
  exact ho _ _ _ hx
theorem opensSeq_cons {α β : Type} {d : Kd α} {good : α → Prop} {d2 : Kd β} {good2 : β → Prop} {T n : Nat} {fs : List (TypeId × Nat)} (ho : Opens enc P w T d good) (hs : OpensSeq enc P w fs d2 good2) :
    OpensSeq enc P w ((T, n) :: fs) (Kd.pair d d2) (fun x => good x.1 ∧ good2 x.2) := by
  intro fuel cs hlen h
  obtain ⟨x, hx⟩ := h 0 T n rfl
  simp at hx
  obtain ⟨a, hK, hg⟩ := ho _ _ _ hx
  simp only [List.map_cons, List.sum_cons] at hlen
  obtain ⟨b, hK2, hg2⟩ := hs fuel (cs.drop n) (by rw [List.length_drop, hlen]; omega) (fun j T' n' hj => by
    obtain ⟨y, hy⟩ := h (j + 1) T' n' (by simpa using hj)
    refine ⟨y, ?_⟩
    simp only [List.take_succ_cons, List.map_cons, List.sum_cons] at hy
    rw [List.drop_drop]
    exact hy)
  exact ⟨(a, b), ⟨cs.take n, cs.drop n, (List.take_append_drop n cs).symm, hK, hK2⟩, hg, hg2⟩

/-- A struct whose fields stand one behind the other. -/
theorem opens_struct {α β : Type} {d : Kd α} {good : α → Prop} {T : TypeId} {fs : Array Field} {l : List (TypeId × Nat)} (f : β → α) (g : α → β) (hfg : ∀ a, f (g a) = a) (ht : P.underlying T = some (.struct fs))
    (hl : l.length = fs.size) (hf : ∀ (j : Nat) (T' n : Nat), l[j]? = some (T', n) → ∃ fd, fs[j]? = some fd ∧ fd.type = T' ∧ P.cellsOf T' = n ∧ fd.offset = ((l.take j).map (·.2)).sum) (hc : P.cellsOf T = (l.map (·.2)).sum)
    (hs : OpensSeq enc P w l d good) : Opens enc P w T (Kd.iso d f) (fun x => good (f x)) := by
  intro fuel cs x h
  obtain ⟨xs, n, _, _, hlen, hxl, hx⟩ := DataW.trod_struct ht h
  obtain ⟨a, hK, hg⟩ := hs n cs (by rw [hlen, hc]) (fun j T' n' hj => by
    obtain ⟨fd, h1, h2, h3, h4⟩ := hf j T' n' hj
    have h5 := hx j fd h1
    have hj2 : j < xs.length := by
      have := (List.getElem?_eq_some_iff.1 hj).1
      omega
    rw [List.getElem?_eq_getElem hj2, h2, h3, h4] at h5
    exact ⟨_, h5⟩)
  refine ⟨g a, ?_, ?_⟩
  · show d.K w (f (g a)) cs
    rw [hfg]; exact hK
  · show good (f (g a))
    rw [hfg]; exact hg
end
end Go.Proofs.YtlfnfalckfggkaaO
end
section
namespace Go.Proofs.Ytlfnfalckfggkaa.fnLine
open Go.RowKit Go.ChangeShapes Go.WideShapes Go.ChangeAt Go.Proofs.YtlfnfalckfggkaaO Go.Proofs.Ytlfnfalckfggkaa.PT Go.Proofs.YtlfnfalckfggkaaW.PrintWords Go.Proofs.YtlfnfalckfggkaaW.PrintLast
set_option linter.unusedVariables false
theorem opensT5 {H : Type} {enc : TypeId × Value → H} {w : World} : Opens enc Try.prog w 5 (Kd.int .u8) (IntGood .u8) := opens_int Try.underlying5
theorem opensT40 {H : Type} {enc : TypeId × Value → H} {w : World} : Opens enc Try.prog w 40 (Kd.slice 5 (Kd.int .u8)) (ListGood (IntGood .u8)) := opens_slice Try.underlying40 (by kernel_rfl) opensT5
/-- What is to be shown of the law, over numbers and lists alone. -/
def Pure : Prop := ∀ (x0 : List Int) (x1 : List Int), (ListGood (IntGood .u8)) x0 → (ListGood (IntGood .u8)) x1 → ∃ k, laws_FnLine.f k x0 x1 = some true
end Go.Proofs.Ytlfnfalckfggkaa.fnLine
end
section
/- The field and the greater field, over whole numbers: what the printed functions of chapters 2 and 3 come to. -/
namespace Go.Proofs.Ytlfnfalckfggkaa.PT
open Go.RowKit Go.Proofs.YtlfnfalckfggkaaW.PrintWords Go.Proofs.YtlfnfalckfggkaaW.PrintLast Go.Proofs.YtlfnfalckfggkaaW.PrintMore
set_option linter.unusedVariables false
set_option linter.unusedSimpArgs false

abbrev E := S42
abbrev LE := S51
theorem rdE (l : List E) (i : Int) : rd_T42 l i = l.getD i.toNat z42 := rfl
abbrev zE : E := z42
instance : DecidableEq S42 := fun x y => decidable_of_iff (x.f0 = y.f0 ∧ x.f1 = y.f1) ⟨fun h => by cases x; cases y; simp_all, fun h => by rw [h]; exact ⟨rfl, rfl⟩⟩
theorem E.ext_ {x y : E} (h0 : x.f0 = y.f0) (h1 : x.f1 = y.f1) : x = y := by cases x; cases y; simp_all
theorem LE.ext_ {x y : LE} (h0 : x.f0 = y.f0) (h1 : x.f1 = y.f1) : x = y := by cases x; cases y; simp_all

theorem w64 {n : Int} (h0 : -9223372036854775808 ≤ n) (h1 : n ≤ 9223372036854775807) : wrap64 n = n := by unfold wrap64; omega
theorem tmod_nn {a b : Int} (h : 0 ≤ a) : Int.tmod a b = a % b := Int.tmod_eq_emod_of_nonneg h
theorem tdiv_nn {a b : Int} (h : 0 ≤ a) : Int.tdiv a b = a / b := Int.tdiv_eq_ediv_of_nonneg h

def inF (a : Int) : Prop := 0 ≤ a ∧ a ≤ 2130706432
instance (a : Int) : Decidable (inF a) := by unfold inF; infer_instance
def fadd (a b : Int) : Int := (a + b) % 2130706433
def fsub (a b : Int) : Int := (a - b) % 2130706433
def fmul (a b : Int) : Int := (a * b) % 2130706433
theorem inF_add (a b : Int) : inF (fadd a b) := by unfold inF fadd; omega
theorem inF_sub (a b : Int) : inF (fsub a b) := by unfold inF fsub; omega
theorem inF_mul (a b : Int) : inF (fmul a b) := by unfold inF fmul; omega
theorem mul_bd {a b : Int} (ha : inF a) (hb : inF b) : 0 ≤ a * b ∧ a * b ≤ 4539909903617114624 := by
  obtain ⟨h1, h2⟩ := ha
  obtain ⟨h3, h4⟩ := hb
  refine ⟨Int.mul_nonneg h1 h3, Int.le_trans (Int.mul_le_mul h2 h4 h3 (by omega)) (by decide)⟩
theorem inF_0 : inF 0 := by decide
theorem inF_1 : inF 1 := by decide
theorem inF_3 : inF 3 := by decide

structure okE (x : E) : Prop where
  a : inF x.f0
  b : inF x.f1
def eadd (x y : E) : E := ⟨fadd x.f0 y.f0, fadd x.f1 y.f1⟩
def esub (x y : E) : E := ⟨fsub x.f0 y.f0, fsub x.f1 y.f1⟩
def emul (x y : E) : E := ⟨fadd (fmul x.f0 y.f0) (fmul 3 (fmul x.f1 y.f1)), fadd (fmul x.f0 y.f1) (fmul x.f1 y.f0)⟩
def eof (n : Int) : E := ⟨n, 0⟩
def escale (x : E) (n : Int) : E := ⟨fmul x.f0 n, fmul x.f1 n⟩
theorem ok_add (x y : E) : okE (eadd x y) := ⟨inF_add _ _, inF_add _ _⟩
theorem ok_sub (x y : E) : okE (esub x y) := ⟨inF_sub _ _, inF_sub _ _⟩
theorem ok_mul (x y : E) : okE (emul x y) := ⟨inF_add _ _, inF_add _ _⟩
theorem ok_scale (x : E) (n : Int) : okE (escale x n) := ⟨inF_mul _ _, inF_mul _ _⟩
theorem ok_of {n : Int} (h : inF n) : okE (eof n) := ⟨h, inF_0⟩
theorem ok_zero : okE zE := ⟨inF_0, inF_0⟩
theorem fmul_comm (a b : Int) : fmul a b = fmul b a := by unfold fmul; rw [Int.mul_comm]
theorem fadd_zero {a : Int} (h : inF a) : fadd a 0 = a := by unfold fadd inF at *; omega
theorem fmul_zero (a : Int) : fmul a 0 = 0 := by simp [fmul]
theorem fmul_one {a : Int} (h : inF a) : fmul a 1 = a := by unfold fmul inF at *; omega
/-- A product with a number of the field is a scaling. -/
theorem emul_of (x : E) (n : Int) : emul x (eof n) = escale x n := by
  refine E.ext_ ?_ ?_
  · show fadd (fmul x.f0 n) (fmul 3 (fmul x.f1 0)) = fmul x.f0 n
    rw [fmul_zero, fmul_zero, fadd_zero (inF_mul _ _)]
  · show fadd (fmul x.f0 0) (fmul x.f1 n) = fmul x.f1 n
    rw [fmul_zero]; unfold fadd; have := inF_mul x.f1 n; unfold inF at this; omega
end Go.Proofs.Ytlfnfalckfggkaa.PT
end
section
/- What the printed functions of the field and of the greater field answer: the same sums and products on both sides. -/
namespace Go.Proofs.Ytlfnfalckfggkaa.PT
open Go.RowKit Go.Proofs.YtlfnfalckfggkaaW.PrintWords Go.Proofs.YtlfnfalckfggkaaW.PrintLast Go.Proofs.YtlfnfalckfggkaaW.PrintMore
set_option linter.unusedVariables false
set_option linter.unusedSimpArgs false

theorem impl_in_eq (a b c : Int) : impl_in.f a b c = some (decide (b ≤ a ∧ a ≤ c)) := by
  unfold impl_in.f; by_cases h : b ≤ a <;> simp [h]
theorem spec_l01In_eq (a b c : Int) : spec_l01In.f a b c = some (decide (b ≤ a ∧ a ≤ c)) := by
  unfold spec_l01In.f; by_cases h : b ≤ a <;> simp [h]
theorem impl_FieldOK_eq (a : Int) : impl_FieldOK.f a = some (decide (inF a)) := by
  unfold impl_FieldOK.f; rw [impl_in_eq]; rfl
theorem spec_FieldOK_eq (a : Int) : spec_FieldOK.f a = some (decide (inF a)) := by
  unfold spec_FieldOK.f; rw [spec_l01In_eq]; rfl
def okB (x : E) : Bool := decide (inF x.f0) && decide (inF x.f1)
theorem okB_iff (x : E) : okB x = true ↔ okE x := by
  unfold okB; rw [Bool.and_eq_true, decide_eq_true_eq, decide_eq_true_eq]; exact ⟨fun h => ⟨h.1, h.2⟩, fun h => ⟨h.a, h.b⟩⟩
theorem impl_ExtOK_eq (a b : Int) : impl_ExtOK.f a b = some (okB ⟨a, b⟩) := by
  unfold impl_ExtOK.f okB; rw [impl_FieldOK_eq, impl_FieldOK_eq]
  by_cases h : inF a <;> simp [h]
theorem spec_ExtOK_eq (a b : Int) : spec_ExtOK.f a b = some (okB ⟨a, b⟩) := by
  unfold spec_ExtOK.f okB; rw [spec_FieldOK_eq, spec_FieldOK_eq]
  by_cases h : inF a <;> simp [h]
theorem impl_add_eq {a b : Int} (ha : inF a) (hb : inF b) : impl_add.f a b = some (fadd a b) := by
  unfold inF at ha hb; unfold impl_add.f fadd; rw [w64 (by omega) (by omega), tmod_nn (by omega)]
theorem spec_l01Add_eq {a b : Int} (ha : inF a) (hb : inF b) : spec_l01Add.f a b = some (fadd a b) := by
  unfold inF at ha hb; unfold spec_l01Add.f fadd; rw [w64 (by omega) (by omega), tmod_nn (by omega)]
theorem impl_sub_eq {a b : Int} (ha : inF a) (hb : inF b) : impl_sub.f a b = some (fsub a b) := by
  unfold inF at ha hb; unfold impl_sub.f fsub; rw [w64 (n := a - b) (by omega) (by omega), w64 (by omega) (by omega), tmod_nn (by omega)]
  congr 1; omega
theorem spec_l01Sub_eq {a b : Int} (ha : inF a) (hb : inF b) : spec_l01Sub.f a b = some (fsub a b) := by
  unfold inF at ha hb; unfold spec_l01Sub.f fsub; rw [w64 (n := a + _) (by omega) (by omega), w64 (by omega) (by omega), tmod_nn (by omega)]
  congr 1; omega
theorem impl_mul_eq {a b : Int} (ha : inF a) (hb : inF b) : impl_mul.f a b = some (fmul a b) := by
  have := mul_bd ha hb
  unfold impl_mul.f fmul; rw [w64 (by omega) (by omega), tmod_nn (by omega)]
theorem spec_l01Mul_eq {a b : Int} (ha : inF a) (hb : inF b) : spec_l01Mul.f a b = some (fmul a b) := by
  have := mul_bd ha hb
  unfold spec_l01Mul.f fmul; rw [w64 (by omega) (by omega), tmod_nn (by omega)]
theorem impl_plus_eq {x y : E} (hx : okE x) (hy : okE y) : impl_Ext_plus.f x.f0 x.f1 y.f0 y.f1 = some ((eadd x y).f0, (eadd x y).f1) := by
  unfold impl_Ext_plus.f; rw [impl_add_eq hx.a hy.a, impl_add_eq hx.b hy.b]; rfl
theorem impl_minus_eq {x y : E} (hx : okE x) (hy : okE y) : impl_Ext_minus.f x.f0 x.f1 y.f0 y.f1 = some ((esub x y).f0, (esub x y).f1) := by
  unfold impl_Ext_minus.f; rw [impl_sub_eq hx.a hy.a, impl_sub_eq hx.b hy.b]; rfl
theorem impl_times_eq {x y : E} (hx : okE x) (hy : okE y) : impl_Ext_times.f x.f0 x.f1 y.f0 y.f1 = some ((emul x y).f0, (emul x y).f1) := by
  unfold impl_Ext_times.f
  simp only [impl_mul_eq hx.a hy.a, impl_mul_eq hx.b hy.b, impl_mul_eq hx.a hy.b, impl_mul_eq hx.b hy.a, impl_mul_eq inF_3 (inF_mul _ _), impl_add_eq (inF_mul _ _) (inF_mul _ _), Option.bind_some]
  rfl
theorem impl_scaled_eq {x : E} {n : Int} (hx : okE x) (hn : inF n) : impl_Ext_scaled.f x.f0 x.f1 n = some ((escale x n).f0, (escale x n).f1) := by
  unfold impl_Ext_scaled.f; rw [impl_mul_eq hx.a hn, impl_mul_eq hx.b hn]; rfl
theorem spec_l02Add_eq {x y : E} (hx : okE x) (hy : okE y) : spec_l02Add.f x.f0 x.f1 y.f0 y.f1 = some ((eadd x y).f0, (eadd x y).f1) := by
  unfold spec_l02Add.f; rw [spec_l01Add_eq hx.a hy.a, spec_l01Add_eq hx.b hy.b]; rfl
theorem spec_l02Sub_eq {x y : E} (hx : okE x) (hy : okE y) : spec_l02Sub.f x.f0 x.f1 y.f0 y.f1 = some ((esub x y).f0, (esub x y).f1) := by
  unfold spec_l02Sub.f; rw [spec_l01Sub_eq hx.a hy.a, spec_l01Sub_eq hx.b hy.b]; rfl
theorem spec_l02Mul_eq {x y : E} (hx : okE x) (hy : okE y) : spec_l02Mul.f x.f0 x.f1 y.f0 y.f1 = some ((emul x y).f0, (emul x y).f1) := by
  unfold spec_l02Mul.f
  have h3 : ∀ t, inF t → Int.tmod (wrap64 (3 * t)) 2130706433 = fmul 3 t := by
    intro t ht; unfold inF at ht; unfold fmul; rw [w64 (by omega) (by omega), tmod_nn (by omega)]
  simp only [spec_l01Mul_eq hx.a hy.a, spec_l01Mul_eq hx.b hy.b, spec_l01Mul_eq hx.a hy.b, spec_l01Mul_eq hx.b hy.a, Option.bind_some, h3 _ (inF_mul _ _), spec_l01Add_eq (inF_mul _ _) (inF_mul _ _)]
  rfl
theorem spec_l02Of_eq (n : Int) : spec_l02Of.f n = some ((eof n).f0, (eof n).f1) := rfl
/-! lists -/
def okL (l : List E) : Prop := ∀ x ∈ l, okE x
def okLB (l : List E) : Bool := l.all okB
theorem okLB_iff (l : List E) : okLB l = true ↔ okL l := by
  unfold okLB okL; rw [List.all_eq_true]; exact ⟨fun h x hx => (okB_iff x).1 (h x hx), fun h x hx => (okB_iff x).2 (h x hx)⟩
theorem okL_get {l : List E} (h : okL l) (i : Nat) (hi : i < l.length) : okE (l.getD i zE) := by
  rw [List.getD_eq_getElem?_getD, List.getElem?_eq_getElem hi]; exact h _ (List.getElem_mem hi)
theorem impl_are_eq (l : List E) : impl_are_Ext_ExtOK.f l = some (okLB l) := by
  unfold impl_are_Ext_ExtOK.f okLB
  congr 2; funext x; unfold impl_are_Ext_ExtOK.p; rw [impl_ExtOK_eq]; rfl
theorem spec_l02List_l0 (l : List E) (hl : l.length ≤ 4611686018427387904) (d : Nat) : ∀ (k i : Nat), i + d = l.length → d < k → spec_l02List.l0 k l i = some ((l.drop i).all okB) := by
  induction d with
  | zero =>
    intro k i hi hk
    obtain ⟨k, rfl⟩ : ∃ m, k = m + 1 := ⟨k - 1, by omega⟩
    simp only [spec_l02List.l0]; rw [if_neg (by omega), List.drop_eq_nil_of_le (by omega)]; rfl
  | succ d ih =>
    intro k i hi hk
    obtain ⟨k, rfl⟩ : ∃ m, k = m + 1 := ⟨k - 1, by omega⟩
    have hlt : i < l.length := by omega
    simp only [spec_l02List.l0]
    rw [if_pos (by omega), if_pos (by omega), spec_ExtOK_eq, List.drop_eq_getElem_cons hlt]
    have hg : rd_T42 l (i : Int) = l[i] := by rw [rdE, Int.toNat_natCast, List.getD_eq_getElem?_getD, List.getElem?_eq_getElem hlt]; rfl
    rw [hg]
    simp only [Option.bind_some, List.all_cons]
    by_cases hb : okB l[i] = true
    · have e : okB ⟨(l[i]).f0, (l[i]).f1⟩ = true := hb
      rw [e, if_pos rfl, w64 (by omega) (by omega), show (i : Int) + 1 = ((i + 1 : Nat) : Int) by omega, ih k (i + 1) (by omega) (by omega)]
      rfl
    · replace hb := Bool.eq_false_iff.mpr hb
      have e : okB ⟨(l[i]).f0, (l[i]).f1⟩ = false := hb
      rw [e]; rfl
theorem spec_l02List_eq {l : List E} (hl : l.length ≤ 4611686018427387904) {k : Nat} (hk : l.length < k) : spec_l02List.f k l = some (okLB l) := by
  have := spec_l02List_l0 l hl l.length k 0 (by omega) hk
  unfold spec_l02List.f; exact this
end Go.Proofs.Ytlfnfalckfggkaa.PT
end
section
/- The laws' own helpers: elements copied, compared, marked; and powers of two. -/
namespace Go.Proofs.Ytlfnfalckfggkaa.PT
open Go.RowKit Go.Proofs.YtlfnfalckfggkaaW.PrintWords Go.Proofs.YtlfnfalckfggkaaW.PrintLast Go.Proofs.YtlfnfalckfggkaaW.PrintMore
set_option linter.unusedVariables false
set_option linter.unusedSimpArgs false

def conv (x : LE) : E := ⟨x.f0, x.f1⟩
theorem getD_at {α : Type} {l : List α} {z : α} {i : Nat} (h : i < l.length) : l.getD i z = l[i] := by
  rw [List.getD_eq_getElem?_getD, List.getElem?_eq_getElem h]; rfl
/-! marks: a list's cells are numbered from k on -/
def marked : Nat → Int → List E
  | 0, _ => []
  | n + 1, k => ⟨k, k + 1⟩ :: marked n (k + 2)
/-! powers of two -/
end Go.Proofs.Ytlfnfalckfggkaa.PT
end
section
/- Steps that several laws share: same answers compared, lists turned in place. -/
namespace Go.Proofs.Ytlfnfalckfggkaa.PT
open Go.RowKit Go.Proofs.YtlfnfalckfggkaaW.PrintWords Go.Proofs.YtlfnfalckfggkaaW.PrintLast Go.Proofs.YtlfnfalckfggkaaW.PrintMore
set_option linter.unusedVariables false
set_option linter.unusedSimpArgs false
/-- A step with its answer known, as a rewriting (no unfolding in the kernel). -/
theorem bS {α β : Type} (a : α) (f : α → Option β) : (some a).bind f = f a := Eq.trans (Eq.refl _) (Option.bind_some a f)
theorem okL_rd {l : List E} (h : okL l) {i : Int} (hi : 0 ≤ i) (hl : i < l.length) : okE (rd_T42 l i) := okL_get h i.toNat (by omega)
theorem okL_app {l m : List E} (h : okL l) (h2 : okL m) : okL (l ++ m) := by
  intro y hy
  rcases List.mem_append.mp hy with h1 | h1
  · exact h y h1
  · exact h2 y h1
theorem okL_one {x : E} (hx : okE x) : okL [x] := by intro y hy; rw [List.mem_singleton.mp hy]; exact hx
theorem okL_nil : okL [] := by intro y hy; cases hy
end Go.Proofs.Ytlfnfalckfggkaa.PT
end
section
/- The equality weight, at a point and as a table: both sides walk the same numbers. -/
namespace Go.Proofs.Ytlfnfalckfggkaa.PT
open Go.RowKit Go.Proofs.YtlfnfalckfggkaaW.PrintWords Go.Proofs.YtlfnfalckfggkaaW.PrintLast Go.Proofs.YtlfnfalckfggkaaW.PrintMore
set_option linter.unusedVariables false
set_option linter.unusedSimpArgs false
/-! the table -/
theorem etaE (x : E) : (⟨x.f0, x.f1⟩ : E) = x := rfl
end Go.Proofs.Ytlfnfalckfggkaa.PT
end
section
/- Tables turned in place, folded, and read at a point: both sides walk the same numbers. -/
namespace Go.Proofs.Ytlfnfalckfggkaa.PT
open Go.RowKit Go.Proofs.YtlfnfalckfggkaaW.PrintWords Go.Proofs.YtlfnfalckfggkaaW.PrintLast Go.Proofs.YtlfnfalckfggkaaW.PrintMore
set_option linter.unusedVariables false
set_option linter.unusedSimpArgs false
/-! a table turned in place -/
/-! a table folded -/
/-! a table at a point -/
end Go.Proofs.Ytlfnfalckfggkaa.PT
end
section
/- Powers, inverses and the line: what the printed functions of chapter 2 come to. -/
namespace Go.Proofs.Ytlfnfalckfggkaa.PT
open Go.RowKit Go.Proofs.YtlfnfalckfggkaaW.PrintWords Go.Proofs.YtlfnfalckfggkaaW.PrintLast Go.Proofs.YtlfnfalckfggkaaW.PrintMore
set_option linter.unusedVariables false
set_option linter.unusedSimpArgs false
theorem e_al (a b : Int) : (a % 2130706433 + b) % 2130706433 = (a + b) % 2130706433 := by omega
theorem e_ar (a b : Int) : (a + b % 2130706433) % 2130706433 = (a + b) % 2130706433 := by omega
theorem e_ml (a b : Int) : (a % 2130706433 * b) % 2130706433 = (a * b) % 2130706433 := by rw [Int.mul_emod, Int.emod_emod_of_dvd _ (Int.dvd_refl _), ← Int.mul_emod]
theorem e_mr (a b : Int) : (a * (b % 2130706433)) % 2130706433 = (a * b) % 2130706433 := by rw [Int.mul_emod, Int.emod_emod_of_dvd _ (Int.dvd_refl _), ← Int.mul_emod]
theorem e_pow (a : Int) (n : Nat) : (a % 2130706433) ^ n % 2130706433 = a ^ n % 2130706433 := by
  induction n with
  | zero => rw [Int.pow_zero, Int.pow_zero]
  | succ n ih => rw [Int.pow_succ, Int.pow_succ, e_mr, ← e_ml, ih, e_ml]
theorem pow_sq (a : Int) (m : Nat) : (a * a) ^ m = a ^ (2 * m) := by
  induction m with
  | zero => rw [Nat.mul_zero, Int.pow_zero, Int.pow_zero]
  | succ m ih => rw [Int.pow_succ, ih, show 2 * (m + 1) = 2 * m + 1 + 1 by omega, Int.pow_succ, Int.pow_succ, Int.mul_assoc]
theorem and1 {x : Int} (h0 : 0 ≤ x) (h1 : x ≤ 9223372036854775807) : Go.bits .and .i64 x 1 = x % 2 := by
  have := bits_mask .i64 63 (by decide) (fun n h0 h1 => by
    simp only [IntKind.wrap, IntKind.bits, IntKind.signed]
    simp
    simp at h1
    omega) 1 (by decide) x h0 (by simp; omega)
  simpa using this
def fpow (a : Int) (n : Nat) : Int := a ^ n % 2130706433
theorem inF_pow (a : Int) (n : Nat) : inF (fpow a n) := by unfold inF fpow; omega
theorem fpow_mul (a b : Int) (n : Nat) : fpow (fmul a b) n = fmul (fpow a n) (fpow b n) := by
  unfold fpow fmul
  rw [e_pow, e_ml, e_mr, Int.mul_pow]
theorem fpow_one (n : Nat) : fpow 1 n = 1 := by unfold fpow; rw [Int.one_pow]; rfl
theorem pow_l0 (d : Nat) (hd : d ≤ 62) : ∀ (n : Nat) (a r : Int), n < 2 ^ d → inF a → inF r → ∀ k, d < k →
    impl_pow.l0 k a n r = some (r * a ^ n % 2130706433) ∧ spec_l01Pow.l0 k a n r = some (r * a ^ n % 2130706433) := by
  induction d with
  | zero =>
    intro n a r hn ha hr k hk
    obtain ⟨k, rfl⟩ : ∃ m, k = m + 1 := ⟨k - 1, by omega⟩
    obtain rfl : n = 0 := by simp at hn; exact hn
    simp only [impl_pow.l0, spec_l01Pow.l0]
    have e : r * a ^ 0 % 2130706433 = r := by unfold inF at hr; rw [Int.pow_zero]; omega
    rw [if_neg (by omega), if_neg (by omega), e]; exact ⟨rfl, rfl⟩
  | succ d ih =>
    intro n a r hn ha hr k hk
    obtain ⟨k, rfl⟩ : ∃ m, k = m + 1 := ⟨k - 1, by omega⟩
    simp only [impl_pow.l0, spec_l01Pow.l0]
    by_cases h0 : n = 0
    · subst h0
      have e : r * a ^ 0 % 2130706433 = r := by unfold inF at hr; rw [Int.pow_zero]; omega
      rw [if_neg (by omega), if_neg (by omega), e]; exact ⟨rfl, rfl⟩
    · have hd2 : n < 2 ^ 62 := Nat.lt_of_lt_of_le hn (Nat.pow_le_pow_right (by omega) hd)
      have hn62 : n < 4611686018427387904 := hd2
      have e1 : Go.bits .and .i64 (n : Int) 1 = (n : Int) % 2 := and1 (by omega) (by omega)
      have e2 : Int.tmod (n : Int) 2 = (n : Int) % 2 := tmod_nn (by omega)
      have e3 : wrap64 (Int.tdiv (n : Int) 2) = ((n / 2 : Nat) : Int) := by rw [tdiv_nn (by omega), w64 (by omega) (by omega)]; omega
      have e4 : (n : Int) / 2 = ((n / 2 : Nat) : Int) := by omega
      have hm : n / 2 < 2 ^ d := by rw [Nat.pow_succ] at hn; omega
      have hpos : (n : Int) > 0 := by omega
      rw [e1, e2, e3, e4, if_pos hpos]
      by_cases h1 : (n : Int) % 2 = 1
      · rw [if_pos h1, if_pos hpos, if_pos h1, impl_mul_eq hr ha, spec_l01Mul_eq hr ha, impl_mul_eq ha ha, spec_l01Mul_eq ha ha]
        simp only [bS]
        have hx := ih (by omega) (n / 2) (fmul a a) (fmul r a) hm (inF_mul _ _) (inF_mul _ _) k (by omega)
        have e5 : fmul r a * fmul a a ^ (n / 2) % 2130706433 = r * a ^ n % 2130706433 := by
          unfold fmul
          rw [e_ml, ← e_mr, e_pow, e_mr, pow_sq, Int.mul_assoc, Int.mul_comm a, ← Int.pow_succ, show (2 * (n / 2)).succ = n by omega]
        rw [e5] at hx
        exact hx
      · rw [if_neg h1, if_pos hpos, if_neg h1, impl_mul_eq ha ha, spec_l01Mul_eq ha ha]
        simp only [bS]
        have hx := ih (by omega) (n / 2) (fmul a a) r hm (inF_mul _ _) hr k (by omega)
        have e5 : r * fmul a a ^ (n / 2) % 2130706433 = r * a ^ n % 2130706433 := by
          unfold fmul
          rw [← e_mr, e_pow, e_mr, pow_sq, show 2 * (n / 2) = n by omega]
        rw [e5] at hx
        exact hx
theorem pow_both {a : Int} (ha : inF a) {n : Nat} (hn : n < 2 ^ 40) {k : Nat} (hk : 40 < k) : impl_pow.f k a n = some (fpow a n) ∧ spec_l01Pow.f k a n = some (fpow a n) := by
  have h := pow_l0 40 (by omega) n a 1 hn ha inF_1 k hk
  rw [Int.one_mul] at h
  exact h
def finv (a : Int) : Int := fpow a 2130706431
theorem inF_inv (a : Int) : inF (finv a) := inF_pow _ _
theorem finv_mul (a b : Int) : finv (fmul a b) = fmul (finv a) (finv b) := fpow_mul a b _
theorem finv_one : finv 1 = 1 := fpow_one _
theorem impl_inverse_eq {a : Int} (ha : inF a) {k : Nat} (hk : 40 < k) : impl_inverse.f k a = some (finv a) := by
  unfold impl_inverse.f finv
  have h := (pow_both ha (n := 2130706431) (by decide) hk).1
  rw [show ((2130706431 : Nat) : Int) = 2130706431 from rfl] at h
  rw [h]; rfl
theorem l01Inverse_eq {a : Int} (ha : inF a) {k : Nat} (hk : 40 < k) : spec_l01Inverse.f k a = some (finv a) := by
  unfold spec_l01Inverse.f finv
  have h := (pow_both ha (n := 2130706431) (by decide) hk).2
  rw [show ((2130706431 : Nat) : Int) = 2130706431 from rfl] at h
  rw [h]; rfl
theorem scale_mul (x w : E) (n m : Int) : escale (emul (escale x n) w) m = escale (emul x w) (fmul n m) := by
  refine E.ext_ ?_ ?_
  · show fmul (fadd (fmul (fmul x.f0 n) w.f0) (fmul 3 (fmul (fmul x.f1 n) w.f1))) m = fmul (fadd (fmul x.f0 w.f0) (fmul 3 (fmul x.f1 w.f1))) (fmul n m)
    unfold fmul fadd
    simp only [e_al, e_ar, e_ml, e_mr]
    congr 1; grind
  · show fmul (fadd (fmul (fmul x.f0 n) w.f1) (fmul (fmul x.f1 n) w.f0)) m = fmul (fadd (fmul x.f0 w.f1) (fmul x.f1 w.f0)) (fmul n m)
    unfold fmul fadd
    simp only [e_al, e_ar, e_ml, e_mr]
    congr 1; grind
theorem scale_one {x : E} (hx : okE x) : escale x 1 = x := E.ext_ (fmul_one hx.a) (fmul_one hx.b)
end Go.Proofs.Ytlfnfalckfggkaa.PT
end
section
/- The line through points: both sides come to the same sum. -/
namespace Go.Proofs.Ytlfnfalckfggkaa.PT
open Go.RowKit Go.Proofs.YtlfnfalckfggkaaW.PrintWords Go.Proofs.YtlfnfalckfggkaaW.PrintLast Go.Proofs.YtlfnfalckfggkaaW.PrintMore
set_option linter.unusedVariables false
set_option linter.unusedSimpArgs false
/-- One factor: all points but the own one. -/
def lineN (z : E) (i : Nat) : Nat → Nat → E → Int → E × Int
  | 0, _, x, n => (x, n)
  | d + 1, j, x, n => if j = i then lineN z i d (j + 1) x n else lineN z i d (j + 1) (emul x (esub z (eof j))) (fmul n (fsub i j))
def lineT (y : List E) (z : E) (i : Nat) : E := emul (lineN z i y.length 0 (y.getD i zE) 1).1 (eof (finv (lineN z i y.length 0 (y.getD i zE) 1).2))
theorem specLine_l1 (y : List E) (hy : okL y) (hn : y.length ≤ 8) (z : E) (hz : okE z) (i : Nat) (hi : i < y.length) (acc : E) (hacc : okE acc) (d : Nat) :
    ∀ (k j : Nat) (x : E) (n : Int), j + d = y.length → d + 50 < k → okE x → inF n →
    spec_l06Line.l1 k y i n j z.f0 z.f1 acc.f0 acc.f1 x.f0 x.f1 =
      spec_l06Line.l0 (k - d - 1) y ((i + 1 : Nat) : Int) z.f0 z.f1 (eadd acc (emul (lineN z i d j x n).1 (eof (finv (lineN z i d j x n).2)))).f0 (eadd acc (emul (lineN z i d j x n).1 (eof (finv (lineN z i d j x n).2)))).f1 := by
  induction d with
  | zero =>
    intro k j x n hj hk hx hn'
    obtain ⟨k, rfl⟩ : ∃ m, k = m + 1 := ⟨k - 1, by omega⟩
    simp only [spec_l06Line.l1, lineN]
    rw [if_neg (by omega), l01Inverse_eq hn' (by omega)]
    simp only [bS]
    rw [spec_l02Of_eq]
    simp only [bS]
    rw [spec_l02Mul_eq hx (ok_of (inF_inv _))]
    simp only [bS]
    rw [spec_l02Add_eq hacc (ok_mul _ _)]
    simp only [bS]
    rw [w64 (by omega) (by omega), show (i : Int) + 1 = ((i + 1 : Nat) : Int) by omega]
    rfl
  | succ d ih =>
    intro k j x n hj hk hx hn'
    obtain ⟨k, rfl⟩ : ∃ m, k = m + 1 := ⟨k - 1, by omega⟩
    simp only [spec_l06Line.l1, lineN]
    have hij : inF (i : Int) := by unfold inF; omega
    have hjj : inF (j : Int) := by unfold inF; omega
    have e : k + 1 - (d + 1) - 1 = k - d - 1 := by omega
    rw [if_pos (by omega), w64 (n := (j : Int) + 1) (by omega) (by omega), show (j : Int) + 1 = ((j + 1 : Nat) : Int) by omega, e]
    by_cases h : j = i
    · rw [if_pos (by omega), if_pos h]
      exact ih k (j + 1) x n (by omega) (by omega) hx hn'
    · rw [if_neg (by omega), if_neg h, spec_l02Of_eq]
      simp only [bS]
      rw [spec_l02Sub_eq hz (ok_of hjj)]
      simp only [bS]
      rw [spec_l02Mul_eq hx (ok_sub _ _)]
      simp only [bS]
      rw [spec_l01Sub_eq hij hjj]
      simp only [bS]
      rw [spec_l01Mul_eq hn' (inF_sub _ _)]
      simp only [bS]
      exact ih k (j + 1) _ _ (by omega) (by omega) (ok_mul _ _) (inF_mul _ _)
theorem implLine_l1 (y : List E) (hy : okL y) (hn : y.length ≤ 8) (z : E) (hz : okE z) (i : Nat) (hi : i < y.length) (acc : E) (hacc : okE acc) (d : Nat) :
    ∀ (k j : Nat) (x : E) (n : Int), j + d = y.length → d + 50 < k → okE x → inF n →
    impl_lineAt.l1 k y i y (y.length : Int) i (y.length : Int) j z.f0 z.f1 acc.f0 acc.f1 (escale x (finv n)).f0 (escale x (finv n)).f1 =
      impl_lineAt.l0 (k - d - 1) y y (y.length : Int) ((i + 1 : Nat) : Int) z.f0 z.f1 (eadd acc (emul (lineN z i d j x n).1 (eof (finv (lineN z i d j x n).2)))).f0 (eadd acc (emul (lineN z i d j x n).1 (eof (finv (lineN z i d j x n).2)))).f1 := by
  induction d with
  | zero =>
    intro k j x n hj hk hx hn'
    obtain ⟨k, rfl⟩ : ∃ m, k = m + 1 := ⟨k - 1, by omega⟩
    simp only [impl_lineAt.l1, lineN]
    rw [if_neg (by omega), impl_plus_eq hacc (ok_scale _ _)]
    simp only [bS]
    rw [w64 (by omega) (by omega), show (i : Int) + 1 = ((i + 1 : Nat) : Int) by omega, emul_of]
    rfl
  | succ d ih =>
    intro k j x n hj hk hx hn'
    obtain ⟨k, rfl⟩ : ∃ m, k = m + 1 := ⟨k - 1, by omega⟩
    simp only [impl_lineAt.l1, lineN]
    have hij : inF (i : Int) := by unfold inF; omega
    have hjj : inF (j : Int) := by unfold inF; omega
    have e : k + 1 - (d + 1) - 1 = k - d - 1 := by omega
    rw [if_pos (by omega), w64 (n := (j : Int) + 1) (by omega) (by omega), show (j : Int) + 1 = ((j + 1 : Nat) : Int) by omega, e]
    by_cases h : j = i
    · rw [if_pos (by omega), if_pos h]
      exact ih k (j + 1) x n (by omega) (by omega) hx hn'
    · have hm := impl_minus_eq hz (ok_of hjj)
      have hm' : impl_Ext_minus.f z.f0 z.f1 (j : Int) 0 = some ((esub z (eof j)).f0, (esub z (eof j)).f1) := hm
      rw [if_neg (by omega), if_neg h, hm']
      simp only [bS]
      rw [impl_times_eq (ok_scale _ _) (ok_sub _ _)]
      simp only [bS]
      rw [impl_sub_eq hij hjj]
      simp only [bS]
      rw [impl_inverse_eq (inF_sub _ _) (by omega)]
      simp only [bS]
      rw [impl_scaled_eq (ok_mul _ _) (inF_inv _)]
      simp only [bS]
      rw [scale_mul, ← finv_mul]
      exact ih k (j + 1) _ _ (by omega) (by omega) (ok_mul _ _) (inF_mul _ _)
end Go.Proofs.Ytlfnfalckfggkaa.PT
end
section
/- A table turned is a table turned half by half; turned forth and back it is itself. -/
namespace Go.Proofs.Ytlfnfalckfggkaa.PT
open Go.RowKit Go.Proofs.YtlfnfalckfggkaaW.PrintWords Go.Proofs.YtlfnfalckfggkaaW.PrintLast Go.Proofs.YtlfnfalckfggkaaW.PrintMore
set_option linter.unusedVariables false
set_option linter.unusedSimpArgs false
/-! the loops are this -/
end Go.Proofs.Ytlfnfalckfggkaa.PT
end
section
/- The field's order is a prime: powers, inverses and the greater field's laws. -/
namespace Go.Proofs.Ytlfnfalckfggkaa.PT
open Go.RowKit Go.Proofs.YtlfnfalckfggkaaW.PrintWords Go.Proofs.YtlfnfalckfggkaaW.PrintLast Go.Proofs.YtlfnfalckfggkaaW.PrintMore
set_option linter.unusedVariables false
set_option linter.unusedSimpArgs false
def Cb : Nat → Nat → Nat
  | _, 0 => 1
  | 0, _ + 1 => 0
  | n + 1, k + 1 => Cb n k + Cb n (k + 1)
theorem Cb_zero (n : Nat) : Cb n 0 = 1 := by cases n <;> rfl
theorem Cb_big : ∀ (n k : Nat), n < k → Cb n k = 0
  | 0, k + 1, _ => rfl
  | n + 1, k + 1, h => by rw [Cb, Cb_big n k (by omega), Cb_big n (k + 1) (by omega)]
theorem Cb_self (n : Nat) : Cb n n = 1 := by
  induction n with
  | zero => rfl
  | succ n ih => rw [Cb, ih, Cb_big n (n + 1) (by omega)]
theorem Cb_absorb (n : Nat) : ∀ k, (k + 1) * Cb (n + 1) (k + 1) = (n + 1) * Cb n k := by
  induction n with
  | zero =>
    intro k
    cases k with
    | zero => rfl
    | succ k => rw [Cb_big (0 + 1) (k + 1 + 1) (by omega), Cb_big 0 (k + 1) (by omega), Nat.mul_zero, Nat.mul_zero]
  | succ n ih =>
    intro k
    cases k with
    | zero =>
      have := ih 0
      rw [Cb_zero] at this
      rw [Cb_zero, show Cb (n + 1 + 1) (0 + 1) = Cb (n + 1) 0 + Cb (n + 1) (0 + 1) from rfl, Cb_zero, Nat.mul_add, this]
      omega
    | succ k =>
      have h1 := ih k
      have h2 := ih (k + 1)
      rw [Cb, Nat.mul_add, h2]
      rw [show (k + 1 + 1) * Cb (n + 1) (k + 1) = (k + 1) * Cb (n + 1) (k + 1) + Cb (n + 1) (k + 1) by rw [Nat.add_mul, Nat.one_mul], h1]
      rw [show (n + 1 + 1) * Cb (n + 1) (k + 1) = (n + 1) * Cb (n + 1) (k + 1) + Cb (n + 1) (k + 1) by rw [Nat.add_mul, Nat.one_mul]]
      rw [show Cb (n + 1) (k + 1) = Cb n k + Cb n (k + 1) from rfl, Nat.mul_add]
      omega
def Sb (n a : Nat) : Nat → Nat
  | 0 => 0
  | m + 1 => Sb n a m + Cb n m * a ^ m
theorem Sb_step (n a : Nat) : ∀ m, Sb (n + 1) a (m + 1) = Sb n a (m + 1) + a * Sb n a m
  | 0 => by simp [Sb, Cb_zero]
  | m + 1 => by
    rw [Sb, Sb_step n a m, Sb, Sb, Sb, Cb, Nat.pow_succ, Nat.mul_add, Nat.add_mul]
    have e : Cb n m * (a ^ m * a) = a * (Cb n m * a ^ m) := by rw [Nat.mul_comm (a ^ m) a, Nat.mul_left_comm]
    rw [e]
    omega
theorem Sb_eq (n a : Nat) : Sb n a (n + 1) = (a + 1) ^ n := by
  induction n with
  | zero => simp [Sb, Cb]
  | succ n ih =>
    rw [Sb_step, Sb, Cb_big n (n + 1) (by omega), Nat.zero_mul, Nat.add_zero, ih, Nat.pow_succ, Nat.mul_add, Nat.mul_one, Nat.mul_comm, Nat.add_comm]
theorem Cb_dvd {p : Nat} (h : ∀ a, 0 < a → a < p → Nat.gcd a p = 1) {k : Nat} (h0 : 0 < k) (h1 : k < p) : p ∣ Cb p k := by
  obtain ⟨k, rfl⟩ : ∃ m, k = m + 1 := ⟨k - 1, by omega⟩
  obtain ⟨n, rfl⟩ : ∃ m, p = m + 1 := ⟨p - 1, by omega⟩
  have e := Cb_absorb n k
  have hc : Nat.Coprime (n + 1) (k + 1) := by
    show Nat.gcd (n + 1) (k + 1) = 1
    rw [Nat.gcd_comm]; exact h (k + 1) (by omega) h1
  exact hc.dvd_of_dvd_mul_left (by rw [e]; exact Nat.dvd_mul_right _ _)
theorem Sb_mod {p : Nat} (hp : 1 < p) (h : ∀ a, 0 < a → a < p → Nat.gcd a p = 1) (a : Nat) : ∀ m, m < p → Sb p a (m + 1) % p = 1
  | 0, _ => by simp [Sb, Cb_zero]; exact Nat.mod_eq_of_lt hp
  | m + 1, hm => by
    have ih := Sb_mod hp h a m (by omega)
    obtain ⟨c, hc⟩ := Cb_dvd h (k := m + 1) (by omega) hm
    rw [Sb, hc, Nat.mul_assoc, Nat.add_mul_mod_self_left]
    exact ih
theorem fermat_pow {p : Nat} (hp : 1 < p) (h : ∀ a, 0 < a → a < p → Nat.gcd a p = 1) : ∀ a, a ^ p % p = a % p
  | 0 => by rw [Nat.zero_pow (by omega)]
  | a + 1 => by
    have ih := fermat_pow hp h a
    obtain ⟨q, rfl⟩ : ∃ m, p = m + 1 := ⟨p - 1, by omega⟩
    rw [← Sb_eq, Sb, Cb_self, Nat.one_mul, Nat.add_mod, Sb_mod hp h a q (by omega), ih, Nat.add_mod_mod, Nat.add_comm]
theorem fermat {p : Nat} (hp : 1 < p) (h : ∀ a, 0 < a → a < p → Nat.gcd a p = 1) {a : Nat} (h0 : 0 < a) (h1 : a < p) : a ^ (p - 1) % p = 1 := by
  have e := fermat_pow hp h a
  obtain ⟨q, rfl⟩ : ∃ m, p = m + 1 := ⟨p - 1, by omega⟩
  have hpos : 0 < a ^ q := Nat.pow_pos h0
  have hd : (q + 1) ∣ a * (a ^ q - 1) := by
    have : a * (a ^ q - 1) = a ^ (q + 1) - a := by rw [Nat.mul_sub, Nat.mul_one, Nat.pow_succ, Nat.mul_comm]
    rw [this]
    exact Nat.dvd_of_mod_eq_zero (Nat.sub_mod_eq_zero_of_mod_eq e)
  have hc : Nat.Coprime (q + 1) a := by
    show Nat.gcd (q + 1) a = 1
    rw [Nat.gcd_comm]; exact h a h0 h1
  obtain ⟨c, hc2⟩ := hc.dvd_of_dvd_mul_left hd
  have e3 : a ^ q = 1 + (q + 1) * c := by omega
  show a ^ q % (q + 1) = 1
  rw [e3, Nat.add_mul_mod_self_left]
  exact Nat.mod_eq_of_lt hp
def noDiv : Nat → Nat → Bool
  | 0, lo => 2130706433 % lo != 0
  | n + 1, lo => noDiv n lo && noDiv n (lo + 2 ^ n)
theorem noDiv_spec : ∀ (n lo : Nat), noDiv n lo = true → ∀ d, lo ≤ d → d < lo + 2 ^ n → 2130706433 % d ≠ 0
  | 0, lo, h, d, h1, h2 => by
    obtain rfl : d = lo := by simp at h2; omega
    simpa [noDiv] using h
  | n + 1, lo, h, d, h1, h2 => by
    rw [noDiv, Bool.and_eq_true] at h
    rw [Nat.pow_succ] at h2
    by_cases hd : d < lo + 2 ^ n
    · exact noDiv_spec n lo h.1 d h1 hd
    · exact noDiv_spec n _ h.2 d (by omega) (by omega)
set_option maxRecDepth 100000 in
theorem noDiv_all : noDiv 16 2 = true := by decide +kernel
theorem cop (a : Nat) (h0 : 0 < a) (h1 : a < 2130706433) : Nat.gcd a 2130706433 = 1 := by
  by_cases h : Nat.gcd a 2130706433 = 1
  · exact h
  · exfalso
    have hg : 0 < Nat.gcd a 2130706433 := Nat.gcd_pos_of_pos_left _ h0
    have hga : Nat.gcd a 2130706433 ≤ a := Nat.le_of_dvd h0 (Nat.gcd_dvd_left _ _)
    obtain ⟨q, hq⟩ := Nat.gcd_dvd_right a 2130706433
    generalize Nat.gcd a 2130706433 = g at *
    have hq2 : 2 ≤ q := by
      rcases q with _ | _ | q
      · omega
      · omega
      · omega
    by_cases hs : g < 65538
    · refine noDiv_spec 16 2 noDiv_all g (by omega) (by simp; omega) ?_
      rw [hq]; exact Nat.mul_mod_right _ _
    · have hqs : q < 65538 := by
        apply Decidable.byContradiction
        intro hc
        have := Nat.mul_le_mul (show 65538 ≤ g by omega) (show 65538 ≤ q by omega)
        omega
      refine noDiv_spec 16 2 noDiv_all q (by omega) (by simp; omega) ?_
      rw [hq]; exact Nat.mul_mod_left _ _
theorem fpow_nat {a : Int} (h : 0 ≤ a) (n : Nat) : fpow a n = ((a.toNat ^ n % 2130706433 : Nat) : Int) := by
  obtain ⟨b, rfl⟩ := Int.eq_ofNat_of_zero_le h
  unfold fpow
  rw [Int.toNat_natCast, Int.natCast_emod, Int.natCast_pow]; rfl
theorem fermat_n {p n : Nat} (hn : p = n + 1) (hp : 1 < p) (h : ∀ a, 0 < a → a < p → Nat.gcd a p = 1) {a : Nat} (h0 : 0 < a) (h1 : a < p) : a ^ n % p = 1 := by
  have e := fermat hp h h0 h1
  subst hn
  exact e
theorem fpow_fermat_n {a : Int} {n : Nat} (hn : 2130706433 = n + 1) (h : inF a) (h0 : a ≠ 0) : fpow a n = 1 := by
  rw [fpow_nat h.1, fermat_n hn (by omega) cop (by unfold inF at h; omega) (by unfold inF at h; omega)]
  rfl
theorem fpow_fermat {a : Int} (h : inF a) (h0 : a ≠ 0) : fpow a 2130706432 = 1 := fpow_fermat_n rfl h h0
theorem fmul_inv {a : Int} (h : inF a) (h0 : a ≠ 0) : fmul a (finv a) = 1 := by
  have e := fpow_fermat h h0
  unfold finv
  unfold fpow at *
  unfold fmul
  rw [e_mr, Int.mul_comm, ← Int.pow_succ]
  exact e
theorem emul_comm (x y : E) : emul x y = emul y x := by
  refine E.ext_ ?_ ?_
  · show fadd (fmul x.f0 y.f0) (fmul 3 (fmul x.f1 y.f1)) = fadd (fmul y.f0 x.f0) (fmul 3 (fmul y.f1 x.f1))
    rw [fmul_comm x.f0, fmul_comm x.f1]
  · show fadd (fmul x.f0 y.f1) (fmul x.f1 y.f0) = fadd (fmul y.f0 x.f1) (fmul y.f1 x.f0)
    unfold fadd fmul
    simp only [e_al, e_ar, e_ml, e_mr]
    congr 1; grind
theorem emul_assoc (x y z : E) : emul (emul x y) z = emul x (emul y z) := by
  refine E.ext_ ?_ ?_
  · show fadd (fmul (fadd (fmul x.f0 y.f0) (fmul 3 (fmul x.f1 y.f1))) z.f0) (fmul 3 (fmul (fadd (fmul x.f0 y.f1) (fmul x.f1 y.f0)) z.f1)) = fadd (fmul x.f0 (fadd (fmul y.f0 z.f0) (fmul 3 (fmul y.f1 z.f1)))) (fmul 3 (fmul x.f1 (fadd (fmul y.f0 z.f1) (fmul y.f1 z.f0))))
    unfold fadd fmul
    simp only [e_al, e_ar, e_ml, e_mr]
    congr 1; grind
  · show fadd (fmul (fadd (fmul x.f0 y.f0) (fmul 3 (fmul x.f1 y.f1))) z.f1) (fmul (fadd (fmul x.f0 y.f1) (fmul x.f1 y.f0)) z.f0) = fadd (fmul x.f0 (fadd (fmul y.f0 z.f1) (fmul y.f1 z.f0))) (fmul x.f1 (fadd (fmul y.f0 z.f0) (fmul 3 (fmul y.f1 z.f1))))
    unfold fadd fmul
    simp only [e_al, e_ar, e_ml, e_mr]
    congr 1; grind
theorem emul_one {x : E} (hx : okE x) : emul x (eof 1) = x := by rw [emul_of]; exact scale_one hx
theorem one_emul {x : E} (hx : okE x) : emul (eof 1) x = x := by rw [emul_comm, emul_one hx]
end Go.Proofs.Ytlfnfalckfggkaa.PT
end
section
/- A table's polynomial from its coefficients and from the equality weight: one value. -/
namespace Go.Proofs.Ytlfnfalckfggkaa.PT
open Go.RowKit Go.Proofs.YtlfnfalckfggkaaW.PrintWords Go.Proofs.YtlfnfalckfggkaaW.PrintLast Go.Proofs.YtlfnfalckfggkaaW.PrintMore
set_option linter.unusedVariables false
set_option linter.unusedSimpArgs false
theorem eadd_assoc (a b c : E) : eadd (eadd a b) c = eadd a (eadd b c) := by
  refine E.ext_ ?_ ?_
  · show fadd (fadd a.f0 b.f0) c.f0 = fadd a.f0 (fadd b.f0 c.f0)
    unfold fadd; omega
  · show fadd (fadd a.f1 b.f1) c.f1 = fadd a.f1 (fadd b.f1 c.f1)
    unfold fadd; omega
theorem eadd_comm (a b : E) : eadd a b = eadd b a := by
  refine E.ext_ ?_ ?_
  · show fadd a.f0 b.f0 = fadd b.f0 a.f0
    unfold fadd; omega
  · show fadd a.f1 b.f1 = fadd b.f1 a.f1
    unfold fadd; omega
theorem eadd_zero {a : E} (h : okE a) : eadd a zE = a := by
  refine E.ext_ ?_ ?_
  · show fadd a.f0 0 = a.f0
    have := h.a; unfold inF at this; unfold fadd; omega
  · show fadd a.f1 0 = a.f1
    have := h.b; unfold inF at this; unfold fadd; omega
theorem zero_eadd {a : E} (h : okE a) : eadd zE a = a := by rw [eadd_comm, eadd_zero h]
theorem emul_add (a b c : E) : emul (eadd a b) c = eadd (emul a c) (emul b c) := by
  refine E.ext_ ?_ ?_
  · show fadd (fmul (fadd a.f0 b.f0) c.f0) (fmul 3 (fmul (fadd a.f1 b.f1) c.f1)) = fadd (fadd (fmul a.f0 c.f0) (fmul 3 (fmul a.f1 c.f1))) (fadd (fmul b.f0 c.f0) (fmul 3 (fmul b.f1 c.f1)))
    unfold fadd fmul
    simp only [e_al, e_ar, e_ml, e_mr]
    congr 1; grind
  · show fadd (fmul (fadd a.f0 b.f0) c.f1) (fmul (fadd a.f1 b.f1) c.f0) = fadd (fadd (fmul a.f0 c.f1) (fmul a.f1 c.f0)) (fadd (fmul b.f0 c.f1) (fmul b.f1 c.f0))
    unfold fadd fmul
    simp only [e_al, e_ar, e_ml, e_mr]
    congr 1; grind
theorem zero_emul (c : E) : emul zE c = zE := by
  refine E.ext_ ?_ ?_
  · show fadd (fmul 0 c.f0) (fmul 3 (fmul 0 c.f1)) = 0
    unfold fadd fmul; simp
  · show fadd (fmul 0 c.f1) (fmul 0 c.f0) = 0
    unfold fadd fmul; simp
def sumE : List E → E
  | [] => zE
  | x :: xs => eadd x (sumE xs)
theorem ok_sum : ∀ l, okE (sumE l)
  | [] => ok_zero
  | _ :: _ => ok_add _ _
end Go.Proofs.Ytlfnfalckfggkaa.PT
end
section
/- What is drawn from bytes: the numbers and elements that the laws draw are of the field. -/
namespace Go.Proofs.Ytlfnfalckfggkaa.PT
open Go.RowKit Go.Proofs.YtlfnfalckfggkaaW.PrintWords Go.Proofs.YtlfnfalckfggkaaW.PrintLast Go.Proofs.YtlfnfalckfggkaaW.PrintMore
set_option linter.unusedVariables false
set_option linter.unusedSimpArgs false
def bytesL (l : List Int) : Prop := ∀ x ∈ l, 0 ≤ x ∧ x ≤ 255
theorem bytesL_rd {l : List Int} (h : bytesL l) {i : Int} (h0 : 0 ≤ i) (h1 : i < l.length) : 0 ≤ rd l i ∧ rd l i ≤ 255 := by
  show 0 ≤ l.getD i.toNat 0 ∧ l.getD i.toNat 0 ≤ 255
  rw [getD_at (show i.toNat < l.length by omega)]
  exact h _ (List.getElem_mem _)
def stOK (p s : Int) (b : Int) : Prop := 0 ≤ p ∧ p ≤ b ∧ 0 ≤ s ∧ s < 2147483648
theorem byte_ok {l : List Int} (h : bytesL l) {p s b : Int} (hs : stOK p s b) (hb : b ≤ 1000000000) : ∃ v s', spec_l00Src_byte.f l p s = some (v, p + 1, s') ∧ 0 ≤ v ∧ v ≤ 255 ∧ stOK (p + 1) s' (b + 1) := by
  obtain ⟨h0, h1, h2, h3⟩ := hs
  unfold spec_l00Src_byte.f
  rw [if_pos (by omega)]
  by_cases h4 : p < (l.length : Int)
  · have hr := bytesL_rd h h0 h4
    rw [if_pos h4, if_pos hr]
    exact ⟨_, _, rfl, hr.1, hr.2, by unfold stOK; omega⟩
  · rw [if_neg h4]
    by_cases h5 : 2999 < p
    · rw [if_pos h5]; exact ⟨_, _, rfl, by omega, by omega, by unfold stOK; omega⟩
    · rw [if_neg h5]
      refine ⟨_, _, rfl, by omega, by omega, ?_⟩
      unfold stOK spec_l00Src_byte.next; omega
theorem next_ok {l : List Int} (h : bytesL l) {p s b a : Int} (hs : stOK p s b) (hb : b ≤ 1000000000) (ha : 2 ≤ a) (ha2 : a ≤ 256) : ∃ v s', spec_l00Src_next.f l p s a = some (v, p + 1, s') ∧ 0 ≤ v ∧ v < a ∧ v ≤ 255 ∧ stOK (p + 1) s' (b + 1) := by
  obtain ⟨v, s', e, h0, h1, h2⟩ := byte_ok h hs hb
  unfold spec_l00Src_next.f
  rw [if_neg (by omega), if_pos ha2, e]
  simp only [bS]
  rw [if_neg (by omega), tmod_nn h0]
  have hm : v % a ≤ v := by
    rcases Int.lt_or_le v a with h | h
    · rw [Int.emod_eq_of_lt h0 h]; exact Int.le_refl _
    · have := Int.emod_lt_of_pos v (show 0 < a by omega); omega
  exact ⟨_, _, rfl, Int.emod_nonneg _ (by omega), Int.emod_lt_of_pos _ (by omega), by omega, h2⟩
theorem chance_ok {l : List Int} (h : bytesL l) {p s b : Int} (hs : stOK p s b) (hb : b ≤ 1000000000) : ∃ v s', spec_l00Src_chance.f l p s 4 = some (v, p + 1, s') ∧ stOK (p + 1) s' (b + 1) := by
  obtain ⟨v, s', e, _, _, _, h2⟩ := next_ok h hs hb (a := 4) (by omega) (by omega)
  unfold spec_l00Src_chance.f
  rw [e]
  exact ⟨_, _, rfl, h2⟩
theorem field_l0 {l : List Int} (h : bytesL l) (d : Nat) : ∀ (k i : Nat) (v p s b : Int), i + d = 5 → d < k → inF v → stOK p s b → b + d ≤ 1000000000 →
    ∃ v' p' s', spec_l00Src_field.l0 k v i l p s = some (v', p', s') ∧ inF v' ∧ stOK p' s' (b + d) := by
  induction d with
  | zero =>
    intro k i v p s b hi hk hv hs hb
    obtain ⟨k, rfl⟩ : ∃ m, k = m + 1 := ⟨k - 1, by omega⟩
    simp only [spec_l00Src_field.l0]
    rw [if_neg (by omega)]
    exact ⟨_, _, _, rfl, hv, by unfold stOK at *; omega⟩
  | succ d ih =>
    intro k i v p s b hi hk hv hs hb
    obtain ⟨k, rfl⟩ : ∃ m, k = m + 1 := ⟨k - 1, by omega⟩
    obtain ⟨u, s', e, h0, h1, h2, h3⟩ := next_ok h hs (by omega) (a := 256) (by omega) (by omega)
    simp only [spec_l00Src_field.l0]
    rw [if_pos (by omega), e]
    simp only [bS]
    unfold inF at hv
    rw [w64 (n := v * 256) (by omega) (by omega), w64 (n := v * 256 + u) (by omega) (by omega), tmod_nn (by omega), w64 (by omega) (by omega), show (i : Int) + 1 = ((i + 1 : Nat) : Int) by omega]
    obtain ⟨v', p', s'', e2, hv', hs'⟩ := ih k (i + 1) ((v * 256 + u) % 2130706433) (p + 1) s' (b + 1) (by omega) (by omega) (by unfold inF; omega) h3 (by omega)
    exact ⟨v', p', s'', e2, hv', by unfold stOK at *; omega⟩
theorem field_ok {l : List Int} (h : bytesL l) {p s b : Int} (hs : stOK p s b) (hb : b ≤ 900000000) {k : Nat} (hk : 10 < k) : ∃ v p' s', spec_l00Src_field.f k l p s = some (v, p', s') ∧ inF v ∧ stOK p' s' (b + 10) := by
  obtain ⟨u, s1, e1, h0, h1, _, h2⟩ := next_ok h hs (by omega) (a := 5) (by omega) (by omega)
  unfold spec_l00Src_field.f
  rw [e1]
  simp only [bS]
  by_cases hu : u = 0
  · obtain ⟨v, s2, e2, h3, h4, _, h5⟩ := next_ok h h2 (by omega) (a := 4) (by omega) (by omega)
    rw [if_pos hu, e2]
    simp only [bS]
    exact ⟨_, _, _, rfl, by unfold inF; omega, by unfold stOK at *; omega⟩
  · rw [if_neg hu]
    by_cases hu1 : u = 1
    · obtain ⟨v, s2, e2, h3, h4, _, h5⟩ := next_ok h h2 (by omega) (a := 3) (by omega) (by omega)
      rw [if_pos hu1, e2]
      simp only [bS]
      rw [w64 (by omega) (by omega)]
      exact ⟨_, _, _, rfl, by unfold inF; omega, by unfold stOK at *; omega⟩
    · rw [if_neg hu1]
      obtain ⟨v', p', s', e2, hv, h5⟩ := field_l0 h 5 k 0 0 (p + 1) s1 (b + 1) (by omega) (by omega) inF_0 h2 (by omega)
      rw [Int.natCast_zero] at e2
      exact ⟨v', p', s', e2, hv, by unfold stOK at *; omega⟩
theorem ext_ok {l : List Int} (h : bytesL l) {p s b : Int} (hs : stOK p s b) (hb : b ≤ 800000000) {k : Nat} (hk : 10 < k) : ∃ (x : E) (p' s' : Int), spec_l00Src_ext.f k l p s = some (x.f0, x.f1, p', s') ∧ okE x ∧ stOK p' s' (b + 30) := by
  obtain ⟨c, s1, e1, h1⟩ := chance_ok h hs (by omega)
  obtain ⟨u, p2, s2, e2, hu, h2⟩ := field_ok h h1 (by omega) hk
  unfold spec_l00Src_ext.f
  rw [e1]
  simp only [bS]
  by_cases hc : c = true
  · rw [if_pos hc, e2]
    simp only [bS]
    exact ⟨⟨u, 0⟩, p2, s2, rfl, ⟨hu, inF_0⟩, by unfold stOK at *; omega⟩
  · obtain ⟨v, p3, s3, e3, hv, h3⟩ := field_ok h h2 (by omega) hk
    rw [if_neg hc, e2]
    simp only [bS]
    rw [e3]
    simp only [bS]
    exact ⟨⟨u, v⟩, p3, s3, rfl, ⟨hu, hv⟩, by unfold stOK at *; omega⟩
theorem source_ok (l : List Int) : ∃ s, spec_l00Source.f l = some (l, 0, s) ∧ stOK 0 s 0 := by
  unfold spec_l00Source.f
  exact ⟨_, rfl, by unfold stOK; omega⟩
theorem ExtOf_ok {l : List Int} (h : bytesL l) {k : Nat} (hk : 10 < k) : ∃ x : E, spec_ExtOf.f k l = some (x.f0, x.f1) ∧ okE x := by
  obtain ⟨s, e, hs⟩ := source_ok l
  obtain ⟨x, p', s', e2, hx, _⟩ := ext_ok h hs (by omega) hk
  unfold spec_ExtOf.f
  rw [e]
  simp only [bS]
  rw [e2]
  exact ⟨x, rfl, hx⟩
theorem exts_l0 {l : List Int} (h : bytesL l) (n : Nat) (hn : n ≤ 4096) (d : Nat) : ∀ (i : Nat) (a : List E) (p s b : Int), i + d = n → a.length = i → okL a → stOK p s b → b ≤ 30 * i →
    ∃ q : List E, (okL q ∧ q.length = n) ∧ ∀ k, d + 10 < k → ∃ p' s', spec_l00Src_exts.l0 k (n : Int) a i l p s = some (q, p', s') := by
  induction d with
  | zero =>
    intro i a p s b hi ha hoa hs hb
    refine ⟨a, ⟨hoa, by omega⟩, fun k hk => ?_⟩
    obtain ⟨k, rfl⟩ : ∃ m, k = m + 1 := ⟨k - 1, by omega⟩
    simp only [spec_l00Src_exts.l0]
    rw [if_neg (by omega)]; exact ⟨_, _, rfl⟩
  | succ d ih =>
    intro i a p s b hi ha hoa hs hb
    obtain ⟨x, p', s', e, hx, hs'⟩ := ext_ok h hs (by omega) (k := 11) (by omega)
    obtain ⟨q, hq, hk2⟩ := ih (i + 1) (a ++ [x]) p' s' (b + 30) (by omega) (by simp; omega) (okL_app hoa (okL_one hx)) hs' (by omega)
    refine ⟨q, hq, fun k hk => ?_⟩
    obtain ⟨k, rfl⟩ : ∃ m, k = m + 1 := ⟨k - 1, by omega⟩
    have e' : spec_l00Src_ext.f k l p s = some (x.f0, x.f1, p', s') := by
      obtain ⟨x2, p2, s2, e2, _, _⟩ := ext_ok h hs (by omega) (k := k) (by omega)
      have hm : ∀ m, spec_l00Src_ext.f 11 l p s = some (x.f0, x.f1, p', s') → spec_l00Src_ext.f (11 + m) l p s = some (x.f0, x.f1, p', s') := by
        intro m h11
        induction m with
        | zero => exact h11
        | succ m ihm =>
          exact spec_l00Src_ext.mono l p s (11 + m) _ ihm
      obtain ⟨m, rfl⟩ : ∃ m, k = 11 + m := ⟨k - 11, by omega⟩
      exact hm m e
    simp only [spec_l00Src_exts.l0]
    rw [if_pos (by omega), e']
    simp only [bS]
    rw [if_pos (by omega), w64 (by omega) (by omega), show (i : Int) + 1 = ((i + 1 : Nat) : Int) by omega]
    exact hk2 k (by omega)
theorem ExtsOf_ok {l : List Int} (h : bytesL l) (n : Nat) (hn : n ≤ 4096) : ∃ q : List E, (okL q ∧ q.length = n) ∧ ∀ k, n + 20 < k → spec_ExtsOf.f k l (n : Int) = some q := by
  obtain ⟨s, e, hs⟩ := source_ok l
  obtain ⟨q, hq, hk2⟩ := exts_l0 h n hn n 0 [] 0 s 0 (by omega) rfl okL_nil hs (by omega)
  refine ⟨q, hq, fun k hk => ?_⟩
  obtain ⟨p', s', e2⟩ := hk2 k (by omega)
  unfold spec_ExtsOf.f spec_l00Src_exts.f
  rw [e]
  simp only [bS]
  rw [Int.natCast_zero] at e2
  rw [e2]
  simp only [bS]
theorem at_ok {l : List Int} (h : bytesL l) (hl : l.length ≤ 1048576) {a n : Int} (ha : 0 ≤ a) (ha2 : a ≤ 10) (hn : 0 ≤ n) (hn2 : n ≤ 1000000) : ∃ t, laws_at.f l a n = some t ∧ 0 ≤ t ∧ (t < n ∨ t = 0) := by
  unfold laws_at.f
  by_cases h1 : n ≤ 1
  · rw [if_pos h1]; exact ⟨0, rfl, by omega, by omega⟩
  · rw [if_neg h1]
    by_cases h2 : (l.length : Int) = 0
    · rw [if_pos h2, if_neg (by omega), w64 (by omega) (by omega), tmod_nn (by omega)]
      exact ⟨_, rfl, Int.emod_nonneg _ (by omega), Or.inl (Int.emod_lt_of_pos _ (by omega))⟩
    · have hp : 0 < (l.length : Int) := by omega
      have m0 := Int.emod_nonneg a (show (l.length : Int) ≠ 0 by omega)
      have m1 := Int.emod_lt_of_pos a hp
      have m2 := Int.emod_nonneg (a + 1) (show (l.length : Int) ≠ 0 by omega)
      have m3 := Int.emod_lt_of_pos (a + 1) hp
      have r1 := bytesL_rd h m0 m1
      have r2 := bytesL_rd h m2 m3
      have d0 : 0 ≤ a / (l.length : Int) := Int.ediv_nonneg ha (by omega)
      have d1 : a / (l.length : Int) ≤ a := Int.ediv_le_self _ ha
      rw [if_neg h2, tmod_nn ha, w64 (n := a + 1) (by omega) (by omega), tmod_nn (by omega), tdiv_nn ha, if_pos m0, if_pos m1, if_pos m2, if_pos m3, if_neg (by omega),
        w64 (n := rd l (a % (l.length : Int))) (by omega) (by omega), w64 (n := rd l (a % (l.length : Int)) * 31) (by omega) (by omega), w64 (n := rd l ((a + 1) % (l.length : Int))) (by omega) (by omega),
        w64 (n := _ + rd l ((a + 1) % (l.length : Int))) (by omega) (by omega), w64 (n := a / (l.length : Int)) (by omega) (by omega), w64 (n := _ + a / (l.length : Int)) (by omega) (by omega), tmod_nn (by omega)]
      exact ⟨_, rfl, Int.emod_nonneg _ (by omega), Or.inl (Int.emod_lt_of_pos _ (by omega))⟩
end Go.Proofs.Ytlfnfalckfggkaa.PT
end
section
/- The greater field's operations as the laws call them, and tables as values. -/
namespace Go.Proofs.Ytlfnfalckfggkaa.PT
open Go.RowKit Go.Proofs.YtlfnfalckfggkaaW.PrintWords Go.Proofs.YtlfnfalckfggkaaW.PrintLast Go.Proofs.YtlfnfalckfggkaaW.PrintMore
set_option linter.unusedVariables false
set_option linter.unusedSimpArgs false
end Go.Proofs.Ytlfnfalckfggkaa.PT
end
section
/- The line through a polynomial's values at 0, 1, 2 .. is the polynomial, where these are as many as its coefficients (at most 6). -/
namespace Go.Proofs.Ytlfnfalckfggkaa.PT
open Go.RowKit Go.Proofs.YtlfnfalckfggkaaW.PrintWords Go.Proofs.YtlfnfalckfggkaaW.PrintLast Go.Proofs.YtlfnfalckfggkaaW.PrintMore
set_option linter.unusedVariables false
set_option linter.unusedSimpArgs false
/-! polynomials with whole coefficients, the lowest first -/
def evP (z : E) : List Int → E
  | [] => zE
  | a :: t => eadd (eof (a % 2130706433)) (emul (evP z t) z)
theorem ok_evP (z : E) : ∀ c, okE (evP z c)
  | [] => ok_zero
  | _ :: _ => ok_add _ _
def padd : List Int → List Int → List Int
  | [], b => b
  | x :: a, [] => x :: a
  | x :: a, y :: b => (x + y) :: padd a b
theorem evP_padd (z : E) : ∀ a b, evP z (padd a b) = eadd (evP z a) (evP z b)
  | [], b => (zero_eadd (ok_evP z b)).symm
  | x :: a, [] => (eadd_zero (ok_evP z (x :: a))).symm
  | x :: a, y :: b => by
    rw [padd, evP, evP_padd z a b, emul_add, evP, evP]
    refine E.ext_ ?_ ?_
    · show fadd ((x + y) % 2130706433) (fadd _ _) = fadd (fadd (x % 2130706433) _) (fadd (y % 2130706433) _)
      unfold fadd; omega
    · show fadd 0 (fadd _ _) = fadd (fadd 0 _) (fadd 0 _)
      unfold fadd; omega
theorem eof_mul (a k : Int) : eof (a * k % 2130706433) = emul (eof (a % 2130706433)) (eof (k % 2130706433)) := by
  rw [emul_of]
  refine E.ext_ ?_ ?_
  · show a * k % 2130706433 = fmul (a % 2130706433) (k % 2130706433)
    unfold fmul; rw [e_ml, e_mr]
  · show 0 = fmul 0 _
    rw [fmul_comm, fmul_zero]
def pscale (k : Int) (c : List Int) : List Int := c.map (· * k)
theorem evP_scale (z : E) (k : Int) : ∀ c, evP z (pscale k c) = emul (evP z c) (eof (k % 2130706433))
  | [] => (zero_emul _).symm
  | a :: t => by
    show eadd (eof (a * k % 2130706433)) (emul (evP z (pscale k t)) z) = emul (eadd (eof (a % 2130706433)) (emul (evP z t) z)) (eof (k % 2130706433))
    rw [evP_scale z k t, eof_mul, emul_add, emul_assoc, emul_assoc, emul_comm z]
theorem evP_shift (z : E) (c : List Int) : evP z (0 :: c) = emul (evP z c) z := by
  show eadd zE (emul (evP z c) z) = _
  rw [zero_eadd (ok_mul _ _)]
def pmul1 (c : List Int) (k : Int) : List Int := padd (0 :: c) (pscale (-k) c)
theorem evP_mul1 (z : E) (c : List Int) (k : Int) : evP z (pmul1 c k) = emul (evP z c) (esub z (eof k)) := by
  have e : esub z (eof k) = eadd z (eof ((-k) % 2130706433)) := by
    refine E.ext_ ?_ ?_
    · show fsub z.f0 k = fadd z.f0 ((-k) % 2130706433)
      unfold fsub fadd; omega
    · show fsub z.f1 0 = fadd z.f1 0
      unfold fsub fadd; omega
  unfold pmul1
  rw [evP_padd, evP_shift, evP_scale, e, emul_comm (evP z c) (eadd z _), emul_add, emul_comm z, emul_comm (eof _)]
/-! the factors of a line -/
def wl (i : Nat) : Nat → Nat → List Int → List Int
  | 0, _, c => c
  | d + 1, j, c => if j = i then wl i d (j + 1) c else wl i d (j + 1) (pmul1 c j)
def nn (i : Nat) : Nat → Nat → Int → Int
  | 0, _, n => n
  | d + 1, j, n => if j = i then nn i d (j + 1) n else nn i d (j + 1) (fmul n (fsub i j))
theorem lineN_is (z v : E) (i : Nat) : ∀ (d j : Nat) (c : List Int) (n : Int), lineN z i d j (emul v (evP z c)) n = (emul v (evP z (wl i d j c)), nn i d j n)
  | 0, j, c, n => rfl
  | d + 1, j, c, n => by
    unfold lineN wl nn
    by_cases h : j = i
    · rw [if_pos h, if_pos h, if_pos h, lineN_is z v i d]
    · rw [if_neg h, if_neg h, if_neg h, emul_assoc, ← evP_mul1, lineN_is z v i d]
theorem evP_one (z : E) : evP z [1] = eof 1 := by
  show eadd (eof 1) (emul zE z) = eof 1
  rw [zero_emul, eadd_zero (ok_of inF_1)]
def tinv (a : Int) : Int :=
  if a = 1 then 1 else if a = 2 then 1065353217 else if a = 6 then 355117739 else if a = 24 then 621456043 else if a = 120 then 1828856355 else if a = 4 then 1598029825 else if a = 12 then 1242912086 else if a = 2130706432 then 2130706432 else if a = 2130706431 then 1065353216 else if a = 2130706427 then 1775588694 else if a = 2130706409 then 1509250390 else if a = 2130706313 then 301850078 else if a = 2130706429 then 532676608 else 887794347
theorem finv_of {a c : Int} (ha : inF a) (h0 : a ≠ 0) (hc : inF c) (h : fmul a c = 1) : finv a = c := by
  have e1 := fmul_inv ha h0
  have e2 : fmul (fmul a c) (finv a) = fmul (fmul a (finv a)) c := by
    unfold fmul
    simp only [e_ml, e_mr]
    congr 1; grind
  rw [h, e1, fmul_comm, fmul_comm 1, fmul_one (inF_inv _), fmul_one hc] at e2
  exact e2
def inFB (a : Int) : Bool := decide (0 ≤ a ∧ a ≤ 2130706432)
theorem inv_check : ∀ n : Fin 7, ∀ i : Fin 7, i.val < n.val → (inFB (nn i.val n.val 0 1) && (nn i.val n.val 0 1 != 0) && inFB (tinv (nn i.val n.val 0 1)) && (fmul (nn i.val n.val 0 1) (tinv (nn i.val n.val 0 1)) == 1)) = true := by decide +kernel
theorem finv_nn {n i : Nat} (hn : n ≤ 6) (hi : i < n) : finv (nn i n 0 1) = tinv (nn i n 0 1) ∧ inF (tinv (nn i n 0 1)) := by
  have h := inv_check ⟨n, by omega⟩ ⟨i, by omega⟩ hi
  simp only [Bool.and_eq_true, beq_iff_eq, bne_iff_ne, ne_eq, inFB, decide_eq_true_eq] at h
  exact ⟨finv_of h.1.1.1 h.1.1.2 h.1.2 h.2, h.1.2⟩
/-- A line's weight at a place, a polynomial. -/
def wp (n i : Nat) : List Int := pscale (tinv (nn i n 0 1)) (wl i n 0 [1])
theorem lineT_is {y : List E} (hy : okL y) {n i : Nat} (hl : y.length = n) (hn : n ≤ 6) (hi : i < n) (z : E) : lineT y z i = emul (y.getD i zE) (evP z (wp n i)) := by
  have hv : okE (y.getD i zE) := okL_get hy i (by omega)
  have e := lineN_is z (y.getD i zE) i n 0 [1] 1
  rw [evP_one, emul_one hv] at e
  obtain ⟨e1, e2⟩ := finv_nn hn hi
  unfold lineT
  rw [hl, e]
  simp only
  unfold wp
  rw [e1, evP_scale, emul_assoc]
  congr 3
  unfold inF at e2; omega
/-! sums -/
theorem sum_pair {α : Type} (f g : α → E) : ∀ l : List α, sumE (l.map fun x => eadd (f x) (g x)) = eadd (sumE (l.map f)) (sumE (l.map g))
  | [] => by show zE = eadd zE zE; rw [eadd_zero ok_zero]
  | x :: xs => by
    rw [List.map_cons, List.map_cons, List.map_cons, sumE, sumE, sumE, sum_pair f g xs, eadd_assoc, eadd_assoc]
    congr 1
    rw [← eadd_assoc, ← eadd_assoc, eadd_comm (g x)]
theorem sum_left {α : Type} (a : E) (f : α → E) : ∀ l : List α, sumE (l.map fun x => emul a (f x)) = emul a (sumE (l.map f))
  | [] => by show zE = emul a zE; rw [emul_comm, zero_emul]
  | x :: xs => by rw [List.map_cons, List.map_cons, sumE, sumE, sum_left a f xs, emul_comm a (eadd _ _), emul_add, emul_comm a, emul_comm a]
theorem sum_ev {α : Type} (z : E) (f : α → List Int) : ∀ l : List α, sumE (l.map fun x => evP z (f x)) = evP z ((l.map f).foldr padd [])
  | [] => rfl
  | x :: xs => by rw [List.map_cons, sumE, sum_ev z f xs, List.map_cons, List.foldr_cons, evP_padd]
theorem evP_mod (z : E) : ∀ a b : List Int, a.map (· % 2130706433) = b.map (· % 2130706433) → evP z a = evP z b
  | [], [], _ => rfl
  | x :: a, y :: b, h => by
    rw [List.map_cons, List.map_cons, List.cons.injEq] at h
    rw [evP, evP, evP_mod z a b h.2, h.1]
  | [], _ :: _, h => by simp at h
  | _ :: _, [], h => by simp at h
def zpw (z : E) : Nat → E
  | 0 => eof 1
  | n + 1 => emul (zpw z n) z
theorem evP_zeros (z : E) : ∀ r, evP z (List.replicate r 0) = zE
  | 0 => rfl
  | r + 1 => by rw [List.replicate_succ, evP_shift, evP_zeros z r, zero_emul]
theorem evP_unit (z : E) (r : Nat) : ∀ m, evP z (List.replicate m 0 ++ 1 :: List.replicate r 0) = zpw z m
  | 0 => by
    show eadd (eof 1) (emul (evP z (List.replicate r 0)) z) = eof 1
    rw [evP_zeros, zero_emul, eadd_zero (ok_of inF_1)]
  | m + 1 => by rw [List.replicate_succ, List.cons_append, evP_shift, evP_unit z r m]; rfl
def unitL (n m : Nat) : List Int := List.replicate m 0 ++ 1 :: List.replicate (n - 1 - m) 0
def unitQ (n m : Nat) : Bool := (((List.range n).map fun i : Nat => pscale ((i : Int) ^ m % 2130706433) (wp n i)).foldr padd []).map (· % 2130706433) == (unitL n m).map (· % 2130706433)
theorem unit_check : ∀ n : Fin 7, ∀ m : Fin 7, m.val < n.val → unitQ n.val m.val = true := by decide +kernel
theorem unit_sum {n m : Nat} (hn : n ≤ 6) (hm : m < n) (z : E) : sumE ((List.range n).map fun i : Nat => emul (eof ((i : Int) ^ m % 2130706433)) (evP z (wp n i))) = zpw z m := by
  have h : unitQ n m = true := unit_check ⟨n, by omega⟩ ⟨m, by omega⟩ hm
  unfold unitQ unitL at h
  rw [beq_iff_eq] at h
  rw [← evP_unit z (n - 1 - m) m, ← evP_mod z _ _ h, ← sum_ev]
  congr 1
  refine List.map_congr_left fun i _ => ?_
  rw [evP_scale, Int.emod_emod_of_dvd _ (Int.dvd_refl _), emul_comm]
/-! a polynomial -/
def polV (x : E) : List E → E
  | [] => zE
  | a :: t => eadd (emul (polV x t) x) a
theorem ok_polV (x : E) : ∀ l, okL l → okE (polV x l)
  | [], _ => ok_zero
  | _ :: _, _ => ok_add _ _
theorem pow_step (i m : Nat) (hi : i < 7) : emul (eof (i : Int)) (eof ((i : Int) ^ m % 2130706433)) = eof ((i : Int) ^ (m + 1) % 2130706433) := by
  have e : (i : Int) % 2130706433 = (i : Int) := by omega
  rw [emul_comm, Int.pow_succ, eof_mul, e]
theorem line_lin {n : Nat} (hn : n ≤ 6) (z : E) : ∀ (t : List E) (m : Nat), m + t.length ≤ n → okL t →
    sumE ((List.range n).map fun i : Nat => emul (polV (eof (i : Int)) t) (emul (eof ((i : Int) ^ m % 2130706433)) (evP z (wp n i)))) = emul (polV z t) (zpw z m)
  | [], m, _, _ => by
    have e : ((List.range n).map fun i : Nat => emul (polV (eof (i : Int)) []) (emul (eof ((i : Int) ^ m % 2130706433)) (evP z (wp n i)))) = ((List.range n).map fun i : Nat => emul zE ((fun i : Nat => emul (eof ((i : Int) ^ m % 2130706433)) (evP z (wp n i))) i)) := rfl
    rw [e, sum_left, zero_emul]
    exact (zero_emul _).symm
  | a :: t, m, h, hok => by
    have ht : okL t := fun y hy => hok y (List.mem_cons_of_mem _ hy)
    rw [List.length_cons] at h
    have e : ((List.range n).map fun i : Nat => emul (polV (eof (i : Int)) (a :: t)) (emul (eof ((i : Int) ^ m % 2130706433)) (evP z (wp n i)))) =
        ((List.range n).map fun i : Nat => eadd (emul (polV (eof (i : Int)) t) (emul (eof ((i : Int) ^ (m + 1) % 2130706433)) (evP z (wp n i)))) (emul a (emul (eof ((i : Int) ^ m % 2130706433)) (evP z (wp n i))))) := by
      refine List.map_congr_left fun i hi => ?_
      rw [List.mem_range] at hi
      rw [polV, emul_add, emul_assoc, ← emul_assoc (eof (i : Int)), pow_step i m (by omega)]
    rw [e, sum_pair, line_lin hn z t (m + 1) (by omega) ht, sum_left, unit_sum hn (by omega), polV, emul_add, emul_assoc]
    congr 2
    rw [zpw, emul_comm]
/-- The line through a polynomial's values is the polynomial. -/
theorem line_poly {n : Nat} (hn : n ≤ 6) {co y : List E} (hco : okL co) (hcl : co.length = n) (hy : y = (List.range n).map fun i : Nat => polV (eof (i : Int)) co) {z : E} : sumE ((List.range n).map (lineT y z)) = polV z co := by
  have hyl : y.length = n := by rw [hy]; simp
  have hyok : okL y := by
    intro x hx
    rw [hy] at hx
    obtain ⟨i, _, rfl⟩ := List.mem_map.mp hx
    exact ok_polV _ _ hco
  have e := line_lin hn z co 0 (by omega) hco
  rw [zpw, emul_one (ok_polV z co hco)] at e
  rw [← e]
  congr 1
  refine List.map_congr_left fun i hi => ?_
  rw [List.mem_range] at hi
  have hone : eof ((i : Int) ^ 0 % 2130706433) = eof 1 := by rw [Int.pow_zero]; rfl
  rw [lineT_is hyok hyl hn hi z, hone, one_emul (ok_evP _ _)]
  congr 1
  have hlt : i < y.length := by omega
  rw [getD_at hlt]
  subst hy
  simp
/-! as the program has it -/
theorem line_val (y : List E) (hy : okL y) (hn : y.length ≤ 8) (z : E) (hz : okE z) (d : Nat) : ∀ (k i : Nat) (acc : E), i + d = y.length → d * 10 + 100 < k → okE acc →
    spec_l06Line.l0 k y i z.f0 z.f1 acc.f0 acc.f1 = some ((eadd acc (sumE (((List.range y.length).drop i).map (lineT y z)))).f0, (eadd acc (sumE (((List.range y.length).drop i).map (lineT y z)))).f1) ∧
    impl_lineAt.l0 k y y (y.length : Int) i z.f0 z.f1 acc.f0 acc.f1 = some ((eadd acc (sumE (((List.range y.length).drop i).map (lineT y z)))).f0, (eadd acc (sumE (((List.range y.length).drop i).map (lineT y z)))).f1) := by
  induction d with
  | zero =>
    intro k i acc hi hk hacc
    obtain ⟨k, rfl⟩ : ∃ m, k = m + 1 := ⟨k - 1, by omega⟩
    simp only [spec_l06Line.l0, impl_lineAt.l0]
    rw [if_neg (by omega), if_neg (by omega), List.drop_eq_nil_of_le (by rw [List.length_range]; omega), List.map_nil, sumE, eadd_zero hacc]; exact ⟨rfl, rfl⟩
  | succ d ih =>
    intro k i acc hi hk hacc
    obtain ⟨k, rfl⟩ : ∃ m, k = m + 1 := ⟨k - 1, by omega⟩
    have h1 : okE (rd_T42 y i) := okL_rd hy (by omega) (by omega)
    simp only [spec_l06Line.l0, impl_lineAt.l0]
    rw [if_pos (by omega), if_pos (by omega), if_pos (by omega), if_pos (by omega), if_pos (by omega)]
    have e1 := specLine_l1 y hy hn z hz i (by omega) acc hacc y.length k 0 (rd_T42 y i) 1 (by omega) (by omega) h1 inF_1
    have e2 := implLine_l1 y hy hn z hz i (by omega) acc hacc y.length k 0 (rd_T42 y i) 1 (by omega) (by omega) h1 inF_1
    rw [finv_one, scale_one h1] at e2
    rw [Int.natCast_zero] at e1 e2
    rw [e1, e2]
    have e3 := ih (k - y.length - 1) (i + 1) (eadd acc (lineT y z i)) (by omega) (by omega) (ok_add _ _)
    rw [List.drop_eq_getElem_cons (by rw [List.length_range]; omega), List.map_cons, sumE, List.getElem_range, ← eadd_assoc]
    exact e3
theorem LineAt_eq {y : List E} (hy : okL y) (h1 : 1 ≤ y.length) (hn : y.length ≤ 8) {z : E} (hz : okE z) {k : Nat} (hk : 300 < k) :
    impl_LineAt.f k y z.f0 z.f1 = some ((sumE ((List.range y.length).map (lineT y z))).f0, (sumE ((List.range y.length).map (lineT y z))).f1, 0) ∧ spec_LineAt.f k y z.f0 z.f1 = some ((sumE ((List.range y.length).map (lineT y z))).f0, (sumE ((List.range y.length).map (lineT y z))).f1, 0) := by
  obtain ⟨k, rfl⟩ : ∃ m, k = m + 1 := ⟨k - 1, by omega⟩
  obtain ⟨e1, e2⟩ := line_val y hy hn z hz y.length k 0 zE (by omega) (by omega) ok_zero
  rw [List.drop_zero, zero_eadd (ok_sum _)] at e1 e2
  unfold spec_LineAt.f impl_LineAt.f
  rw [if_neg (by omega), if_neg (by omega), spec_l02List_eq (by omega) (by omega), impl_are_eq, (okLB_iff y).2 hy]
  simp only [bS, if_true]
  rw [spec_ExtOK_eq, impl_ExtOK_eq, etaE, (okB_iff z).2 hz]
  simp only [bS, Bool.not_true, spec_LineAt.j0, impl_LineAt.j0, Bool.false_eq_true, if_false]
  rw [impl_in_eq, spec_l01In_eq, decide_eq_true (show 1 ≤ (y.length : Int) ∧ (y.length : Int) ≤ 8 by omega)]
  simp only [bS, if_true]
  have e1' : spec_l06Line.f k y z.f0 z.f1 = _ := e1
  have e2' : impl_lineAt.f k y z.f0 z.f1 = _ := e2
  rw [e1', e2']
  exact ⟨rfl, rfl⟩
end Go.Proofs.Ytlfnfalckfggkaa.PT
end
section
/- A polynomial's value by Horner's rule: the program's way (a range from behind) and the reference's. -/
namespace Go.Proofs.Ytlfnfalckfggkaa.PT
open Go.RowKit Go.Proofs.YtlfnfalckfggkaaW.PrintWords Go.Proofs.YtlfnfalckfggkaaW.PrintLast Go.Proofs.YtlfnfalckfggkaaW.PrintMore
set_option linter.unusedVariables false
set_option linter.unusedSimpArgs false
theorem poly_step {x o a : E} (hx : okE x) (ho : okE o) (ha : okE a) : impl_PolyAt.step x.f0 x.f1 (o.f0, o.f1) a = ((eadd (emul o x) a).f0, (eadd (emul o x) a).f1) := by
  unfold impl_PolyAt.step
  simp only
  rw [impl_times_eq ho hx]
  simp only [bS]
  rw [impl_plus_eq (ok_mul _ _) ha]
  rfl
theorem poly_foldr {x : E} (hx : okE x) : ∀ l : List E, okL l → l.foldr (fun a o => impl_PolyAt.step x.f0 x.f1 o a) (0, 0) = ((polV x l).f0, (polV x l).f1)
  | [], _ => rfl
  | a :: t, h => by
    have ht : okL t := fun y hy => h y (List.mem_cons_of_mem _ hy)
    rw [List.foldr_cons, poly_foldr hx t ht, poly_step hx (ok_polV x t ht) (h a (List.mem_cons_self ..))]
    rfl
theorem bk_rev (l : List E) : (impl_PolyAt.upto (impl_PolyAt.bk l) l.length).map (·.2) = l.reverse := by
  apply List.ext_getElem
  · simp [impl_PolyAt.upto]
  · intro i h1 h2
    have hi : i < l.length := by simpa using h2
    have e : ((l.length : Int) - 1 - (i : Int)).toNat = l.length - 1 - i := by omega
    simp only [impl_PolyAt.upto, List.getElem_map, List.getElem_range, impl_PolyAt.bk, List.getElem_reverse]
    show l.getD ((l.length : Int) - 1 - (i : Int)).toNat zE = _
    rw [e, List.getD_eq_getElem?_getD, List.getElem?_eq_getElem (by omega)]
    rfl
theorem poly_acc {x : E} (hx : okE x) (l : List E) (hl : okL l) : impl_PolyAt.acc x.f0 x.f1 (impl_PolyAt.upto (impl_PolyAt.bk l) l.length) = ((polV x l).f0, (polV x l).f1) := by
  rw [← poly_foldr hx l hl]
  unfold impl_PolyAt.acc
  have e : ∀ (p : List (Int × E)) (o : Int × Int), p.foldl (fun o p => impl_PolyAt.step x.f0 x.f1 o p.2) o = (p.map (·.2)).foldl (fun o a => impl_PolyAt.step x.f0 x.f1 o a) o := by
    intro p o; rw [List.foldl_map]
  rw [e, bk_rev, List.foldl_reverse]
theorem specAt_l0 {x : E} (hx : okE x) (l : List E) (hl : okL l) (hn : l.length ≤ 1048576) : ∀ (d k : Nat), d ≤ l.length → d < k →
    spec_l07At.l0 k l ((d : Int) - 1) x.f0 x.f1 (polV x (l.drop d)).f0 (polV x (l.drop d)).f1 = some ((polV x l).f0, (polV x l).f1)
  | 0, k, _, hk => by
    obtain ⟨k, rfl⟩ : ∃ m, k = m + 1 := ⟨k - 1, by omega⟩
    simp only [spec_l07At.l0]
    rw [if_neg (by omega), List.drop_zero]
  | d + 1, k, hd, hk => by
    obtain ⟨k, rfl⟩ : ∃ m, k = m + 1 := ⟨k - 1, by omega⟩
    have hdr : okL (l.drop (d + 1)) := fun y hy => hl y (List.mem_of_mem_drop hy)
    have ih := specAt_l0 hx l hl hn d k (by omega) (by omega)
    have ei : ((d + 1 : Nat) : Int) - 1 = (d : Int) := by omega
    have er : rd_T42 l (d : Int) = l[d]'(by omega) := by
      show l.getD (d : Int).toNat zE = _
      rw [Int.toNat_natCast, List.getD_eq_getElem?_getD, List.getElem?_eq_getElem (by omega)]
      rfl
    simp only [spec_l07At.l0]
    rw [ei, if_pos (by omega), spec_l02Mul_eq (ok_polV x _ hdr) hx]
    simp only [bS]
    rw [if_pos (by omega), if_pos (by omega), spec_l02Add_eq (ok_mul _ _) (okL_rd hl (by omega) (by omega))]
    simp only [bS]
    rw [w64 (by omega) (by omega)]
    have ed : polV x (l.drop d) = eadd (emul (polV x (l.drop (d + 1))) x) (rd_T42 l (d : Int)) := by
      rw [List.drop_eq_getElem_cons (by omega), polV, er]
    rw [← ed]
    exact ih
theorem specAt_eq {x : E} (hx : okE x) (l : List E) (hl : okL l) (hn : l.length ≤ 1048576) {k : Nat} (hk : l.length < k) : spec_l07At.f k l x.f0 x.f1 = some ((polV x l).f0, (polV x l).f1) := by
  have e := specAt_l0 hx l hl hn l.length k (Nat.le_refl _) hk
  rw [List.drop_length] at e
  unfold spec_l07At.f
  rw [w64 (by omega) (by omega)]
  exact e
theorem PolyAt_eq {x : E} (hx : okE x) {l : List E} (hl : okL l) (hn : l.length ≤ 4096) {k : Nat} (hk : l.length + 5000 ≤ k) :
    impl_PolyAt.f l x.f0 x.f1 = some ((polV x l).f0, (polV x l).f1, 0) ∧ spec_PolyAt.f k l x.f0 x.f1 = some ((polV x l).f0, (polV x l).f1, 0) := by
  unfold spec_PolyAt.f impl_PolyAt.f
  rw [if_neg (by omega), if_neg (by omega), spec_l02List_eq (by omega) (by omega), impl_are_eq, (okLB_iff l).2 hl]
  simp only [bS, if_true]
  rw [spec_ExtOK_eq, impl_ExtOK_eq, etaE, (okB_iff x).2 hx]
  simp only [bS, if_true]
  rw [specAt_eq hx l hl (by omega) (by omega), poly_acc hx l hl]
  exact ⟨rfl, rfl⟩
end Go.Proofs.Ytlfnfalckfggkaa.PT
end
section
/- A polynomial through its values at 0, 1, 2 ..: the line has them, and leads to the polynomial. -/
namespace Go.Proofs.Ytlfnfalckfggkaa.fnLine
open Go.Proofs.Ytlfnfalckfggkaa.PT Go.RowKit Go.Proofs.YtlfnfalckfggkaaO Go.Proofs.YtlfnfalckfggkaaW.PrintWords Go.Proofs.YtlfnfalckfggkaaW.PrintLast Go.Proofs.YtlfnfalckfggkaaW.PrintMore
set_option linter.unusedSimpArgs false
theorem bytes_of {l : List Int} (h : ListGood (IntGood .u8) l) : bytesL l := by
  intro x hx
  have e := h.2 x hx
  have e2 : (Lit.int .u8 x).wf = true := e
  simp only [Lit.wf, IntKind.min, IntKind.max, IntKind.signed, IntKind.bits] at e2
  simp at e2
  omega
def vals (co : List E) (n : Nat) : List E := (List.range n).map fun i : Nat => polV (eof (i : Int)) co
theorem vals_length (co : List E) (n : Nat) : (vals co n).length = n := by simp [vals]
theorem vals_succ (co : List E) (n : Nat) : vals co (n + 1) = vals co n ++ [polV (eof (n : Int)) co] := by simp [vals, List.range_succ]
theorem vals_ok {co : List E} (h : okL co) (n : Nat) : okL (vals co n) := by
  intro y hy
  simp only [vals, List.mem_map] at hy
  obtain ⟨i, _, rfl⟩ := hy
  exact ok_polV _ _ h
theorem vals_at (co : List E) (n i : Nat) (hi : i < n) : rd_T42 (vals co n) (i : Int) = polV (eof (i : Int)) co := by
  show (vals co n).getD (i : Int).toNat zE = _
  rw [Int.toNat_natCast, List.getD_eq_getElem?_getD, List.getElem?_eq_getElem (by rw [vals_length]; exact hi)]
  simp [vals]
theorem law_l0 (y : List Int) (n : Nat) (hn : n ≤ 6) {co : List E} (hco : okL co) (hcl : co.length = n) (x : E) (d : Nat) : ∀ (k i : Nat), i + d = n → d < k →
    laws_FnLine.l0 k y (n : Int) co (vals co i) (i : Int) x.f0 x.f1 = laws_FnLine.l0 (k - d) y (n : Int) co (vals co n) (n : Int) x.f0 x.f1 := by
  induction d with
  | zero =>
    intro k i hi hk
    obtain rfl : i = n := by omega
    rfl
  | succ d ih =>
    intro k i hi hk
    obtain ⟨k, rfl⟩ : ∃ m, k = m + 1 := ⟨k - 1, by omega⟩
    have hf : inF (i : Int) := by unfold inF; omega
    have e := (PolyAt_eq (ok_of hf) hco (by omega) (k := co.length + 5000) (by omega)).1
    have e' : impl_PolyAt.f co (i : Int) 0 = some ((polV (eof (i : Int)) co).f0, (polV (eof (i : Int)) co).f1, 0) := e
    have es : k + 1 - (d + 1) = k - d := by omega
    rw [es]
    conv => lhs; rw [laws_FnLine.l0]
    rw [if_pos (show (i : Int) < (n : Int) by omega), e']
    simp only [bS, if_true]
    have hvl := vals_length co i
    rw [if_pos (show (vals co i).length < 8796093022208 by omega), w64 (by omega) (by omega), show (i : Int) + 1 = ((i + 1 : Nat) : Int) by omega]
    have ev : vals co i ++ [(⟨(polV (eof (i : Int)) co).f0, (polV (eof (i : Int)) co).f1⟩ : E)] = vals co (i + 1) := by rw [vals_succ]
    rw [ev]
    exact ih k (i + 1) (by omega) (by omega)
theorem law_end {y : List Int} (hby : bytesL y) (hyl : y.length ≤ 1048576) (n : Nat) (h1 : 1 ≤ n) (hn : n ≤ 6) {co : List E} (hco : okL co) (hcl : co.length = n) {x : E} (hx : okE x) {k : Nat} (hk : 6000 < k) :
    laws_FnLine.l0 k y (n : Int) co (vals co n) (n : Int) x.f0 x.f1 = some true := by
  obtain ⟨k, rfl⟩ : ∃ m, k = m + 1 := ⟨k - 1, by omega⟩
  have hvl := vals_length co n
  have hv := vals_ok hco n
  obtain ⟨a1, a2⟩ := LineAt_eq hv (by omega) (by omega) hx (k := k) (by omega)
  obtain ⟨p1, p2⟩ := PolyAt_eq hx hco (by omega) (k := k) (by omega)
  obtain ⟨t, et, ht0, ht1⟩ := at_ok hby hyl (a := 1) (n := (n : Int)) (by omega) (by omega) (by omega) (by omega)
  obtain ⟨t, rfl⟩ := Int.eq_ofNat_of_zero_le ht0
  have htn : t < n := by omega
  have hf : inF (t : Int) := by unfold inF; omega
  have b1 := (LineAt_eq hv (by omega) (by omega) (ok_of hf) (k := k) (by omega)).1
  have L1 := line_poly (z := x) hn hco hcl (show vals co n = _ from rfl)
  have L2 := line_poly (z := eof (t : Int)) hn hco hcl (show vals co n = _ from rfl)
  rw [hvl, L1] at a1 a2
  rw [hvl, L2] at b1
  have b1' : impl_LineAt.f k (vals co n) (t : Int) 0 = some ((polV (eof (t : Int)) co).f0, (polV (eof (t : Int)) co).f1, 0) := b1
  rw [laws_FnLine.l0, if_neg (show ¬ (n : Int) < (n : Int) by omega), a1]
  simp only [bS]
  rw [p1]
  simp only [bS]
  rw [p2]
  simp only [bS]
  rw [et]
  simp only [bS]
  rw [b1']
  simp only [bS]
  rw [a2]
  simp only [bS, if_true, beq_self_eq_true, Bool.and_self]
  rw [if_pos (show (0 : Int) ≤ (t : Int) by omega), if_pos (show (t : Int) < ((vals co n).length : Int) by omega), vals_at co n t htn]
  simp only [beq_self_eq_true, Bool.and_self]
theorem pureFnLine : Pure := by
  intro x y hx hy
  have hbx := bytes_of hx
  have hby := bytes_of hy
  refine ⟨20000 + 1 + 1, ?_⟩
  generalize hK : 20000 = K
  unfold laws_FnLine.f
  by_cases h1 : (x.length : Int) > 1048576
  · rw [if_pos h1]; rfl
  rw [if_neg h1]
  by_cases h2 : (y.length : Int) > 1048576
  · rw [decide_eq_true h2]; rfl
  rw [decide_eq_false h2]
  simp only [laws_FnLine.j0, Bool.false_eq_true, if_false]
  obtain ⟨nn, en, hn0, hn1⟩ := at_ok hby (by omega) (a := 0) (n := 6) (by omega) (by omega) (by omega) (by omega)
  obtain ⟨m, rfl⟩ := Int.eq_ofNat_of_zero_le hn0
  have hm : m ≤ 5 := by omega
  have hw : wrap64 (1 + (m : Int)) = ((m + 1 : Nat) : Int) := by rw [w64 (by omega) (by omega)]; omega
  obtain ⟨co, ⟨hco, hcl⟩, eco⟩ := ExtsOf_ok hbx (m + 1) (by omega)
  obtain ⟨z, ez, hz⟩ := ExtOf_ok hby (k := K + 1) (by omega)
  rw [en]
  simp only [bS]
  rw [hw, eco _ (by omega)]
  simp only [bS]
  rw [ez]
  simp only [bS]
  have e1 := law_l0 y (m + 1) (by omega) hco hcl z (m + 1) (K + 1) 0 (by omega) (by omega)
  have e2 := law_end hby (by omega) (m + 1) (by omega) (by omega) hco hcl hz (k := K + 1 - (m + 1)) (by omega)
  rw [e2] at e1
  exact e1
end Go.Proofs.Ytlfnfalckfggkaa.fnLine
end
