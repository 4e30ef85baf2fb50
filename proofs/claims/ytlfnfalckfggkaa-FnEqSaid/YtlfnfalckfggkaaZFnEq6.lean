/- Part 6 of the proof of FnEq: what functions compute, shown step by step, and what that says (the claim's last text states the law). -/
import Derived.Test.YtlfnfalckfggkaaProg
import Derived.Test.YtlfnfalckfggkaaVMore
import Derived.Test.YtlfnfalckfggkaaVWords
import Derived.Test.YtlfnfalckfggkaaVLast
import Derived.Test.YtlfnfalckfggkaaVTab
import Derived.Test.YtlfnfalckfggkaaVQPut
import Derived.Test.YtlfnfalckfggkaaVApart
import Derived.Test.YtlfnfalckfggkaaVArr
import Derived.Test.YtlfnfalckfggkaaVZeros
import Derived.Test.YtlfnfalckfggkaaVFoot
import Derived.Test.YtlfnfalckfggkaaVKept
import Derived.Test.YtlfnfalckfggkaaVShare
import Derived.Test.YtlfnfalckfggkaaVN
import Derived.Test.YtlfnfalckfggkaaVEqStruct
import Derived.Test.YtlfnfalckfggkaaVRepsOne
import Derived.Test.YtlfnfalckfggkaaVGuard
import Derived.Test.YtlfnfalckfggkaaVNEv
import Derived.Test.YtlfnfalckfggkaaRows
import Derived.JoinedOf
import Derived.WalkKit
import Derived.ProofKit
import Derived.Below
import Derived.Deep.Draws
import Derived.Deep.AppendLies
import Derived.Maps.AppendAt
import Derived.OwnWalk
import Derived.Laws.BytesArg
import Derived.Laws.MakeOwn
import Derived.Laws.OwnMore
import Derived.Deep.OwnRows
import Derived.Tactics
import Derived.Lib.ConvBytes
import Derived.Laws.Slices
import Derived.KernelRfl
import Derived.RowKit3
import Derived.Deep.LoopGhost
import Derived.Deep.QuietTactic
import Derived.BigQuiet
import Derived.WideLaws
import Derived.Deep.DeepCutAuto
import Derived.Deep.CutBlock
import Derived.Deep.RegionHeld3
import Derived.Laws.Rows
import Derived.Lib.AppendStr
import Derived.ArgAppend
import Derived.Laws.IdiomCopy
import Derived.OrdersHeld
import Derived.Laws.BitsLemmas
import Derived.RowKit
import Derived.StillTailTactics
import Derived.OpenShut
import Derived.ShutString
import Derived.ChangeOld
import Derived.SizedLaws
import Derived.Deep.Slices
import Derived.ChangeArms
import Derived.Test.YtlfnfalckfggkaaZFnEq5
section
/- Arguments that are read as data have the kinds' own form: for each kind, compositionally. Own text, for every seat (Ytlfnfalckfggkaa: the seat's name). -/
namespace Go.Proofs.YtlfnfalckfggkaaO
open Go.RowKit Go.ChangeShapes Go.WideShapes Go.ChangeAt Go.Proofs.YtlfnfalckfggkaaW.PrintWords

/-- What is read as data of type T is of the kind d, and good. -/
def Opens {α : Type} {H : Type} (enc : TypeId × Value → H) (P : Program) (w : World) (T : TypeId) (d : Kd α) (good : α → Prop) : Prop :=
  ∀ (fuel : Nat) (cs : List Value) (x : DataW H × List MemPlace), DataW.trod enc P w 0 (fun _ => true) true fuel T cs = some x → ∃ a, d.K w a cs ∧ good a

/-- What is read as a run of fields of these types (each with its cells) is of the kind d, and good. -/
def OpensSeq {α : Type} {H : Type} (enc : TypeId × Value → H) (P : Program) (w : World) (fs : List (TypeId × Nat)) (d : Kd α) (good : α → Prop) : Prop :=
  ∀ (fuel : Nat) (cs : List Value), cs.length = (fs.map (·.2)).sum → (∀ (j : Nat) (T n : Nat), fs[j]? = some (T, n) → ∃ x, DataW.trod enc P w 0 (fun _ => true) true fuel T ((cs.drop ((fs.take j).map (·.2)).sum).take n) = some x) → ∃ a, d.K w a cs ∧ good a

section
variable {H : Type} {enc : TypeId × Value → H} {P : Program} {w : World}

def IntGood (k : IntKind) (a : Int) : Prop := (Lit.int k a).wf = true
def StrGood (a : ByteArray) : Prop := a.size ≤ 9223372036854775807
def ListGood {α : Type} (g : α → Prop) (l : List α) : Prop := l.length ≤ 9223372036854775807 ∧ ∀ x ∈ l, g x

theorem opens_int {T : TypeId} {k : IntKind} (ht : P.underlying T = some (.int k)) : Opens enc P w T (Kd.int k) (IntGood k) := by
  intro fuel cs x h
  obtain ⟨n, rfl, _, hw⟩ := DataW.trod_int ht h
  exact ⟨n, rfl, hw⟩
theorem opens_bool {T : TypeId} (ht : P.underlying T = some .bool) : Opens enc P w T Kd.bool (fun _ => True) := by
  intro fuel cs x h
  obtain ⟨n, rfl, _⟩ := DataW.trod_bool ht h
  exact ⟨n, rfl, trivial⟩
theorem opens_string {T : TypeId} (ht : P.underlying T = some .string) : Opens enc P w T Kd.string StrGood := by
  intro fuel cs x h
  obtain ⟨s, rfl, _, hs⟩ := DataW.trod_string ht h
  exact ⟨s, rfl, by unfold StrGood; unfold maxLen at hs; omega⟩

theorem choose_list {α : Type} {n : Nat} {p : Nat → α → Prop} (h : ∀ i, i < n → ∃ a, p i a) : ∃ l : List α, l.length = n ∧ ∀ i a, l[i]? = some a → p i a := by
  induction n with
  | zero => exact ⟨[], rfl, fun i a hi => by simp at hi⟩
  | succ n ih =>
    obtain ⟨l, hl, hp⟩ := ih (fun i hi => h i (by omega))
    obtain ⟨a, ha⟩ := h n (by omega)
    refine ⟨l ++ [a], by simp [hl], fun i b hi => ?_⟩
    rcases Nat.lt_or_ge i l.length with hlt | hge
    · rw [List.getElem?_append_left hlt] at hi
      exact hp i b hi
    · rw [List.getElem?_append_right hge] at hi
      have : i - l.length = 0 := by
        rcases Nat.eq_zero_or_pos (i - l.length) with h0 | h0
        · exact h0
        · rw [List.getElem?_eq_none (by simp; omega)] at hi; simp at hi
      rw [this] at hi
      simp at hi
      subst hi
      have : i = n := by omega
      rw [this]
      exact ha

theorem opens_slice {α : Type} {d : Kd α} {good : α → Prop} {T e : TypeId} (ht : P.underlying T = some (.slice e)) (hc : P.cellsOf e = d.sz) (ho : Opens enc P w e d good) : Opens enc P w T (Kd.slice e d) (ListGood good) := by
  intro fuel cs x h
  rcases Deep.open_slice ht h with ⟨rfl, _⟩ | ⟨a, len, cap, m, n, D, Pl, rfl, _, hl, hm, hmm, _, hx⟩
  · exact ⟨[], ⟨none, 0, rfl, Nat.le_refl _, ⟨rfl, by simp, fun h0 => by simp at h0⟩⟩, ⟨by simp, fun x hx => by simp at hx⟩⟩
  · have hle : len ≤ m := by rw [hmm]; split <;> omega
    have hex : ∀ i, i < len → ∃ b : α, (∃ c, c.length = d.sz ∧ d.K w b c ∧ ∀ j u, c[j]? = some u → w.cell? (a.add (i * d.sz + j)) = some u) ∧ good b := by
      intro i hi
      obtain ⟨cs', h1, h2⟩ := hx i (by omega)
      obtain ⟨b, hK, hg⟩ := ho _ _ _ h2
      obtain ⟨_, hlen, hcell⟩ := World.cells?_some h1
      refine ⟨b, ⟨cs', by rw [hlen, hc], hK, fun j u hu => ?_⟩, hg⟩
      have hj : j < P.cellsOf e := by
        rw [← hlen]
        exact (List.getElem?_eq_some_iff.1 hu).1
      rw [← Deep.add_add, ← hc, hcell j hj, hu]
    obtain ⟨l, hll, hp⟩ := choose_list hex
    unfold maxLen at hm
    refine ⟨l, ⟨some a, cap, by rw [hll], by omega, ⟨rfl, by omega, fun _ => ⟨a, rfl, fun j p hj => (hp j p hj).1⟩⟩⟩, ⟨by omega, fun x hx => ?_⟩⟩
    obtain ⟨i, hi, rfl⟩ := List.getElem_of_mem hx
    exact (hp i _ (List.getElem?_eq_getElem hi)).2

theorem opensSeq_one {α : Type} {d : Kd α} {good : α → Prop} {T n : Nat} (ho : Opens enc P w T d good) : OpensSeq enc P w [(T, n)] d good := by
  intro fuel cs hlen h
  obtain ⟨x, hx⟩ := h 0 T n rfl
  simp at hlen
  simp [List.take_of_length_le (Nat.le_of_eq hlen)] at hx
  exact ho _ _ _ hx
theorem opensSeq_cons {α β : Type} {d : Kd α} {good : α → Prop} {d2 : Kd β} {good2 : β → Prop} {T n : Nat} {fs : List (TypeId × Nat)} (ho : Opens enc P w T d good) (hs : OpensSeq enc P w fs d2 good2) :
    OpensSeq enc P w ((T, n) :: fs) (Kd.pair d d2) (fun x => good x.1 ∧ good2 x.2) := by
  intro fuel cs hlen h
  obtain ⟨x, hx⟩ := h 0 T n rfl
  simp at hx
  obtain ⟨a, hK, hg⟩ := ho _ _ _ hx
  simp only [List.map_cons, List.sum_cons] at hlen
  obtain ⟨b, hK2, hg2⟩ := hs fuel (cs.drop n) (by rw [List.length_drop, hlen]; omega) (fun j T' n' hj => by
    obtain ⟨y, hy⟩ := h (j + 1) T' n' (by simpa using hj)
    refine ⟨y, ?_⟩
    simp only [List.take_succ_cons, List.map_cons, List.sum_cons] at hy
    rw [List.drop_drop]
    exact hy)
  exact ⟨(a, b), ⟨cs.take n, cs.drop n, (List.take_append_drop n cs).symm, hK, hK2⟩, hg, hg2⟩

/-- A struct whose fields stand one behind the other. -/
theorem opens_struct {α β : Type} {d : Kd α} {good : α → Prop} {T : TypeId} {fs : Array Field} {l : List (TypeId × Nat)} (f : β → α) (g : α → β) (hfg : ∀ a, f (g a) = a) (ht : P.underlying T = some (.struct fs))
    (hl : l.length = fs.size) (hf : ∀ (j : Nat) (T' n : Nat), l[j]? = some (T', n) → ∃ fd, fs[j]? = some fd ∧ fd.type = T' ∧ P.cellsOf T' = n ∧ fd.offset = ((l.take j).map (·.2)).sum) (hc : P.cellsOf T = (l.map (·.2)).sum)
    (hs : OpensSeq enc P w l d good) : Opens enc P w T (Kd.iso d f) (fun x => good (f x)) := by
  intro fuel cs x h
  obtain ⟨xs, n, _, _, hlen, hxl, hx⟩ := DataW.trod_struct ht h
  obtain ⟨a, hK, hg⟩ := hs n cs (by rw [hlen, hc]) (fun j T' n' hj => by
    obtain ⟨fd, h1, h2, h3, h4⟩ := hf j T' n' hj
    have h5 := hx j fd h1
    have hj2 : j < xs.length := by
      have := (List.getElem?_eq_some_iff.1 hj).1
      omega
    rw [List.getElem?_eq_getElem hj2, h2, h3, h4] at h5
    exact ⟨_, h5⟩)
  refine ⟨g a, ?_, ?_⟩
  · show d.K w (f (g a)) cs
    rw [hfg]; exact hK
  · show good (f (g a))
    rw [hfg]; exact hg
end
end Go.Proofs.YtlfnfalckfggkaaO
end
section
namespace Go.Proofs.Ytlfnfalckfggkaa.fnEq
open Go.RowKit Go.ChangeShapes Go.WideShapes Go.ChangeAt Go.Proofs.YtlfnfalckfggkaaO Go.Proofs.Ytlfnfalckfggkaa.PT Go.Proofs.YtlfnfalckfggkaaW.PrintWords Go.Proofs.YtlfnfalckfggkaaW.PrintLast
set_option linter.unusedVariables false
theorem opensT5 {H : Type} {enc : TypeId × Value → H} {w : World} : Opens enc Try.prog w 5 (Kd.int .u8) (IntGood .u8) := opens_int Try.underlying5
theorem opensT40 {H : Type} {enc : TypeId × Value → H} {w : World} : Opens enc Try.prog w 40 (Kd.slice 5 (Kd.int .u8)) (ListGood (IntGood .u8)) := opens_slice Try.underlying40 (by kernel_rfl) opensT5
/-- What is to be shown of the law, over numbers and lists alone. -/
def Pure : Prop := ∀ (x0 : List Int) (x1 : List Int), (ListGood (IntGood .u8)) x0 → (ListGood (IntGood .u8)) x1 → ∃ k, laws_FnEq.f k x0 x1 = some true
end Go.Proofs.Ytlfnfalckfggkaa.fnEq
end
section
/- The field and the greater field, over whole numbers: what the printed functions of chapters 2 and 3 come to. -/
namespace Go.Proofs.Ytlfnfalckfggkaa.PT
open Go.RowKit Go.Proofs.YtlfnfalckfggkaaW.PrintWords Go.Proofs.YtlfnfalckfggkaaW.PrintLast Go.Proofs.YtlfnfalckfggkaaW.PrintMore
set_option linter.unusedVariables false
set_option linter.unusedSimpArgs false

abbrev E := S42
abbrev LE := S51
theorem rdE (l : List E) (i : Int) : rd_T42 l i = l.getD i.toNat z42 := rfl
abbrev zE : E := z42
instance : DecidableEq S42 := fun x y => decidable_of_iff (x.f0 = y.f0 ∧ x.f1 = y.f1) ⟨fun h => by cases x; cases y; simp_all, fun h => by rw [h]; exact ⟨rfl, rfl⟩⟩
theorem E.ext_ {x y : E} (h0 : x.f0 = y.f0) (h1 : x.f1 = y.f1) : x = y := by cases x; cases y; simp_all
theorem LE.ext_ {x y : LE} (h0 : x.f0 = y.f0) (h1 : x.f1 = y.f1) : x = y := by cases x; cases y; simp_all

theorem w64 {n : Int} (h0 : -9223372036854775808 ≤ n) (h1 : n ≤ 9223372036854775807) : wrap64 n = n := by unfold wrap64; omega
theorem tmod_nn {a b : Int} (h : 0 ≤ a) : Int.tmod a b = a % b := Int.tmod_eq_emod_of_nonneg h
theorem tdiv_nn {a b : Int} (h : 0 ≤ a) : Int.tdiv a b = a / b := Int.tdiv_eq_ediv_of_nonneg h

def inF (a : Int) : Prop := 0 ≤ a ∧ a ≤ 2130706432
instance (a : Int) : Decidable (inF a) := by unfold inF; infer_instance
def fadd (a b : Int) : Int := (a + b) % 2130706433
def fsub (a b : Int) : Int := (a - b) % 2130706433
def fmul (a b : Int) : Int := (a * b) % 2130706433
theorem inF_add (a b : Int) : inF (fadd a b) := by unfold inF fadd; omega
theorem inF_sub (a b : Int) : inF (fsub a b) := by unfold inF fsub; omega
theorem inF_mul (a b : Int) : inF (fmul a b) := by unfold inF fmul; omega
theorem mul_bd {a b : Int} (ha : inF a) (hb : inF b) : 0 ≤ a * b ∧ a * b ≤ 4539909903617114624 := by
  obtain ⟨h1, h2⟩ := ha
  obtain ⟨h3, h4⟩ := hb
  refine ⟨Int.mul_nonneg h1 h3, Int.le_trans (Int.mul_le_mul h2 h4 h3 (by omega)) (by decide)⟩
theorem inF_0 : inF 0 := by decide
theorem inF_1 : inF 1 := by decide
theorem inF_3 : inF 3 := by decide

structure okE (x : E) : Prop where
  a : inF x.f0
  b : inF x.f1
def eadd (x y : E) : E := ⟨fadd x.f0 y.f0, fadd x.f1 y.f1⟩
def esub (x y : E) : E := ⟨fsub x.f0 y.f0, fsub x.f1 y.f1⟩
def emul (x y : E) : E := ⟨fadd (fmul x.f0 y.f0) (fmul 3 (fmul x.f1 y.f1)), fadd (fmul x.f0 y.f1) (fmul x.f1 y.f0)⟩
def eof (n : Int) : E := ⟨n, 0⟩
def escale (x : E) (n : Int) : E := ⟨fmul x.f0 n, fmul x.f1 n⟩
theorem ok_add (x y : E) : okE (eadd x y) := ⟨inF_add _ _, inF_add _ _⟩
theorem ok_sub (x y : E) : okE (esub x y) := ⟨inF_sub _ _, inF_sub _ _⟩
theorem ok_mul (x y : E) : okE (emul x y) := ⟨inF_add _ _, inF_add _ _⟩
theorem ok_of {n : Int} (h : inF n) : okE (eof n) := ⟨h, inF_0⟩
theorem ok_zero : okE zE := ⟨inF_0, inF_0⟩
theorem fmul_comm (a b : Int) : fmul a b = fmul b a := by unfold fmul; rw [Int.mul_comm]
theorem fadd_zero {a : Int} (h : inF a) : fadd a 0 = a := by unfold fadd inF at *; omega
theorem fmul_zero (a : Int) : fmul a 0 = 0 := by simp [fmul]
theorem fmul_one {a : Int} (h : inF a) : fmul a 1 = a := by unfold fmul inF at *; omega
/-- A product with a number of the field is a scaling. -/
theorem emul_of (x : E) (n : Int) : emul x (eof n) = escale x n := by
  refine E.ext_ ?_ ?_
  · show fadd (fmul x.f0 n) (fmul 3 (fmul x.f1 0)) = fmul x.f0 n
    rw [fmul_zero, fmul_zero, fadd_zero (inF_mul _ _)]
  · show fadd (fmul x.f0 0) (fmul x.f1 n) = fmul x.f1 n
    rw [fmul_zero]; unfold fadd; have := inF_mul x.f1 n; unfold inF at this; omega
end Go.Proofs.Ytlfnfalckfggkaa.PT
end
section
/- What the printed functions of the field and of the greater field answer: the same sums and products on both sides. -/
namespace Go.Proofs.Ytlfnfalckfggkaa.PT
open Go.RowKit Go.Proofs.YtlfnfalckfggkaaW.PrintWords Go.Proofs.YtlfnfalckfggkaaW.PrintLast Go.Proofs.YtlfnfalckfggkaaW.PrintMore
set_option linter.unusedVariables false
set_option linter.unusedSimpArgs false

theorem impl_in_eq (a b c : Int) : impl_in.f a b c = some (decide (b ≤ a ∧ a ≤ c)) := by
  unfold impl_in.f; by_cases h : b ≤ a <;> simp [h]
theorem spec_l01In_eq (a b c : Int) : spec_l01In.f a b c = some (decide (b ≤ a ∧ a ≤ c)) := by
  unfold spec_l01In.f; by_cases h : b ≤ a <;> simp [h]
theorem impl_FieldOK_eq (a : Int) : impl_FieldOK.f a = some (decide (inF a)) := by
  unfold impl_FieldOK.f; rw [impl_in_eq]; rfl
theorem spec_FieldOK_eq (a : Int) : spec_FieldOK.f a = some (decide (inF a)) := by
  unfold spec_FieldOK.f; rw [spec_l01In_eq]; rfl
def okB (x : E) : Bool := decide (inF x.f0) && decide (inF x.f1)
theorem okB_iff (x : E) : okB x = true ↔ okE x := by
  unfold okB; rw [Bool.and_eq_true, decide_eq_true_eq, decide_eq_true_eq]; exact ⟨fun h => ⟨h.1, h.2⟩, fun h => ⟨h.a, h.b⟩⟩
theorem impl_ExtOK_eq (a b : Int) : impl_ExtOK.f a b = some (okB ⟨a, b⟩) := by
  unfold impl_ExtOK.f okB; rw [impl_FieldOK_eq, impl_FieldOK_eq]
  by_cases h : inF a <;> simp [h]
theorem spec_ExtOK_eq (a b : Int) : spec_ExtOK.f a b = some (okB ⟨a, b⟩) := by
  unfold spec_ExtOK.f okB; rw [spec_FieldOK_eq, spec_FieldOK_eq]
  by_cases h : inF a <;> simp [h]
theorem impl_add_eq {a b : Int} (ha : inF a) (hb : inF b) : impl_add.f a b = some (fadd a b) := by
  unfold inF at ha hb; unfold impl_add.f fadd; rw [w64 (by omega) (by omega), tmod_nn (by omega)]
theorem spec_l01Add_eq {a b : Int} (ha : inF a) (hb : inF b) : spec_l01Add.f a b = some (fadd a b) := by
  unfold inF at ha hb; unfold spec_l01Add.f fadd; rw [w64 (by omega) (by omega), tmod_nn (by omega)]
theorem impl_sub_eq {a b : Int} (ha : inF a) (hb : inF b) : impl_sub.f a b = some (fsub a b) := by
  unfold inF at ha hb; unfold impl_sub.f fsub; rw [w64 (n := a - b) (by omega) (by omega), w64 (by omega) (by omega), tmod_nn (by omega)]
  congr 1; omega
theorem spec_l01Sub_eq {a b : Int} (ha : inF a) (hb : inF b) : spec_l01Sub.f a b = some (fsub a b) := by
  unfold inF at ha hb; unfold spec_l01Sub.f fsub; rw [w64 (n := a + _) (by omega) (by omega), w64 (by omega) (by omega), tmod_nn (by omega)]
  congr 1; omega
theorem impl_mul_eq {a b : Int} (ha : inF a) (hb : inF b) : impl_mul.f a b = some (fmul a b) := by
  have := mul_bd ha hb
  unfold impl_mul.f fmul; rw [w64 (by omega) (by omega), tmod_nn (by omega)]
theorem spec_l01Mul_eq {a b : Int} (ha : inF a) (hb : inF b) : spec_l01Mul.f a b = some (fmul a b) := by
  have := mul_bd ha hb
  unfold spec_l01Mul.f fmul; rw [w64 (by omega) (by omega), tmod_nn (by omega)]
theorem impl_plus_eq {x y : E} (hx : okE x) (hy : okE y) : impl_Ext_plus.f x.f0 x.f1 y.f0 y.f1 = some ((eadd x y).f0, (eadd x y).f1) := by
  unfold impl_Ext_plus.f; rw [impl_add_eq hx.a hy.a, impl_add_eq hx.b hy.b]; rfl
theorem impl_minus_eq {x y : E} (hx : okE x) (hy : okE y) : impl_Ext_minus.f x.f0 x.f1 y.f0 y.f1 = some ((esub x y).f0, (esub x y).f1) := by
  unfold impl_Ext_minus.f; rw [impl_sub_eq hx.a hy.a, impl_sub_eq hx.b hy.b]; rfl
theorem impl_times_eq {x y : E} (hx : okE x) (hy : okE y) : impl_Ext_times.f x.f0 x.f1 y.f0 y.f1 = some ((emul x y).f0, (emul x y).f1) := by
  unfold impl_Ext_times.f
  simp only [impl_mul_eq hx.a hy.a, impl_mul_eq hx.b hy.b, impl_mul_eq hx.a hy.b, impl_mul_eq hx.b hy.a, impl_mul_eq inF_3 (inF_mul _ _), impl_add_eq (inF_mul _ _) (inF_mul _ _), Option.bind_some]
  rfl
theorem spec_l02Sub_eq {x y : E} (hx : okE x) (hy : okE y) : spec_l02Sub.f x.f0 x.f1 y.f0 y.f1 = some ((esub x y).f0, (esub x y).f1) := by
  unfold spec_l02Sub.f; rw [spec_l01Sub_eq hx.a hy.a, spec_l01Sub_eq hx.b hy.b]; rfl
theorem spec_l02Mul_eq {x y : E} (hx : okE x) (hy : okE y) : spec_l02Mul.f x.f0 x.f1 y.f0 y.f1 = some ((emul x y).f0, (emul x y).f1) := by
  unfold spec_l02Mul.f
  have h3 : ∀ t, inF t → Int.tmod (wrap64 (3 * t)) 2130706433 = fmul 3 t := by
    intro t ht; unfold inF at ht; unfold fmul; rw [w64 (by omega) (by omega), tmod_nn (by omega)]
  simp only [spec_l01Mul_eq hx.a hy.a, spec_l01Mul_eq hx.b hy.b, spec_l01Mul_eq hx.a hy.b, spec_l01Mul_eq hx.b hy.a, Option.bind_some, h3 _ (inF_mul _ _), spec_l01Add_eq (inF_mul _ _) (inF_mul _ _)]
  rfl
theorem impl_one_eq : impl_one.f = some ((eof 1).f0, (eof 1).f1) := rfl

/-! lists -/
def okL (l : List E) : Prop := ∀ x ∈ l, okE x
def okLB (l : List E) : Bool := l.all okB
theorem okLB_iff (l : List E) : okLB l = true ↔ okL l := by
  unfold okLB okL; rw [List.all_eq_true]; exact ⟨fun h x hx => (okB_iff x).1 (h x hx), fun h x hx => (okB_iff x).2 (h x hx)⟩
theorem okL_get {l : List E} (h : okL l) (i : Nat) (hi : i < l.length) : okE (l.getD i zE) := by
  rw [List.getD_eq_getElem?_getD, List.getElem?_eq_getElem hi]; exact h _ (List.getElem_mem hi)
theorem impl_are_eq (l : List E) : impl_are_Ext_ExtOK.f l = some (okLB l) := by
  unfold impl_are_Ext_ExtOK.f okLB
  congr 2; funext x; unfold impl_are_Ext_ExtOK.p; rw [impl_ExtOK_eq]; rfl
theorem spec_l02List_l0 (l : List E) (hl : l.length ≤ 4611686018427387904) (d : Nat) : ∀ (k i : Nat), i + d = l.length → d < k → spec_l02List.l0 k l i = some ((l.drop i).all okB) := by
  induction d with
  | zero =>
    intro k i hi hk
    obtain ⟨k, rfl⟩ : ∃ m, k = m + 1 := ⟨k - 1, by omega⟩
    simp only [spec_l02List.l0]; rw [if_neg (by omega), List.drop_eq_nil_of_le (by omega)]; rfl
  | succ d ih =>
    intro k i hi hk
    obtain ⟨k, rfl⟩ : ∃ m, k = m + 1 := ⟨k - 1, by omega⟩
    have hlt : i < l.length := by omega
    simp only [spec_l02List.l0]
    rw [if_pos (by omega), if_pos (by omega), spec_ExtOK_eq, List.drop_eq_getElem_cons hlt]
    have hg : rd_T42 l (i : Int) = l[i] := by rw [rdE, Int.toNat_natCast, List.getD_eq_getElem?_getD, List.getElem?_eq_getElem hlt]; rfl
    rw [hg]
    simp only [Option.bind_some, List.all_cons]
    by_cases hb : okB l[i] = true
    · have e : okB ⟨(l[i]).f0, (l[i]).f1⟩ = true := hb
      rw [e, if_pos rfl, w64 (by omega) (by omega), show (i : Int) + 1 = ((i + 1 : Nat) : Int) by omega, ih k (i + 1) (by omega) (by omega)]
      rfl
    · replace hb := Bool.eq_false_iff.mpr hb
      have e : okB ⟨(l[i]).f0, (l[i]).f1⟩ = false := hb
      rw [e]; rfl
theorem spec_l02List_eq {l : List E} (hl : l.length ≤ 4611686018427387904) {k : Nat} (hk : l.length < k) : spec_l02List.f k l = some (okLB l) := by
  have := spec_l02List_l0 l hl l.length k 0 (by omega) hk
  unfold spec_l02List.f; exact this
end Go.Proofs.Ytlfnfalckfggkaa.PT
end
section
/- The laws' own helpers: elements copied, compared, marked; and powers of two. -/
namespace Go.Proofs.Ytlfnfalckfggkaa.PT
open Go.RowKit Go.Proofs.YtlfnfalckfggkaaW.PrintWords Go.Proofs.YtlfnfalckfggkaaW.PrintLast Go.Proofs.YtlfnfalckfggkaaW.PrintMore
set_option linter.unusedVariables false
set_option linter.unusedSimpArgs false

theorem getD_at {α : Type} {l : List α} {z : α} {i : Nat} (h : i < l.length) : l.getD i z = l[i] := by
  rw [List.getD_eq_getElem?_getD, List.getElem?_eq_getElem h]; rfl
theorem rdE_at {l : List E} {i : Nat} (h : i < l.length) : rd_T42 l (i : Int) = l[i] := by rw [rdE, Int.toNat_natCast, getD_at h]
theorem set_mid {α : Type} (a b : List α) (x y : α) : (a ++ x :: b).set a.length y = a ++ y :: b := by
  rw [List.set_append_right _ _ (Nat.le_refl _)]; simp
/-! marks: a list's cells are numbered from k on -/
def marked : Nat → Int → List E
  | 0, _ => []
  | n + 1, k => ⟨k, k + 1⟩ :: marked n (k + 2)
/-! powers of two -/
end Go.Proofs.Ytlfnfalckfggkaa.PT
end
section
/- Steps that several laws share: same answers compared, lists turned in place. -/
namespace Go.Proofs.Ytlfnfalckfggkaa.PT
open Go.RowKit Go.Proofs.YtlfnfalckfggkaaW.PrintWords Go.Proofs.YtlfnfalckfggkaaW.PrintLast Go.Proofs.YtlfnfalckfggkaaW.PrintMore
set_option linter.unusedVariables false
set_option linter.unusedSimpArgs false
/-- A step with its answer known, as a rewriting (no unfolding in the kernel). -/
theorem bS {α β : Type} (a : α) (f : α → Option β) : (some a).bind f = f a := Eq.trans (Eq.refl _) (Option.bind_some a f)
theorem okL_rd {l : List E} (h : okL l) {i : Int} (hi : 0 ≤ i) (hl : i < l.length) : okE (rd_T42 l i) := okL_get h i.toNat (by omega)
theorem okL_app {l m : List E} (h : okL l) (h2 : okL m) : okL (l ++ m) := by
  intro y hy
  rcases List.mem_append.mp hy with h1 | h1
  · exact h y h1
  · exact h2 y h1
theorem okL_one {x : E} (hx : okE x) : okL [x] := by intro y hy; rw [List.mem_singleton.mp hy]; exact hx
theorem okL_nil : okL [] := by intro y hy; cases hy
end Go.Proofs.Ytlfnfalckfggkaa.PT
end
section
/- The equality weight, at a point and as a table: both sides walk the same numbers. -/
namespace Go.Proofs.Ytlfnfalckfggkaa.PT
open Go.RowKit Go.Proofs.YtlfnfalckfggkaaW.PrintWords Go.Proofs.YtlfnfalckfggkaaW.PrintLast Go.Proofs.YtlfnfalckfggkaaW.PrintMore
set_option linter.unusedVariables false
set_option linter.unusedSimpArgs false
theorem l06One_eq : spec_l06One.f = some ((eof 1).f0, (eof 1).f1) := rfl
theorem l06Less_eq {x : E} (hx : okE x) : spec_l06Less.f x.f0 x.f1 = some ((esub (eof 1) x).f0, (esub (eof 1) x).f1) := by
  unfold spec_l06Less.f
  rw [l06One_eq]
  simp only [bS]
  rw [spec_l02Sub_eq (ok_of inF_1) hx]
  rfl
def pointB (l : List E) : Bool := decide (l.length ≤ 6) && okLB l
theorem l06Point_eq {l : List E} {k : Nat} (hk : l.length < k) : spec_l06Point.f k l = some (pointB l) := by
  unfold spec_l06Point.f pointB
  by_cases h : l.length ≤ 6
  · rw [if_pos (by omega), spec_l02List_eq (by omega) hk, decide_eq_true h]; simp
  · rw [if_neg (by omega), decide_eq_false h]; rfl
theorem isPoint_eq (l : List E) : impl_isPoint.f l = some (pointB l) := by
  unfold impl_isPoint.f pointB
  by_cases h : l.length ≤ 6
  · rw [if_pos (by omega), impl_are_eq, decide_eq_true h]; simp
  · rw [if_neg (by omega), decide_eq_false h]; rfl
/-! the table -/
def wA (p x : E) : E := emul x (esub (eof 1) p)
def wB (p x : E) : E := emul x p
def wNext (L : List E) (p : E) : List E := L.map (wA p) ++ L.map (wB p)
theorem wNext_length (L : List E) (p : E) : (wNext L p).length = 2 * L.length := by simp [wNext]; omega
theorem wNext_ok (L : List E) (p : E) : okL (wNext L p) := by
  intro y hy
  rcases List.mem_append.mp hy with h | h <;> obtain ⟨z, _, rfl⟩ := List.mem_map.mp h <;> exact ok_mul _ _
def wAll : List E → List E → List E
  | L, [] => L
  | L, p :: ps => wAll (wNext L p) ps
theorem etaE (x : E) : (⟨x.f0, x.f1⟩ : E) = x := rfl
theorem take_map_set {α : Type} (f : α → α) (L : List α) (z : α) (i : Nat) (h : i < L.length) :
    ((L.take i).map f ++ List.replicate (L.length - i) z).set i (f L[i]) = (L.take (i + 1)).map f ++ List.replicate (L.length - (i + 1)) z := by
  have e : L.length - i = (L.length - (i + 1)) + 1 := by omega
  have hl : ((L.take i).map f).length = i := by simp; omega
  rw [e, List.replicate_succ]
  have := set_mid ((L.take i).map f) (List.replicate (L.length - (i + 1)) z) z (f L[i])
  rw [hl] at this
  rw [this, List.take_succ_eq_append_getElem h, List.map_append]
  simp only [List.map_cons, List.map_nil, List.append_assoc, List.cons_append, List.nil_append]
theorem specEq_l1 (x0 L : List E) (h0 : okL x0) (hL : okL L) (j : Nat) (hj : j < x0.length) (hn : x0.length ≤ 64) (hm : L.length ≤ 1048576) (d : Nat) : ∀ (k i : Nat), i + d = L.length → d < k →
    spec_l06Eq.l1 k x0 L j (((L.take i).map (wA x0[j]) ++ List.replicate (L.length - i) zE) ++ ((L.take i).map (wB x0[j]) ++ List.replicate (L.length - i) zE)) i
    = spec_l06Eq.l0 (k - d - 1) x0 (wNext L x0[j]) (wrap64 (j + 1)) := by
  induction d with
  | zero =>
    intro k i hi hk
    obtain ⟨k, rfl⟩ : ∃ m, k = m + 1 := ⟨k - 1, by omega⟩
    simp only [spec_l06Eq.l1]
    rw [if_neg (by omega), List.take_of_length_le (by omega)]
    have e : L.length - i = 0 := by omega
    rw [e]
    simp [wNext]
  | succ d ih =>
    intro k i hi hk
    obtain ⟨k, rfl⟩ : ∃ m, k = m + 1 := ⟨k - 1, by omega⟩
    have h1 : okE (rd_T42 L i) := okL_rd hL (by omega) (by omega)
    have h2 : okE (rd_T42 x0 j) := okL_rd h0 (by omega) (by omega)
    have g1 : rd_T42 L i = L[i]'(by omega) := rdE_at _
    have g2 : rd_T42 x0 j = x0[j] := rdE_at _
    have lA : ((L.take i).map (wA x0[j]) ++ List.replicate (L.length - i) zE).length = L.length := by simp; omega
    have lB : ((L.take i).map (wB x0[j]) ++ List.replicate (L.length - i) zE).length = L.length := by simp; omega
    simp only [spec_l06Eq.l1]
    rw [if_pos (by omega), if_pos (by omega), if_pos (by omega), if_pos (by omega), l06Less_eq h2]
    simp only [bS]
    rw [spec_l02Mul_eq h1 (ok_sub _ _), spec_l02Mul_eq h1 h2]
    simp only [bS]
    rw [w64 (n := (i : Int) + (L.length : Int)) (by omega) (by omega), if_pos (by rw [List.length_append, lA, lB]; omega), if_pos (by omega), if_pos (by rw [List.length_append, lA, lB]; omega), w64 (n := (i : Int) + 1) (by omega) (by omega)]
    have t1 : ((i : Int) + (L.length : Int)).toNat = L.length + i := by omega
    rw [t1, Int.toNat_natCast, List.set_append_left _ _ (by rw [lA]; omega), List.set_append_right _ _ (by rw [List.length_set, lA]; omega), List.length_set, lA, Nat.add_sub_cancel_left]
    have s1 : ((L.take i).map (wA x0[j]) ++ List.replicate (L.length - i) zE).set i (emul L[i] (esub (eof 1) x0[j])) = _ := take_map_set (wA x0[j]) L zE i (by omega)
    have s2 : ((L.take i).map (wB x0[j]) ++ List.replicate (L.length - i) zE).set i (emul L[i] x0[j]) = _ := take_map_set (wB x0[j]) L zE i (by omega)
    rw [g1, g2, etaE, etaE, s1, s2, show (i : Int) + 1 = ((i + 1 : Nat) : Int) by omega, ih k (i + 1) (by omega) (by omega)]
    congr 1
    omega
theorem implEq_l1 (x0 L : List E) (h0 : okL x0) (hL : okL L) (j : Nat) (hj : j < x0.length) (hn : x0.length ≤ 64) (hm : L.length ≤ 1048576) (d : Nat) : ∀ (k i : Nat), i + d = L.length → d < k →
    impl_eqTable.l1 k ((L.take i).map (wA x0[j])) ((L.take i).map (wB x0[j])) x0 (x0.length : Int) j L (L.length : Int) i (x0[j]).f0 (x0[j]).f1
    = impl_eqTable.l0 (k - d - 1) (wNext L x0[j]) x0 (x0.length : Int) (wrap64 (j + 1)) := by
  induction d with
  | zero =>
    intro k i hi hk
    obtain ⟨k, rfl⟩ : ∃ m, k = m + 1 := ⟨k - 1, by omega⟩
    simp only [impl_eqTable.l1]
    rw [if_neg (by omega), List.take_of_length_le (by omega), if_pos (by simp; omega)]
    simp [wNext]
  | succ d ih =>
    intro k i hi hk
    obtain ⟨k, rfl⟩ : ∃ m, k = m + 1 := ⟨k - 1, by omega⟩
    have h1 : okE (rd_T42 L i) := okL_rd hL (by omega) (by omega)
    have g1 : rd_T42 L i = L[i]'(by omega) := rdE_at _
    have h2 : okE x0[j] := h0 _ (List.getElem_mem _)
    simp only [impl_eqTable.l1]
    rw [if_pos (by omega), if_pos (by omega), if_pos (by omega), impl_one_eq]
    simp only [bS]
    rw [impl_minus_eq (ok_of inF_1) h2]
    simp only [bS]
    rw [impl_times_eq h1 (ok_sub _ _), impl_times_eq h1 h2]
    simp only [bS]
    rw [if_pos (by simp; omega), if_pos (by simp; omega), w64 (by omega) (by omega), g1]
    have e := ih k (i + 1) (by omega) (by omega)
    rw [List.take_succ_eq_append_getElem (by omega), List.map_append, List.map_append] at e
    rw [show (i : Int) + 1 = ((i + 1 : Nat) : Int) by omega]
    refine Eq.trans e ?_
    congr 1
    omega
theorem eqT_l0 (x0 : List E) (h0 : okL x0) (hn : x0.length ≤ 6) (d : Nat) : ∀ (ks ki j : Nat) (L : List E), j + d = x0.length → d * 200 < ks → d * 200 < ki → okL L → L.length = 2 ^ j →
    spec_l06Eq.l0 ks x0 L j = some (wAll L (x0.drop j)) ∧ impl_eqTable.l0 ki L x0 (x0.length : Int) j = some (wAll L (x0.drop j)) := by
  induction d with
  | zero =>
    intro ks ki j L hj hks hki hL hl
    obtain ⟨ks, rfl⟩ : ∃ m, ks = m + 1 := ⟨ks - 1, by omega⟩
    obtain ⟨ki, rfl⟩ : ∃ m, ki = m + 1 := ⟨ki - 1, by omega⟩
    simp only [spec_l06Eq.l0, impl_eqTable.l0]
    rw [if_neg (by omega), if_neg (by omega), List.drop_eq_nil_of_le (by omega)]
    exact ⟨rfl, rfl⟩
  | succ d ih =>
    intro ks ki j L hj hks hki hL hl
    obtain ⟨ks, rfl⟩ : ∃ m, ks = m + 1 := ⟨ks - 1, by omega⟩
    obtain ⟨ki, rfl⟩ : ∃ m, ki = m + 1 := ⟨ki - 1, by omega⟩
    have hlt : j < x0.length := by omega
    have hp : L.length ≤ 64 := by
      rw [hl]
      exact Nat.le_trans (Nat.pow_le_pow_right (by omega) (show j ≤ 6 by omega)) (by decide)
    have hp2 : (wNext L x0[j]).length = 2 ^ (j + 1) := by rw [wNext_length, hl, Nat.pow_succ]; omega
    simp only [spec_l06Eq.l0, impl_eqTable.l0]
    rw [w64 (n := 2 * (L.length : Int)) (by omega) (by omega), if_pos (by omega), if_pos (by omega), if_pos (by omega), if_pos (by omega), if_pos (by omega), if_pos (by omega), rdE_at hlt]
    have e1 := specEq_l1 x0 L h0 hL j hlt (by omega) (by omega) L.length ks 0 (by omega) (by omega)
    have e2 := implEq_l1 x0 L h0 hL j hlt (by omega) (by omega) L.length ki 0 (by omega) (by omega)
    have e3 : List.replicate (2 * (L.length : Int)).toNat zE = List.replicate L.length zE ++ List.replicate L.length zE := by
      rw [List.replicate_append_replicate]; congr 1; omega
    simp only [List.take_zero, List.map_nil, List.nil_append, Nat.sub_zero, Int.natCast_zero] at e1 e2
    rw [show List.replicate (2 * (L.length : Int)).toNat z42 = _ from e3, e1, e2, w64 (by omega) (by omega), show (j : Int) + 1 = ((j + 1 : Nat) : Int) by omega]
    have e4 := ih (ks - L.length - 1) (ki - L.length - 1) (j + 1) (wNext L x0[j]) (by omega) (by omega) (by omega) (wNext_ok _ _) hp2
    rw [List.drop_eq_getElem_cons hlt]
    exact e4
theorem wAll_ok (ps : List E) : ∀ L, okL L → okL (wAll L ps) := by
  induction ps with
  | nil => intro L h; exact h
  | cons p ps ih => intro L h; exact ih _ (wNext_ok _ _)
theorem wAll_length (ps : List E) : ∀ L, (wAll L ps).length = L.length * 2 ^ ps.length := by
  induction ps with
  | nil => intro L; simp [wAll]
  | cons p ps ih => intro L; rw [wAll, ih, wNext_length, List.length_cons, Nat.pow_succ, Nat.mul_assoc, Nat.mul_left_comm, Nat.mul_comm 2 (2 ^ _)]
def eqTab (x0 : List E) : List E := wAll [eof 1] x0
theorem eqTab_ok (x0 : List E) : okL (eqTab x0) := wAll_ok _ _ (okL_one (ok_of inF_1))
theorem eqTab_length (x0 : List E) : (eqTab x0).length = 2 ^ x0.length := by unfold eqTab; rw [wAll_length]; simp
theorem l06Eq_eq {x0 : List E} (h0 : okL x0) (hn : x0.length ≤ 6) {k : Nat} (hk : 1200 < k) : spec_l06Eq.f k x0 = some (eqTab x0) := by
  unfold spec_l06Eq.f
  rw [l06One_eq]
  have := (eqT_l0 x0 h0 hn x0.length k k 0 [eof 1] (by omega) (by omega) (by omega) (okL_one (ok_of inF_1)) rfl).1
  exact this
theorem eqTable_eq {x0 : List E} (h0 : okL x0) (hn : x0.length ≤ 6) {k : Nat} (hk : 1200 < k) : impl_eqTable.f k x0 = some (eqTab x0) := by
  unfold impl_eqTable.f
  rw [impl_one_eq]
  have := (eqT_l0 x0 h0 hn x0.length k k 0 [eof 1] (by omega) (by omega) (by omega) (okL_one (ok_of inF_1)) rfl).2
  exact this
end Go.Proofs.Ytlfnfalckfggkaa.PT
end
section
/- Tables turned in place, folded, and read at a point: both sides walk the same numbers. -/
namespace Go.Proofs.Ytlfnfalckfggkaa.PT
open Go.RowKit Go.Proofs.YtlfnfalckfggkaaW.PrintWords Go.Proofs.YtlfnfalckfggkaaW.PrintLast Go.Proofs.YtlfnfalckfggkaaW.PrintMore
set_option linter.unusedVariables false
set_option linter.unusedSimpArgs false
/-! a table turned in place -/
/-! a table folded -/
/-! a table at a point -/
theorem shl_small0 : ∀ n : Fin 10, shl .i64 1 (n.val : Int) = ((2 ^ n.val : Nat) : Int) := by decide +kernel
theorem shl_small {n : Nat} (h : n < 10) : shl .i64 1 (n : Int) = ((2 ^ n : Nat) : Int) := shl_small0 ⟨n, h⟩
end Go.Proofs.Ytlfnfalckfggkaa.PT
end
section
/- A table turned is a table turned half by half; turned forth and back it is itself. -/
namespace Go.Proofs.Ytlfnfalckfggkaa.PT
open Go.RowKit Go.Proofs.YtlfnfalckfggkaaW.PrintWords Go.Proofs.YtlfnfalckfggkaaW.PrintLast Go.Proofs.YtlfnfalckfggkaaW.PrintMore
set_option linter.unusedVariables false
set_option linter.unusedSimpArgs false
/-! the loops are this -/
end Go.Proofs.Ytlfnfalckfggkaa.PT
end
section
/- Powers, inverses and the line: what the printed functions of chapter 2 come to. -/
namespace Go.Proofs.Ytlfnfalckfggkaa.PT
open Go.RowKit Go.Proofs.YtlfnfalckfggkaaW.PrintWords Go.Proofs.YtlfnfalckfggkaaW.PrintLast Go.Proofs.YtlfnfalckfggkaaW.PrintMore
set_option linter.unusedVariables false
set_option linter.unusedSimpArgs false
theorem e_al (a b : Int) : (a % 2130706433 + b) % 2130706433 = (a + b) % 2130706433 := by omega
theorem e_ar (a b : Int) : (a + b % 2130706433) % 2130706433 = (a + b) % 2130706433 := by omega
theorem e_sl (a b : Int) : (a % 2130706433 - b) % 2130706433 = (a - b) % 2130706433 := by omega
theorem e_sr (a b : Int) : (a - b % 2130706433) % 2130706433 = (a - b) % 2130706433 := by omega
theorem e_ml (a b : Int) : (a % 2130706433 * b) % 2130706433 = (a * b) % 2130706433 := by rw [Int.mul_emod, Int.emod_emod_of_dvd _ (Int.dvd_refl _), ← Int.mul_emod]
theorem e_mr (a b : Int) : (a * (b % 2130706433)) % 2130706433 = (a * b) % 2130706433 := by rw [Int.mul_emod, Int.emod_emod_of_dvd _ (Int.dvd_refl _), ← Int.mul_emod]
theorem scale_one {x : E} (hx : okE x) : escale x 1 = x := E.ext_ (fmul_one hx.a) (fmul_one hx.b)
end Go.Proofs.Ytlfnfalckfggkaa.PT
end
section
/- The field's order is a prime: powers, inverses and the greater field's laws. -/
namespace Go.Proofs.Ytlfnfalckfggkaa.PT
open Go.RowKit Go.Proofs.YtlfnfalckfggkaaW.PrintWords Go.Proofs.YtlfnfalckfggkaaW.PrintLast Go.Proofs.YtlfnfalckfggkaaW.PrintMore
set_option linter.unusedVariables false
set_option linter.unusedSimpArgs false
theorem emul_comm (x y : E) : emul x y = emul y x := by
  refine E.ext_ ?_ ?_
  · show fadd (fmul x.f0 y.f0) (fmul 3 (fmul x.f1 y.f1)) = fadd (fmul y.f0 x.f0) (fmul 3 (fmul y.f1 x.f1))
    rw [fmul_comm x.f0, fmul_comm x.f1]
  · show fadd (fmul x.f0 y.f1) (fmul x.f1 y.f0) = fadd (fmul y.f0 x.f1) (fmul y.f1 x.f0)
    unfold fadd fmul
    simp only [e_al, e_ar, e_ml, e_mr]
    congr 1; grind
theorem emul_one {x : E} (hx : okE x) : emul x (eof 1) = x := by rw [emul_of]; exact scale_one hx
theorem one_emul {x : E} (hx : okE x) : emul (eof 1) x = x := by rw [emul_comm, emul_one hx]
end Go.Proofs.Ytlfnfalckfggkaa.PT
end
section
/- A table's polynomial from its coefficients and from the equality weight: one value. -/
namespace Go.Proofs.Ytlfnfalckfggkaa.PT
open Go.RowKit Go.Proofs.YtlfnfalckfggkaaW.PrintWords Go.Proofs.YtlfnfalckfggkaaW.PrintLast Go.Proofs.YtlfnfalckfggkaaW.PrintMore
set_option linter.unusedVariables false
set_option linter.unusedSimpArgs false
theorem eadd_assoc (a b c : E) : eadd (eadd a b) c = eadd a (eadd b c) := by
  refine E.ext_ ?_ ?_
  · show fadd (fadd a.f0 b.f0) c.f0 = fadd a.f0 (fadd b.f0 c.f0)
    unfold fadd; omega
  · show fadd (fadd a.f1 b.f1) c.f1 = fadd a.f1 (fadd b.f1 c.f1)
    unfold fadd; omega
theorem eadd_comm (a b : E) : eadd a b = eadd b a := by
  refine E.ext_ ?_ ?_
  · show fadd a.f0 b.f0 = fadd b.f0 a.f0
    unfold fadd; omega
  · show fadd a.f1 b.f1 = fadd b.f1 a.f1
    unfold fadd; omega
theorem eadd_zero {a : E} (h : okE a) : eadd a zE = a := by
  refine E.ext_ ?_ ?_
  · show fadd a.f0 0 = a.f0
    have := h.a; unfold inF at this; unfold fadd; omega
  · show fadd a.f1 0 = a.f1
    have := h.b; unfold inF at this; unfold fadd; omega
theorem zero_eadd {a : E} (h : okE a) : eadd zE a = a := by rw [eadd_comm, eadd_zero h]
theorem emul_add (a b c : E) : emul (eadd a b) c = eadd (emul a c) (emul b c) := by
  refine E.ext_ ?_ ?_
  · show fadd (fmul (fadd a.f0 b.f0) c.f0) (fmul 3 (fmul (fadd a.f1 b.f1) c.f1)) = fadd (fadd (fmul a.f0 c.f0) (fmul 3 (fmul a.f1 c.f1))) (fadd (fmul b.f0 c.f0) (fmul 3 (fmul b.f1 c.f1)))
    unfold fadd fmul
    simp only [e_al, e_ar, e_ml, e_mr]
    congr 1; grind
  · show fadd (fmul (fadd a.f0 b.f0) c.f1) (fmul (fadd a.f1 b.f1) c.f0) = fadd (fadd (fmul a.f0 c.f1) (fmul a.f1 c.f0)) (fadd (fmul b.f0 c.f1) (fmul b.f1 c.f0))
    unfold fadd fmul
    simp only [e_al, e_ar, e_ml, e_mr]
    congr 1; grind
theorem emul_sub (a b c : E) : emul (esub a b) c = esub (emul a c) (emul b c) := by
  refine E.ext_ ?_ ?_
  · show fadd (fmul (fsub a.f0 b.f0) c.f0) (fmul 3 (fmul (fsub a.f1 b.f1) c.f1)) = fsub (fadd (fmul a.f0 c.f0) (fmul 3 (fmul a.f1 c.f1))) (fadd (fmul b.f0 c.f0) (fmul 3 (fmul b.f1 c.f1)))
    unfold fadd fmul fsub
    simp only [e_al, e_ar, e_ml, e_mr, e_sl, e_sr]
    congr 1; grind
  · show fadd (fmul (fsub a.f0 b.f0) c.f1) (fmul (fsub a.f1 b.f1) c.f0) = fsub (fadd (fmul a.f0 c.f1) (fmul a.f1 c.f0)) (fadd (fmul b.f0 c.f1) (fmul b.f1 c.f0))
    unfold fadd fmul fsub
    simp only [e_al, e_ar, e_ml, e_mr, e_sl, e_sr]
    congr 1; grind
theorem zero_emul (c : E) : emul zE c = zE := by
  refine E.ext_ ?_ ?_
  · show fadd (fmul 0 c.f0) (fmul 3 (fmul 0 c.f1)) = 0
    unfold fadd fmul; simp
  · show fadd (fmul 0 c.f1) (fmul 0 c.f0) = 0
    unfold fadd fmul; simp
def sumE : List E → E
  | [] => zE
  | x :: xs => eadd x (sumE xs)
theorem ok_sum : ∀ l, okE (sumE l)
  | [] => ok_zero
  | _ :: _ => ok_add _ _
theorem sum_append {b : List E} : ∀ a : List E, sumE (a ++ b) = eadd (sumE a) (sumE b)
  | [] => (zero_eadd (ok_sum b)).symm
  | x :: xs => by rw [List.cons_append, sumE, sum_append xs, sumE, eadd_assoc]
theorem sum_mul (p : E) : ∀ l : List E, sumE (l.map fun x => emul x p) = emul (sumE l) p
  | [] => (zero_emul p).symm
  | x :: xs => by rw [List.map_cons, sumE, sum_mul p xs, sumE, emul_add]
theorem wAll_snoc (p : E) : ∀ (ps L : List E), wAll L (ps ++ [p]) = wNext (wAll L ps) p
  | [], L => rfl
  | q :: qs, L => wAll_snoc p qs _
theorem line_mix (a b p : E) (ha : okE a) : eadd (emul a (esub (eof 1) p)) (emul b p) = eadd a (emul (esub b a) p) := by
  have e1 : emul a (esub (eof 1) p) = esub a (emul a p) := by rw [emul_comm, emul_sub, one_emul ha, emul_comm p]
  rw [e1, emul_sub]
  refine E.ext_ ?_ ?_
  · show fadd (fsub a.f0 (emul a p).f0) (emul b p).f0 = fadd a.f0 (fsub (emul b p).f0 (emul a p).f0)
    unfold fadd fsub; omega
  · show fadd (fsub a.f1 (emul a p).f1) (emul b p).f1 = fadd a.f1 (fsub (emul b p).f1 (emul a p).f1)
    unfold fadd fsub; omega
end Go.Proofs.Ytlfnfalckfggkaa.PT
end
section
/- What is drawn from bytes: the numbers and elements that the laws draw are of the field. -/
namespace Go.Proofs.Ytlfnfalckfggkaa.PT
open Go.RowKit Go.Proofs.YtlfnfalckfggkaaW.PrintWords Go.Proofs.YtlfnfalckfggkaaW.PrintLast Go.Proofs.YtlfnfalckfggkaaW.PrintMore
set_option linter.unusedVariables false
set_option linter.unusedSimpArgs false
def bytesL (l : List Int) : Prop := ∀ x ∈ l, 0 ≤ x ∧ x ≤ 255
theorem bytesL_rd {l : List Int} (h : bytesL l) {i : Int} (h0 : 0 ≤ i) (h1 : i < l.length) : 0 ≤ rd l i ∧ rd l i ≤ 255 := by
  show 0 ≤ l.getD i.toNat 0 ∧ l.getD i.toNat 0 ≤ 255
  rw [getD_at (show i.toNat < l.length by omega)]
  exact h _ (List.getElem_mem _)
def stOK (p s : Int) (b : Int) : Prop := 0 ≤ p ∧ p ≤ b ∧ 0 ≤ s ∧ s < 2147483648
theorem byte_ok {l : List Int} (h : bytesL l) {p s b : Int} (hs : stOK p s b) (hb : b ≤ 1000000000) : ∃ v s', spec_l00Src_byte.f l p s = some (v, p + 1, s') ∧ 0 ≤ v ∧ v ≤ 255 ∧ stOK (p + 1) s' (b + 1) := by
  obtain ⟨h0, h1, h2, h3⟩ := hs
  unfold spec_l00Src_byte.f
  rw [if_pos (by omega)]
  by_cases h4 : p < (l.length : Int)
  · have hr := bytesL_rd h h0 h4
    rw [if_pos h4, if_pos hr]
    exact ⟨_, _, rfl, hr.1, hr.2, by unfold stOK; omega⟩
  · rw [if_neg h4]
    by_cases h5 : 2999 < p
    · rw [if_pos h5]; exact ⟨_, _, rfl, by omega, by omega, by unfold stOK; omega⟩
    · rw [if_neg h5]
      refine ⟨_, _, rfl, by omega, by omega, ?_⟩
      unfold stOK spec_l00Src_byte.next; omega
theorem next_ok {l : List Int} (h : bytesL l) {p s b a : Int} (hs : stOK p s b) (hb : b ≤ 1000000000) (ha : 2 ≤ a) (ha2 : a ≤ 256) : ∃ v s', spec_l00Src_next.f l p s a = some (v, p + 1, s') ∧ 0 ≤ v ∧ v < a ∧ v ≤ 255 ∧ stOK (p + 1) s' (b + 1) := by
  obtain ⟨v, s', e, h0, h1, h2⟩ := byte_ok h hs hb
  unfold spec_l00Src_next.f
  rw [if_neg (by omega), if_pos ha2, e]
  simp only [bS]
  rw [if_neg (by omega), tmod_nn h0]
  have hm : v % a ≤ v := by
    rcases Int.lt_or_le v a with h | h
    · rw [Int.emod_eq_of_lt h0 h]; exact Int.le_refl _
    · have := Int.emod_lt_of_pos v (show 0 < a by omega); omega
  exact ⟨_, _, rfl, Int.emod_nonneg _ (by omega), Int.emod_lt_of_pos _ (by omega), by omega, h2⟩
theorem chance_ok {l : List Int} (h : bytesL l) {p s b : Int} (hs : stOK p s b) (hb : b ≤ 1000000000) : ∃ v s', spec_l00Src_chance.f l p s 4 = some (v, p + 1, s') ∧ stOK (p + 1) s' (b + 1) := by
  obtain ⟨v, s', e, _, _, _, h2⟩ := next_ok h hs hb (a := 4) (by omega) (by omega)
  unfold spec_l00Src_chance.f
  rw [e]
  exact ⟨_, _, rfl, h2⟩
theorem field_l0 {l : List Int} (h : bytesL l) (d : Nat) : ∀ (k i : Nat) (v p s b : Int), i + d = 5 → d < k → inF v → stOK p s b → b + d ≤ 1000000000 →
    ∃ v' p' s', spec_l00Src_field.l0 k v i l p s = some (v', p', s') ∧ inF v' ∧ stOK p' s' (b + d) := by
  induction d with
  | zero =>
    intro k i v p s b hi hk hv hs hb
    obtain ⟨k, rfl⟩ : ∃ m, k = m + 1 := ⟨k - 1, by omega⟩
    simp only [spec_l00Src_field.l0]
    rw [if_neg (by omega)]
    exact ⟨_, _, _, rfl, hv, by unfold stOK at *; omega⟩
  | succ d ih =>
    intro k i v p s b hi hk hv hs hb
    obtain ⟨k, rfl⟩ : ∃ m, k = m + 1 := ⟨k - 1, by omega⟩
    obtain ⟨u, s', e, h0, h1, h2, h3⟩ := next_ok h hs (by omega) (a := 256) (by omega) (by omega)
    simp only [spec_l00Src_field.l0]
    rw [if_pos (by omega), e]
    simp only [bS]
    unfold inF at hv
    rw [w64 (n := v * 256) (by omega) (by omega), w64 (n := v * 256 + u) (by omega) (by omega), tmod_nn (by omega), w64 (by omega) (by omega), show (i : Int) + 1 = ((i + 1 : Nat) : Int) by omega]
    obtain ⟨v', p', s'', e2, hv', hs'⟩ := ih k (i + 1) ((v * 256 + u) % 2130706433) (p + 1) s' (b + 1) (by omega) (by omega) (by unfold inF; omega) h3 (by omega)
    exact ⟨v', p', s'', e2, hv', by unfold stOK at *; omega⟩
theorem field_ok {l : List Int} (h : bytesL l) {p s b : Int} (hs : stOK p s b) (hb : b ≤ 900000000) {k : Nat} (hk : 10 < k) : ∃ v p' s', spec_l00Src_field.f k l p s = some (v, p', s') ∧ inF v ∧ stOK p' s' (b + 10) := by
  obtain ⟨u, s1, e1, h0, h1, _, h2⟩ := next_ok h hs (by omega) (a := 5) (by omega) (by omega)
  unfold spec_l00Src_field.f
  rw [e1]
  simp only [bS]
  by_cases hu : u = 0
  · obtain ⟨v, s2, e2, h3, h4, _, h5⟩ := next_ok h h2 (by omega) (a := 4) (by omega) (by omega)
    rw [if_pos hu, e2]
    simp only [bS]
    exact ⟨_, _, _, rfl, by unfold inF; omega, by unfold stOK at *; omega⟩
  · rw [if_neg hu]
    by_cases hu1 : u = 1
    · obtain ⟨v, s2, e2, h3, h4, _, h5⟩ := next_ok h h2 (by omega) (a := 3) (by omega) (by omega)
      rw [if_pos hu1, e2]
      simp only [bS]
      rw [w64 (by omega) (by omega)]
      exact ⟨_, _, _, rfl, by unfold inF; omega, by unfold stOK at *; omega⟩
    · rw [if_neg hu1]
      obtain ⟨v', p', s', e2, hv, h5⟩ := field_l0 h 5 k 0 0 (p + 1) s1 (b + 1) (by omega) (by omega) inF_0 h2 (by omega)
      rw [Int.natCast_zero] at e2
      exact ⟨v', p', s', e2, hv, by unfold stOK at *; omega⟩
theorem ext_ok {l : List Int} (h : bytesL l) {p s b : Int} (hs : stOK p s b) (hb : b ≤ 800000000) {k : Nat} (hk : 10 < k) : ∃ (x : E) (p' s' : Int), spec_l00Src_ext.f k l p s = some (x.f0, x.f1, p', s') ∧ okE x ∧ stOK p' s' (b + 30) := by
  obtain ⟨c, s1, e1, h1⟩ := chance_ok h hs (by omega)
  obtain ⟨u, p2, s2, e2, hu, h2⟩ := field_ok h h1 (by omega) hk
  unfold spec_l00Src_ext.f
  rw [e1]
  simp only [bS]
  by_cases hc : c = true
  · rw [if_pos hc, e2]
    simp only [bS]
    exact ⟨⟨u, 0⟩, p2, s2, rfl, ⟨hu, inF_0⟩, by unfold stOK at *; omega⟩
  · obtain ⟨v, p3, s3, e3, hv, h3⟩ := field_ok h h2 (by omega) hk
    rw [if_neg hc, e2]
    simp only [bS]
    rw [e3]
    simp only [bS]
    exact ⟨⟨u, v⟩, p3, s3, rfl, ⟨hu, hv⟩, by unfold stOK at *; omega⟩
theorem source_ok (l : List Int) : ∃ s, spec_l00Source.f l = some (l, 0, s) ∧ stOK 0 s 0 := by
  unfold spec_l00Source.f
  exact ⟨_, rfl, by unfold stOK; omega⟩
theorem exts_l0 {l : List Int} (h : bytesL l) (n : Nat) (hn : n ≤ 4096) (d : Nat) : ∀ (i : Nat) (a : List E) (p s b : Int), i + d = n → a.length = i → okL a → stOK p s b → b ≤ 30 * i →
    ∃ q : List E, (okL q ∧ q.length = n) ∧ ∀ k, d + 10 < k → ∃ p' s', spec_l00Src_exts.l0 k (n : Int) a i l p s = some (q, p', s') := by
  induction d with
  | zero =>
    intro i a p s b hi ha hoa hs hb
    refine ⟨a, ⟨hoa, by omega⟩, fun k hk => ?_⟩
    obtain ⟨k, rfl⟩ : ∃ m, k = m + 1 := ⟨k - 1, by omega⟩
    simp only [spec_l00Src_exts.l0]
    rw [if_neg (by omega)]; exact ⟨_, _, rfl⟩
  | succ d ih =>
    intro i a p s b hi ha hoa hs hb
    obtain ⟨x, p', s', e, hx, hs'⟩ := ext_ok h hs (by omega) (k := 11) (by omega)
    obtain ⟨q, hq, hk2⟩ := ih (i + 1) (a ++ [x]) p' s' (b + 30) (by omega) (by simp; omega) (okL_app hoa (okL_one hx)) hs' (by omega)
    refine ⟨q, hq, fun k hk => ?_⟩
    obtain ⟨k, rfl⟩ : ∃ m, k = m + 1 := ⟨k - 1, by omega⟩
    have e' : spec_l00Src_ext.f k l p s = some (x.f0, x.f1, p', s') := by
      obtain ⟨x2, p2, s2, e2, _, _⟩ := ext_ok h hs (by omega) (k := k) (by omega)
      have hm : ∀ m, spec_l00Src_ext.f 11 l p s = some (x.f0, x.f1, p', s') → spec_l00Src_ext.f (11 + m) l p s = some (x.f0, x.f1, p', s') := by
        intro m h11
        induction m with
        | zero => exact h11
        | succ m ihm =>
          exact spec_l00Src_ext.mono l p s (11 + m) _ ihm
      obtain ⟨m, rfl⟩ : ∃ m, k = 11 + m := ⟨k - 11, by omega⟩
      exact hm m e
    simp only [spec_l00Src_exts.l0]
    rw [if_pos (by omega), e']
    simp only [bS]
    rw [if_pos (by omega), w64 (by omega) (by omega), show (i : Int) + 1 = ((i + 1 : Nat) : Int) by omega]
    exact hk2 k (by omega)
theorem ExtsOf_ok {l : List Int} (h : bytesL l) (n : Nat) (hn : n ≤ 4096) : ∃ q : List E, (okL q ∧ q.length = n) ∧ ∀ k, n + 20 < k → spec_ExtsOf.f k l (n : Int) = some q := by
  obtain ⟨s, e, hs⟩ := source_ok l
  obtain ⟨q, hq, hk2⟩ := exts_l0 h n hn n 0 [] 0 s 0 (by omega) rfl okL_nil hs (by omega)
  refine ⟨q, hq, fun k hk => ?_⟩
  obtain ⟨p', s', e2⟩ := hk2 k (by omega)
  unfold spec_ExtsOf.f spec_l00Src_exts.f
  rw [e]
  simp only [bS]
  rw [Int.natCast_zero] at e2
  rw [e2]
  simp only [bS]
theorem at_ok {l : List Int} (h : bytesL l) (hl : l.length ≤ 1048576) {a n : Int} (ha : 0 ≤ a) (ha2 : a ≤ 10) (hn : 0 ≤ n) (hn2 : n ≤ 1000000) : ∃ t, laws_at.f l a n = some t ∧ 0 ≤ t ∧ (t < n ∨ t = 0) := by
  unfold laws_at.f
  by_cases h1 : n ≤ 1
  · rw [if_pos h1]; exact ⟨0, rfl, by omega, by omega⟩
  · rw [if_neg h1]
    by_cases h2 : (l.length : Int) = 0
    · rw [if_pos h2, if_neg (by omega), w64 (by omega) (by omega), tmod_nn (by omega)]
      exact ⟨_, rfl, Int.emod_nonneg _ (by omega), Or.inl (Int.emod_lt_of_pos _ (by omega))⟩
    · have hp : 0 < (l.length : Int) := by omega
      have m0 := Int.emod_nonneg a (show (l.length : Int) ≠ 0 by omega)
      have m1 := Int.emod_lt_of_pos a hp
      have m2 := Int.emod_nonneg (a + 1) (show (l.length : Int) ≠ 0 by omega)
      have m3 := Int.emod_lt_of_pos (a + 1) hp
      have r1 := bytesL_rd h m0 m1
      have r2 := bytesL_rd h m2 m3
      have d0 : 0 ≤ a / (l.length : Int) := Int.ediv_nonneg ha (by omega)
      have d1 : a / (l.length : Int) ≤ a := Int.ediv_le_self _ ha
      rw [if_neg h2, tmod_nn ha, w64 (n := a + 1) (by omega) (by omega), tmod_nn (by omega), tdiv_nn ha, if_pos m0, if_pos m1, if_pos m2, if_pos m3, if_neg (by omega),
        w64 (n := rd l (a % (l.length : Int))) (by omega) (by omega), w64 (n := rd l (a % (l.length : Int)) * 31) (by omega) (by omega), w64 (n := rd l ((a + 1) % (l.length : Int))) (by omega) (by omega),
        w64 (n := _ + rd l ((a + 1) % (l.length : Int))) (by omega) (by omega), w64 (n := a / (l.length : Int)) (by omega) (by omega), w64 (n := _ + a / (l.length : Int)) (by omega) (by omega), tmod_nn (by omega)]
      exact ⟨_, rfl, Int.emod_nonneg _ (by omega), Or.inl (Int.emod_lt_of_pos _ (by omega))⟩
end Go.Proofs.Ytlfnfalckfggkaa.PT
end
section
/- The greater field's operations as the laws call them, and tables as values. -/
namespace Go.Proofs.Ytlfnfalckfggkaa.PT
open Go.RowKit Go.Proofs.YtlfnfalckfggkaaW.PrintWords Go.Proofs.YtlfnfalckfggkaaW.PrintLast Go.Proofs.YtlfnfalckfggkaaW.PrintMore
set_option linter.unusedVariables false
set_option linter.unusedSimpArgs false
theorem ExtAdd_eq {x y : E} (hx : okE x) (hy : okE y) : impl_ExtAdd.f x.f0 x.f1 y.f0 y.f1 = some ((eadd x y).f0, (eadd x y).f1, 0) := by
  unfold impl_ExtAdd.f impl_extTwo_plus.f
  rw [impl_ExtOK_eq, impl_ExtOK_eq, etaE, etaE, (okB_iff x).2 hx, (okB_iff y).2 hy]
  simp only [bS, if_true]
  rw [impl_plus_eq hx hy]
  simp only [bS]
theorem same_l0 (a : List E) (hl : a.length ≤ 1048576) (d : Nat) : ∀ (k i : Nat), i + d = a.length → d < k → laws_sameExts.l0 k a a i = some true := by
  induction d with
  | zero =>
    intro k i hi hk
    obtain ⟨k, rfl⟩ : ∃ m, k = m + 1 := ⟨k - 1, by omega⟩
    simp only [laws_sameExts.l0]; rw [if_neg (by omega)]
  | succ d ih =>
    intro k i hi hk
    obtain ⟨k, rfl⟩ : ∃ m, k = m + 1 := ⟨k - 1, by omega⟩
    simp only [laws_sameExts.l0, beq_self_eq_true, Bool.not_true, Bool.or_false, Bool.false_eq_true, if_false]
    rw [if_pos (show (i : Int) < (a.length : Int) by omega), if_pos (show 0 ≤ (i : Int) by omega), if_pos (show (i : Int) < (a.length : Int) by omega), w64 (by omega) (by omega), show (i : Int) + 1 = ((i + 1 : Nat) : Int) by omega]
    exact ih k (i + 1) (by omega) (by omega)
theorem sameExts_refl {a : List E} (hl : a.length ≤ 1048576) {k : Nat} (hk : a.length < k) : laws_sameExts.f k a a = some true := by
  unfold laws_sameExts.f; rw [if_pos rfl]; exact same_l0 a hl a.length k 0 (by omega) hk
end Go.Proofs.Ytlfnfalckfggkaa.PT
end
section
/- The equality weight's sums and its values at places of noughts and ones; a table bound variable by variable. -/
namespace Go.Proofs.Ytlfnfalckfggkaa.PT
open Go.RowKit Go.Proofs.YtlfnfalckfggkaaW.PrintWords Go.Proofs.YtlfnfalckfggkaaW.PrintLast Go.Proofs.YtlfnfalckfggkaaW.PrintMore
set_option linter.unusedVariables false
set_option linter.unusedSimpArgs false
theorem eqTab_snoc (ps : List E) (p : E) : eqTab (ps ++ [p]) = (eqTab ps).map (fun w => emul w (esub (eof 1) p)) ++ (eqTab ps).map (fun w => emul w p) := wAll_snoc p ps _
theorem last_of {n : Nat} {ps : List E} (h : ps.length = n + 1) : ∃ qs p, ps = qs ++ [p] ∧ qs.length = n := by
  have hne : ps ≠ [] := by intro h0; rw [h0] at h; cases h
  refine ⟨ps.dropLast, ps.getLast hne, (List.dropLast_concat_getLast _).symm, ?_⟩
  rw [List.length_dropLast]; omega
theorem sub_self (x : E) : esub x x = zE := by
  refine E.ext_ ?_ ?_
  · show fsub x.f0 x.f0 = 0
    unfold fsub; simp
  · show fsub x.f1 x.f1 = 0
    unfold fsub; simp
theorem emul_zero (x : E) : emul x zE = zE := by rw [emul_comm, zero_emul]
theorem sum_eqTab : ∀ (n : Nat) (ps : List E), ps.length = n → sumE (eqTab ps) = eof 1
  | 0, ps, h => by
    obtain rfl := List.length_eq_zero_iff.mp h
    show eadd (eof 1) zE = eof 1
    exact eadd_zero (ok_of inF_1)
  | n + 1, ps, h => by
    obtain ⟨qs, p, rfl, hq⟩ := last_of h
    rw [eqTab_snoc, sum_append, sum_mul, sum_mul, sum_eqTab n qs hq, line_mix _ _ _ (ok_of inF_1), sub_self, zero_emul, eadd_zero (ok_of inF_1)]
/-- The place k as a point of noughts and ones. -/
def bitP (k n : Nat) : List E := (List.range n).map fun i => eof ((k / 2 ^ i % 2 : Nat) : Int)
theorem bitP_length (k n : Nat) : (bitP k n).length = n := by simp [bitP]
theorem bitP_succ (k n : Nat) : bitP k (n + 1) = bitP k n ++ [eof ((k / 2 ^ n % 2 : Nat) : Int)] := by simp [bitP, List.range_succ]
theorem bit_or (m : Nat) : m % 2 = 0 ∨ m % 2 = 1 := by omega
theorem bitP_ok (k n : Nat) : okL (bitP k n) := by
  intro y hy
  obtain ⟨i, _, rfl⟩ := List.mem_map.mp hy
  refine ok_of ?_
  have := bit_or (k / 2 ^ i)
  unfold inF; omega
def eqW (x y : E) : E := eadd (emul x y) (emul (esub (eof 1) x) (esub (eof 1) y))
def eqV : E → List E → List E → E
  | r, x :: xs, y :: ys => eqV (emul r (eqW x y)) xs ys
  | r, _, _ => r
theorem eqV_snoc (x y : E) : ∀ (a b : List E) (r : E), a.length = b.length → eqV r (a ++ [x]) (b ++ [y]) = emul (eqV r a b) (eqW x y)
  | [], [], r, _ => rfl
  | u :: us, v :: vs, r, h => eqV_snoc x y us vs _ (by simpa using h)
theorem eqW_zero {p : E} : eqW p (eof 0) = esub (eof 1) p := by
  have e1 : esub (eof 1) (eof 0) = eof 1 := by decide
  have e2 : eof 0 = zE := rfl
  unfold eqW
  rw [e1, emul_one (ok_sub _ _), e2, emul_zero, zero_eadd (ok_sub _ _)]
theorem eqW_one {p : E} (hp : okE p) : eqW p (eof 1) = p := by
  unfold eqW
  rw [sub_self, emul_zero, emul_one hp, eadd_zero hp]
/-- The table's entry at a place is the weight between the point and the place. -/
theorem eqTab_at : ∀ (n : Nat) (ps : List E) (k : Nat), ps.length = n → okL ps → (eqTab ps).getD (k % 2 ^ n) zE = eqV (eof 1) ps (bitP k n)
  | 0, ps, k, h, _ => by
    obtain rfl := List.length_eq_zero_iff.mp h
    rw [Nat.pow_zero, Nat.mod_one]; rfl
  | n + 1, ps, k, h, hok => by
    obtain ⟨qs, p, rfl, hq⟩ := last_of h
    have hp : okE p := hok _ (by simp)
    have hqk : okL qs := fun y hy => hok y (List.mem_append_left _ hy)
    have ih := eqTab_at n qs k hq hqk
    have hl := eqTab_length qs
    rw [hq] at hl
    have hm : k % 2 ^ n < 2 ^ n := Nat.mod_lt _ (Nat.two_pow_pos n)
    have hlt : k % 2 ^ n < (eqTab qs).length := by omega
    rw [getD_at hlt] at ih
    rw [bitP_succ, eqV_snoc p _ qs _ _ (by rw [bitP_length]; exact hq), ← ih, eqTab_snoc, Nat.mod_pow_succ]
    rcases bit_or (k / 2 ^ n) with hb | hb
    · rw [hb, Nat.mul_zero, Nat.add_zero, getD_at (by simp; omega), List.getElem_append_left (by simp; omega), List.getElem_map]
      rw [show eof ((0 : Nat) : Int) = eof 0 from rfl, eqW_zero]
    · rw [hb, Nat.mul_one, getD_at (by simp; omega), List.getElem_append_right (by simp; omega), List.getElem_map]
      rw [show eof ((1 : Nat) : Int) = eof 1 from rfl, eqW_one hp]
      congr 1
      congr 1
      rw [List.length_map]; omega
theorem eqW_bits0 : ∀ a b : Fin 2, eqW (eof ((a.val : Nat) : Int)) (eof ((b.val : Nat) : Int)) = if a.val = b.val then eof 1 else zE := by decide
theorem eqW_bits (a b : Nat) (ha : a < 2) (hb : b < 2) : eqW (eof ((a : Nat) : Int)) (eof ((b : Nat) : Int)) = if a = b then eof 1 else zE := eqW_bits0 ⟨a, ha⟩ ⟨b, hb⟩
theorem ok_ite (c : Prop) [Decidable c] : okE (if c then eof 1 else zE) := by
  by_cases h : c
  · rw [if_pos h]; exact ok_of inF_1
  · rw [if_neg h]; exact ok_zero
theorem eqV_bits : ∀ (n k j : Nat), eqV (eof 1) (bitP k n) (bitP j n) = if k % 2 ^ n = j % 2 ^ n then eof 1 else zE
  | 0, k, j => by rw [Nat.pow_zero, Nat.mod_one, Nat.mod_one, if_pos rfl]; rfl
  | n + 1, k, j => by
    have h1 : k % 2 ^ n < 2 ^ n := Nat.mod_lt _ (Nat.two_pow_pos n)
    have h2 : j % 2 ^ n < 2 ^ n := Nat.mod_lt _ (Nat.two_pow_pos n)
    rw [bitP_succ, bitP_succ, eqV_snoc _ _ _ _ _ (by rw [bitP_length, bitP_length]), eqV_bits n k j, eqW_bits _ _ (by omega) (by omega), Nat.mod_pow_succ, Nat.mod_pow_succ]
    generalize 2 ^ n = P at *
    rcases bit_or (k / P) with hb | hb <;> rcases bit_or (j / P) with hc | hc <;> rw [hb, hc]
    · rw [if_pos (show (0 : Nat) = 0 from rfl), emul_one (ok_ite _)]
      simp only [Nat.mul_zero, Nat.add_zero]
    · rw [if_neg (show ¬ (0 : Nat) = 1 by omega), emul_zero, if_neg (by omega)]
    · rw [if_neg (show ¬ (1 : Nat) = 0 by omega), emul_zero, if_neg (by omega)]
    · rw [if_pos (show (1 : Nat) = 1 from rfl), emul_one (ok_ite _)]
      by_cases he : k % P = j % P
      · rw [if_pos he, if_pos (by omega)]
      · rw [if_neg he, if_neg (by omega)]
/-- A place's own table is 1 at the place, 0 elsewhere. -/
theorem eqTab_unit {n k j : Nat} (hk : k < 2 ^ n) (hj : j < 2 ^ n) : (eqTab (bitP k n)).getD j zE = if j = k then eof 1 else zE := by
  have e := eqTab_at n (bitP k n) j (bitP_length k n) (bitP_ok k n)
  rw [Nat.mod_eq_of_lt hj] at e
  rw [e, eqV_bits, Nat.mod_eq_of_lt hj, Nat.mod_eq_of_lt hk]
  by_cases h : j = k
  · rw [if_pos h, if_pos h.symm]
  · rw [if_neg h, if_neg (fun h2 => h h2.symm)]
/-! tables at points -/
/-! folded -/
/-! as the program has them -/
theorem pointB_of {l : List E} (h : okL l) (hn : l.length ≤ 6) : pointB l = true := by
  unfold pointB; rw [(okLB_iff l).2 h, decide_eq_true hn]; rfl
theorem EqTable_eq {p : List E} (hp : okL p) (hn : p.length ≤ 6) {k : Nat} (hk : 1300 < k) : impl_EqTable.f k p = some (eqTab p, 0) ∧ spec_EqTable.f k p = some (eqTab p, 0) := by
  unfold spec_EqTable.f impl_EqTable.f
  rw [if_neg (by omega), if_neg (by omega), l06Point_eq (by omega), isPoint_eq, pointB_of hp hn]
  simp only [bS, if_true]
  rw [l06Eq_eq hp hn (by omega), eqTable_eq hp hn (by omega)]; exact ⟨rfl, rfl⟩
theorem eqAt_val (a b : List E) (ha : okL a) (hb : okL b) (hn : a.length = b.length) (hl : a.length ≤ 4096) (d : Nat) : ∀ (k i : Nat) (r : E), i + d = a.length → d < k → okE r →
    impl_eqAt.l0 k b a (a.length : Int) i r.f0 r.f1 = some ((eqV r (a.drop i) (b.drop i)).f0, (eqV r (a.drop i) (b.drop i)).f1) := by
  induction d with
  | zero =>
    intro k i r hi hk hr
    obtain ⟨k, rfl⟩ : ∃ m, k = m + 1 := ⟨k - 1, by omega⟩
    simp only [impl_eqAt.l0]
    rw [if_neg (by omega), List.drop_eq_nil_of_le (by omega)]; rfl
  | succ d ih =>
    intro k i r hi hk hr
    obtain ⟨k, rfl⟩ : ∃ m, k = m + 1 := ⟨k - 1, by omega⟩
    have g1 : i < a.length := by omega
    have g2 : i < b.length := by omega
    have h1 : okE (rd_T42 a i) := okL_rd ha (by omega) (by omega)
    have h2 : okE (rd_T42 b i) := okL_rd hb (by omega) (by omega)
    simp only [impl_eqAt.l0]
    rw [if_pos (by omega), if_pos (by omega), if_pos (by omega), if_pos (by omega), impl_times_eq h1 h2, impl_one_eq]
    simp only [bS]
    rw [impl_minus_eq (ok_of inF_1) h1, impl_minus_eq (ok_of inF_1) h2]
    simp only [bS]
    rw [impl_times_eq (ok_sub _ _) (ok_sub _ _)]
    simp only [bS]
    rw [impl_plus_eq (ok_mul _ _) (ok_mul _ _)]
    simp only [bS]
    rw [impl_times_eq hr (ok_add _ _)]
    simp only [bS]
    rw [w64 (by omega) (by omega), show (i : Int) + 1 = ((i + 1 : Nat) : Int) by omega, ih k (i + 1) _ (by omega) (by omega) (ok_mul _ _), List.drop_eq_getElem_cons g1, List.drop_eq_getElem_cons g2, rdE_at g1, rdE_at g2]
    rfl
theorem EqAt_eq {a b : List E} (ha : okL a) (hb : okL b) (hn : a.length = b.length) (hl : a.length ≤ 6) {k : Nat} (hk : 100 < k) : impl_EqAt.f k a b = some ((eqV (eof 1) a b).f0, (eqV (eof 1) a b).f1, 0) := by
  obtain ⟨k, rfl⟩ : ∃ m, k = m + 1 + 1 := ⟨k - 2, by omega⟩
  unfold impl_EqAt.f
  rw [if_neg (by omega), decide_eq_false (by omega)]
  simp only [impl_EqAt.j0, Bool.false_eq_true, if_false]
  rw [isPoint_eq, isPoint_eq, pointB_of ha hl, pointB_of hb (by omega)]
  simp only [bS, if_true, Bool.not_true, impl_EqAt.j1, Bool.false_eq_true, if_false]
  rw [if_pos (by omega)]
  unfold impl_eqAt.f
  rw [impl_one_eq]
  simp only [bS]
  have e := eqAt_val a b ha hb hn (by omega) a.length k 0 (eof 1) (by omega) (by omega) (ok_of inF_1)
  have e' : impl_eqAt.l0 k b a (a.length : Int) 0 (eof 1).f0 (eof 1).f1 = _ := e
  rw [e']
  simp only [bS, List.drop_zero]
end Go.Proofs.Ytlfnfalckfggkaa.PT
end
section
/- The table of a point sums to 1, has the weights, and is a place's own alone at a place. -/
namespace Go.Proofs.Ytlfnfalckfggkaa.fnEq
open Go.Proofs.Ytlfnfalckfggkaa.PT Go.RowKit Go.Proofs.YtlfnfalckfggkaaO Go.Proofs.YtlfnfalckfggkaaW.PrintWords Go.Proofs.YtlfnfalckfggkaaW.PrintLast Go.Proofs.YtlfnfalckfggkaaW.PrintMore
set_option linter.unusedSimpArgs false
theorem bytes_of {l : List Int} (h : ListGood (IntGood .u8) l) : bytesL l := by
  intro x hx
  have e := h.2 x hx
  have e2 : (Lit.int .u8 x).wf = true := e
  simp only [Lit.wf, IntKind.min, IntKind.max, IntKind.signed, IntKind.bits] at e2
  simp at e2
  omega
theorem bit_val0 : ∀ m : Fin 64, ∀ i : Fin 6, Go.bits .and .i64 (shr .i64 (m.val : Int) (i.val : Int)) 1 = ((m.val / 2 ^ i.val % 2 : Nat) : Int) := by decide +kernel
theorem bit_val {m i : Nat} (hm : m < 64) (hi : i < 6) : Go.bits .and .i64 (shr .i64 (m : Int) (i : Int)) 1 = ((m / 2 ^ i % 2 : Nat) : Int) := bit_val0 ⟨m, hm⟩ ⟨i, hi⟩
theorem one_eq : laws_one.f = some ((eof 1).f0, (eof 1).f1) := rfl
theorem law_l0 (y : List Int) (n : Int) (p t : List E) (ht : okL t) (hl : t.length ≤ 64) (d : Nat) : ∀ (k i : Nat) (s : E), i + d = t.length → d < k → okE s →
    laws_FnEq.l0 k y n p t i s.f0 s.f1 = laws_FnEq.l0 (k - d) y n p t (t.length : Int) (eadd s (sumE (t.drop i))).f0 (eadd s (sumE (t.drop i))).f1 := by
  induction d with
  | zero =>
    intro k i s hi hk hs
    rw [List.drop_eq_nil_of_le (by omega), sumE, eadd_zero hs, show i = t.length by omega, Nat.sub_zero]
  | succ d ih =>
    intro k i s hi hk hs
    obtain ⟨k, rfl⟩ : ∃ m, k = m + 1 := ⟨k - 1, by omega⟩
    have hlt : i < t.length := by omega
    have h1 : okE t[i] := ht _ (List.getElem_mem _)
    have e := ih k (i + 1) (eadd s t[i]) (by omega) (by omega) (ok_add _ _)
    rw [show k + 1 - (d + 1) = k - d by omega, List.drop_eq_getElem_cons hlt, sumE, ← eadd_assoc, ← e, laws_FnEq.l0]
    rw [if_pos (show (i : Int) < (t.length : Int) by omega), if_pos (show 0 ≤ (i : Int) by omega), rdE_at hlt, ExtAdd_eq hs h1]
    simp only [bS, if_true]
    rw [w64 (by omega) (by omega), show (i : Int) + 1 = ((i + 1 : Nat) : Int) by omega]
theorem law_l1 (n : Nat) (hn : n ≤ 5) (p t : List E) (m : Nat) (hm : m < 64) (a b : Int) (d : Nat) : ∀ (k i : Nat), i + d = n → d < k →
    laws_FnEq.l1 k (n : Int) p t (m : Int) (bitP m i) i a b = laws_FnEq.l1 (k - d) (n : Int) p t (m : Int) (bitP m n) (n : Int) a b := by
  induction d with
  | zero =>
    intro k i hi hk
    rw [show i = n by omega, Nat.sub_zero]
  | succ d ih =>
    intro k i hi hk
    obtain ⟨k, rfl⟩ : ∃ m, k = m + 1 := ⟨k - 1, by omega⟩
    have hu : IntKind.u64.wrap (i : Int) = (i : Int) := by
      simp only [IntKind.wrap, IntKind.bits, IntKind.signed]; simp; omega
    have hb := bitP_length m i
    have e := ih k (i + 1) (by omega) (by omega)
    rw [show k + 1 - (d + 1) = k - d by omega, ← e, bitP_succ, laws_FnEq.l1]
    rw [if_pos (show (i : Int) < (n : Int) by omega), hu, if_pos (show 0 ≤ (i : Int) by omega), if_pos (by omega), bit_val hm (by omega), w64 (by omega) (by omega), show (i : Int) + 1 = ((i + 1 : Nat) : Int) by omega]
    rfl
theorem law_l2 (t u : List E) (m : Nat) (hul : u.length = t.length) (hl : u.length ≤ 64) (hu : ∀ i, i < u.length → u.getD i zE = if i = m then eof 1 else zE) (hm : m < t.length) (v : E) (hv : t.getD m zE = v) (d : Nat) : ∀ (k i : Nat), i + d = u.length → d < k →
    laws_FnEq.l2 k t (m : Int) 0 u 0 i (eof 1).f0 (eof 1).f1 v.f0 v.f1 = some true := by
  induction d with
  | zero =>
    intro k i hi hk
    obtain ⟨k, rfl⟩ : ∃ m, k = m + 1 := ⟨k - 1, by omega⟩
    rw [getD_at hm] at hv
    subst hv
    simp only [laws_FnEq.l2]
    rw [if_neg (by omega), one_eq]
    simp only [bS]
    rw [rdE_at hm]
    simp only [beq_self_eq_true, Bool.and_true, if_true, hul]
    rw [if_pos (show 0 ≤ (m : Int) by omega), if_pos (show (m : Int) < (t.length : Int) by omega)]
  | succ d ih =>
    intro k i hi hk
    obtain ⟨k, rfl⟩ : ∃ m, k = m + 1 := ⟨k - 1, by omega⟩
    have hlt : i < u.length := by omega
    have hui := hu i hlt
    rw [getD_at hlt] at hui
    simp only [laws_FnEq.l2]
    rw [if_pos (show (i : Int) < (u.length : Int) by omega), if_pos (show 0 ≤ (i : Int) by omega), one_eq]
    simp only [bS]
    rw [rdE_at hlt, hui, w64 (by omega) (by omega), show (i : Int) + 1 = ((i + 1 : Nat) : Int) by omega]
    by_cases h : i = m
    · have e1 : ((i : Int) == (m : Int)) = true := by rw [beq_iff_eq]; omega
      rw [if_pos h, e1, beq_self_eq_true, beq_self_eq_true, Bool.and_true]
      simp only [bne_self_eq_false, Bool.false_eq_true, if_false, Bool.not_true, Bool.or_false]
      exact ih k (i + 1) (by omega) (by omega)
    · have e1 : ((i : Int) == (m : Int)) = false := by rw [beq_eq_false_iff_ne]; omega
      have e2 : (zE.f0 == (eof 1).f0) = false := by decide
      have e3 : (zE.f0 == (0 : Int)) = true := by decide
      have e4 : (zE.f1 == (0 : Int)) = true := by decide
      rw [if_neg h, e1, e2, e3, e4]
      simp only [Bool.false_and, bne_self_eq_false, Bool.false_eq_true, if_false, Bool.not_false, Bool.true_or, if_true, Bool.not_true, Bool.or_false]
      exact ih k (i + 1) (by omega) (by omega)
theorem pureFnEq : Pure := by
  intro x y hx hy
  have hbx := bytes_of hx
  have hby := bytes_of hy
  refine ⟨20000 + 1 + 1, ?_⟩
  generalize hK : 20000 = K
  unfold laws_FnEq.f
  by_cases h1 : (x.length : Int) > 1048576
  · rw [if_pos h1]; rfl
  rw [if_neg h1]
  by_cases h2 : (y.length : Int) > 1048576
  · rw [decide_eq_true h2]; rfl
  rw [decide_eq_false h2]
  simp only [laws_FnEq.j0, Bool.false_eq_true, if_false]
  obtain ⟨nn, en, hn0, hn1⟩ := at_ok hby (by omega) (a := 0) (n := 5) (by omega) (by omega) (by omega) (by omega)
  obtain ⟨n, rfl⟩ := Int.eq_ofNat_of_zero_le hn0
  have hn : n ≤ 4 := by omega
  have hb : 2 ^ n ≤ 16 := Nat.le_trans (Nat.pow_le_pow_right (by omega) hn) (by decide)
  have hb0 := Nat.two_pow_pos n
  have hu : IntKind.u64.wrap (n : Int) = (n : Int) := by
    simp only [IntKind.wrap, IntKind.bits, IntKind.signed]; simp; omega
  obtain ⟨p, ⟨hp, hpl⟩, ep⟩ := ExtsOf_ok hbx n (by omega)
  have htl := eqTab_length p
  rw [hpl] at htl
  rw [en]
  simp only [bS]
  rw [ep _ (by omega)]
  simp only [bS]
  rw [(EqTable_eq hp (by omega) (by omega)).1, (EqTable_eq hp (by omega) (by omega)).2]
  simp only [bS, if_true]
  rw [sameExts_refl (by omega) (by omega)]
  simp only [bS, if_true]
  rw [hu, if_pos hn0, Go.Proofs.Ytlfnfalckfggkaa.PT.shl_small (by omega)]
  have e3 : (((eqTab p).length : Int) != ((2 ^ n : Nat) : Int)) = false := by rw [bne_eq_false_iff_eq]; omega
  simp only [e3, laws_FnEq.j1, Bool.false_eq_true, if_false]
  have g0 := law_l0 y n p (eqTab p) (eqTab_ok p) (by omega) (eqTab p).length K 0 zE (by omega) (by omega) ok_zero
  rw [Int.natCast_zero, List.drop_zero, zero_eadd (ok_sum _), sum_eqTab n p hpl] at g0
  refine Eq.trans g0 ?_
  obtain ⟨k2, hk2⟩ : ∃ m, K - (eqTab p).length = m + 1 := ⟨K - (eqTab p).length - 1, by omega⟩
  rw [hk2]
  simp only [laws_FnEq.l0]
  obtain ⟨kk, ek, hk0, hk1⟩ := at_ok hby (by omega) (a := 1) (n := ((eqTab p).length : Int)) (by omega) (by omega) (by omega) (by omega)
  obtain ⟨m, rfl⟩ := Int.eq_ofNat_of_zero_le hk0
  have hm : m < 2 ^ n := by omega
  rw [if_neg (by omega), ek]
  simp only [bS]
  have g1 := law_l1 n (by omega) p (eqTab p) m (by omega) (eof 1).f0 (eof 1).f1 n k2 0 (by omega) (by omega)
  rw [Int.natCast_zero] at g1
  refine Eq.trans g1 ?_
  obtain ⟨k3, hk3⟩ : ∃ m, k2 - n = m + 1 := ⟨k2 - n - 1, by omega⟩
  have hql := bitP_length m n
  rw [hk3]
  simp only [laws_FnEq.l1]
  rw [if_neg (by omega), EqAt_eq hp (bitP_ok m n) (by omega) (by omega) (by omega), (EqTable_eq (bitP_ok m n) (by omega) (by omega)).1]
  simp only [bS]
  have hul := eqTab_length (bitP m n)
  rw [hql] at hul
  have ha := eqTab_at n p m hpl hp
  rw [Nat.mod_eq_of_lt hm] at ha
  have g2 := law_l2 (eqTab p) (eqTab (bitP m n)) m (by omega) (by omega) (fun i hi => eqTab_unit hm (by omega)) (by omega) _ ha (eqTab (bitP m n)).length k3 0 (by omega) (by omega)
  exact g2
end Go.Proofs.Ytlfnfalckfggkaa.fnEq
end
