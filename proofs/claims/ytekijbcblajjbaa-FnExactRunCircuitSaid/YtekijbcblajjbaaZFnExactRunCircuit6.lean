/- Part 6 of the proof of FnExactRunCircuit: what functions compute, shown step by step, and what that says (the claim's last text states the law). -/
import Derived.Test.YtekijbcblajjbaaProg
import Derived.Test.YtekijbcblajjbaaVMore
import Derived.Test.YtekijbcblajjbaaVWords
import Derived.Test.YtekijbcblajjbaaVLast
import Derived.Test.YtekijbcblajjbaaVTab
import Derived.Test.YtekijbcblajjbaaVQPut
import Derived.Test.YtekijbcblajjbaaVApart
import Derived.Test.YtekijbcblajjbaaVArr
import Derived.Test.YtekijbcblajjbaaVZeros
import Derived.Test.YtekijbcblajjbaaVFoot
import Derived.Test.YtekijbcblajjbaaVKept
import Derived.Test.YtekijbcblajjbaaVShare
import Derived.Test.YtekijbcblajjbaaVN
import Derived.Test.YtekijbcblajjbaaVFootNe
import Derived.Test.YtekijbcblajjbaaVAt
import Derived.Test.YtekijbcblajjbaaVRepsOne
import Derived.Test.YtekijbcblajjbaaVGuard
import Derived.Test.YtekijbcblajjbaaVNEv
import Derived.Test.YtekijbcblajjbaaRows
import Derived.JoinedOf
import Derived.WalkKit
import Derived.ProofKit
import Derived.Below
import Derived.Deep.Draws
import Derived.Deep.AppendLies
import Derived.Maps.AppendAt
import Derived.OwnWalk
import Derived.Laws.BytesArg
import Derived.Laws.MakeOwn
import Derived.Laws.OwnMore
import Derived.Deep.OwnRows
import Derived.Tactics
import Derived.Lib.ConvBytes
import Derived.Laws.Slices
import Derived.KernelRfl
import Derived.RowKit3
import Derived.Deep.LoopGhost
import Derived.Deep.QuietTactic
import Derived.BigQuiet
import Derived.WideLaws
import Derived.Deep.DeepCutAuto
import Derived.Deep.CutBlock
import Derived.Deep.RegionHeld3
import Derived.Laws.Rows
import Derived.Lib.AppendStr
import Derived.ArgAppend
import Derived.Laws.IdiomCopy
import Derived.OrdersHeld
import Derived.Laws.BitsLemmas
import Derived.RowKit
import Derived.OpenShut
import Derived.ShutString
import Derived.ChangeOld
import Derived.SizedLaws
import Derived.Deep.Slices
import Derived.ChangeArms
import Derived.Test.YtekijbcblajjbaaZFnExactRunCircuit5
section
/- Arguments that are read as data have the kinds' own form: for each kind, compositionally. Own text, for every seat (Ytekijbcblajjbaa: the seat's name). -/
namespace Go.Proofs.YtekijbcblajjbaaO
open Go.RowKit Go.ChangeShapes Go.WideShapes Go.ChangeAt Go.Proofs.YtekijbcblajjbaaW.PrintWords

/-- What is read as data of type T is of the kind d, and good. -/
def Opens {α : Type} {H : Type} (enc : TypeId × Value → H) (P : Program) (w : World) (T : TypeId) (d : Kd α) (good : α → Prop) : Prop :=
  ∀ (fuel : Nat) (cs : List Value) (x : DataW H × List MemPlace), DataW.trod enc P w 0 (fun _ => true) true fuel T cs = some x → ∃ a, d.K w a cs ∧ good a

/-- What is read as a run of fields of these types (each with its cells) is of the kind d, and good. -/
def OpensSeq {α : Type} {H : Type} (enc : TypeId × Value → H) (P : Program) (w : World) (fs : List (TypeId × Nat)) (d : Kd α) (good : α → Prop) : Prop :=
  ∀ (fuel : Nat) (cs : List Value), cs.length = (fs.map (·.2)).sum → (∀ (j : Nat) (T n : Nat), fs[j]? = some (T, n) → ∃ x, DataW.trod enc P w 0 (fun _ => true) true fuel T ((cs.drop ((fs.take j).map (·.2)).sum).take n) = some x) → ∃ a, d.K w a cs ∧ good a

section
variable {H : Type} {enc : TypeId × Value → H} {P : Program} {w : World}

def IntGood (k : IntKind) (a : Int) : Prop := (Lit.int k a).wf = true
def StrGood (a : ByteArray) : Prop := a.size ≤ 9223372036854775807
def ListGood {α : Type} (g : α → Prop) (l : List α) : Prop := l.length ≤ 9223372036854775807 ∧ ∀ x ∈ l, g x

theorem opens_int {T : TypeId} {k : IntKind} (ht : P.underlying T = some (.int k)) : Opens enc P w T (Kd.int k) (IntGood k) := by
  intro fuel cs x h
  obtain ⟨n, rfl, _, hw⟩ := DataW.trod_int ht h
  exact ⟨n, rfl, hw⟩
theorem opens_bool {T : TypeId} (ht : P.underlying T = some .bool) : Opens enc P w T Kd.bool (fun _ => True) := by
  intro fuel cs x h
  obtain ⟨n, rfl, _⟩ := DataW.trod_bool ht h
  exact ⟨n, rfl, trivial⟩
theorem opens_string {T : TypeId} (ht : P.underlying T = some .string) : Opens enc P w T Kd.string StrGood := by
  intro fuel cs x h
  obtain ⟨s, rfl, _, hs⟩ := DataW.trod_string ht h
  exact ⟨s, rfl, by unfold StrGood; unfold maxLen at hs; omega⟩

theorem choose_list {α : Type} {n : Nat} {p : Nat → α → Prop} (h : ∀ i, i < n → ∃ a, p i a) : ∃ l : List α, l.length = n ∧ ∀ i a, l[i]? = some a → p i a := by
  induction n with
  | zero => exact ⟨[], rfl, fun i a hi => by simp at hi⟩
  | succ n ih =>
    obtain ⟨l, hl, hp⟩ := ih (fun i hi => h i (by omega))
    obtain ⟨a, ha⟩ := h n (by omega)
    refine ⟨l ++ [a], by simp [hl], fun i b hi => ?_⟩
    rcases Nat.lt_or_ge i l.length with hlt | hge
    · rw [List.getElem?_append_left hlt] at hi
      exact hp i b hi
    · rw [List.getElem?_append_right hge] at hi
      have : i - l.length = 0 := by
        rcases Nat.eq_zero_or_pos (i - l.length) with h0 | h0
        · exact h0
        · rw [List.getElem?_eq_none (by simp; omega)] at hi; simp at hi
      rw [this] at hi
      simp at hi
      subst hi
      have : i = n := by omega
      rw [this]
      exact ha

theorem opens_slice {α : Type} {d : Kd α} {good : α → Prop} {T e : TypeId} (ht : P.underlying T = some (.slice e)) (hc : P.cellsOf e = d.sz) (ho : Opens enc P w e d good) : Opens enc P w T (Kd.slice e d) (ListGood good) := by
  intro fuel cs x h
  rcases Deep.open_slice ht h with ⟨rfl, _⟩ | ⟨a, len, cap, m, n, D, Pl, rfl, _, hl, hm, hmm, _, hx⟩
  · exact ⟨[], ⟨none, 0, rfl, Nat.le_refl _, ⟨rfl, by simp, fun h0 => by simp at h0⟩⟩, ⟨by simp, fun x hx => by simp at hx⟩⟩
  · have hle : len ≤ m := by rw [hmm]; split <;> omega
    have hex : ∀ i, i < len → ∃ b : α, (∃ c, c.length = d.sz ∧ d.K w b c ∧ ∀ j u, c[j]? = some u → w.cell? (a.add (i * d.sz + j)) = some u) ∧ good b := by
      intro i hi
      obtain ⟨cs', h1, h2⟩ := hx i (by omega)
      obtain ⟨b, hK, hg⟩ := ho _ _ _ h2
      obtain ⟨_, hlen, hcell⟩ := World.cells?_some h1
      refine ⟨b, ⟨cs', by rw [hlen, hc], hK, fun j u hu => ?_⟩, hg⟩
      have hj : j < P.cellsOf e := by
        rw [← hlen]
        exact (List.getElem?_eq_some_iff.1 hu).1
      rw [← Deep.add_add, ← hc, hcell j hj, hu]
    obtain ⟨l, hll, hp⟩ := choose_list hex
    unfold maxLen at hm
    refine ⟨l, ⟨some a, cap, by rw [hll], by omega, ⟨rfl, by omega, fun _ => ⟨a, rfl, fun j p hj => (hp j p hj).1⟩⟩⟩, ⟨by omega, fun x hx => ?_⟩⟩
    obtain ⟨i, hi, rfl⟩ := List.getElem_of_mem hx
    exact (hp i _ (List.getElem?_eq_getElem hi)).2

theorem opensSeq_one {α : Type} {d : Kd α} {good : α → Prop} {T n : Nat} (ho : Opens enc P w T d good) : OpensSeq enc P w [(T, n)] d good := by
  intro fuel cs hlen h
  obtain ⟨x, hx⟩ := h 0 T n rfl
  simp at hlen
  simp [List.take_of_length_le (Nat.le_of_eq hlen)] at hx
  exact ho _ _ _ hx
theorem opensSeq_cons {α β : Type} {d : Kd α} {good : α → Prop} {d2 : Kd β} {good2 : β → Prop} {T n : Nat} {fs : List (TypeId × Nat)} (ho : Opens enc P w T d good) (hs : OpensSeq enc P w fs d2 good2) :
    OpensSeq enc P w ((T, n) :: fs) (Kd.pair d d2) (fun x => good x.1 ∧ good2 x.2) := by
  intro fuel cs hlen h
  obtain ⟨x, hx⟩ := h 0 T n rfl
  simp at hx
  obtain ⟨a, hK, hg⟩ := ho _ _ _ hx
  simp only [List.map_cons, List.sum_cons] at hlen
  obtain ⟨b, hK2, hg2⟩ := hs fuel (cs.drop n) (by rw [List.length_drop, hlen]; omega) (fun j T' n' hj => by
    obtain ⟨y, hy⟩ := h (j + 1) T' n' (by simpa using hj)
    refine ⟨y, ?_⟩
    simp only [List.take_succ_cons, List.map_cons, List.sum_cons] at hy
    rw [List.drop_drop]
    exact hy)
  exact ⟨(a, b), ⟨cs.take n, cs.drop n, (List.take_append_drop n cs).symm, hK, hK2⟩, hg, hg2⟩

/-- A struct whose fields stand one behind the other. -/
theorem opens_struct {α β : Type} {d : Kd α} {good : α → Prop} {T : TypeId} {fs : Array Field} {l : List (TypeId × Nat)} (f : β → α) (g : α → β) (hfg : ∀ a, f (g a) = a) (ht : P.underlying T = some (.struct fs))
    (hl : l.length = fs.size) (hf : ∀ (j : Nat) (T' n : Nat), l[j]? = some (T', n) → ∃ fd, fs[j]? = some fd ∧ fd.type = T' ∧ P.cellsOf T' = n ∧ fd.offset = ((l.take j).map (·.2)).sum) (hc : P.cellsOf T = (l.map (·.2)).sum)
    (hs : OpensSeq enc P w l d good) : Opens enc P w T (Kd.iso d f) (fun x => good (f x)) := by
  intro fuel cs x h
  obtain ⟨xs, n, _, _, hlen, hxl, hx⟩ := DataW.trod_struct ht h
  obtain ⟨a, hK, hg⟩ := hs n cs (by rw [hlen, hc]) (fun j T' n' hj => by
    obtain ⟨fd, h1, h2, h3, h4⟩ := hf j T' n' hj
    have h5 := hx j fd h1
    have hj2 : j < xs.length := by
      have := (List.getElem?_eq_some_iff.1 hj).1
      omega
    rw [List.getElem?_eq_getElem hj2, h2, h3, h4] at h5
    exact ⟨_, h5⟩)
  refine ⟨g a, ?_, ?_⟩
  · show d.K w (f (g a)) cs
    rw [hfg]; exact hK
  · show good (f (g a))
    rw [hfg]; exact hg
end
end Go.Proofs.YtekijbcblajjbaaO
end
section
namespace Go.Proofs.Ytekijbcblajjbaa.fnExactRunCircuit
open Go.RowKit Go.ChangeShapes Go.WideShapes Go.ChangeAt Go.Proofs.YtekijbcblajjbaaO Go.Proofs.Ytekijbcblajjbaa.PT Go.Proofs.YtekijbcblajjbaaW.PrintWords Go.Proofs.YtekijbcblajjbaaW.PrintLast
set_option linter.unusedVariables false
theorem opensT3 {H : Type} {enc : TypeId × Value → H} {w : World} : Opens enc Try.prog w 3 (Kd.int .i64) (IntGood .i64) := opens_int Try.underlying3
def goodT117 : S117 → Prop := (fun x : S117 => (IntGood .i64) x.f0 ∧ (IntGood .i64) x.f1 ∧ (IntGood .i64) x.f2 ∧ (IntGood .i64) x.f3)
theorem opensT117 {H : Type} {enc : TypeId × Value → H} {w : World} : Opens enc Try.prog w 117 k117 goodT117 :=
  opens_struct (l := [(3, 1), (3, 1), (3, 1), (3, 1)]) (fun x : S117 => (x.f0, x.f1, x.f2, x.f3)) (fun a => ⟨a.1, a.2.1, a.2.2.1, a.2.2.2⟩) (fun _ => rfl) Try.underlying117 rfl (fun j T n h => match j, T, n, h with
    | 0, _, _, h => by cases h; exact ⟨_, rfl, rfl, by kernel_rfl, rfl⟩
    | 1, _, _, h => by cases h; exact ⟨_, rfl, rfl, by kernel_rfl, rfl⟩
    | 2, _, _, h => by cases h; exact ⟨_, rfl, rfl, by kernel_rfl, rfl⟩
    | 3, _, _, h => by cases h; exact ⟨_, rfl, rfl, by kernel_rfl, rfl⟩
    | _ + 4, _, _, h => by simp at h) (by kernel_rfl) (opensSeq_cons opensT3 (opensSeq_cons opensT3 (opensSeq_cons opensT3 (opensSeq_one opensT3))))
theorem opensT56 {H : Type} {enc : TypeId × Value → H} {w : World} : Opens enc Try.prog w 56 (Kd.slice 117 k117) (ListGood goodT117) := opens_slice Try.underlying56 (by kernel_rfl) opensT117
def goodT58 : S58 → Prop := (fun x : S58 => (ListGood goodT117) x.f0)
theorem opensT58 {H : Type} {enc : TypeId × Value → H} {w : World} : Opens enc Try.prog w 58 k58 goodT58 :=
  opens_struct (l := [(56, 1)]) (fun x : S58 => x.f0) (fun a => ⟨a⟩) (fun _ => rfl) Try.underlying58 rfl (fun j T n h => match j, T, n, h with
    | 0, _, _, h => by cases h; exact ⟨_, rfl, rfl, by kernel_rfl, rfl⟩
    | _ + 1, _, _, h => by simp at h) (by kernel_rfl) (opensSeq_one opensT56)
theorem opensT33 {H : Type} {enc : TypeId × Value → H} {w : World} : Opens enc Try.prog w 33 (Kd.slice 3 (Kd.int .i64)) (ListGood (IntGood .i64)) := opens_slice Try.underlying33 (by kernel_rfl) opensT3
/-- What is to be shown of the law, over numbers and lists alone. -/
def Pure : Prop := ∀ (x0 : S58) (x1 : List Int) (x2 : List Int), goodT58 x0 → (ListGood (IntGood .i64)) x1 → (ListGood (IntGood .i64)) x2 → ∃ k, laws_FnExactRunCircuit.f k x0.f0 x1 x2 = some true
end Go.Proofs.Ytekijbcblajjbaa.fnExactRunCircuit
end
section
/- The field and the greater field, over whole numbers: what the printed functions of chapters 2 and 3 come to. -/
namespace Go.Proofs.Ytekijbcblajjbaa.PT
open Go.RowKit Go.Proofs.YtekijbcblajjbaaW.PrintWords Go.Proofs.YtekijbcblajjbaaW.PrintLast Go.Proofs.YtekijbcblajjbaaW.PrintMore
set_option linter.unusedVariables false
set_option linter.unusedSimpArgs false

theorem w64 {n : Int} (h0 : -9223372036854775808 ≤ n) (h1 : n ≤ 9223372036854775807) : wrap64 n = n := by unfold wrap64; omega
theorem tmod_nn {a b : Int} (h : 0 ≤ a) : Int.tmod a b = a % b := Int.tmod_eq_emod_of_nonneg h
def inF (a : Int) : Prop := 0 ≤ a ∧ a ≤ 2130706432
instance (a : Int) : Decidable (inF a) := by unfold inF; infer_instance
def fadd (a b : Int) : Int := (a + b) % 2130706433
def fsub (a b : Int) : Int := (a - b) % 2130706433
def fmul (a b : Int) : Int := (a * b) % 2130706433
theorem inF_add (a b : Int) : inF (fadd a b) := by unfold inF fadd; omega
theorem inF_sub (a b : Int) : inF (fsub a b) := by unfold inF fsub; omega
theorem inF_mul (a b : Int) : inF (fmul a b) := by unfold inF fmul; omega
theorem mul_bd {a b : Int} (ha : inF a) (hb : inF b) : 0 ≤ a * b ∧ a * b ≤ 4539909903617114624 := by
  obtain ⟨h1, h2⟩ := ha
  obtain ⟨h3, h4⟩ := hb
  refine ⟨Int.mul_nonneg h1 h3, Int.le_trans (Int.mul_le_mul h2 h4 h3 (by omega)) (by decide)⟩
end Go.Proofs.Ytekijbcblajjbaa.PT
end
section
/- What the printed functions of the field and of the greater field answer: the same sums and products on both sides. -/
namespace Go.Proofs.Ytekijbcblajjbaa.PT
open Go.RowKit Go.Proofs.YtekijbcblajjbaaW.PrintWords Go.Proofs.YtekijbcblajjbaaW.PrintLast Go.Proofs.YtekijbcblajjbaaW.PrintMore
set_option linter.unusedVariables false
set_option linter.unusedSimpArgs false

theorem impl_in_eq (a b c : Int) : impl_in.f a b c = some (decide (b ≤ a ∧ a ≤ c)) := by
  unfold impl_in.f; by_cases h : b ≤ a <;> simp [h]
theorem spec_l01In_eq (a b c : Int) : spec_l01In.f a b c = some (decide (b ≤ a ∧ a ≤ c)) := by
  unfold spec_l01In.f; by_cases h : b ≤ a <;> simp [h]
theorem impl_FieldOK_eq (a : Int) : impl_FieldOK.f a = some (decide (inF a)) := by
  unfold impl_FieldOK.f; rw [impl_in_eq]; rfl
theorem spec_FieldOK_eq (a : Int) : spec_FieldOK.f a = some (decide (inF a)) := by
  unfold spec_FieldOK.f; rw [spec_l01In_eq]; rfl
theorem impl_add_eq {a b : Int} (ha : inF a) (hb : inF b) : impl_add.f a b = some (fadd a b) := by
  unfold inF at ha hb; unfold impl_add.f fadd; rw [w64 (by omega) (by omega), tmod_nn (by omega)]
theorem spec_l01Add_eq {a b : Int} (ha : inF a) (hb : inF b) : spec_l01Add.f a b = some (fadd a b) := by
  unfold inF at ha hb; unfold spec_l01Add.f fadd; rw [w64 (by omega) (by omega), tmod_nn (by omega)]
theorem impl_sub_eq {a b : Int} (ha : inF a) (hb : inF b) : impl_sub.f a b = some (fsub a b) := by
  unfold inF at ha hb; unfold impl_sub.f fsub; rw [w64 (n := a - b) (by omega) (by omega), w64 (by omega) (by omega), tmod_nn (by omega)]
  congr 1; omega
theorem spec_l01Sub_eq {a b : Int} (ha : inF a) (hb : inF b) : spec_l01Sub.f a b = some (fsub a b) := by
  unfold inF at ha hb; unfold spec_l01Sub.f fsub; rw [w64 (n := a + _) (by omega) (by omega), w64 (by omega) (by omega), tmod_nn (by omega)]
  congr 1; omega
theorem impl_mul_eq {a b : Int} (ha : inF a) (hb : inF b) : impl_mul.f a b = some (fmul a b) := by
  have := mul_bd ha hb
  unfold impl_mul.f fmul; rw [w64 (by omega) (by omega), tmod_nn (by omega)]
theorem spec_l01Mul_eq {a b : Int} (ha : inF a) (hb : inF b) : spec_l01Mul.f a b = some (fmul a b) := by
  have := mul_bd ha hb
  unfold spec_l01Mul.f fmul; rw [w64 (by omega) (by omega), tmod_nn (by omega)]
/-! lists -/
end Go.Proofs.Ytekijbcblajjbaa.PT
end
section
/- The laws' own helpers: elements copied, compared, marked; and powers of two. -/
namespace Go.Proofs.Ytekijbcblajjbaa.PT
open Go.RowKit Go.Proofs.YtekijbcblajjbaaW.PrintWords Go.Proofs.YtekijbcblajjbaaW.PrintLast Go.Proofs.YtekijbcblajjbaaW.PrintMore
set_option linter.unusedVariables false
set_option linter.unusedSimpArgs false

theorem getD_at {α : Type} {l : List α} {z : α} {i : Nat} (h : i < l.length) : l.getD i z = l[i] := by
  rw [List.getD_eq_getElem?_getD, List.getElem?_eq_getElem h]; rfl
theorem set_mid {α : Type} (a b : List α) (x y : α) : (a ++ x :: b).set a.length y = a ++ y :: b := by
  rw [List.set_append_right _ _ (Nat.le_refl _)]; simp
/-! marks: a list's cells are numbered from k on -/
/-! powers of two -/
end Go.Proofs.Ytekijbcblajjbaa.PT
end
section
/- Steps that several laws share: same answers compared, lists turned in place. -/
namespace Go.Proofs.Ytekijbcblajjbaa.PT
open Go.RowKit Go.Proofs.YtekijbcblajjbaaW.PrintWords Go.Proofs.YtekijbcblajjbaaW.PrintLast Go.Proofs.YtekijbcblajjbaaW.PrintMore
set_option linter.unusedVariables false
set_option linter.unusedSimpArgs false
/-- A step with its answer known, as a rewriting (no unfolding in the kernel). -/
theorem bS {α β : Type} (a : α) (f : α → Option β) : (some a).bind f = f a := Eq.trans (Eq.refl _) (Option.bind_some a f)
end Go.Proofs.Ytekijbcblajjbaa.PT
end
section
/- Gates and circuits: the laws' helpers, and what both sides answer. -/
namespace Go.Proofs.Ytekijbcblajjbaa.PT
open Go.RowKit Go.Proofs.YtekijbcblajjbaaW.PrintWords Go.Proofs.YtekijbcblajjbaaW.PrintLast Go.Proofs.YtekijbcblajjbaaW.PrintMore
set_option linter.unusedVariables false
set_option linter.unusedSimpArgs false
theorem rdGateS_src {l : List S117} {i : Nat} (h : i < l.length) : rd_T117 l (i : Int) = l[i] := by
  show l.getD (i : Int).toNat z117 = l[i]
  rw [Int.toNat_natCast, getD_at h]
theorem rdGateS {l : List S115} {i : Nat} (h : i < l.length) : rd_T115 l (i : Int) = l[i] := by
  show l.getD (i : Int).toNat z115 = l[i]
  rw [Int.toNat_natCast, getD_at h]
def convGateS (l : List S117) : List S115 := l.map fun x => ⟨x.f0, x.f1, x.f2, x.f3⟩
theorem convGateS_length (l : List S117) : (convGateS l).length = l.length := by simp [convGateS]
theorem szGateS_big {l : List S117} {a : Int} (ha : 0 ≤ a) (ha2 : a ≤ 1048576) (hl : l.length ≤ 9223372036854775807) (h : a < l.length) : laws_szGateS.f l a = some (-1) := by
  unfold laws_szGateS.f; rw [w64 (by omega) (by omega), if_pos (by omega)]
theorem szGateS_fit {l : List S117} {a : Int} (ha2 : a ≤ 1048576) (h : (l.length : Int) ≤ a) : laws_szGateS.f l a = some (a - l.length) := by
  unfold laws_szGateS.f; rw [w64 (by omega) (by omega), if_neg (by omega)]
theorem toGateS_l0 (l : List S117) (hl : l.length ≤ 1048576) (d : Nat) : ∀ (k i : Nat), i + d = l.length → d < k →
    laws_toGateS.l0 k l (convGateS (l.take i) ++ List.replicate d z115) i = some (convGateS l) := by
  induction d with
  | zero =>
    intro k i hi hk
    obtain ⟨k, rfl⟩ : ∃ m, k = m + 1 := ⟨k - 1, by omega⟩
    simp only [laws_toGateS.l0]; rw [if_neg (by omega), List.take_of_length_le (by omega)]; simp
  | succ d ih =>
    intro k i hi hk
    obtain ⟨k, rfl⟩ : ∃ m, k = m + 1 := ⟨k - 1, by omega⟩
    have hlt : i < l.length := by omega
    have hlen : (convGateS (l.take i)).length = i := by rw [convGateS_length, List.length_take]; omega
    simp only [laws_toGateS.l0, laws_toGate.f]
    rw [if_pos (by omega), if_pos (by omega), rdGateS_src hlt]
    simp only [bS]
    rw [if_pos (by rw [List.length_append, hlen, List.length_replicate]; omega), Int.toNat_natCast, List.replicate_succ]
    have hs := fun y => set_mid (convGateS (l.take i)) (List.replicate d z115) z115 y
    rw [hlen] at hs
    rw [hs, w64 (by omega) (by omega), show (i : Int) + 1 = ((i + 1 : Nat) : Int) by omega]
    have := ih k (i + 1) (by omega) (by omega)
    rw [List.take_succ_eq_append_getElem hlt] at this
    simp only [convGateS, List.map_append, List.map_cons, List.map_nil, List.append_assoc, List.cons_append, List.nil_append] at this
    exact this
theorem toGateS_eq {l : List S117} (hl : l.length ≤ 1048576) {k : Nat} (hk : l.length < k) : laws_toGateS.f k l = some (convGateS l) := by
  unfold laws_toGateS.f
  rw [if_pos (by omega), if_pos (by omega)]
  have := toGateS_l0 l (by omega) l.length k 0 (by omega) hk
  rw [Int.natCast_zero, List.take_zero] at this
  rw [Int.toNat_natCast]
  exact this
theorem eqGate_refl (x : S115) : laws_eqGate.f x.f0 x.f1 x.f2 x.f3 x.f0 x.f1 x.f2 x.f3 = some true := by
  unfold laws_eqGate.f; rw [if_pos rfl, if_pos rfl, if_pos rfl, if_pos rfl]
theorem eqGateS_l0 (a : List S115) (hl : a.length ≤ 1048576) (d : Nat) : ∀ (k i : Nat), i + d = a.length → d < k → laws_eqGateS.l0 k a a i = some true := by
  induction d with
  | zero =>
    intro k i hi hk
    obtain ⟨k, rfl⟩ : ∃ m, k = m + 1 := ⟨k - 1, by omega⟩
    simp only [laws_eqGateS.l0]; rw [if_neg (by omega)]
  | succ d ih =>
    intro k i hi hk
    obtain ⟨k, rfl⟩ : ∃ m, k = m + 1 := ⟨k - 1, by omega⟩
    simp only [laws_eqGateS.l0]
    rw [if_pos (show (i : Int) < (a.length : Int) by omega), if_pos (show 0 ≤ (i : Int) by omega), if_pos (show (i : Int) < (a.length : Int) by omega), eqGate_refl]
    simp only [bS, if_true]
    rw [w64 (by omega) (by omega), show (i : Int) + 1 = ((i + 1 : Nat) : Int) by omega]
    exact ih k (i + 1) (by omega) (by omega)
theorem eqGateS_refl {a : List S115} (hl : a.length ≤ 1048576) {k : Nat} (hk : a.length < k) : laws_eqGateS.f k a a = some true := by
  unfold laws_eqGateS.f; rw [if_pos rfl]; exact eqGateS_l0 a hl a.length k 0 (by omega) hk
theorem szCircuit_big {l : List S117} {a : Int} (ha : 0 ≤ a) (ha2 : a ≤ 1048576) (hl : l.length ≤ 9223372036854775807) (h : a < l.length) : laws_szCircuit.f l a = some (-1) := by
  unfold laws_szCircuit.f; rw [szGateS_big ha ha2 hl h]; simp only [bS]; rw [if_pos (by omega)]
theorem szCircuit_fit {l : List S117} {a : Int} (ha2 : a ≤ 1048576) (h : (l.length : Int) ≤ a) : laws_szCircuit.f l a = some (a - l.length) := by
  unfold laws_szCircuit.f; rw [szGateS_fit ha2 h]; simp only [bS]; rw [if_neg (by omega)]
theorem toCircuit_eq {l : List S117} (hl : l.length ≤ 1048576) {k : Nat} (hk : l.length < k) : laws_toCircuit.f k l = some (convGateS l) := by
  unfold laws_toCircuit.f; rw [toGateS_eq hl hk]; simp only [bS]
theorem eqCircuit_refl {a : List S115} (hl : a.length ≤ 1048576) {k : Nat} (hk : a.length < k) : laws_eqCircuit.f k a a = some true := by
  unfold laws_eqCircuit.f; rw [eqGateS_refl hl hk]; simp only [bS, if_true]
def gateB (x : S115) (i : Int) : Bool :=
  decide (1 ≤ x.f0 ∧ x.f0 ≤ 8) &&
  (if 4 ≤ x.f0 ∧ x.f0 ≤ 7 then decide (0 ≤ x.f1 ∧ x.f1 ≤ i - 1) && decide (0 ≤ x.f2 ∧ x.f2 ≤ i - 1) && (x.f3 == 0)
   else if x.f0 = 8 then decide (0 ≤ x.f1 ∧ x.f1 ≤ i - 1) && (x.f2 == 0) && (x.f3 == 0)
   else if x.f0 = 3 then (x.f1 == 0) && (x.f2 == 0) && decide (inF x.f3)
   else (x.f1 == 0) && (x.f2 == 0) && (x.f3 == 0))
theorem l11Gate_eq (x : S115) {i : Int} (h0 : 0 ≤ i) (h1 : i ≤ 1048576) {k : Nat} (hk : 0 < k) : spec_l11Gate.f k x.f0 x.f1 x.f2 x.f3 i = some (gateB x i) := by
  obtain ⟨k, rfl⟩ : ∃ m, k = m + 1 := ⟨k - 1, by omega⟩
  obtain ⟨a, b, c, d⟩ := x
  have j1 : ∀ e, spec_l11Gate.j0 (k + 1) e a b c d = some (if e = true then false else if a = 3 then decide (inF d) else (d == 0)) := by
    intro e
    simp only [spec_l11Gate.j0]
    cases e
    · simp only [Bool.false_eq_true, if_false]
      by_cases h3 : a = 3
      · rw [if_pos h3, if_pos h3, spec_FieldOK_eq]; rfl
      · rw [if_neg h3, if_neg h3]
    · rfl
  unfold spec_l11Gate.f gateB spec_l11Uses.f
  simp only [spec_l01In_eq, bS, j1]
  rw [w64 (n := i - 1) (by omega) (by omega)]
  by_cases hk : 1 ≤ a ∧ a ≤ 8
  · rw [decide_eq_true hk]
    simp only [if_true, Bool.true_and]
    by_cases h4 : 4 ≤ a ∧ a ≤ 7
    · have n3 : ¬ a = 3 := by omega
      rw [decide_eq_true h4, if_pos h4]
      simp only [if_true, bS, n3, if_false]
      by_cases hb : 0 ≤ b ∧ b ≤ i - 1
      · by_cases hc : 0 ≤ c ∧ c ≤ i - 1
        · simp [hb, hc]
        · simp [hb, hc]
      · simp [hb]
    · rw [decide_eq_false h4, if_neg h4]
      by_cases h8 : a = 8
      · have n3 : ¬ a = 3 := by omega
        simp only [h8, if_true, bS, Bool.false_eq_true, if_false]
        by_cases hb : 0 ≤ b ∧ b ≤ i - 1
        · by_cases hc : c = 0
          · simp [hb, hc]
          · simp [hb, hc]
        · simp [hb]
      · simp only [h8, if_false, bS, Bool.false_eq_true]
        by_cases hb : b = 0
        · by_cases hc : c = 0
          · by_cases h3 : a = 3
            · simp [hb, hc, h3]
            · simp [hb, hc, h3]
          · by_cases h3 : a = 3
            · simp [hb, hc, h3]
            · simp [hb, hc, h3]
        · by_cases h3 : a = 3
          · simp [hb, h3]
          · simp [hb, h3]
  · rw [decide_eq_false hk]; rfl
theorem isGate_eq (x : S115) {i : Int} (h0 : 0 ≤ i) (h1 : i ≤ 1048576) {k : Nat} (hk : 0 < k) : impl_isGate.f k x.f0 x.f1 x.f2 x.f3 i = some (gateB x i) := by
  obtain ⟨k, rfl⟩ : ∃ m, k = m + 1 := ⟨k - 1, by omega⟩
  obtain ⟨a, b, c, d⟩ := x
  unfold impl_isGate.f gateB
  simp only [impl_isGate.j0, impl_in_eq, impl_FieldOK_eq, bS]
  rw [w64 (n := i - 1) (by omega) (by omega)]
  by_cases h3 : a = 3
  · subst h3
    by_cases hb : b = 0 <;> by_cases hc : c = 0 <;> simp [hb, hc]
  · by_cases h4 : a = 4
    · subst h4
      by_cases hb : 0 ≤ b ∧ b ≤ i - 1 <;> by_cases hc : 0 ≤ c ∧ c ≤ i - 1 <;> simp [hb, hc]
    · by_cases h5 : a = 5
      · subst h5
        by_cases hb : 0 ≤ b ∧ b ≤ i - 1 <;> by_cases hc : 0 ≤ c ∧ c ≤ i - 1 <;> simp [hb, hc]
      · by_cases h6 : a = 6
        · subst h6
          by_cases hb : 0 ≤ b ∧ b ≤ i - 1 <;> by_cases hc : 0 ≤ c ∧ c ≤ i - 1 <;> simp [hb, hc]
        · by_cases h7 : a = 7
          · subst h7
            by_cases hb : 0 ≤ b ∧ b ≤ i - 1 <;> by_cases hc : 0 ≤ c ∧ c ≤ i - 1 <;> simp [hb, hc]
          · have n4 : ¬ (4 ≤ a ∧ a ≤ 7) := by omega
            by_cases h8 : a = 8
            · subst h8
              by_cases hb : 0 ≤ b ∧ b ≤ i - 1 <;> by_cases hc : c = 0 <;> simp [hb, hc]
            · by_cases hk : 1 ≤ a ∧ a ≤ 8
              · by_cases hb : b = 0 <;> by_cases hc : c = 0 <;> simp [h3, h4, h5, h6, h7, h8, n4, hk, hb, hc]
              · simp [h3, h4, h5, h6, h7, h8, n4, hk]
def cnt (a : Int) : List S115 → Int
  | [] => 0
  | x :: xs => (if x.f0 = a then 1 else 0) + cnt a xs
theorem cnt_bd (a : Int) (l : List S115) : 0 ≤ cnt a l ∧ cnt a l ≤ l.length := by
  induction l with
  | nil => simp [cnt]
  | cons x xs ih =>
    simp only [cnt, List.length_cons]
    by_cases h : x.f0 = a
    · rw [if_pos h]; omega
    · rw [if_neg h]; omega
theorem count_l0 (l : List S115) (hl : l.length ≤ 1048576) (a : Int) (d : Nat) : ∀ (k i : Nat) (c : Int), i + d = l.length → d < k → 0 ≤ c → c ≤ i →
    spec_l11Count.l0 k a c i l = some (c + cnt a (l.drop i)) ∧ impl_Circuit_countOf.l0 k a c l (l.length : Int) i = some (c + cnt a (l.drop i)) := by
  induction d with
  | zero =>
    intro k i c hi hk h0 h1
    obtain ⟨k, rfl⟩ : ∃ m, k = m + 1 := ⟨k - 1, by omega⟩
    simp only [spec_l11Count.l0, impl_Circuit_countOf.l0]
    rw [if_neg (by omega), if_neg (by omega), List.drop_eq_nil_of_le (by omega)]
    simp [cnt]
  | succ d ih =>
    intro k i c hi hk h0 h1
    obtain ⟨k, rfl⟩ : ∃ m, k = m + 1 := ⟨k - 1, by omega⟩
    have hlt : i < l.length := by omega
    simp only [spec_l11Count.l0, impl_Circuit_countOf.l0, spec_l01Bit.f]
    rw [if_pos (show (i : Int) < (l.length : Int) by omega), if_pos (show 0 ≤ (i : Int) by omega), rdGateS hlt, if_pos (show (i : Int) < (l.length : Int) by omega), if_pos (show 0 ≤ (i : Int) by omega), if_pos (show (i : Int) < (l.length : Int) by omega), List.drop_eq_getElem_cons hlt,
      w64 (n := (i : Int) + 1) (by omega) (by omega), show (i : Int) + 1 = ((i + 1 : Nat) : Int) by omega]
    simp only [cnt]
    by_cases h : (l[i]).f0 = a
    · rw [if_pos (beq_iff_eq.2 h), if_pos h, if_pos h]
      simp only [bS]
      rw [w64 (by omega) (by omega)]
      have e := ih k (i + 1) (c + 1) (by omega) (by omega) (by omega) (by omega)
      rw [Int.add_assoc] at e
      exact e
    · rw [if_neg (fun e => h (beq_iff_eq.1 e)), if_neg h, if_neg h]
      simp only [bS]
      rw [w64 (by omega) (by omega), Int.add_zero, Int.zero_add]
      exact ih k (i + 1) c (by omega) (by omega) (by omega) (by omega)
theorem l11Count_eq {l : List S115} (hl : l.length ≤ 1048576) (a : Int) {k : Nat} (hk : l.length < k) : spec_l11Count.f k l a = some (cnt a l) := by
  have := (count_l0 l hl a l.length k 0 0 (by omega) hk (by omega) (by omega)).1
  rw [Int.natCast_zero, List.drop_zero, Int.zero_add] at this
  unfold spec_l11Count.f; exact this
theorem countOf_eq {l : List S115} (hl : l.length ≤ 1048576) (a : Int) {k : Nat} (hk : l.length < k) : impl_Circuit_countOf.f k l a = some (cnt a l) := by
  have := (count_l0 l hl a l.length k 0 0 (by omega) hk (by omega) (by omega)).2
  rw [Int.natCast_zero, List.drop_zero, Int.zero_add] at this
  unfold impl_Circuit_countOf.f; exact this
def gatesB : Int → List S115 → Bool
  | _, [] => true
  | i, x :: xs => gateB x i && gatesB (i + 1) xs
def circB (l : List S115) : Bool := decide (1 ≤ (l.length : Int) ∧ (l.length : Int) ≤ 15) && (gatesB 0 l && decide (cnt 2 l ≤ 7))
theorem circuit_l0 (l : List S115) (hl : l.length ≤ 1048576) (d : Nat) : ∀ (k i : Nat), i + d = l.length → d + l.length + 1 < k →
    spec_CircuitOK.l0 k i l = some (gatesB i (l.drop i) && decide (cnt 2 l ≤ 7)) ∧ impl_CircuitOK.l0 k l (l.length : Int) i l = some (gatesB i (l.drop i) && decide (cnt 2 l ≤ 7)) := by
  induction d with
  | zero =>
    intro k i hi hk
    obtain ⟨k, rfl⟩ : ∃ m, k = m + 1 := ⟨k - 1, by omega⟩
    simp only [spec_CircuitOK.l0, impl_CircuitOK.l0]
    rw [if_neg (by omega), if_neg (by omega), l11Count_eq hl 2 (by omega), countOf_eq hl 2 (by omega), List.drop_eq_nil_of_le (by omega)]
    simp only [bS, gatesB, Bool.true_and]
    exact ⟨trivial, trivial⟩
  | succ d ih =>
    intro k i hi hk
    obtain ⟨k, rfl⟩ : ∃ m, k = m + 1 := ⟨k - 1, by omega⟩
    have hlt : i < l.length := by omega
    have q1 := l11Gate_eq l[i] (i := (i : Int)) (by omega) (by omega) (k := k) (by omega)
    have q2 := isGate_eq l[i] (i := (i : Int)) (by omega) (by omega) (k := k) (by omega)
    simp only [spec_CircuitOK.l0, impl_CircuitOK.l0]
    rw [if_pos (show (i : Int) < (l.length : Int) by omega), if_pos (show 0 ≤ (i : Int) by omega), rdGateS hlt, if_pos (show (i : Int) < (l.length : Int) by omega), if_pos (show 0 ≤ (i : Int) by omega), if_pos (show (i : Int) < (l.length : Int) by omega), q1, q2, List.drop_eq_getElem_cons hlt,
      w64 (n := (i : Int) + 1) (by omega) (by omega), show (i : Int) + 1 = ((i + 1 : Nat) : Int) by omega]
    simp only [bS, gatesB]
    by_cases h : gateB l[i] (i : Int) = true
    · rw [if_pos h, if_pos h, h, Bool.true_and, show (i : Int) + 1 = ((i + 1 : Nat) : Int) by omega]
      exact ih k (i + 1) (by omega) (by omega)
    · rw [if_neg h, if_neg h, Bool.eq_false_iff.mpr h]
      exact ⟨rfl, rfl⟩
theorem spec_CircuitOK_eq {l : List S115} (hl : l.length ≤ 1048576) {k : Nat} (hk : 2 * l.length + 5 < k) : spec_CircuitOK.f k l = some (circB l) := by
  unfold spec_CircuitOK.f circB
  rw [spec_l01In_eq]
  simp only [bS]
  by_cases h : 1 ≤ (l.length : Int) ∧ (l.length : Int) ≤ 15
  · have e := (circuit_l0 l hl l.length k 0 (by omega) (by omega)).1
    rw [Int.natCast_zero, List.drop_zero] at e
    rw [decide_eq_true h, if_pos rfl, e, Bool.true_and]
  · rw [decide_eq_false h]; rfl
theorem impl_CircuitOK_eq {l : List S115} (hl : l.length ≤ 1048576) {k : Nat} (hk : 2 * l.length + 5 < k) : impl_CircuitOK.f k l = some (circB l) := by
  unfold impl_CircuitOK.f circB
  rw [impl_in_eq]
  simp only [bS]
  by_cases h : 1 ≤ (l.length : Int) ∧ (l.length : Int) ≤ 15
  · have e := (circuit_l0 l hl l.length k 0 (by omega) (by omega)).2
    rw [Int.natCast_zero, List.drop_zero] at e
    rw [decide_eq_true h, if_pos rfl, e, Bool.true_and]
  · rw [decide_eq_false h]; rfl
end Go.Proofs.Ytekijbcblajjbaa.PT
end
section
/- The equality weight, at a point and as a table: both sides walk the same numbers. -/
namespace Go.Proofs.Ytekijbcblajjbaa.PT
open Go.RowKit Go.Proofs.YtekijbcblajjbaaW.PrintWords Go.Proofs.YtekijbcblajjbaaW.PrintLast Go.Proofs.YtekijbcblajjbaaW.PrintMore
set_option linter.unusedVariables false
set_option linter.unusedSimpArgs false
/-! the table -/
end Go.Proofs.Ytekijbcblajjbaa.PT
end
section
/- Entries and matrices: the laws' helpers, and what both sides answer. -/
namespace Go.Proofs.Ytekijbcblajjbaa.PT
open Go.RowKit Go.Proofs.YtekijbcblajjbaaW.PrintWords Go.Proofs.YtekijbcblajjbaaW.PrintLast Go.Proofs.YtekijbcblajjbaaW.PrintMore
set_option linter.unusedVariables false
set_option linter.unusedSimpArgs false
theorem rdI {l : List Int} {i : Nat} (h : i < l.length) : rd l (i : Int) = l[i] := by
  show l.getD (i : Int).toNat 0 = l[i]
  rw [Int.toNat_natCast, getD_at h]
theorem toIntS_l0 (l : List Int) (hl : l.length ≤ 1048576) (d : Nat) : ∀ (k i : Nat), i + d = l.length → d < k → laws_toIntS.l0 k l (l.take i ++ List.replicate d 0) i = some l := by
  induction d with
  | zero =>
    intro k i hi hk
    obtain ⟨k, rfl⟩ : ∃ m, k = m + 1 := ⟨k - 1, by omega⟩
    simp only [laws_toIntS.l0]; rw [if_neg (by omega), List.take_of_length_le (by omega)]; simp
  | succ d ih =>
    intro k i hi hk
    obtain ⟨k, rfl⟩ : ∃ m, k = m + 1 := ⟨k - 1, by omega⟩
    have hlt : i < l.length := by omega
    have hlen : (l.take i).length = i := by rw [List.length_take]; omega
    simp only [laws_toIntS.l0]
    rw [if_pos (by omega), if_pos (by omega), rdI hlt, if_pos (by rw [List.length_append, hlen, List.length_replicate]; omega), Int.toNat_natCast, List.replicate_succ]
    have hs := fun y => set_mid (l.take i) (List.replicate d 0) 0 y
    rw [hlen] at hs
    rw [hs, w64 (by omega) (by omega), show (i : Int) + 1 = ((i + 1 : Nat) : Int) by omega]
    have := ih k (i + 1) (by omega) (by omega)
    rw [List.take_succ_eq_append_getElem hlt, List.append_assoc] at this
    exact this
theorem toIntS_eq {l : List Int} (hl : l.length ≤ 1048576) {k : Nat} (hk : l.length < k) : laws_toIntS.f k l = some l := by
  unfold laws_toIntS.f
  rw [if_pos (by omega), if_pos (by omega)]
  have := toIntS_l0 l hl l.length k 0 (by omega) hk
  rw [Int.natCast_zero, List.take_zero] at this
  rw [Int.toNat_natCast]
  exact this
theorem eqIntS_l0 (a : List Int) (hl : a.length ≤ 1048576) (d : Nat) : ∀ (k i : Nat), i + d = a.length → d < k → laws_eqIntS.l0 k a a i = some true := by
  induction d with
  | zero =>
    intro k i hi hk
    obtain ⟨k, rfl⟩ : ∃ m, k = m + 1 := ⟨k - 1, by omega⟩
    simp only [laws_eqIntS.l0]; rw [if_neg (by omega)]
  | succ d ih =>
    intro k i hi hk
    obtain ⟨k, rfl⟩ : ∃ m, k = m + 1 := ⟨k - 1, by omega⟩
    simp only [laws_eqIntS.l0]
    rw [if_pos (show (i : Int) < (a.length : Int) by omega), if_pos (show 0 ≤ (i : Int) by omega), if_pos (show (i : Int) < (a.length : Int) by omega), if_true, w64 (by omega) (by omega), show (i : Int) + 1 = ((i + 1 : Nat) : Int) by omega]
    exact ih k (i + 1) (by omega) (by omega)
theorem eqIntS_refl {a : List Int} (hl : a.length ≤ 1048576) {k : Nat} (hk : a.length < k) : laws_eqIntS.f k a a = some true := by
  unfold laws_eqIntS.f; rw [if_pos rfl]; exact eqIntS_l0 a hl a.length k 0 (by omega) hk
def markedI : Nat → Int → List Int
  | 0, _ => []
  | n + 1, k => k :: markedI n (k + 1)
theorem markedI_length (n : Nat) : ∀ k, (markedI n k).length = n := by
  induction n with
  | zero => intro k; rfl
  | succ n ih => intro k; simp [markedI, ih]
theorem markedI_snoc (n : Nat) : ∀ k : Int, markedI (n + 1) k = markedI n k ++ [k + n] := by
  induction n with
  | zero => intro k; simp [markedI]
  | succ n ih =>
    intro k
    rw [markedI, ih, markedI, List.cons_append]
    have e : k + 1 + (n : Int) = k + ((n : Int) + 1) := by omega
    rw [Int.natCast_succ, e]
theorem markedI_get (n : Nat) : ∀ (k : Int) (i : Nat) (h : i < (markedI n k).length), (markedI n k)[i] = k + i := by
  induction n with
  | zero => intro k i h; simp [markedI] at h
  | succ n ih =>
    intro k i h
    cases i with
    | zero => simp [markedI]
    | succ i =>
      simp only [markedI, List.getElem_cons_succ]
      rw [ih]; omega
theorem markIntS_l0 (a : List Int) (k0 : Int) (hk0 : 0 ≤ k0) (hk1 : k0 ≤ 4611686018427387904) (hl : a.length ≤ 1048576) (d : Nat) : ∀ (k i : Nat), i + d = a.length → d < k →
    laws_markIntS.l0 k (markedI i k0 ++ a.drop i) (k0 + i) i = some (k0 + a.length, markedI a.length k0) := by
  induction d with
  | zero =>
    intro k i hi hk
    obtain ⟨k, rfl⟩ : ∃ m, k = m + 1 := ⟨k - 1, by omega⟩
    have : i = a.length := by omega
    subst this
    simp only [laws_markIntS.l0]
    rw [if_neg (by rw [List.length_append, markedI_length, List.length_drop]; omega)]; simp
  | succ d ih =>
    intro k i hi hk
    obtain ⟨k, rfl⟩ : ∃ m, k = m + 1 := ⟨k - 1, by omega⟩
    have hlt : i < a.length := by omega
    simp only [laws_markIntS.l0]
    rw [if_pos (by rw [List.length_append, markedI_length, List.length_drop]; omega), if_pos (by omega), Int.toNat_natCast, List.drop_eq_getElem_cons hlt]
    have hs := set_mid (markedI i k0) (a.drop (i + 1)) a[i] (k0 + i)
    rw [markedI_length] at hs
    rw [hs, w64 (n := k0 + (i : Int) + 1) (by omega) (by omega), w64 (by omega) (by omega), show (i : Int) + 1 = ((i + 1 : Nat) : Int) by omega, show k0 + (i : Int) + 1 = k0 + ((i + 1 : Nat) : Int) by omega]
    have := ih k (i + 1) (by omega) (by omega)
    rw [markedI_snoc, List.append_assoc] at this
    exact this
theorem markIntS_eq {a : List Int} {k0 : Int} (hk0 : 0 ≤ k0) (hk1 : k0 ≤ 4611686018427387904) (hl : a.length ≤ 1048576) {k : Nat} (hk : a.length < k) : laws_markIntS.f k a k0 = some (k0 + a.length, markedI a.length k0) := by
  have := markIntS_l0 a k0 hk0 hk1 hl a.length k 0 (by omega) hk
  unfold laws_markIntS.f
  simpa [markedI] using this
theorem heldIntS_l0 (n : Nat) (k0 : Int) (hk0 : 0 ≤ k0) (hk1 : k0 ≤ 4611686018427387904) (hl : n ≤ 1048576) (d : Nat) : ∀ (k i : Nat), i + d = n → d < k → laws_heldIntS.l0 k (markedI n k0) (k0 + i) i = some (k0 + n) := by
  induction d with
  | zero =>
    intro k i hi hk
    obtain ⟨k, rfl⟩ : ∃ m, k = m + 1 := ⟨k - 1, by omega⟩
    have : i = n := by omega
    subst this
    simp only [laws_heldIntS.l0]
    rw [if_neg (by rw [markedI_length]; omega)]
  | succ d ih =>
    intro k i hi hk
    obtain ⟨k, rfl⟩ : ∃ m, k = m + 1 := ⟨k - 1, by omega⟩
    have hlt : i < (markedI n k0).length := by rw [markedI_length]; omega
    simp only [laws_heldIntS.l0]
    rw [if_pos (by rw [markedI_length]; omega), if_pos (by omega), rdI hlt, markedI_get, if_pos rfl, w64 (by omega) (by omega), w64 (by omega) (by omega), show (i : Int) + 1 = ((i + 1 : Nat) : Int) by omega, show k0 + (i : Int) + 1 = k0 + ((i + 1 : Nat) : Int) by omega]
    exact ih k (i + 1) (by omega) (by omega)
theorem heldIntS_eq {n : Nat} {k0 : Int} (hk0 : 0 ≤ k0) (hk1 : k0 ≤ 4611686018427387904) (hl : n ≤ 1048576) {k : Nat} (hk : n < k) : laws_heldIntS.f k (markedI n k0) k0 = some (k0 + n) := by
  have := heldIntS_l0 n k0 hk0 hk1 hl n k 0 (by omega) hk
  unfold laws_heldIntS.f
  simpa using this
/-! matrices -/
end Go.Proofs.Ytekijbcblajjbaa.PT
end
section
/- Tables turned in place, folded, and read at a point: both sides walk the same numbers. -/
namespace Go.Proofs.Ytekijbcblajjbaa.PT
open Go.RowKit Go.Proofs.YtekijbcblajjbaaW.PrintWords Go.Proofs.YtekijbcblajjbaaW.PrintLast Go.Proofs.YtekijbcblajjbaaW.PrintMore
set_option linter.unusedVariables false
set_option linter.unusedSimpArgs false
/-! a table turned in place -/
/-! a table folded -/
/-! a table at a point -/
end Go.Proofs.Ytekijbcblajjbaa.PT
end
section
/- Powers, inverses and the line: what the printed functions of chapter 2 come to. -/
namespace Go.Proofs.Ytekijbcblajjbaa.PT
open Go.RowKit Go.Proofs.YtekijbcblajjbaaW.PrintWords Go.Proofs.YtekijbcblajjbaaW.PrintLast Go.Proofs.YtekijbcblajjbaaW.PrintMore
set_option linter.unusedVariables false
set_option linter.unusedSimpArgs false
end Go.Proofs.Ytekijbcblajjbaa.PT
end
section
/- Words: their transform, its inverse, and a word folded: both sides walk the same numbers. -/
namespace Go.Proofs.Ytekijbcblajjbaa.PT
open Go.RowKit Go.Proofs.YtekijbcblajjbaaW.PrintWords Go.Proofs.YtekijbcblajjbaaW.PrintLast Go.Proofs.YtekijbcblajjbaaW.PrintMore
set_option linter.unusedVariables false
set_option linter.unusedSimpArgs false
/-! logarithms and roots -/
/-! a pair folded -/
/-! the transform -/
end Go.Proofs.Ytekijbcblajjbaa.PT
end
section
/- The field's order is a prime: powers, inverses and the greater field's laws. -/
namespace Go.Proofs.Ytekijbcblajjbaa.PT
open Go.RowKit Go.Proofs.YtekijbcblajjbaaW.PrintWords Go.Proofs.YtekijbcblajjbaaW.PrintLast Go.Proofs.YtekijbcblajjbaaW.PrintMore
set_option linter.unusedVariables false
set_option linter.unusedSimpArgs false
end Go.Proofs.Ytekijbcblajjbaa.PT
end
section
/- Matrices times numbers, and matrices at points: both sides walk the same numbers. -/
namespace Go.Proofs.Ytekijbcblajjbaa.PT
open Go.RowKit Go.Proofs.YtekijbcblajjbaaW.PrintWords Go.Proofs.YtekijbcblajjbaaW.PrintLast Go.Proofs.YtekijbcblajjbaaW.PrintMore
set_option linter.unusedVariables false
set_option linter.unusedSimpArgs false
def fieldsB (l : List Int) : Bool := l.all fun x => decide (inF x)
theorem are_fields_eq (l : List Int) : impl_are_int_FieldOK.f l = some (fieldsB l) := by
  unfold impl_are_int_FieldOK.f fieldsB
  congr 2; funext x; unfold impl_are_int_FieldOK.p; rw [impl_FieldOK_eq]; rfl
theorem fieldsB_iff {l : List Int} (h : fieldsB l = true) : ∀ x ∈ l, inF x := by
  intro x hx
  unfold fieldsB at h
  rw [List.all_eq_true] at h
  exact of_decide_eq_true (h x hx)
theorem l10Fields_l0 (l : List Int) (hl : l.length ≤ 1048576) (d : Nat) : ∀ (k i : Nat), i + d = l.length → d < k → spec_l10Fields.l0 k l i = some (fieldsB (l.drop i)) := by
  induction d with
  | zero =>
    intro k i hi hk
    obtain ⟨k, rfl⟩ : ∃ m, k = m + 1 := ⟨k - 1, by omega⟩
    simp only [spec_l10Fields.l0]; rw [if_neg (by omega), List.drop_eq_nil_of_le (by omega)]; rfl
  | succ d ih =>
    intro k i hi hk
    obtain ⟨k, rfl⟩ : ∃ m, k = m + 1 := ⟨k - 1, by omega⟩
    have hlt : i < l.length := by omega
    simp only [spec_l10Fields.l0]
    rw [if_pos (show (i : Int) < (l.length : Int) by omega), if_pos (show 0 ≤ (i : Int) by omega), rdI hlt, spec_FieldOK_eq, List.drop_eq_getElem_cons hlt, w64 (by omega) (by omega), show (i : Int) + 1 = ((i + 1 : Nat) : Int) by omega]
    simp only [bS, fieldsB, List.all_cons]
    by_cases h : inF l[i]
    · rw [decide_eq_true h, if_pos rfl, Bool.true_and]; exact ih k (i + 1) (by omega) (by omega)
    · rw [decide_eq_false h]; rfl
theorem l10Fields_eq {l : List Int} (hl : l.length ≤ 1048576) {k : Nat} (hk : l.length < k) : spec_l10Fields.f k l = some (fieldsB l) := by
  have e := l10Fields_l0 l hl l.length k 0 (by omega) hk
  rw [Int.natCast_zero, List.drop_zero] at e
  unfold spec_l10Fields.f; exact e
theorem inF_rd {l : List Int} (h : ∀ x ∈ l, inF x) {i : Int} (h0 : 0 ≤ i) (h1 : i < l.length) : inF (rd l i) := by
  show inF (l.getD i.toNat 0)
  rw [getD_at (show i.toNat < l.length by omega)]
  exact h _ (List.getElem_mem _)
/-! at points -/
end Go.Proofs.Ytekijbcblajjbaa.PT
end
section
/- Systems: both sides ask the same of a system and of numbers, and come to the same failed row. -/
namespace Go.Proofs.Ytekijbcblajjbaa.PT
open Go.RowKit Go.Proofs.YtekijbcblajjbaaW.PrintWords Go.Proofs.YtekijbcblajjbaaW.PrintLast Go.Proofs.YtekijbcblajjbaaW.PrintMore
set_option linter.unusedVariables false
set_option linter.unusedSimpArgs false
end Go.Proofs.Ytekijbcblajjbaa.PT
end
section
/- A circuit's run: the one side runs to the end and then asks, the other stops where something that must be is not. -/
namespace Go.Proofs.Ytekijbcblajjbaa.PT
open Go.RowKit Go.Proofs.YtekijbcblajjbaaW.PrintWords Go.Proofs.YtekijbcblajjbaaW.PrintLast Go.Proofs.YtekijbcblajjbaaW.PrintMore
set_option linter.unusedVariables false
set_option linter.unusedSimpArgs false
/-- What must be of a gate is. -/
def fitB (R : List Int) (g : S115) : Bool := if g.f0 = 7 then decide (rd R g.f1 = rd R g.f2) else if g.f0 = 8 then decide (¬ rd R g.f1 > 1) else true
def fitsL (R : List Int) : List S115 → Bool
  | [] => true
  | g :: gs => fitB R g && fitsL R gs
theorem rd_app {o S : List Int} {a : Int} (h0 : 0 ≤ a) (h1 : a < o.length) : rd (o ++ S) a = rd o a := by
  show (o ++ S).getD a.toNat 0 = o.getD a.toNat 0
  rw [List.getD_eq_getElem?_getD, List.getD_eq_getElem?_getD, List.getElem?_append_left (by omega)]
theorem inF_snoc {o : List Int} (h : ∀ y ∈ o, inF y) {v : Int} (hv : inF v) : ∀ y ∈ o ++ [v], inF y := by
  intro y hy
  rcases List.mem_append.mp hy with h1 | h1
  · exact h y h1
  · rw [List.mem_singleton.mp h1]; exact hv
theorem rd_drop (l : List Int) (p : Nat) : rd (l.drop p) 0 = rd l (p : Int) := by
  show (l.drop p).getD 0 0 = l.getD (p : Int).toNat 0
  rw [List.getD_eq_getElem?_getD, List.getD_eq_getElem?_getD, List.getElem?_drop, Int.toNat_natCast, Nat.add_zero]
def GF (g : S115) (i : Int) : Prop := (1 ≤ g.f0 ∧ g.f0 ≤ 8) ∧ (4 ≤ g.f0 ∧ g.f0 ≤ 7 → (0 ≤ g.f1 ∧ g.f1 ≤ i - 1) ∧ (0 ≤ g.f2 ∧ g.f2 ≤ i - 1)) ∧ (g.f0 = 8 → 0 ≤ g.f1 ∧ g.f1 ≤ i - 1) ∧ (g.f0 = 3 → inF g.f3)
theorem GF.op {g : S115} {i : Int} (h : GF g i) : 1 ≤ g.f0 ∧ g.f0 ≤ 8 := by unfold GF at h; exact h.1
theorem GF.mid {g : S115} {i : Int} (h : GF g i) (h4 : 4 ≤ g.f0 ∧ g.f0 ≤ 7) : (0 ≤ g.f1 ∧ g.f1 ≤ i - 1) ∧ (0 ≤ g.f2 ∧ g.f2 ≤ i - 1) := by unfold GF at h; exact h.2.1 h4
theorem GF.bit {g : S115} {i : Int} (h : GF g i) (h8 : g.f0 = 8) : 0 ≤ g.f1 ∧ g.f1 ≤ i - 1 := by unfold GF at h; exact h.2.2.1 h8
theorem GF.con {g : S115} {i : Int} (h : GF g i) (h3 : g.f0 = 3) : inF g.f3 := by unfold GF at h; exact h.2.2.2 h3
theorem gate_facts {g : S115} {i : Int} (h : gateB g i = true) : GF g i := by
  unfold GF
  unfold gateB at h
  rw [Bool.and_eq_true, decide_eq_true_eq] at h
  obtain ⟨h1, h2⟩ := h
  refine ⟨h1, fun h4 => ?_, fun h8 => ?_, fun h3 => ?_⟩
  · rw [if_pos h4] at h2
    simp only [Bool.and_eq_true, decide_eq_true_eq] at h2
    exact ⟨h2.1.1, h2.1.2⟩
  · rw [if_neg (by omega), if_pos h8] at h2
    simp only [Bool.and_eq_true, decide_eq_true_eq] at h2
    exact h2.1.1
  · rw [if_neg (by omega), if_neg (by omega), if_pos h3] at h2
    simp only [Bool.and_eq_true, decide_eq_true_eq] at h2
    exact h2.2
def RunsTo (gs : List S115) (us vs : List Int) (i p q : Nat) (o R : List Int) (b : Nat) : Prop :=
  ∀ k, b < k → spec_l11Run.l0 k us vs o p q i gs = some R ∧ impl_Circuit_run.l0 k (us.drop p) (vs.drop q) o gs (gs.length : Int) i = some (if fitsL R (gs.drop i) = true then (R, true) else ([], false))
set_option maxHeartbeats 1000000 in
theorem run_l0 (gs : List S115) (hgl : gs.length ≤ 15) (us vs : List Int) (hu : ∀ y ∈ us, inF y) (hv : ∀ y ∈ vs, inF y) (hul : us.length ≤ 4096) (hvl : vs.length ≤ 4096) (d : Nat) : ∀ (i p q : Nat) (o : List Int), i + d = gs.length → o.length = i → (∀ y ∈ o, inF y) →
    gatesB (i : Int) (gs.drop i) = true → cnt 2 (gs.drop i) = ((us.drop p).length : Int) → cnt 1 (gs.drop i) = ((vs.drop q).length : Int) → p ≤ us.length → q ≤ vs.length →
    ∃ R S, R = o ++ S ∧ R.length = gs.length ∧ (∀ y ∈ R, inF y) ∧ RunsTo gs us vs i p q o R (2 * d) := by
  induction d with
  | zero =>
    intro i p q o hi ho hok hg hc2 hc1 hp hq
    refine ⟨o, [], (List.append_nil o).symm, by omega, hok, fun k hk => ?_⟩
    obtain ⟨k, rfl⟩ : ∃ m, k = m + 1 := ⟨k - 1, by omega⟩
    simp only [spec_l11Run.l0, impl_Circuit_run.l0]
    rw [if_neg (by omega), if_neg (by omega), List.drop_eq_nil_of_le (by omega)]
    exact ⟨rfl, rfl⟩
  | succ d ih =>
    intro i p q o hi ho hok hg hc2 hc1 hp hq
    have hlt : i < gs.length := by omega
    rw [List.drop_eq_getElem_cons hlt] at hg hc2 hc1
    rw [gatesB, Bool.and_eq_true] at hg
    obtain ⟨hg1, hg2⟩ := hg
    rw [show (i : Int) + 1 = ((i + 1 : Nat) : Int) by omega] at hg2
    rw [cnt] at hc2 hc1
    have K2 := Aside0.mk hc2
    have K1 := Aside0.mk hc1
    clear hc2 hc1
    have gf := gate_facts hg1
    have f1 := gf.op
    have hrd : rd_T115 gs (i : Int) = gs[i] := rdGateS hlt
    have b2 := Aside0.mk (cnt_bd 2 (gs.drop (i + 1)))
    have b1 := Aside0.mk (cnt_bd 1 (gs.drop (i + 1)))
    -- the common step: the value v, the two rows behind it
    have step : ∀ (v : Int) (p' q' : Nat), inF v → cnt 2 (gs.drop (i + 1)) = ((us.drop p').length : Int) → cnt 1 (gs.drop (i + 1)) = ((vs.drop q').length : Int) → p' ≤ us.length → q' ≤ vs.length →
        ∃ R S, R = o ++ (v :: S) ∧ R.length = gs.length ∧ (∀ y ∈ R, inF y) ∧ RunsTo gs us vs (i + 1) p' q' (o ++ [v]) R (2 * d) := by
      intro v p' q' hvF e2 e1 hp' hq'
      obtain ⟨R, S, hR, hl, hF, hk⟩ := ih (i + 1) p' q' (o ++ [v]) (by omega) (by simp; omega) (inF_snoc hok hvF) hg2 e2 e1 hp' hq'
      exact ⟨R, S, by rw [hR, List.append_assoc]; rfl, hl, hF, hk⟩
    have fits : ∀ R : List Int, fitsL R (gs.drop i) = (fitB R gs[i] && fitsL R (gs.drop (i + 1))) := by
      intro R; rw [List.drop_eq_getElem_cons hlt, fitsL]
    have wi : wrap64 ((i : Int) + 1) = ((i + 1 : Nat) : Int) := by rw [w64 (by omega) (by omega)]; omega
    have h15 : o.length ≤ 15 := by rw [ho]; exact Nat.le_trans (Nat.le_of_lt hlt) hgl
    have lim := Aside0.mk (show o.length < 17592186044416 from Nat.lt_of_le_of_lt h15 (by decide))
    have ci : (i : Int) < (gs.length : Int) := Int.ofNat_lt.mpr hlt
    have c0' : 0 ≤ (i : Int) := Int.natCast_nonneg i
    by_cases o1 : gs[i].f0 = 1
    · have hc1 := K1.out
      rw [if_pos o1, List.length_drop] at hc1
      have hc2 := K2.out
      rw [if_neg (by rw [o1]; decide), Int.zero_add] at hc2
      have g1 := b1.out.1
      have hql : q < vs.length := by omega
      obtain ⟨R, S, hR, hl, hF, hk⟩ := step (rd vs (q : Int)) p (q + 1) (inF_rd hv (by omega) (by omega)) hc2 (by rw [List.length_drop]; omega) hp (by omega)
      clear hc1 hc2 g1
      refine ⟨R, _, hR, hl, hF, fun k hk2 => ?_⟩
      obtain ⟨k, rfl⟩ : ∃ m, k = m + 1 := ⟨k - 1, by omega⟩
      obtain ⟨e1, e2⟩ := hk k (by omega)
      have q0 : 0 ≤ (q : Int) := Int.natCast_nonneg q
      have q1 : (q : Int) < (vs.length : Int) := Int.ofNat_lt.mpr hql
      have d0 : 0 < ((vs.drop q).length : Int) := by rw [List.length_drop]; omega
      have d1 : 1 ≤ ((vs.drop q).length : Int) := d0
      have wq : wrap64 ((q : Int) + 1) = ((q + 1 : Nat) : Int) := by rw [w64 (by omega) (by omega)]; omega
      simp only [spec_l11Run.l0, impl_Circuit_run.l0]
      rw [if_pos ci, if_pos c0', hrd, if_pos o1, if_pos q0, if_pos q1, if_pos lim.out, wq, wi, e1, if_pos ci, if_pos c0', if_pos ci, if_pos o1, if_pos d0, if_pos d1, if_pos lim.out, List.drop_drop, rd_drop, e2, fits]
      have hfb : fitB R gs[i] = true := by unfold fitB; rw [if_neg (by omega), if_neg (by omega)]
      rw [hfb, Bool.true_and]
      exact ⟨rfl, rfl⟩
    by_cases o2 : gs[i].f0 = 2
    · have hc1 := K1.out
      rw [if_neg o1, Int.zero_add] at hc1
      have hc2 := K2.out
      rw [if_pos o2, List.length_drop] at hc2
      have g2 := b2.out.1
      have hpl : p < us.length := by omega
      obtain ⟨R, S, hR, hl, hF, hk⟩ := step (rd us (p : Int)) (p + 1) q (inF_rd hu (by omega) (by omega)) (by rw [List.length_drop]; omega) hc1 (by omega) hq
      clear hc1 hc2 g2
      refine ⟨R, _, hR, hl, hF, fun k hk2 => ?_⟩
      obtain ⟨k, rfl⟩ : ∃ m, k = m + 1 := ⟨k - 1, by omega⟩
      obtain ⟨e1, e2⟩ := hk k (by omega)
      have q0 : 0 ≤ (p : Int) := Int.natCast_nonneg p
      have q1 : (p : Int) < (us.length : Int) := Int.ofNat_lt.mpr hpl
      have d0 : 0 < ((us.drop p).length : Int) := by rw [List.length_drop]; omega
      have d1 : 1 ≤ ((us.drop p).length : Int) := d0
      have wp : wrap64 ((p : Int) + 1) = ((p + 1 : Nat) : Int) := by rw [w64 (by omega) (by omega)]; omega
      simp only [spec_l11Run.l0, impl_Circuit_run.l0]
      rw [if_pos ci, if_pos c0', hrd, if_neg o1, if_pos o2, if_pos q0, if_pos q1, if_pos lim.out, wp, wi, e1, if_pos ci, if_pos c0', if_pos ci, if_neg o1, if_pos o2, if_pos d0, if_pos d1, if_pos lim.out, List.drop_drop, rd_drop, e2, fits]
      have hfb : fitB R gs[i] = true := by unfold fitB; rw [if_neg (by omega), if_neg (by omega)]
      rw [hfb, Bool.true_and]
      exact ⟨rfl, rfl⟩
    have cn2 : Aside0 (cnt 2 (gs.drop (i + 1)) = ((us.drop p).length : Int)) := ⟨by have h := K2.out; rw [if_neg o2, Int.zero_add] at h; exact h⟩
    have cn1 : Aside0 (cnt 1 (gs.drop (i + 1)) = ((vs.drop q).length : Int)) := ⟨by have h := K1.out; rw [if_neg o1, Int.zero_add] at h; exact h⟩
    by_cases o3 : gs[i].f0 = 3
    · obtain ⟨R, S, hR, hl, hF, hk⟩ := step gs[i].f3 p q (gf.con o3) cn2.out cn1.out hp hq
      refine ⟨R, _, hR, hl, hF, fun k hk2 => ?_⟩
      obtain ⟨k, rfl⟩ : ∃ m, k = m + 1 := ⟨k - 1, by omega⟩
      obtain ⟨e1, _⟩ := hk k (by omega)
      simp only [spec_l11Run.l0, impl_Circuit_run.l0]
      rw [if_pos ci, if_pos c0', hrd, if_neg o1, if_neg o2, if_pos o3, if_pos lim.out, wi, e1, if_pos ci, if_pos c0', if_pos ci, if_neg o1, if_neg o2, if_neg (show ¬ gs[i].f0 = 4 by rw [o3]; decide), if_neg (show ¬ gs[i].f0 = 5 by rw [o3]; decide), if_neg (show ¬ gs[i].f0 = 6 by rw [o3]; decide), if_neg (show ¬ gs[i].f0 = 7 by rw [o3]; decide)]
      have e8 : (gs[i].f0 == 8) = false := by rw [o3]; decide
      obtain ⟨k, rfl⟩ : ∃ m, k = m + 1 := ⟨k - 1, by omega⟩
      obtain ⟨_, e2⟩ := hk k (by omega)
      rw [e8]
      simp only [impl_Circuit_run.j1, Bool.false_eq_true, if_false]
      rw [if_pos lim.out, wi, e2, fits]
      have hfb : fitB R gs[i] = true := by unfold fitB; rw [if_neg (by omega), if_neg (by omega)]
      rw [hfb, Bool.true_and]
      exact ⟨trivial, rfl⟩
    by_cases o46 : 4 ≤ gs[i].f0 ∧ gs[i].f0 ≤ 6
    · obtain ⟨⟨a0, a1⟩, ⟨c0, c1⟩⟩ := gf.mid ⟨o46.1, by omega⟩
      have a2 : gs[i].f1 < (o.length : Int) := by rw [ho]; omega
      have c2 : gs[i].f2 < (o.length : Int) := by rw [ho]; omega
      have ga := inF_rd hok (i := gs[i].f1) a0 (by omega)
      have gc := inF_rd hok (i := gs[i].f2) c0 (by omega)
      have hfb : ∀ R, fitB R gs[i] = true := by intro R; unfold fitB; rw [if_neg (by omega), if_neg (by omega)]
      rcases (show gs[i].f0 = 4 ∨ gs[i].f0 = 5 ∨ gs[i].f0 = 6 by omega) with o4 | o5 | o6
      · obtain ⟨R, S, hR, hl, hF, hk⟩ := step (fadd (rd o gs[i].f1) (rd o gs[i].f2)) p q (inF_add _ _) cn2.out cn1.out hp hq
        refine ⟨R, _, hR, hl, hF, fun k hk2 => ?_⟩
        obtain ⟨k, rfl⟩ : ∃ m, k = m + 1 := ⟨k - 1, by omega⟩
        obtain ⟨e1, e2⟩ := hk k (by omega)
        simp only [spec_l11Run.l0, impl_Circuit_run.l0]
        rw [if_pos ci, if_pos c0', hrd, if_neg o1, if_neg o2, if_neg o3, if_pos o4, if_pos a0, if_pos a2, if_pos c0, if_pos c2, spec_l01Add_eq ga gc]
        simp only [bS]
        rw [if_pos lim.out, wi, e1, if_pos ci, if_pos c0', if_pos ci, if_neg o1, if_neg o2, if_pos o4, if_pos a0, if_pos a2, if_pos c0, if_pos c2, impl_add_eq ga gc]
        simp only [bS]
        rw [if_pos lim.out, e2, fits, hfb, Bool.true_and]
        exact ⟨trivial, rfl⟩
      · obtain ⟨R, S, hR, hl, hF, hk⟩ := step (fsub (rd o gs[i].f1) (rd o gs[i].f2)) p q (inF_sub _ _) cn2.out cn1.out hp hq
        refine ⟨R, _, hR, hl, hF, fun k hk2 => ?_⟩
        obtain ⟨k, rfl⟩ : ∃ m, k = m + 1 := ⟨k - 1, by omega⟩
        obtain ⟨e1, e2⟩ := hk k (by omega)
        have o4 : ¬ gs[i].f0 = 4 := by omega
        simp only [spec_l11Run.l0, impl_Circuit_run.l0]
        rw [if_pos ci, if_pos c0', hrd, if_neg o1, if_neg o2, if_neg o3, if_neg o4, if_pos o5, if_pos a0, if_pos a2, if_pos c0, if_pos c2, spec_l01Sub_eq ga gc]
        simp only [bS]
        rw [if_pos lim.out, wi, e1, if_pos ci, if_pos c0', if_pos ci, if_neg o1, if_neg o2, if_neg o4, if_pos o5, if_pos a0, if_pos a2, if_pos c0, if_pos c2, impl_sub_eq ga gc]
        simp only [bS]
        rw [if_pos lim.out, e2, fits, hfb, Bool.true_and]
        exact ⟨trivial, rfl⟩
      · obtain ⟨R, S, hR, hl, hF, hk⟩ := step (fmul (rd o gs[i].f1) (rd o gs[i].f2)) p q (inF_mul _ _) cn2.out cn1.out hp hq
        refine ⟨R, _, hR, hl, hF, fun k hk2 => ?_⟩
        obtain ⟨k, rfl⟩ : ∃ m, k = m + 1 := ⟨k - 1, by omega⟩
        obtain ⟨e1, e2⟩ := hk k (by omega)
        have o4 : ¬ gs[i].f0 = 4 := by omega
        have o5 : ¬ gs[i].f0 = 5 := by omega
        simp only [spec_l11Run.l0, impl_Circuit_run.l0]
        rw [if_pos ci, if_pos c0', hrd, if_neg o1, if_neg o2, if_neg o3, if_neg o4, if_neg o5, if_pos o6, if_pos a0, if_pos a2, if_pos c0, if_pos c2, spec_l01Mul_eq ga gc]
        simp only [bS]
        rw [if_pos lim.out, wi, e1, if_pos ci, if_pos c0', if_pos ci, if_neg o1, if_neg o2, if_neg o4, if_neg o5, if_pos o6, if_pos a0, if_pos a2, if_pos c0, if_pos c2, impl_mul_eq ga gc]
        simp only [bS]
        rw [if_pos lim.out, e2, fits, hfb, Bool.true_and]
        exact ⟨trivial, rfl⟩
    have o4 : ¬ gs[i].f0 = 4 := by omega
    have o5 : ¬ gs[i].f0 = 5 := by omega
    have o6 : ¬ gs[i].f0 = 6 := by omega
    have a01 : 0 ≤ gs[i].f1 ∧ gs[i].f1 ≤ (i : Int) - 1 := by
      rcases (show gs[i].f0 = 7 ∨ gs[i].f0 = 8 by omega) with h | h
      · exact (gf.mid ⟨by omega, by omega⟩).1
      · exact gf.bit h
    obtain ⟨a0, a1⟩ := a01
    have a2 : gs[i].f1 < (o.length : Int) := by rw [ho]; omega
    obtain ⟨R, S, hR, hl, hF, hk⟩ := step (rd o gs[i].f1) p q (inF_rd hok (i := gs[i].f1) a0 (by omega)) cn2.out cn1.out hp hq
    have r1 : rd R gs[i].f1 = rd o gs[i].f1 := by rw [hR]; exact rd_app a0 (by omega)
    refine ⟨R, _, hR, hl, hF, fun k hk2 => ?_⟩
    obtain ⟨k, rfl⟩ : ∃ m, k = m + 1 := ⟨k - 1, by omega⟩
    obtain ⟨e1, _⟩ := hk k (by omega)
    simp only [spec_l11Run.l0, impl_Circuit_run.l0]
    rw [if_pos ci, if_pos c0', hrd, if_neg o1, if_neg o2, if_neg o3, if_neg o4, if_neg o5, if_neg o6, if_pos a0, if_pos a2, if_pos lim.out, wi, e1, if_pos ci, if_pos c0', if_pos ci, if_neg o1, if_neg o2, if_neg o4, if_neg o5, if_neg o6]
    refine ⟨rfl, ?_⟩
    obtain ⟨k, rfl⟩ : ∃ m, k = m + 1 := ⟨k - 1, by omega⟩
    obtain ⟨_, e2⟩ := hk k (by omega)
    by_cases o7 : gs[i].f0 = 7
    · obtain ⟨_, ⟨c0, c1⟩⟩ := gf.mid ⟨by omega, by omega⟩
      have c2 : gs[i].f2 < (o.length : Int) := by rw [ho]; omega
      have r2 : rd R gs[i].f2 = rd o gs[i].f2 := by rw [hR]; exact rd_app c0 (by omega)
      have e7 : (gs[i].f0 == 7) = true := by rw [beq_iff_eq]; exact o7
      have o8 : ¬ gs[i].f0 = 8 := by omega
      rw [if_pos o7, e7]
      simp only [impl_Circuit_run.j1, if_true]
      rw [if_pos a0, if_pos a2, if_pos o7, if_pos c0, if_pos c2, fits]
      by_cases hq2 : rd o gs[i].f1 = rd o gs[i].f2
      · have hfb : fitB R gs[i] = true := by unfold fitB; rw [if_pos o7, r1, r2, decide_eq_true hq2]
        rw [if_pos hq2, if_neg o8, if_pos lim.out, wi, e2, hfb, Bool.true_and]
      · have hfb : fitB R gs[i] = false := by unfold fitB; rw [if_pos o7, r1, r2, decide_eq_false hq2]
        rw [if_neg hq2, hfb, Bool.false_and]; rfl
    · have o8 : gs[i].f0 = 8 := by omega
      have e8 : (gs[i].f0 == 8) = true := by rw [beq_iff_eq]; exact o8
      rw [if_neg o7, e8]
      simp only [impl_Circuit_run.j1, if_true]
      rw [if_pos a0, if_pos a2, if_neg o7, if_pos o8, fits]
      by_cases hq2 : rd o gs[i].f1 > 1
      · have hfb : fitB R gs[i] = false := by unfold fitB; rw [if_neg o7, if_pos o8, r1, decide_eq_false (fun h => h hq2)]
        rw [if_pos hq2, hfb, Bool.false_and]; rfl
      · have hfb : fitB R gs[i] = true := by unfold fitB; rw [if_neg o7, if_pos o8, r1, decide_eq_true hq2]
        rw [if_neg hq2, if_pos lim.out, wi, e2, hfb, Bool.true_and]
theorem fits_l0 (gs : List S115) (hgl : gs.length ≤ 15) (R : List Int) (hR : R.length = gs.length) (d : Nat) : ∀ (k i : Nat), i + d = gs.length → d < k → gatesB (i : Int) (gs.drop i) = true →
    spec_l11Fits.l0 k R i gs = some (fitsL R (gs.drop i)) := by
  induction d with
  | zero =>
    intro k i hi hk hg
    obtain ⟨k, rfl⟩ : ∃ m, k = m + 1 := ⟨k - 1, by omega⟩
    simp only [spec_l11Fits.l0]
    rw [if_neg (by omega), List.drop_eq_nil_of_le (by omega)]; rfl
  | succ d ih =>
    intro k i hi hk hg
    obtain ⟨k, rfl⟩ : ∃ m, k = m + 1 := ⟨k - 1, by omega⟩
    have hlt : i < gs.length := by omega
    rw [List.drop_eq_getElem_cons hlt] at hg
    rw [gatesB, Bool.and_eq_true] at hg
    obtain ⟨hg1, hg2⟩ := hg
    rw [show (i : Int) + 1 = ((i + 1 : Nat) : Int) by omega] at hg2
    have gf := gate_facts hg1
    have f1 := gf.op
    have hrd : rd_T115 gs (i : Int) = gs[i] := rdGateS hlt
    have wi : wrap64 ((i : Int) + 1) = ((i + 1 : Nat) : Int) := by rw [w64 (by omega) (by omega)]; omega
    have e := ih k (i + 1) (by omega) (by omega) hg2
    rw [List.drop_eq_getElem_cons hlt, fitsL]
    simp only [spec_l11Fits.l0]
    rw [if_pos (by omega), if_pos (by omega), hrd, wi]
    by_cases o7 : gs[i].f0 = 7
    · obtain ⟨⟨a0, a1⟩, ⟨c0, c1⟩⟩ := gf.mid ⟨by omega, by omega⟩
      rw [if_pos o7, if_pos a0, if_pos (by omega), if_pos c0, if_pos (by omega)]
      by_cases hq : rd R gs[i].f1 = rd R gs[i].f2
      · have hfb : fitB R gs[i] = true := by unfold fitB; rw [if_pos o7, decide_eq_true hq]
        rw [if_pos hq, if_neg (by omega), e, hfb, Bool.true_and]
      · have hfb : fitB R gs[i] = false := by unfold fitB; rw [if_pos o7, decide_eq_false hq]
        rw [if_neg hq, hfb, Bool.false_and]
    · rw [if_neg o7]
      by_cases o8 : gs[i].f0 = 8
      · obtain ⟨a0, a1⟩ := gf.bit o8
        rw [if_pos o8, if_pos a0, if_pos (by omega)]
        by_cases hq : rd R gs[i].f1 > 1
        · have hfb : fitB R gs[i] = false := by unfold fitB; rw [if_neg o7, if_pos o8, decide_eq_false (fun h => h hq)]
          rw [if_pos hq, hfb, Bool.false_and]
        · have hfb : fitB R gs[i] = true := by unfold fitB; rw [if_neg o7, if_pos o8, decide_eq_true hq]
          rw [if_neg hq, e, hfb, Bool.true_and]
      · have hfb : fitB R gs[i] = true := by unfold fitB; rw [if_neg o7, if_neg o8]
        rw [if_neg o8, e, hfb, Bool.true_and]
/-- The code of a circuit and what is handed in. -/
def runC (gs : List S115) (us vs : List Int) : Int :=
  if (us.length : Int) > 4096 then 2 else if (vs.length : Int) > 4096 then 2 else if circB gs = true then (if (fieldsB us && fieldsB vs) = true then (if (us.length : Int) = cnt 2 gs then (if (vs.length : Int) = cnt 1 gs then 0 else 8) else 8) else 1) else 19
theorem runC_eq {gs : List S115} {us vs : List Int} (hg : gs.length ≤ 1048576) (hu : us.length ≤ 1048576) (hv : vs.length ≤ 1048576) {k : Nat} (hk : 3000000 < k) :
    impl_runCode.f k gs us vs = some (runC gs us vs) ∧ spec_l11Ask.f k gs us vs = some (runC gs us vs) := by
  obtain ⟨k, rfl⟩ : ∃ m, k = m + 1 + 1 := ⟨k - 2, by omega⟩
  unfold impl_runCode.f spec_l11Ask.f runC
  by_cases h1 : (us.length : Int) > 4096
  · rw [if_pos h1, if_pos h1, if_pos h1]
    simp only [impl_runCode.j0, spec_l11Ask.j0, if_true]
    exact ⟨trivial, trivial⟩
  rw [if_neg h1, if_neg h1, if_neg h1]
  by_cases h2 : (vs.length : Int) > 4096
  · rw [decide_eq_true h2, if_pos h2]
    simp only [impl_runCode.j0, spec_l11Ask.j0, if_true]
    exact ⟨trivial, trivial⟩
  rw [decide_eq_false h2, if_neg h2]
  simp only [impl_runCode.j0, spec_l11Ask.j0, Bool.false_eq_true, if_false]
  rw [impl_CircuitOK_eq hg (by omega), spec_CircuitOK_eq hg (by omega)]
  simp only [bS]
  by_cases h3 : circB gs = true
  · rw [if_pos h3, if_pos h3, if_pos h3, are_fields_eq, l10Fields_eq hu (by omega)]
    simp only [bS]
    have fin : ∀ b : Bool, impl_runCode.j1 (k + 1) us vs b gs = some (if b = true then 1 else (if (us.length : Int) = cnt 2 gs then (if (vs.length : Int) = cnt 1 gs then 0 else 8) else 8)) ∧ spec_l11Ask.j1 (k + 1) us vs b gs = some (if b = true then 1 else (if (us.length : Int) = cnt 2 gs then (if (vs.length : Int) = cnt 1 gs then 0 else 8) else 8)) := by
      intro b
      cases b
      · simp only [impl_runCode.j1, spec_l11Ask.j1, Bool.false_eq_true, if_false]
        rw [countOf_eq hg 2 (by omega), l11Count_eq hg 2 (by omega)]
        simp only [bS]
        by_cases c2 : (us.length : Int) = cnt 2 gs
        · rw [if_pos c2, if_pos c2, if_pos c2, countOf_eq hg 1 (by omega), l11Count_eq hg 1 (by omega)]
          simp only [bS]
          by_cases c1 : (vs.length : Int) = cnt 1 gs
          · rw [if_pos c1, if_pos c1]; exact ⟨rfl, rfl⟩
          · rw [if_neg c1, if_neg c1]; exact ⟨rfl, rfl⟩
        · rw [if_neg c2, if_neg c2, if_neg c2]; exact ⟨rfl, rfl⟩
      · simp only [impl_runCode.j1, spec_l11Ask.j1, if_true]
        exact ⟨trivial, trivial⟩
    cases hfu : fieldsB us
    · simp only [Bool.false_eq_true, if_false, Bool.false_and]
      exact fin true
    · simp only [if_true, Bool.true_and]
      rw [are_fields_eq, l10Fields_eq hv (by omega)]
      simp only [bS]
      have := fin (!fieldsB vs)
      cases hfv : fieldsB vs
      · rw [hfv] at this; exact this
      · rw [hfv] at this; exact this
  · rw [if_neg h3, if_neg h3, if_neg h3]; exact ⟨rfl, rfl⟩
theorem runC_zero {gs : List S115} {us vs : List Int} (h : runC gs us vs = 0) : us.length ≤ 4096 ∧ vs.length ≤ 4096 ∧ circB gs = true ∧ fieldsB us = true ∧ fieldsB vs = true ∧ (us.length : Int) = cnt 2 gs ∧ (vs.length : Int) = cnt 1 gs := by
  unfold runC at h
  by_cases h1 : (us.length : Int) > 4096
  · rw [if_pos h1] at h; omega
  rw [if_neg h1] at h
  by_cases h2 : (vs.length : Int) > 4096
  · rw [if_pos h2] at h; omega
  rw [if_neg h2] at h
  by_cases h3 : circB gs = true
  · rw [if_pos h3] at h
    by_cases h4 : (fieldsB us && fieldsB vs) = true
    · rw [if_pos h4] at h
      rw [Bool.and_eq_true] at h4
      by_cases h5 : (us.length : Int) = cnt 2 gs
      · rw [if_pos h5] at h
        by_cases h6 : (vs.length : Int) = cnt 1 gs
        · exact ⟨by omega, by omega, h3, h4.1, h4.2, h5, h6⟩
        · rw [if_neg h6] at h; omega
      · rw [if_neg h5] at h; omega
    · rw [if_neg h4] at h; omega
  · rw [if_neg h3] at h; omega
/-- A run, both ways. -/
theorem run_same {gs : List S115} {us vs : List Int} (h : runC gs us vs = 0) :
    ∃ R : List Int, R.length = gs.length ∧ R.length ≤ 15 ∧ ∀ k, 100 < k → spec_l11Run.f k gs us vs = some R ∧ spec_l11Fits.f k gs R = some (fitsL R gs) ∧ impl_Circuit_run.f k gs us vs = some (if fitsL R gs = true then (R, true) else ([], false)) := by
  obtain ⟨h1, h2, h3, h4, h5, h6, h7⟩ := runC_zero h
  unfold circB at h3
  rw [Bool.and_eq_true, Bool.and_eq_true, decide_eq_true_eq] at h3
  obtain ⟨hl, hg, _⟩ := h3
  obtain ⟨R, S, hR, hRl, hF, hk⟩ := run_l0 gs (by omega) us vs (fieldsB_iff h4) (fieldsB_iff h5) h1 h2 gs.length 0 0 0 [] (by omega) rfl (by intro y hy; cases hy) (by rw [List.drop_zero]; exact hg) (by rw [List.drop_zero, List.drop_zero]; omega) (by rw [List.drop_zero, List.drop_zero]; omega) (by omega) (by omega)
  refine ⟨R, hRl, by omega, fun k hk2 => ?_⟩
  obtain ⟨e1, e2⟩ := hk k (by omega)
  have e3 := fits_l0 gs (by omega) R hRl gs.length k 0 (by omega) (by omega) (by rw [List.drop_zero]; exact hg)
  rw [Int.natCast_zero] at e1 e2 e3
  rw [List.drop_zero, List.drop_zero, List.drop_zero] at e2
  rw [List.drop_zero] at e3
  unfold spec_l11Run.f spec_l11Fits.f impl_Circuit_run.f
  exact ⟨e1, e3, e2⟩
theorem RunCircuit_same (gs : List S115) (us vs : List Int) (hg : gs.length ≤ 1048576) (hu : us.length ≤ 1048576) (hv : vs.length ≤ 1048576) :
    ∃ r : List Int × Int, r.1.length ≤ 4096 ∧ ∀ k, 3000010 < k → impl_RunCircuit.f k gs us vs = some r ∧ spec_RunCircuit.f k gs us vs = some r := by
  have big : ∀ k, 3000000 < k → ((us.length : Int) > 4096 ∨ (vs.length : Int) > 4096) → runC gs us vs = 2 ∧ spec_RunCircuit.f (k + 1) gs us vs = some ([], 2) := by
    intro k hk hb
    unfold spec_RunCircuit.f runC
    by_cases h1 : (us.length : Int) > 4096
    · rw [if_pos h1, if_pos h1]
      simp only [spec_RunCircuit.j0, if_true]
      exact ⟨trivial, trivial⟩
    · have h2 : (vs.length : Int) > 4096 := by rcases hb with h | h <;> omega
      rw [if_neg h1, if_neg h1, if_pos h2, decide_eq_true h2]
      simp only [spec_RunCircuit.j0, if_true]
      exact ⟨trivial, trivial⟩
  by_cases hb : (us.length : Int) > 4096 ∨ (vs.length : Int) > 4096
  · refine ⟨([], 2), by simp, fun k hk => ?_⟩
    obtain ⟨k, rfl⟩ : ∃ m, k = m + 1 := ⟨k - 1, by omega⟩
    obtain ⟨g1, g2⟩ := big k (by omega) hb
    unfold impl_RunCircuit.f
    rw [(runC_eq hg hu hv (k := k + 1) (by omega)).1, g1, g2]
    exact ⟨rfl, rfl⟩
  have h1 : ¬ (us.length : Int) > 4096 := fun h => hb (Or.inl h)
  have h2 : ¬ (vs.length : Int) > 4096 := fun h => hb (Or.inr h)
  have start : ∀ k, 3000005 < k → spec_RunCircuit.f (k + 1) gs us vs = (if runC gs us vs = 0 then ((spec_l11Run.f k gs us vs).bind fun t => ((spec_l11Fits.f k gs t).bind fun b => (if b = true then some (t, (0 : Int)) else some ([], 15)))) else some ([], runC gs us vs)) := by
    intro k hk
    unfold spec_RunCircuit.f
    rw [if_neg h1, decide_eq_false h2]
    simp only [spec_RunCircuit.j0, Bool.false_eq_true, if_false]
    rw [(runC_eq hg hu hv (k := k) (by omega)).2]
    simp only [bS]
  by_cases h0 : runC gs us vs = 0
  · obtain ⟨R, hRl, hR15, hk⟩ := run_same h0
    by_cases hf : fitsL R gs = true
    · refine ⟨(R, 0), by show R.length ≤ 4096; omega, fun k hk2 => ?_⟩
      obtain ⟨k, rfl⟩ : ∃ m, k = m + 1 := ⟨k - 1, by omega⟩
      obtain ⟨e1, e2, _⟩ := hk k (by omega)
      obtain ⟨_, _, e3⟩ := hk (k + 1) (by omega)
      unfold impl_RunCircuit.f
      rw [start k (by omega), (runC_eq hg hu hv (k := k + 1) (by omega)).1, h0, if_pos rfl, e1]
      simp only [bS]
      rw [e2, e3]
      simp only [bS]
      rw [if_pos hf, if_pos hf]
      exact ⟨rfl, rfl⟩
    · refine ⟨([], 15), by simp, fun k hk2 => ?_⟩
      obtain ⟨k, rfl⟩ : ∃ m, k = m + 1 := ⟨k - 1, by omega⟩
      obtain ⟨e1, e2, _⟩ := hk k (by omega)
      obtain ⟨_, _, e3⟩ := hk (k + 1) (by omega)
      unfold impl_RunCircuit.f
      rw [start k (by omega), (runC_eq hg hu hv (k := k + 1) (by omega)).1, h0, if_pos rfl, e1]
      simp only [bS]
      rw [e2, e3]
      simp only [bS]
      rw [if_neg hf, if_neg hf]
      exact ⟨rfl, rfl⟩
  · refine ⟨([], runC gs us vs), by simp, fun k hk2 => ?_⟩
    obtain ⟨k, rfl⟩ : ∃ m, k = m + 1 := ⟨k - 1, by omega⟩
    unfold impl_RunCircuit.f
    rw [start k (by omega), (runC_eq hg hu hv (k := k + 1) (by omega)).1, if_neg h0]
    simp only [bS]
    rw [if_neg h0]
    exact ⟨rfl, trivial⟩
/-! marks -/
theorem markG_l0 (d : Nat) : ∀ (k i : Nat) (a : List S115) (c : Int), i + d = a.length → d < k → a.length ≤ 1048576 → 0 ≤ c → c + 4 * (d : Int) ≤ 100000000 → ∃ v l, laws_markGateS.l0 k a c i = some (v, l) ∧ 0 ≤ v ∧ v ≤ c + 4 * (d : Int) := by
  induction d with
  | zero =>
    intro k i a c hi hk ha h0 h1
    obtain ⟨k, rfl⟩ : ∃ m, k = m + 1 := ⟨k - 1, by omega⟩
    simp only [laws_markGateS.l0]
    rw [if_neg (by omega)]
    exact ⟨_, _, rfl, h0, by omega⟩
  | succ d ih =>
    intro k i a c hi hk ha h0 h1
    obtain ⟨k, rfl⟩ : ∃ m, k = m + 1 := ⟨k - 1, by omega⟩
    simp only [laws_markGateS.l0]
    rw [if_pos (by omega), if_pos (by omega)]
    simp only [bS]
    rw [w64 (n := c + 1) (by omega) (by omega), w64 (n := c + 1 + 1) (by omega) (by omega), w64 (n := c + 1 + 1 + 1) (by omega) (by omega), w64 (n := c + 1 + 1 + 1 + 1) (by omega) (by omega), w64 (n := (i : Int) + 1) (by omega) (by omega), show (i : Int) + 1 = ((i + 1 : Nat) : Int) by omega]
    have key : ∀ L : List S115, L.length = a.length → ∃ v l, laws_markGateS.l0 k L (c + 1 + 1 + 1 + 1) ((i + 1 : Nat) : Int) = some (v, l) ∧ 0 ≤ v ∧ v ≤ c + 4 * ((d + 1 : Nat) : Int) := by
      intro L hL
      obtain ⟨v, l, e, g0, g1⟩ := ih k (i + 1) L (c + 1 + 1 + 1 + 1) (by omega) (by omega) (by omega) (by omega) (by omega)
      exact ⟨v, l, e, g0, by omega⟩
    exact key _ (by simp only [List.length_set])
theorem markCircuit_ok {x : List S115} (h : x.length ≤ 1048576) {k : Nat} (hk : 1048576 < k) : ∃ v r, laws_markCircuit.f k x 1 = some (v, r) ∧ 0 ≤ v ∧ v ≤ 5000000 := by
  obtain ⟨v1, m1, e1, g1, u1⟩ := markG_l0 x.length k 0 x 1 (by omega) (by omega) (by omega) (by omega) (by omega)
  rw [Int.natCast_zero] at e1
  unfold laws_markCircuit.f laws_markGateS.f
  rw [e1]
  simp only [bS]
  exact ⟨v1, _, rfl, g1, by omega⟩
end Go.Proofs.Ytekijbcblajjbaa.PT
end
section
/- A circuit's run, alike on both sides, held apart; the arguments stay as they were. -/
namespace Go.Proofs.Ytekijbcblajjbaa.fnExactRunCircuit
open Go.Proofs.Ytekijbcblajjbaa.PT Go.RowKit Go.Proofs.YtekijbcblajjbaaO
set_option linter.unusedSimpArgs false
theorem pureFnExactRunCircuit : Pure := by
  intro x u v hx hu hv
  have hx0 : x.f0.length ≤ 9223372036854775807 := hx.1
  by_cases h0 : (u.length : Int) > 1048576
  · refine ⟨1, ?_⟩
    unfold laws_FnExactRunCircuit.f
    rw [if_pos h0]
  by_cases h1 : (v.length : Int) > 1048576
  · refine ⟨1, ?_⟩
    unfold laws_FnExactRunCircuit.f
    rw [if_neg h0, if_pos h1]
  by_cases h : (x.f0.length : Int) ≤ 1048576
  · have h3 := convGateS_length x.f0
    refine ⟨4000000 + 1 + 1 + 1, ?_⟩
    generalize hK : 4000000 = K
    obtain ⟨r, hr, hsame⟩ := RunCircuit_same (convGateS x.f0) u v (by omega) (by omega) (by omega)
    obtain ⟨e1, e2⟩ := hsame (K + 1 + 1 + 1) (by omega)
    obtain ⟨e3, _⟩ := hsame (K + 1) (by omega)
    obtain ⟨vm, rm, em, hv0, hv1⟩ := markCircuit_ok (x := convGateS x.f0) (by omega) (k := K + 1 + 1) (by omega)
    unfold laws_FnExactRunCircuit.f
    rw [if_neg h0, if_neg h1, szCircuit_fit (by omega) h]
    simp only [bS]
    rw [if_neg (by omega), toCircuit_eq (by omega) (by omega)]
    simp only [bS]
    rw [toIntS_eq (l := u) (by omega) (by omega), toIntS_eq (l := v) (by omega) (by omega)]
    simp only [bS]
    rw [e2, e1]
    simp only [bS]
    rw [eqIntS_refl (a := r.1) (by omega) (by omega)]
    simp only [bS, if_true, bne_self_eq_false, laws_FnExactRunCircuit.j0, Bool.false_eq_true, if_false]
    rw [toCircuit_eq (by omega) (by omega)]
    simp only [bS]
    rw [eqCircuit_refl (by omega) (by omega)]
    simp only [bS, if_true]
    rw [toIntS_eq (l := u) (by omega) (by omega)]
    simp only [bS]
    rw [eqIntS_refl (a := u) (by omega) (by omega)]
    simp only [bS, if_true]
    rw [toIntS_eq (l := v) (by omega) (by omega)]
    simp only [bS]
    rw [eqIntS_refl (a := v) (by omega) (by omega)]
    simp only [bS, if_true]
    rw [em]
    simp only [bS]
    rw [markIntS_eq (a := u) hv0 (by omega) (by omega) (by omega)]
    simp only [bS]
    rw [markIntS_eq (a := v) (by omega) (by omega) (by omega) (by omega)]
    simp only [bS]
    rw [if_neg (by omega), eqIntS_refl (a := r.1) (by omega) (by omega)]
    simp only [bS, if_true, bne_self_eq_false, laws_FnExactRunCircuit.j1, Bool.false_eq_true, if_false]
    rw [markIntS_eq (a := r.1) (by omega) (by omega) (by omega) (by omega)]
    simp only [bS]
    rw [heldIntS_eq (n := r.1.length) (by omega) (by omega) (by omega) (by omega)]
    simp only [bS]
    rw [if_neg (by omega), if_true, toCircuit_eq (by omega) (by omega)]
    simp only [bS]
    rw [toIntS_eq (l := u) (by omega) (by omega), toIntS_eq (l := v) (by omega) (by omega)]
    simp only [bS]
    rw [e3]
    simp only [bS]
    rw [eqIntS_refl (a := r.1) (by omega) (by omega)]
    simp only [bS, if_true, bne_self_eq_false, laws_FnExactRunCircuit.j2, Bool.false_eq_true, if_false]
    rw [heldIntS_eq (n := r.1.length) (by omega) (by omega) (by omega) (by omega)]
    simp only [bS]
    rw [if_neg (by omega), if_true]
  · refine ⟨1, ?_⟩
    unfold laws_FnExactRunCircuit.f
    rw [if_neg h0, if_neg h1, szCircuit_big (by omega) (by omega) hx0 (by omega)]
    simp
end Go.Proofs.Ytekijbcblajjbaa.fnExactRunCircuit
end
