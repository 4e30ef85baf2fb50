/- Part 3 of the proof of FnExactCircuitOK: what functions compute, shown step by step, and what that says (the claim's last text states the law). -/
import Derived.Test.YtegdgjnpfifofaaProg
import Derived.Test.YtegdgjnpfifofaaWMore
import Derived.Test.YtegdgjnpfifofaaWWords
import Derived.Test.YtegdgjnpfifofaaWLast
import Derived.Test.YtegdgjnpfifofaaWTab
import Derived.Test.YtegdgjnpfifofaaWFour
import Derived.Test.YtegdgjnpfifofaaWQPut
import Derived.Test.YtegdgjnpfifofaaWApart
import Derived.Test.YtegdgjnpfifofaaWArr
import Derived.Test.YtegdgjnpfifofaaWZeros
import Derived.Test.YtegdgjnpfifofaaWFoot
import Derived.Test.YtegdgjnpfifofaaWKept
import Derived.Test.YtegdgjnpfifofaaWShare
import Derived.Test.YtegdgjnpfifofaaWN
import Derived.Test.YtegdgjnpfifofaaWFootNe
import Derived.Test.YtegdgjnpfifofaaWAt
import Derived.Test.YtegdgjnpfifofaaWEqStruct
import Derived.Test.YtegdgjnpfifofaaWRepsOne
import Derived.Test.YtegdgjnpfifofaaWInv
import Derived.Test.YtegdgjnpfifofaaWInvWords
import Derived.Test.YtegdgjnpfifofaaWGuard
import Derived.Test.YtegdgjnpfifofaaWNEv
import Derived.Test.YtegdgjnpfifofaaRows
import Derived.JoinedOf
import Derived.WalkKit
import Derived.ProofKit
import Derived.Below
import Derived.Deep.Draws
import Derived.Deep.AppendLies
import Derived.Maps.AppendAt
import Derived.OwnWalk
import Derived.Laws.BytesArg
import Derived.Laws.MakeOwn
import Derived.Laws.OwnMore
import Derived.Deep.OwnRows
import Derived.Tactics
import Derived.Lib.ConvBytes
import Derived.Laws.Slices
import Derived.KernelRfl
import Derived.RowKit3
import Derived.Deep.LoopGhost
import Derived.Deep.QuietTactic
import Derived.BigQuiet
import Derived.WideLaws
import Derived.Deep.DeepCutAuto
import Derived.Deep.CutBlock
import Derived.Deep.RegionHeld3
import Derived.Laws.Rows
import Derived.Lib.AppendStr
import Derived.ArgAppend
import Derived.Laws.IdiomCopy
import Derived.OrdersHeld
import Derived.Laws.BitsLemmas
import Derived.RowKit
import Derived.OpenShut
import Derived.ShutString
import Derived.ChangeOld
import Derived.SizedLaws
import Derived.Deep.Slices
import Derived.ChangeArms
import Derived.Test.YtegdgjnpfifofaaZFnExactCircuitOK2
section
/- Arguments that are read as data have the kinds' own form: for each kind, compositionally. Own text, for every seat (Ytegdgjnpfifofaa: the seat's name). -/
namespace Go.Proofs.YtegdgjnpfifofaaO
open Go.RowKit Go.ChangeShapes Go.WideShapes Go.ChangeAt Go.Proofs.YtegdgjnpfifofaaW.PrintWords

/-- What is read as data of type T is of the kind d, and good. -/
def Opens {α : Type} {H : Type} (enc : TypeId × Value → H) (P : Program) (w : World) (T : TypeId) (d : Kd α) (good : α → Prop) : Prop :=
  ∀ (fuel : Nat) (cs : List Value) (x : DataW H × List MemPlace), DataW.trod enc P w 0 (fun _ => true) true fuel T cs = some x → ∃ a, d.K w a cs ∧ good a

/-- What is read as a run of fields of these types (each with its cells) is of the kind d, and good. -/
def OpensSeq {α : Type} {H : Type} (enc : TypeId × Value → H) (P : Program) (w : World) (fs : List (TypeId × Nat)) (d : Kd α) (good : α → Prop) : Prop :=
  ∀ (fuel : Nat) (cs : List Value), cs.length = (fs.map (·.2)).sum → (∀ (j : Nat) (T n : Nat), fs[j]? = some (T, n) → ∃ x, DataW.trod enc P w 0 (fun _ => true) true fuel T ((cs.drop ((fs.take j).map (·.2)).sum).take n) = some x) → ∃ a, d.K w a cs ∧ good a

section
variable {H : Type} {enc : TypeId × Value → H} {P : Program} {w : World}

def IntGood (k : IntKind) (a : Int) : Prop := (Lit.int k a).wf = true
def StrGood (a : ByteArray) : Prop := a.size ≤ 9223372036854775807
def ListGood {α : Type} (g : α → Prop) (l : List α) : Prop := l.length ≤ 9223372036854775807 ∧ ∀ x ∈ l, g x

theorem opens_int {T : TypeId} {k : IntKind} (ht : P.underlying T = some (.int k)) : Opens enc P w T (Kd.int k) (IntGood k) := by
  intro fuel cs x h
  obtain ⟨n, rfl, _, hw⟩ := DataW.trod_int ht h
  exact ⟨n, rfl, hw⟩
theorem opens_bool {T : TypeId} (ht : P.underlying T = some .bool) : Opens enc P w T Kd.bool (fun _ => True) := by
  intro fuel cs x h
  obtain ⟨n, rfl, _⟩ := DataW.trod_bool ht h
  exact ⟨n, rfl, trivial⟩
theorem opens_string {T : TypeId} (ht : P.underlying T = some .string) : Opens enc P w T Kd.string StrGood := by
  intro fuel cs x h
  obtain ⟨s, rfl, _, hs⟩ := DataW.trod_string ht h
  exact ⟨s, rfl, by unfold StrGood; unfold maxLen at hs; omega⟩

theorem choose_list {α : Type} {n : Nat} {p : Nat → α → Prop} (h : ∀ i, i < n → ∃ a, p i a) : ∃ l : List α, l.length = n ∧ ∀ i a, l[i]? = some a → p i a := by
  induction n with
  | zero => exact ⟨[], rfl, fun i a hi => by simp at hi⟩
  | succ n ih =>
    obtain ⟨l, hl, hp⟩ := ih (fun i hi => h i (by omega))
    obtain ⟨a, ha⟩ := h n (by omega)
    refine ⟨l ++ [a], by simp [hl], fun i b hi => ?_⟩
    rcases Nat.lt_or_ge i l.length with hlt | hge
    · rw [List.getElem?_append_left hlt] at hi
      exact hp i b hi
    · rw [List.getElem?_append_right hge] at hi
      have : i - l.length = 0 := by
        rcases Nat.eq_zero_or_pos (i - l.length) with h0 | h0
        · exact h0
        · rw [List.getElem?_eq_none (by simp; omega)] at hi; simp at hi
      rw [this] at hi
      simp at hi
      subst hi
      have : i = n := by omega
      rw [this]
      exact ha

theorem opens_slice {α : Type} {d : Kd α} {good : α → Prop} {T e : TypeId} (ht : P.underlying T = some (.slice e)) (hc : P.cellsOf e = d.sz) (ho : Opens enc P w e d good) : Opens enc P w T (Kd.slice e d) (ListGood good) := by
  intro fuel cs x h
  rcases Deep.open_slice ht h with ⟨rfl, _⟩ | ⟨a, len, cap, m, n, D, Pl, rfl, _, hl, hm, hmm, _, hx⟩
  · exact ⟨[], ⟨none, 0, rfl, Nat.le_refl _, ⟨rfl, by simp, fun h0 => by simp at h0⟩⟩, ⟨by simp, fun x hx => by simp at hx⟩⟩
  · have hle : len ≤ m := by rw [hmm]; split <;> omega
    have hex : ∀ i, i < len → ∃ b : α, (∃ c, c.length = d.sz ∧ d.K w b c ∧ ∀ j u, c[j]? = some u → w.cell? (a.add (i * d.sz + j)) = some u) ∧ good b := by
      intro i hi
      obtain ⟨cs', h1, h2⟩ := hx i (by omega)
      obtain ⟨b, hK, hg⟩ := ho _ _ _ h2
      obtain ⟨_, hlen, hcell⟩ := World.cells?_some h1
      refine ⟨b, ⟨cs', by rw [hlen, hc], hK, fun j u hu => ?_⟩, hg⟩
      have hj : j < P.cellsOf e := by
        rw [← hlen]
        exact (List.getElem?_eq_some_iff.1 hu).1
      rw [← Deep.add_add, ← hc, hcell j hj, hu]
    obtain ⟨l, hll, hp⟩ := choose_list hex
    unfold maxLen at hm
    refine ⟨l, ⟨some a, cap, by rw [hll], by omega, ⟨rfl, by omega, fun _ => ⟨a, rfl, fun j p hj => (hp j p hj).1⟩⟩⟩, ⟨by omega, fun x hx => ?_⟩⟩
    obtain ⟨i, hi, rfl⟩ := List.getElem_of_mem hx
    exact (hp i _ (List.getElem?_eq_getElem hi)).2

theorem opensSeq_one {α : Type} {d : Kd α} {good : α → Prop} {T n : Nat} (ho : Opens enc P w T d good) : OpensSeq enc P w [(T, n)] d good := by
  intro fuel cs hlen h
  obtain ⟨x, hx⟩ := h 0 T n rfl
  simp at hlen
  simp [List.take_of_length_le (Nat.le_of_eq hlen)] at hx
  exact ho _ _ _ hx
theorem opensSeq_cons {α β : Type} {d : Kd α} {good : α → Prop} {d2 : Kd β} {good2 : β → Prop} {T n : Nat} {fs : List (TypeId × Nat)} (ho : Opens enc P w T d good) (hs : OpensSeq enc P w fs d2 good2) :
    OpensSeq enc P w ((T, n) :: fs) (Kd.pair d d2) (fun x => good x.1 ∧ good2 x.2) := by
  intro fuel cs hlen h
  obtain ⟨x, hx⟩ := h 0 T n rfl
  simp at hx
  obtain ⟨a, hK, hg⟩ := ho _ _ _ hx
  simp only [List.map_cons, List.sum_cons] at hlen
  obtain ⟨b, hK2, hg2⟩ := hs fuel (cs.drop n) (by rw [List.length_drop, hlen]; omega) (fun j T' n' hj => by
    obtain ⟨y, hy⟩ := h (j + 1) T' n' (by simpa using hj)
    refine ⟨y, ?_⟩
    simp only [List.take_succ_cons, List.map_cons, List.sum_cons] at hy
    rw [List.drop_drop]
    exact hy)
  exact ⟨(a, b), ⟨cs.take n, cs.drop n, (List.take_append_drop n cs).symm, hK, hK2⟩, hg, hg2⟩

/-- A struct whose fields stand one behind the other. -/
theorem opens_struct {α β : Type} {d : Kd α} {good : α → Prop} {T : TypeId} {fs : Array Field} {l : List (TypeId × Nat)} (f : β → α) (g : α → β) (hfg : ∀ a, f (g a) = a) (ht : P.underlying T = some (.struct fs))
    (hl : l.length = fs.size) (hf : ∀ (j : Nat) (T' n : Nat), l[j]? = some (T', n) → ∃ fd, fs[j]? = some fd ∧ fd.type = T' ∧ P.cellsOf T' = n ∧ fd.offset = ((l.take j).map (·.2)).sum) (hc : P.cellsOf T = (l.map (·.2)).sum)
    (hs : OpensSeq enc P w l d good) : Opens enc P w T (Kd.iso d f) (fun x => good (f x)) := by
  intro fuel cs x h
  obtain ⟨xs, n, _, _, hlen, hxl, hx⟩ := DataW.trod_struct ht h
  obtain ⟨a, hK, hg⟩ := hs n cs (by rw [hlen, hc]) (fun j T' n' hj => by
    obtain ⟨fd, h1, h2, h3, h4⟩ := hf j T' n' hj
    have h5 := hx j fd h1
    have hj2 : j < xs.length := by
      have := (List.getElem?_eq_some_iff.1 hj).1
      omega
    rw [List.getElem?_eq_getElem hj2, h2, h3, h4] at h5
    exact ⟨_, h5⟩)
  refine ⟨g a, ?_, ?_⟩
  · show d.K w (f (g a)) cs
    rw [hfg]; exact hK
  · show good (f (g a))
    rw [hfg]; exact hg
end
end Go.Proofs.YtegdgjnpfifofaaO
end
section
namespace Go.Proofs.Ytegdgjnpfifofaa.fnExactCircuitOK
open Go.RowKit Go.ChangeShapes Go.WideShapes Go.ChangeAt Go.Proofs.YtegdgjnpfifofaaO Go.Proofs.Ytegdgjnpfifofaa.PT Go.Proofs.YtegdgjnpfifofaaW.PrintWords Go.Proofs.YtegdgjnpfifofaaW.PrintLast
set_option linter.unusedVariables false
theorem opensT3 {H : Type} {enc : TypeId × Value → H} {w : World} : Opens enc Try.prog w 3 (Kd.int .i64) (IntGood .i64) := opens_int Try.underlying3
def goodT138 : S138 → Prop := (fun x : S138 => (IntGood .i64) x.f0 ∧ (IntGood .i64) x.f1 ∧ (IntGood .i64) x.f2 ∧ (IntGood .i64) x.f3)
theorem opensT138 {H : Type} {enc : TypeId × Value → H} {w : World} : Opens enc Try.prog w 138 k138 goodT138 :=
  opens_struct (l := [(3, 1), (3, 1), (3, 1), (3, 1)]) (fun x : S138 => (x.f0, x.f1, x.f2, x.f3)) (fun a => ⟨a.1, a.2.1, a.2.2.1, a.2.2.2⟩) (fun _ => rfl) Try.underlying138 rfl (fun j T n h => match j, T, n, h with
    | 0, _, _, h => by cases h; exact ⟨_, rfl, rfl, by kernel_rfl, rfl⟩
    | 1, _, _, h => by cases h; exact ⟨_, rfl, rfl, by kernel_rfl, rfl⟩
    | 2, _, _, h => by cases h; exact ⟨_, rfl, rfl, by kernel_rfl, rfl⟩
    | 3, _, _, h => by cases h; exact ⟨_, rfl, rfl, by kernel_rfl, rfl⟩
    | _ + 4, _, _, h => by simp at h) (by kernel_rfl) (opensSeq_cons opensT3 (opensSeq_cons opensT3 (opensSeq_cons opensT3 (opensSeq_one opensT3))))
theorem opensT22 {H : Type} {enc : TypeId × Value → H} {w : World} : Opens enc Try.prog w 22 (Kd.slice 138 k138) (ListGood goodT138) := opens_slice Try.underlying22 (by kernel_rfl) opensT138
def goodT24 : S24 → Prop := (fun x : S24 => (ListGood goodT138) x.f0)
theorem opensT24 {H : Type} {enc : TypeId × Value → H} {w : World} : Opens enc Try.prog w 24 k24 goodT24 :=
  opens_struct (l := [(22, 1)]) (fun x : S24 => x.f0) (fun a => ⟨a⟩) (fun _ => rfl) Try.underlying24 rfl (fun j T n h => match j, T, n, h with
    | 0, _, _, h => by cases h; exact ⟨_, rfl, rfl, by kernel_rfl, rfl⟩
    | _ + 1, _, _, h => by simp at h) (by kernel_rfl) (opensSeq_one opensT22)
/-- What is to be shown of the law, over numbers and lists alone. -/
def Pure : Prop := ∀ (x0 : S24), goodT24 x0 → ∃ k, laws_FnExactCircuitOK.f k x0.f0 = some true
end Go.Proofs.Ytegdgjnpfifofaa.fnExactCircuitOK
end
section
/- The field and the greater field, over whole numbers: what the printed functions of chapters 2 and 3 come to. -/
namespace Go.Proofs.Ytegdgjnpfifofaa.PT
open Go.RowKit Go.Proofs.YtegdgjnpfifofaaW.PrintWords Go.Proofs.YtegdgjnpfifofaaW.PrintLast Go.Proofs.YtegdgjnpfifofaaW.PrintMore
set_option linter.unusedVariables false
set_option linter.unusedSimpArgs false

abbrev E := S61
instance : DecidableEq S61 := fun x y => decidable_of_iff (x.f0 = y.f0 ∧ x.f1 = y.f1) ⟨fun h => by cases x; cases y; simp_all, fun h => by rw [h]; exact ⟨rfl, rfl⟩⟩
theorem w64 {n : Int} (h0 : -9223372036854775808 ≤ n) (h1 : n ≤ 9223372036854775807) : wrap64 n = n := by unfold wrap64; omega
def inF (a : Int) : Prop := 0 ≤ a ∧ a ≤ 2130706432
instance (a : Int) : Decidable (inF a) := by unfold inF; infer_instance
end Go.Proofs.Ytegdgjnpfifofaa.PT
end
section
/- What the printed functions of the field and of the greater field answer: the same sums and products on both sides. -/
namespace Go.Proofs.Ytegdgjnpfifofaa.PT
open Go.RowKit Go.Proofs.YtegdgjnpfifofaaW.PrintWords Go.Proofs.YtegdgjnpfifofaaW.PrintLast Go.Proofs.YtegdgjnpfifofaaW.PrintMore
set_option linter.unusedVariables false
set_option linter.unusedSimpArgs false

theorem impl_in_eq (a b c : Int) : impl_in.f a b c = some (decide (b ≤ a ∧ a ≤ c)) := by
  unfold impl_in.f; by_cases h : b ≤ a <;> simp [h]
theorem spec_l01In_eq (a b c : Int) : spec_l01In.f a b c = some (decide (b ≤ a ∧ a ≤ c)) := by
  unfold spec_l01In.f; by_cases h : b ≤ a <;> simp [h]
theorem impl_FieldOK_eq (a : Int) : impl_FieldOK.f a = some (decide (inF a)) := by
  unfold impl_FieldOK.f; rw [impl_in_eq]; rfl
theorem spec_FieldOK_eq (a : Int) : spec_FieldOK.f a = some (decide (inF a)) := by
  unfold spec_FieldOK.f; rw [spec_l01In_eq]; rfl
/-! lists -/
end Go.Proofs.Ytegdgjnpfifofaa.PT
end
section
/- The laws' own helpers: elements copied, compared, marked; and powers of two. -/
namespace Go.Proofs.Ytegdgjnpfifofaa.PT
open Go.RowKit Go.Proofs.YtegdgjnpfifofaaW.PrintWords Go.Proofs.YtegdgjnpfifofaaW.PrintLast Go.Proofs.YtegdgjnpfifofaaW.PrintMore
set_option linter.unusedVariables false
set_option linter.unusedSimpArgs false

theorem getD_at {α : Type} {l : List α} {z : α} {i : Nat} (h : i < l.length) : l.getD i z = l[i] := by
  rw [List.getD_eq_getElem?_getD, List.getElem?_eq_getElem h]; rfl
theorem set_mid {α : Type} (a b : List α) (x y : α) : (a ++ x :: b).set a.length y = a ++ y :: b := by
  rw [List.set_append_right _ _ (Nat.le_refl _)]; simp
/-! marks: a list's cells are numbered from k on -/
def marked : Nat → Int → List E
  | 0, _ => []
  | n + 1, k => ⟨k, k + 1⟩ :: marked n (k + 2)
/-! powers of two -/
end Go.Proofs.Ytegdgjnpfifofaa.PT
end
section
/- Steps that several laws share: same answers compared, lists turned in place. -/
namespace Go.Proofs.Ytegdgjnpfifofaa.PT
open Go.RowKit Go.Proofs.YtegdgjnpfifofaaW.PrintWords Go.Proofs.YtegdgjnpfifofaaW.PrintLast Go.Proofs.YtegdgjnpfifofaaW.PrintMore
set_option linter.unusedVariables false
set_option linter.unusedSimpArgs false
/-- A step with its answer known, as a rewriting (no unfolding in the kernel). -/
theorem bS {α β : Type} (a : α) (f : α → Option β) : (some a).bind f = f a := Eq.trans (Eq.refl _) (Option.bind_some a f)
end Go.Proofs.Ytegdgjnpfifofaa.PT
end
section
/- Gates and circuits: the laws' helpers, and what both sides answer. -/
namespace Go.Proofs.Ytegdgjnpfifofaa.PT
open Go.RowKit Go.Proofs.YtegdgjnpfifofaaW.PrintWords Go.Proofs.YtegdgjnpfifofaaW.PrintLast Go.Proofs.YtegdgjnpfifofaaW.PrintMore
set_option linter.unusedVariables false
set_option linter.unusedSimpArgs false
theorem rdGateS_src {l : List S138} {i : Nat} (h : i < l.length) : rd_T138 l (i : Int) = l[i] := by
  show l.getD (i : Int).toNat z138 = l[i]
  rw [Int.toNat_natCast, getD_at h]
theorem rdGateS {l : List S94} {i : Nat} (h : i < l.length) : rd_T94 l (i : Int) = l[i] := by
  show l.getD (i : Int).toNat z94 = l[i]
  rw [Int.toNat_natCast, getD_at h]
def convGateS (l : List S138) : List S94 := l.map fun x => ⟨x.f0, x.f1, x.f2, x.f3⟩
theorem convGateS_length (l : List S138) : (convGateS l).length = l.length := by simp [convGateS]
theorem szGateS_big {l : List S138} {a : Int} (ha : 0 ≤ a) (ha2 : a ≤ 1048576) (hl : l.length ≤ 9223372036854775807) (h : a < l.length) : laws_szGateS.f l a = some (-1) := by
  unfold laws_szGateS.f; rw [w64 (by omega) (by omega), if_pos (by omega)]
theorem szGateS_fit {l : List S138} {a : Int} (ha2 : a ≤ 1048576) (h : (l.length : Int) ≤ a) : laws_szGateS.f l a = some (a - l.length) := by
  unfold laws_szGateS.f; rw [w64 (by omega) (by omega), if_neg (by omega)]
theorem toGateS_l0 (l : List S138) (hl : l.length ≤ 1048576) (d : Nat) : ∀ (k i : Nat), i + d = l.length → d < k →
    laws_toGateS.l0 k l (convGateS (l.take i) ++ List.replicate d z94) i = some (convGateS l) := by
  induction d with
  | zero =>
    intro k i hi hk
    obtain ⟨k, rfl⟩ : ∃ m, k = m + 1 := ⟨k - 1, by omega⟩
    simp only [laws_toGateS.l0]; rw [if_neg (by omega), List.take_of_length_le (by omega)]; simp
  | succ d ih =>
    intro k i hi hk
    obtain ⟨k, rfl⟩ : ∃ m, k = m + 1 := ⟨k - 1, by omega⟩
    have hlt : i < l.length := by omega
    have hlen : (convGateS (l.take i)).length = i := by rw [convGateS_length, List.length_take]; omega
    simp only [laws_toGateS.l0, laws_toGate.f]
    rw [if_pos (by omega), if_pos (by omega), rdGateS_src hlt]
    simp only [bS]
    rw [if_pos (by rw [List.length_append, hlen, List.length_replicate]; omega), Int.toNat_natCast, List.replicate_succ]
    have hs := fun y => set_mid (convGateS (l.take i)) (List.replicate d z94) z94 y
    rw [hlen] at hs
    rw [hs, w64 (by omega) (by omega), show (i : Int) + 1 = ((i + 1 : Nat) : Int) by omega]
    have := ih k (i + 1) (by omega) (by omega)
    rw [List.take_succ_eq_append_getElem hlt] at this
    simp only [convGateS, List.map_append, List.map_cons, List.map_nil, List.append_assoc, List.cons_append, List.nil_append] at this
    exact this
theorem toGateS_eq {l : List S138} (hl : l.length ≤ 1048576) {k : Nat} (hk : l.length < k) : laws_toGateS.f k l = some (convGateS l) := by
  unfold laws_toGateS.f
  rw [if_pos (by omega), if_pos (by omega)]
  have := toGateS_l0 l (by omega) l.length k 0 (by omega) hk
  rw [Int.natCast_zero, List.take_zero] at this
  rw [Int.toNat_natCast]
  exact this
theorem eqGate_refl (x : S94) : laws_eqGate.f x.f0 x.f1 x.f2 x.f3 x.f0 x.f1 x.f2 x.f3 = some true := by
  unfold laws_eqGate.f; rw [if_pos rfl, if_pos rfl, if_pos rfl, if_pos rfl]
theorem eqGateS_l0 (a : List S94) (hl : a.length ≤ 1048576) (d : Nat) : ∀ (k i : Nat), i + d = a.length → d < k → laws_eqGateS.l0 k a a i = some true := by
  induction d with
  | zero =>
    intro k i hi hk
    obtain ⟨k, rfl⟩ : ∃ m, k = m + 1 := ⟨k - 1, by omega⟩
    simp only [laws_eqGateS.l0]; rw [if_neg (by omega)]
  | succ d ih =>
    intro k i hi hk
    obtain ⟨k, rfl⟩ : ∃ m, k = m + 1 := ⟨k - 1, by omega⟩
    simp only [laws_eqGateS.l0]
    rw [if_pos (show (i : Int) < (a.length : Int) by omega), if_pos (show 0 ≤ (i : Int) by omega), if_pos (show (i : Int) < (a.length : Int) by omega), eqGate_refl]
    simp only [bS, if_true]
    rw [w64 (by omega) (by omega), show (i : Int) + 1 = ((i + 1 : Nat) : Int) by omega]
    exact ih k (i + 1) (by omega) (by omega)
theorem eqGateS_refl {a : List S94} (hl : a.length ≤ 1048576) {k : Nat} (hk : a.length < k) : laws_eqGateS.f k a a = some true := by
  unfold laws_eqGateS.f; rw [if_pos rfl]; exact eqGateS_l0 a hl a.length k 0 (by omega) hk
theorem szCircuit_big {l : List S138} {a : Int} (ha : 0 ≤ a) (ha2 : a ≤ 1048576) (hl : l.length ≤ 9223372036854775807) (h : a < l.length) : laws_szCircuit.f l a = some (-1) := by
  unfold laws_szCircuit.f; rw [szGateS_big ha ha2 hl h]; simp only [bS]; rw [if_pos (by omega)]
theorem szCircuit_fit {l : List S138} {a : Int} (ha2 : a ≤ 1048576) (h : (l.length : Int) ≤ a) : laws_szCircuit.f l a = some (a - l.length) := by
  unfold laws_szCircuit.f; rw [szGateS_fit ha2 h]; simp only [bS]; rw [if_neg (by omega)]
theorem toCircuit_eq {l : List S138} (hl : l.length ≤ 1048576) {k : Nat} (hk : l.length < k) : laws_toCircuit.f k l = some (convGateS l) := by
  unfold laws_toCircuit.f; rw [toGateS_eq hl hk]; simp only [bS]
theorem eqCircuit_refl {a : List S94} (hl : a.length ≤ 1048576) {k : Nat} (hk : a.length < k) : laws_eqCircuit.f k a a = some true := by
  unfold laws_eqCircuit.f; rw [eqGateS_refl hl hk]; simp only [bS, if_true]
def gateB (x : S94) (i : Int) : Bool :=
  decide (1 ≤ x.f0 ∧ x.f0 ≤ 8) &&
  (if 4 ≤ x.f0 ∧ x.f0 ≤ 7 then decide (0 ≤ x.f1 ∧ x.f1 ≤ i - 1) && decide (0 ≤ x.f2 ∧ x.f2 ≤ i - 1) && (x.f3 == 0)
   else if x.f0 = 8 then decide (0 ≤ x.f1 ∧ x.f1 ≤ i - 1) && (x.f2 == 0) && (x.f3 == 0)
   else if x.f0 = 3 then (x.f1 == 0) && (x.f2 == 0) && decide (inF x.f3)
   else (x.f1 == 0) && (x.f2 == 0) && (x.f3 == 0))
theorem l11Gate_eq (x : S94) {i : Int} (h0 : 0 ≤ i) (h1 : i ≤ 1048576) {k : Nat} (hk : 0 < k) : spec_l11Gate.f k x.f0 x.f1 x.f2 x.f3 i = some (gateB x i) := by
  obtain ⟨k, rfl⟩ : ∃ m, k = m + 1 := ⟨k - 1, by omega⟩
  obtain ⟨a, b, c, d⟩ := x
  have j1 : ∀ e, spec_l11Gate.j0 (k + 1) e a b c d = some (if e = true then false else if a = 3 then decide (inF d) else (d == 0)) := by
    intro e
    simp only [spec_l11Gate.j0]
    cases e
    · simp only [Bool.false_eq_true, if_false]
      by_cases h3 : a = 3
      · rw [if_pos h3, if_pos h3, spec_FieldOK_eq]; rfl
      · rw [if_neg h3, if_neg h3]
    · rfl
  unfold spec_l11Gate.f gateB spec_l11Uses.f
  simp only [spec_l01In_eq, bS, j1]
  rw [w64 (n := i - 1) (by omega) (by omega)]
  by_cases hk : 1 ≤ a ∧ a ≤ 8
  · rw [decide_eq_true hk]
    simp only [if_true, Bool.true_and]
    by_cases h4 : 4 ≤ a ∧ a ≤ 7
    · have n3 : ¬ a = 3 := by omega
      rw [decide_eq_true h4, if_pos h4]
      simp only [if_true, bS, n3, if_false]
      by_cases hb : 0 ≤ b ∧ b ≤ i - 1
      · by_cases hc : 0 ≤ c ∧ c ≤ i - 1
        · simp [hb, hc]
        · simp [hb, hc]
      · simp [hb]
    · rw [decide_eq_false h4, if_neg h4]
      by_cases h8 : a = 8
      · have n3 : ¬ a = 3 := by omega
        simp only [h8, if_true, bS, Bool.false_eq_true, if_false]
        by_cases hb : 0 ≤ b ∧ b ≤ i - 1
        · by_cases hc : c = 0
          · simp [hb, hc]
          · simp [hb, hc]
        · simp [hb]
      · simp only [h8, if_false, bS, Bool.false_eq_true]
        by_cases hb : b = 0
        · by_cases hc : c = 0
          · by_cases h3 : a = 3
            · simp [hb, hc, h3]
            · simp [hb, hc, h3]
          · by_cases h3 : a = 3
            · simp [hb, hc, h3]
            · simp [hb, hc, h3]
        · by_cases h3 : a = 3
          · simp [hb, h3]
          · simp [hb, h3]
  · rw [decide_eq_false hk]; rfl
theorem isGate_eq (x : S94) {i : Int} (h0 : 0 ≤ i) (h1 : i ≤ 1048576) {k : Nat} (hk : 0 < k) : impl_isGate.f k x.f0 x.f1 x.f2 x.f3 i = some (gateB x i) := by
  obtain ⟨k, rfl⟩ : ∃ m, k = m + 1 := ⟨k - 1, by omega⟩
  obtain ⟨a, b, c, d⟩ := x
  unfold impl_isGate.f gateB
  simp only [impl_isGate.j0, impl_in_eq, impl_FieldOK_eq, bS]
  rw [w64 (n := i - 1) (by omega) (by omega)]
  by_cases h3 : a = 3
  · subst h3
    by_cases hb : b = 0 <;> by_cases hc : c = 0 <;> simp [hb, hc]
  · by_cases h4 : a = 4
    · subst h4
      by_cases hb : 0 ≤ b ∧ b ≤ i - 1 <;> by_cases hc : 0 ≤ c ∧ c ≤ i - 1 <;> simp [hb, hc]
    · by_cases h5 : a = 5
      · subst h5
        by_cases hb : 0 ≤ b ∧ b ≤ i - 1 <;> by_cases hc : 0 ≤ c ∧ c ≤ i - 1 <;> simp [hb, hc]
      · by_cases h6 : a = 6
        · subst h6
          by_cases hb : 0 ≤ b ∧ b ≤ i - 1 <;> by_cases hc : 0 ≤ c ∧ c ≤ i - 1 <;> simp [hb, hc]
        · by_cases h7 : a = 7
          · subst h7
            by_cases hb : 0 ≤ b ∧ b ≤ i - 1 <;> by_cases hc : 0 ≤ c ∧ c ≤ i - 1 <;> simp [hb, hc]
          · have n4 : ¬ (4 ≤ a ∧ a ≤ 7) := by omega
            by_cases h8 : a = 8
            · subst h8
              by_cases hb : 0 ≤ b ∧ b ≤ i - 1 <;> by_cases hc : c = 0 <;> simp [hb, hc]
            · by_cases hk : 1 ≤ a ∧ a ≤ 8
              · by_cases hb : b = 0 <;> by_cases hc : c = 0 <;> simp [h3, h4, h5, h6, h7, h8, n4, hk, hb, hc]
              · simp [h3, h4, h5, h6, h7, h8, n4, hk]
def cnt (a : Int) : List S94 → Int
  | [] => 0
  | x :: xs => (if x.f0 = a then 1 else 0) + cnt a xs
theorem count_l0 (l : List S94) (hl : l.length ≤ 1048576) (a : Int) (d : Nat) : ∀ (k i : Nat) (c : Int), i + d = l.length → d < k → 0 ≤ c → c ≤ i →
    spec_l11Count.l0 k a c i l = some (c + cnt a (l.drop i)) ∧ impl_Circuit_countOf.l0 k a c l (l.length : Int) i = some (c + cnt a (l.drop i)) := by
  induction d with
  | zero =>
    intro k i c hi hk h0 h1
    obtain ⟨k, rfl⟩ : ∃ m, k = m + 1 := ⟨k - 1, by omega⟩
    simp only [spec_l11Count.l0, impl_Circuit_countOf.l0]
    rw [if_neg (by omega), if_neg (by omega), List.drop_eq_nil_of_le (by omega)]
    simp [cnt]
  | succ d ih =>
    intro k i c hi hk h0 h1
    obtain ⟨k, rfl⟩ : ∃ m, k = m + 1 := ⟨k - 1, by omega⟩
    have hlt : i < l.length := by omega
    simp only [spec_l11Count.l0, impl_Circuit_countOf.l0, spec_l01Bit.f]
    rw [if_pos (show (i : Int) < (l.length : Int) by omega), if_pos (show 0 ≤ (i : Int) by omega), rdGateS hlt, if_pos (show (i : Int) < (l.length : Int) by omega), if_pos (show 0 ≤ (i : Int) by omega), if_pos (show (i : Int) < (l.length : Int) by omega), List.drop_eq_getElem_cons hlt,
      w64 (n := (i : Int) + 1) (by omega) (by omega), show (i : Int) + 1 = ((i + 1 : Nat) : Int) by omega]
    simp only [cnt]
    by_cases h : (l[i]).f0 = a
    · rw [if_pos (beq_iff_eq.2 h), if_pos h, if_pos h]
      simp only [bS]
      rw [w64 (by omega) (by omega)]
      have e := ih k (i + 1) (c + 1) (by omega) (by omega) (by omega) (by omega)
      rw [Int.add_assoc] at e
      exact e
    · rw [if_neg (fun e => h (beq_iff_eq.1 e)), if_neg h, if_neg h]
      simp only [bS]
      rw [w64 (by omega) (by omega), Int.add_zero, Int.zero_add]
      exact ih k (i + 1) c (by omega) (by omega) (by omega) (by omega)
theorem l11Count_eq {l : List S94} (hl : l.length ≤ 1048576) (a : Int) {k : Nat} (hk : l.length < k) : spec_l11Count.f k l a = some (cnt a l) := by
  have := (count_l0 l hl a l.length k 0 0 (by omega) hk (by omega) (by omega)).1
  rw [Int.natCast_zero, List.drop_zero, Int.zero_add] at this
  unfold spec_l11Count.f; exact this
theorem countOf_eq {l : List S94} (hl : l.length ≤ 1048576) (a : Int) {k : Nat} (hk : l.length < k) : impl_Circuit_countOf.f k l a = some (cnt a l) := by
  have := (count_l0 l hl a l.length k 0 0 (by omega) hk (by omega) (by omega)).2
  rw [Int.natCast_zero, List.drop_zero, Int.zero_add] at this
  unfold impl_Circuit_countOf.f; exact this
def gatesB : Int → List S94 → Bool
  | _, [] => true
  | i, x :: xs => gateB x i && gatesB (i + 1) xs
def circB (l : List S94) : Bool := decide (1 ≤ (l.length : Int) ∧ (l.length : Int) ≤ 15) && (gatesB 0 l && decide (cnt 2 l ≤ 7))
theorem circuit_l0 (l : List S94) (hl : l.length ≤ 1048576) (d : Nat) : ∀ (k i : Nat), i + d = l.length → d + l.length + 1 < k →
    spec_CircuitOK.l0 k i l = some (gatesB i (l.drop i) && decide (cnt 2 l ≤ 7)) ∧ impl_CircuitOK.l0 k l (l.length : Int) i l = some (gatesB i (l.drop i) && decide (cnt 2 l ≤ 7)) := by
  induction d with
  | zero =>
    intro k i hi hk
    obtain ⟨k, rfl⟩ : ∃ m, k = m + 1 := ⟨k - 1, by omega⟩
    simp only [spec_CircuitOK.l0, impl_CircuitOK.l0]
    rw [if_neg (by omega), if_neg (by omega), l11Count_eq hl 2 (by omega), countOf_eq hl 2 (by omega), List.drop_eq_nil_of_le (by omega)]
    simp only [bS, gatesB, Bool.true_and]
    exact ⟨trivial, trivial⟩
  | succ d ih =>
    intro k i hi hk
    obtain ⟨k, rfl⟩ : ∃ m, k = m + 1 := ⟨k - 1, by omega⟩
    have hlt : i < l.length := by omega
    have q1 := l11Gate_eq l[i] (i := (i : Int)) (by omega) (by omega) (k := k) (by omega)
    have q2 := isGate_eq l[i] (i := (i : Int)) (by omega) (by omega) (k := k) (by omega)
    simp only [spec_CircuitOK.l0, impl_CircuitOK.l0]
    rw [if_pos (show (i : Int) < (l.length : Int) by omega), if_pos (show 0 ≤ (i : Int) by omega), rdGateS hlt, if_pos (show (i : Int) < (l.length : Int) by omega), if_pos (show 0 ≤ (i : Int) by omega), if_pos (show (i : Int) < (l.length : Int) by omega), q1, q2, List.drop_eq_getElem_cons hlt,
      w64 (n := (i : Int) + 1) (by omega) (by omega), show (i : Int) + 1 = ((i + 1 : Nat) : Int) by omega]
    simp only [bS, gatesB]
    by_cases h : gateB l[i] (i : Int) = true
    · rw [if_pos h, if_pos h, h, Bool.true_and, show (i : Int) + 1 = ((i + 1 : Nat) : Int) by omega]
      exact ih k (i + 1) (by omega) (by omega)
    · rw [if_neg h, if_neg h, Bool.eq_false_iff.mpr h]
      exact ⟨rfl, rfl⟩
theorem spec_CircuitOK_eq {l : List S94} (hl : l.length ≤ 1048576) {k : Nat} (hk : 2 * l.length + 5 < k) : spec_CircuitOK.f k l = some (circB l) := by
  unfold spec_CircuitOK.f circB
  rw [spec_l01In_eq]
  simp only [bS]
  by_cases h : 1 ≤ (l.length : Int) ∧ (l.length : Int) ≤ 15
  · have e := (circuit_l0 l hl l.length k 0 (by omega) (by omega)).1
    rw [Int.natCast_zero, List.drop_zero] at e
    rw [decide_eq_true h, if_pos rfl, e, Bool.true_and]
  · rw [decide_eq_false h]; rfl
theorem impl_CircuitOK_eq {l : List S94} (hl : l.length ≤ 1048576) {k : Nat} (hk : 2 * l.length + 5 < k) : impl_CircuitOK.f k l = some (circB l) := by
  unfold impl_CircuitOK.f circB
  rw [impl_in_eq]
  simp only [bS]
  by_cases h : 1 ≤ (l.length : Int) ∧ (l.length : Int) ≤ 15
  · have e := (circuit_l0 l hl l.length k 0 (by omega) (by omega)).2
    rw [Int.natCast_zero, List.drop_zero] at e
    rw [decide_eq_true h, if_pos rfl, e, Bool.true_and]
  · rw [decide_eq_false h]; rfl
end Go.Proofs.Ytegdgjnpfifofaa.PT
end
section
/- A circuit is right alike on both sides, and stays as it was. -/
namespace Go.Proofs.Ytegdgjnpfifofaa.fnExactCircuitOK
open Go.Proofs.Ytegdgjnpfifofaa.PT Go.RowKit Go.Proofs.YtegdgjnpfifofaaO
set_option linter.unusedSimpArgs false
theorem pureFnExactCircuitOK : Pure := by
  intro x hx
  have hx1 : x.f0.length ≤ 9223372036854775807 := hx.1
  by_cases h : (x.f0.length : Int) ≤ 1048576
  · have hl := convGateS_length x.f0
    refine ⟨2 * x.f0.length + 10, ?_⟩
    unfold laws_FnExactCircuitOK.f
    rw [szCircuit_fit (by omega) h]
    simp only [bS]
    rw [if_neg (by omega), toCircuit_eq (by omega) (by omega)]
    simp only [bS]
    rw [spec_CircuitOK_eq (by omega) (by omega), impl_CircuitOK_eq (by omega) (by omega)]
    simp only [bS, bne_self_eq_false, Bool.false_eq_true, if_false]
    rw [eqCircuit_refl (by omega) (by omega)]
    simp only [bS, if_true]
  · refine ⟨1, ?_⟩
    unfold laws_FnExactCircuitOK.f
    rw [szCircuit_big (by omega) (by omega) hx1 (by omega)]
    simp
end Go.Proofs.Ytegdgjnpfifofaa.fnExactCircuitOK
end
