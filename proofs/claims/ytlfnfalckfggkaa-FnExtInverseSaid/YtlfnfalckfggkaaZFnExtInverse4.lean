/- Part 4 of the proof of FnExtInverse: what functions compute, shown step by step, and what that says (the claim's last text states the law). -/
import Derived.Test.YtlfnfalckfggkaaProg
import Derived.Test.YtlfnfalckfggkaaWMore
import Derived.Test.YtlfnfalckfggkaaWWords
import Derived.Test.YtlfnfalckfggkaaWLast
import Derived.Test.YtlfnfalckfggkaaWTab
import Derived.Test.YtlfnfalckfggkaaWQPut
import Derived.Test.YtlfnfalckfggkaaWApart
import Derived.Test.YtlfnfalckfggkaaWArr
import Derived.Test.YtlfnfalckfggkaaWZeros
import Derived.Test.YtlfnfalckfggkaaWFoot
import Derived.Test.YtlfnfalckfggkaaWKept
import Derived.Test.YtlfnfalckfggkaaWShare
import Derived.Test.YtlfnfalckfggkaaWN
import Derived.Test.YtlfnfalckfggkaaWEqStruct
import Derived.Test.YtlfnfalckfggkaaWRepsOne
import Derived.Test.YtlfnfalckfggkaaWGuard
import Derived.Test.YtlfnfalckfggkaaWNEv
import Derived.Test.YtlfnfalckfggkaaRows
import Derived.JoinedOf
import Derived.WalkKit
import Derived.ProofKit
import Derived.Below
import Derived.Deep.Draws
import Derived.Deep.AppendLies
import Derived.Maps.AppendAt
import Derived.OwnWalk
import Derived.Laws.BytesArg
import Derived.Laws.MakeOwn
import Derived.Laws.OwnMore
import Derived.Deep.OwnRows
import Derived.Tactics
import Derived.Lib.ConvBytes
import Derived.Laws.Slices
import Derived.KernelRfl
import Derived.RowKit3
import Derived.Deep.LoopGhost
import Derived.Deep.QuietTactic
import Derived.BigQuiet
import Derived.WideLaws
import Derived.Deep.DeepCutAuto
import Derived.Deep.CutBlock
import Derived.Deep.RegionHeld3
import Derived.Laws.Rows
import Derived.Lib.AppendStr
import Derived.ArgAppend
import Derived.Laws.IdiomCopy
import Derived.OrdersHeld
import Derived.Laws.BitsLemmas
import Derived.RowKit
import Derived.StillTailTactics
import Derived.OpenShut
import Derived.ShutString
import Derived.ChangeOld
import Derived.SizedLaws
import Derived.Deep.Slices
import Derived.ChangeArms
import Derived.Test.YtlfnfalckfggkaaZFnExtInverse3
section
/- Arguments that are read as data have the kinds' own form: for each kind, compositionally. Own text, for every seat (Ytlfnfalckfggkaa: the seat's name). -/
namespace Go.Proofs.YtlfnfalckfggkaaO
open Go.RowKit Go.ChangeShapes Go.WideShapes Go.ChangeAt Go.Proofs.YtlfnfalckfggkaaW.PrintWords

/-- What is read as data of type T is of the kind d, and good. -/
def Opens {α : Type} {H : Type} (enc : TypeId × Value → H) (P : Program) (w : World) (T : TypeId) (d : Kd α) (good : α → Prop) : Prop :=
  ∀ (fuel : Nat) (cs : List Value) (x : DataW H × List MemPlace), DataW.trod enc P w 0 (fun _ => true) true fuel T cs = some x → ∃ a, d.K w a cs ∧ good a

/-- What is read as a run of fields of these types (each with its cells) is of the kind d, and good. -/
def OpensSeq {α : Type} {H : Type} (enc : TypeId × Value → H) (P : Program) (w : World) (fs : List (TypeId × Nat)) (d : Kd α) (good : α → Prop) : Prop :=
  ∀ (fuel : Nat) (cs : List Value), cs.length = (fs.map (·.2)).sum → (∀ (j : Nat) (T n : Nat), fs[j]? = some (T, n) → ∃ x, DataW.trod enc P w 0 (fun _ => true) true fuel T ((cs.drop ((fs.take j).map (·.2)).sum).take n) = some x) → ∃ a, d.K w a cs ∧ good a

section
variable {H : Type} {enc : TypeId × Value → H} {P : Program} {w : World}

def IntGood (k : IntKind) (a : Int) : Prop := (Lit.int k a).wf = true
def StrGood (a : ByteArray) : Prop := a.size ≤ 9223372036854775807
def ListGood {α : Type} (g : α → Prop) (l : List α) : Prop := l.length ≤ 9223372036854775807 ∧ ∀ x ∈ l, g x

theorem opens_int {T : TypeId} {k : IntKind} (ht : P.underlying T = some (.int k)) : Opens enc P w T (Kd.int k) (IntGood k) := by
  intro fuel cs x h
  obtain ⟨n, rfl, _, hw⟩ := DataW.trod_int ht h
  exact ⟨n, rfl, hw⟩
theorem opens_bool {T : TypeId} (ht : P.underlying T = some .bool) : Opens enc P w T Kd.bool (fun _ => True) := by
  intro fuel cs x h
  obtain ⟨n, rfl, _⟩ := DataW.trod_bool ht h
  exact ⟨n, rfl, trivial⟩
theorem opens_string {T : TypeId} (ht : P.underlying T = some .string) : Opens enc P w T Kd.string StrGood := by
  intro fuel cs x h
  obtain ⟨s, rfl, _, hs⟩ := DataW.trod_string ht h
  exact ⟨s, rfl, by unfold StrGood; unfold maxLen at hs; omega⟩

theorem choose_list {α : Type} {n : Nat} {p : Nat → α → Prop} (h : ∀ i, i < n → ∃ a, p i a) : ∃ l : List α, l.length = n ∧ ∀ i a, l[i]? = some a → p i a := by
  induction n with
  | zero => exact ⟨[], rfl, fun i a hi => by simp at hi⟩
  | succ n ih =>
    obtain ⟨l, hl, hp⟩ := ih (fun i hi => h i (by omega))
    obtain ⟨a, ha⟩ := h n (by omega)
    refine ⟨l ++ [a], by simp [hl], fun i b hi => ?_⟩
    rcases Nat.lt_or_ge i l.length with hlt | hge
    · rw [List.getElem?_append_left hlt] at hi
      exact hp i b hi
    · rw [List.getElem?_append_right hge] at hi
      have : i - l.length = 0 := by
        rcases Nat.eq_zero_or_pos (i - l.length) with h0 | h0
        · exact h0
        · rw [List.getElem?_eq_none (by simp; omega)] at hi; simp at hi
      rw [this] at hi
      simp at hi
      subst hi
      have : i = n := by omega
      rw [this]
      exact ha

theorem opens_slice {α : Type} {d : Kd α} {good : α → Prop} {T e : TypeId} (ht : P.underlying T = some (.slice e)) (hc : P.cellsOf e = d.sz) (ho : Opens enc P w e d good) : Opens enc P w T (Kd.slice e d) (ListGood good) := by
  intro fuel cs x h
  rcases Deep.open_slice ht h with ⟨rfl, _⟩ | ⟨a, len, cap, m, n, D, Pl, rfl, _, hl, hm, hmm, _, hx⟩
  · exact ⟨[], ⟨none, 0, rfl, Nat.le_refl _, ⟨rfl, by simp, fun h0 => by simp at h0⟩⟩, ⟨by simp, fun x hx => by simp at hx⟩⟩
  · have hle : len ≤ m := by rw [hmm]; split <;> omega
    have hex : ∀ i, i < len → ∃ b : α, (∃ c, c.length = d.sz ∧ d.K w b c ∧ ∀ j u, c[j]? = some u → w.cell? (a.add (i * d.sz + j)) = some u) ∧ good b := by
      intro i hi
      obtain ⟨cs', h1, h2⟩ := hx i (by omega)
      obtain ⟨b, hK, hg⟩ := ho _ _ _ h2
      obtain ⟨_, hlen, hcell⟩ := World.cells?_some h1
      refine ⟨b, ⟨cs', by rw [hlen, hc], hK, fun j u hu => ?_⟩, hg⟩
      have hj : j < P.cellsOf e := by
        rw [← hlen]
        exact (List.getElem?_eq_some_iff.1 hu).1
      rw [← Deep.add_add, ← hc, hcell j hj, hu]
    obtain ⟨l, hll, hp⟩ := choose_list hex
    unfold maxLen at hm
    refine ⟨l, ⟨some a, cap, by rw [hll], by omega, ⟨rfl, by omega, fun _ => ⟨a, rfl, fun j p hj => (hp j p hj).1⟩⟩⟩, ⟨by omega, fun x hx => ?_⟩⟩
    obtain ⟨i, hi, rfl⟩ := List.getElem_of_mem hx
    exact (hp i _ (List.getElem?_eq_getElem hi)).2

theorem opensSeq_one {α : Type} {d : Kd α} {good : α → Prop} {T n : Nat} (ho : Opens enc P w T d good) : OpensSeq enc P w [(T, n)] d good := by
  intro fuel cs hlen h
  obtain ⟨x, hx⟩ := h 0 T n rfl
  simp at hlen
  simp [List.take_of_length_le (Nat.le_of_eq hlen)] at hx
  exact ho _ _ _ hx
theorem opensSeq_cons {α β : Type} {d : Kd α} {good : α → Prop} {d2 : Kd β} {good2 : β → Prop} {T n : Nat} {fs : List (TypeId × Nat)} (ho : Opens enc P w T d good) (hs : OpensSeq enc P w fs d2 good2) :
    OpensSeq enc P w ((T, n) :: fs) (Kd.pair d d2) (fun x => good x.1 ∧ good2 x.2) := by
  intro fuel cs hlen h
  obtain ⟨x, hx⟩ := h 0 T n rfl
  simp at hx
  obtain ⟨a, hK, hg⟩ := ho _ _ _ hx
  simp only [List.map_cons, List.sum_cons] at hlen
  obtain ⟨b, hK2, hg2⟩ := hs fuel (cs.drop n) (by rw [List.length_drop, hlen]; omega) (fun j T' n' hj => by
    obtain ⟨y, hy⟩ := h (j + 1) T' n' (by simpa using hj)
    refine ⟨y, ?_⟩
    simp only [List.take_succ_cons, List.map_cons, List.sum_cons] at hy
    rw [List.drop_drop]
    exact hy)
  exact ⟨(a, b), ⟨cs.take n, cs.drop n, (List.take_append_drop n cs).symm, hK, hK2⟩, hg, hg2⟩

/-- A struct whose fields stand one behind the other. -/
theorem opens_struct {α β : Type} {d : Kd α} {good : α → Prop} {T : TypeId} {fs : Array Field} {l : List (TypeId × Nat)} (f : β → α) (g : α → β) (hfg : ∀ a, f (g a) = a) (ht : P.underlying T = some (.struct fs))
    (hl : l.length = fs.size) (hf : ∀ (j : Nat) (T' n : Nat), l[j]? = some (T', n) → ∃ fd, fs[j]? = some fd ∧ fd.type = T' ∧ P.cellsOf T' = n ∧ fd.offset = ((l.take j).map (·.2)).sum) (hc : P.cellsOf T = (l.map (·.2)).sum)
    (hs : OpensSeq enc P w l d good) : Opens enc P w T (Kd.iso d f) (fun x => good (f x)) := by
  intro fuel cs x h
  obtain ⟨xs, n, _, _, hlen, hxl, hx⟩ := DataW.trod_struct ht h
  obtain ⟨a, hK, hg⟩ := hs n cs (by rw [hlen, hc]) (fun j T' n' hj => by
    obtain ⟨fd, h1, h2, h3, h4⟩ := hf j T' n' hj
    have h5 := hx j fd h1
    have hj2 : j < xs.length := by
      have := (List.getElem?_eq_some_iff.1 hj).1
      omega
    rw [List.getElem?_eq_getElem hj2, h2, h3, h4] at h5
    exact ⟨_, h5⟩)
  refine ⟨g a, ?_, ?_⟩
  · show d.K w (f (g a)) cs
    rw [hfg]; exact hK
  · show good (f (g a))
    rw [hfg]; exact hg
end
end Go.Proofs.YtlfnfalckfggkaaO
end
section
namespace Go.Proofs.Ytlfnfalckfggkaa.fnExtInverse
open Go.RowKit Go.ChangeShapes Go.WideShapes Go.ChangeAt Go.Proofs.YtlfnfalckfggkaaO Go.Proofs.Ytlfnfalckfggkaa.PT Go.Proofs.YtlfnfalckfggkaaW.PrintWords Go.Proofs.YtlfnfalckfggkaaW.PrintLast
set_option linter.unusedVariables false
theorem opensT5 {H : Type} {enc : TypeId × Value → H} {w : World} : Opens enc Try.prog w 5 (Kd.int .u8) (IntGood .u8) := opens_int Try.underlying5
theorem opensT40 {H : Type} {enc : TypeId × Value → H} {w : World} : Opens enc Try.prog w 40 (Kd.slice 5 (Kd.int .u8)) (ListGood (IntGood .u8)) := opens_slice Try.underlying40 (by kernel_rfl) opensT5
/-- What is to be shown of the law, over numbers and lists alone. -/
def Pure : Prop := ∀ (x0 : List Int) (x1 : List Int), (ListGood (IntGood .u8)) x0 → (ListGood (IntGood .u8)) x1 → ∃ k, laws_FnExtInverse.f k x0 x1 = some true
end Go.Proofs.Ytlfnfalckfggkaa.fnExtInverse
end
section
/- The field and the greater field, over whole numbers: what the printed functions of chapters 2 and 3 come to. -/
namespace Go.Proofs.Ytlfnfalckfggkaa.PT
open Go.RowKit Go.Proofs.YtlfnfalckfggkaaW.PrintWords Go.Proofs.YtlfnfalckfggkaaW.PrintLast Go.Proofs.YtlfnfalckfggkaaW.PrintMore
set_option linter.unusedVariables false
set_option linter.unusedSimpArgs false

abbrev E := S42
abbrev LE := S51
abbrev zE : E := z42
instance : DecidableEq S42 := fun x y => decidable_of_iff (x.f0 = y.f0 ∧ x.f1 = y.f1) ⟨fun h => by cases x; cases y; simp_all, fun h => by rw [h]; exact ⟨rfl, rfl⟩⟩
theorem E.ext_ {x y : E} (h0 : x.f0 = y.f0) (h1 : x.f1 = y.f1) : x = y := by cases x; cases y; simp_all
theorem LE.ext_ {x y : LE} (h0 : x.f0 = y.f0) (h1 : x.f1 = y.f1) : x = y := by cases x; cases y; simp_all

theorem w64 {n : Int} (h0 : -9223372036854775808 ≤ n) (h1 : n ≤ 9223372036854775807) : wrap64 n = n := by unfold wrap64; omega
theorem tmod_nn {a b : Int} (h : 0 ≤ a) : Int.tmod a b = a % b := Int.tmod_eq_emod_of_nonneg h
theorem tdiv_nn {a b : Int} (h : 0 ≤ a) : Int.tdiv a b = a / b := Int.tdiv_eq_ediv_of_nonneg h

def inF (a : Int) : Prop := 0 ≤ a ∧ a ≤ 2130706432
instance (a : Int) : Decidable (inF a) := by unfold inF; infer_instance
def fadd (a b : Int) : Int := (a + b) % 2130706433
def fsub (a b : Int) : Int := (a - b) % 2130706433
def fmul (a b : Int) : Int := (a * b) % 2130706433
theorem inF_add (a b : Int) : inF (fadd a b) := by unfold inF fadd; omega
theorem inF_sub (a b : Int) : inF (fsub a b) := by unfold inF fsub; omega
theorem inF_mul (a b : Int) : inF (fmul a b) := by unfold inF fmul; omega
theorem mul_bd {a b : Int} (ha : inF a) (hb : inF b) : 0 ≤ a * b ∧ a * b ≤ 4539909903617114624 := by
  obtain ⟨h1, h2⟩ := ha
  obtain ⟨h3, h4⟩ := hb
  refine ⟨Int.mul_nonneg h1 h3, Int.le_trans (Int.mul_le_mul h2 h4 h3 (by omega)) (by decide)⟩
theorem inF_0 : inF 0 := by decide
theorem inF_1 : inF 1 := by decide
theorem inF_3 : inF 3 := by decide

structure okE (x : E) : Prop where
  a : inF x.f0
  b : inF x.f1
def emul (x y : E) : E := ⟨fadd (fmul x.f0 y.f0) (fmul 3 (fmul x.f1 y.f1)), fadd (fmul x.f0 y.f1) (fmul x.f1 y.f0)⟩
def eof (n : Int) : E := ⟨n, 0⟩
def escale (x : E) (n : Int) : E := ⟨fmul x.f0 n, fmul x.f1 n⟩
def enorm (x : E) : Int := fsub (fmul x.f0 x.f0) (fmul 3 (fmul x.f1 x.f1))
theorem ok_mul (x y : E) : okE (emul x y) := ⟨inF_add _ _, inF_add _ _⟩
theorem ok_scale (x : E) (n : Int) : okE (escale x n) := ⟨inF_mul _ _, inF_mul _ _⟩
theorem ok_of {n : Int} (h : inF n) : okE (eof n) := ⟨h, inF_0⟩
theorem fmul_comm (a b : Int) : fmul a b = fmul b a := by unfold fmul; rw [Int.mul_comm]
theorem fadd_zero {a : Int} (h : inF a) : fadd a 0 = a := by unfold fadd inF at *; omega
theorem fmul_zero (a : Int) : fmul a 0 = 0 := by simp [fmul]
theorem fmul_one {a : Int} (h : inF a) : fmul a 1 = a := by unfold fmul inF at *; omega
/-- A product with a number of the field is a scaling. -/
theorem emul_of (x : E) (n : Int) : emul x (eof n) = escale x n := by
  refine E.ext_ ?_ ?_
  · show fadd (fmul x.f0 n) (fmul 3 (fmul x.f1 0)) = fmul x.f0 n
    rw [fmul_zero, fmul_zero, fadd_zero (inF_mul _ _)]
  · show fadd (fmul x.f0 0) (fmul x.f1 n) = fmul x.f1 n
    rw [fmul_zero]; unfold fadd; have := inF_mul x.f1 n; unfold inF at this; omega
end Go.Proofs.Ytlfnfalckfggkaa.PT
end
section
namespace Go.Proofs.Ytlfnfalckfggkaa.PT
open Go.RowKit Go.Proofs.YtlfnfalckfggkaaW.PrintWords Go.Proofs.YtlfnfalckfggkaaW.PrintLast Go.Proofs.YtlfnfalckfggkaaW.PrintMore
attribute [local go_sem] max2_int min2_int max_two min_two max_three min_three max_four min_four   -- for this text's walks alone
set_option linter.unusedVariables false
set_option linter.unusedSimpArgs false

/-! ### spec_l01Mul: function 180 -/
def spec_l01Mul.f (a0 : Int) (a1 : Int) : Option (Int) := some (Int.tmod (wrap64 (a0 * a1)) 2130706433)
set_option maxHeartbeats 8000000 in
set_option maxRecDepth 100000 in
theorem spec_l01Mul.calls (a0 : Int) (a1 : Int) (r : Int) (w : World) (h : spec_l01Mul.f a0 a1 = some r) :
    Calls Try.prog 180 #[.int .i64 a0, .int .i64 a1] w fun e w' => e = .returned (.int .i64 r) ∧ Drawn0 w w' := by
  have H : (some (Int.tmod (wrap64 (a0 * a1)) 2130706433)) = some r := h
  clear h
  obtain rfl := Option.some.inj H
  go_enter Try.func180, Try.ntmps180
  go_wp2
  go_ret
  exact ⟨by first | rfl | (simp; done) | (simp [*]; done), by repeat (first | exact Drawn0.refl _ | apply Drawn0.step)⟩

end Go.Proofs.Ytlfnfalckfggkaa.PT
end
section
namespace Go.Proofs.Ytlfnfalckfggkaa.PT
open Go.RowKit Go.Proofs.YtlfnfalckfggkaaW.PrintWords Go.Proofs.YtlfnfalckfggkaaW.PrintLast Go.Proofs.YtlfnfalckfggkaaW.PrintMore
attribute [local go_sem] max2_int min2_int max_two min_two max_three min_three max_four min_four   -- for this text's walks alone
set_option linter.unusedVariables false
set_option linter.unusedSimpArgs false

/-! ### spec_l01Pow: function 177 -/
def spec_l01Pow.l0 : Nat → Int → Int → Int → Option (Int)
  | 0, _, _, _ => none
  | k + 1, x0, x1, x5 => if x1 > 0 then (if (Int.tmod x1 2) = 1 then ((spec_l01Mul.f x5 x0).bind fun t101 => ((spec_l01Mul.f x0 x0).bind fun t102 => (spec_l01Pow.l0 k t102 (wrap64 (Int.tdiv x1 2)) t101))) else ((spec_l01Mul.f x0 x0).bind fun t103 => (spec_l01Pow.l0 k t103 (wrap64 (Int.tdiv x1 2)) x5))) else (some x5)
def spec_l01Pow.f (k : Nat) (a0 : Int) (a1 : Int) : Option (Int) := spec_l01Pow.l0 k a0 a1 1
theorem spec_l01Pow.mono_l : ∀ k, (∀ y0 y1 y2, LeO (spec_l01Pow.l0 k y0 y1 y2) (spec_l01Pow.l0 (k + 1) y0 y1 y2))
  | 0 => fun _ _ _ r h => by simp [spec_l01Pow.l0] at h
  | k + 1 => by
    have ih0 := spec_l01Pow.mono_l k
    · intro y0 y1 y2
      unfold spec_l01Pow.l0
      repeat' first
      | (with_reducible exact ih0 _ _ _)
      | (with_reducible exact LeO.refl _)
      | (with_reducible exact LeO.none _)
      | (with_reducible refine LeO.ite ?_ ?_)
      | (with_reducible refine LeO.bind ?_ (fun _ => ?_))
      | exact ih0 _ _ _
      | exact LeO.none _
      | refine LeO.ite ?_ ?_
      | refine LeO.bind ?_ (fun _ => ?_)
theorem spec_l01Pow.mono : ∀ a0 a1 k, LeO (spec_l01Pow.f k a0 a1) (spec_l01Pow.f (k + 1) a0 a1) := by
  intro a0 a1 k
  have ih0 := spec_l01Pow.mono_l k
  unfold spec_l01Pow.f
  repeat' first
      | (with_reducible exact ih0 _ _ _)
      | (with_reducible exact LeO.refl _)
      | (with_reducible exact LeO.none _)
      | (with_reducible refine LeO.ite ?_ ?_)
      | (with_reducible refine LeO.bind ?_ (fun _ => ?_))
      | exact ih0 _ _ _
      | exact LeO.none _
      | refine LeO.ite ?_ ?_
      | refine LeO.bind ?_ (fun _ => ?_)
set_option maxHeartbeats 8000000 in
set_option maxRecDepth 100000 in
theorem spec_l01Pow.calls (k : Nat) (a0 : Int) (a1 : Int) (r : Int) (w : World) (h : spec_l01Pow.f k a0 a1 = some r) :
    Calls Try.prog 177 #[.int .i64 a0, .int .i64 a1] w fun e w' => e = .returned (.int .i64 r) ∧ Drawn0 w w' := by
  have H : (spec_l01Pow.l0 k a0 a1 1) = some r := h
  clear h
  have H' := Aside0.mk H
  clear H
  go_enter Try.func177, Try.ntmps177
  go_wp2
  go_loopg [0, 1, 5] k (fun kq v0 v1 v5 w' => ∃ (x0_1 : Int) (x1_1 : Int) (x5_1 : Int), v0 = .int .i64 x0_1 ∧ v1 = .int .i64 x1_1 ∧ v5 = .int .i64 x5_1 ∧ Aside0 (spec_l01Pow.l0 kq x0_1 x1_1 x5_1 = some r) ∧ Aside0 (kq ≤ k) ∧ Drawn0 w w')
  case atStart => exact ⟨(a0), (a1), (1), (by first | rfl | (simp; done) | (simp [*]; done)), (by first | rfl | (simp; done) | (simp [*]; done)), (by first | rfl | (simp; done) | (simp [*]; done)), H', ⟨Nat.le_refl _⟩, by repeat (first | exact Drawn0.refl _ | apply Drawn0.step)⟩
  case round =>
    clear H'
    try clear c1
    try clear p2
    obtain ⟨x0_1, x1_1, x5_1, rfl, rfl, rfl, HA, HK1, ⟨m1, rfl⟩⟩ := hrel
    cases gk with
    | zero => exact absurd HA.out (by simp [spec_l01Pow.l0])
    | succ k1 =>
      have H := HA.out
      clear HA
      simp only [spec_l01Pow.l0] at H
      by_cases c3 : x1_1 > 0
      · rw [if_pos c3] at H
        have c3b0 : decide (0 < x1_1) = true := decide_eq_true c3
        clear c3
        by_cases c4 : (Int.tmod x1_1 2) = 1
        · rw [if_pos c4] at H
          have c4b0 : ((Int.tmod x1_1 2) == 1) = true := beq_iff_eq.mpr c4
          have c4b1 : ((Int.tmod x1_1 2) != 1) = false := bne_eq_false_iff_eq.mpr c4
          clear c4
          replace H := Option.bind_eq_some_iff.mp H
          obtain ⟨t101, A50, H⟩ := H
          replace H : ((spec_l01Mul.f x0_1 x0_1).bind fun t102 => (spec_l01Pow.l0 k1 t102 (wrap64 (Int.tdiv x1_1 2)) t101)) = some r := H
          have A5 := Aside0.mk A50
          clear A50
          replace H := Option.bind_eq_some_iff.mp H
          obtain ⟨t102, A60, H⟩ := H
          replace H : (spec_l01Pow.l0 k1 t102 (wrap64 (Int.tdiv x1_1 2)) t101) = some r := H
          have A6 := Aside0.mk A60
          clear A60
          have H' := Aside0.mk H
          clear H
          go_wp2_with (first | ((with_reducible refine gate_callee (f := 180) rfl ?_); refine goesL_ (some 13) rfl rfl Try.func180 (by kernel_rfl) rfl #[.int .i64 x5_1, .int .i64 x0_1] rfl (by (try simp only [List.map_toArray, List.map_cons, List.map_nil]); first | done | rfl | (simp only [List.length_drop, List.length_take]; rfl)) ?_; (with_reducible refine (spec_l01Mul.calls x5_1 x0_1 t101 _ A5.out).mono ?_); rintro e w' ⟨rfl, ⟨nd, rfl⟩⟩; refine ⟨_, rfl, ?_⟩) | ((with_reducible refine gate_callee (f := 180) rfl ?_); refine goesL_ (some 16) rfl rfl Try.func180 (by kernel_rfl) rfl #[.int .i64 x0_1, .int .i64 x0_1] rfl (by (try simp only [List.map_toArray, List.map_cons, List.map_nil]); first | done | rfl | (simp only [List.length_drop, List.length_take]; rfl)) ?_; (with_reducible refine (spec_l01Mul.calls x0_1 x0_1 t102 _ A6.out).mono ?_); rintro e w' ⟨rfl, ⟨nd, rfl⟩⟩; refine ⟨_, rfl, ?_⟩))
          go_roundg k1
          case measure => have := HK1.out; omega
          case rel => exact ⟨(t102), (wrap64 (Int.tdiv x1_1 2)), (t101), (by first | rfl | (simp; done) | (simp [*]; done)), (by first | rfl | (simp; done) | (simp [*]; done)), (by first | rfl | (simp; done) | (simp [*]; done)), H', ⟨by have := HK1.out; omega⟩, by repeat (first | exact Drawn0.refl _ | apply Drawn0.step)⟩
        · rw [if_neg c4] at H
          have c4b0 : ((Int.tmod x1_1 2) == 1) = false := beq_eq_false_iff_ne.mpr c4
          have c4b1 : ((Int.tmod x1_1 2) != 1) = true := bne_iff_ne.mpr c4
          replace H := Option.bind_eq_some_iff.mp H
          obtain ⟨t103, A70, H⟩ := H
          replace H : (spec_l01Pow.l0 k1 t103 (wrap64 (Int.tdiv x1_1 2)) x5_1) = some r := H
          have A7 := Aside0.mk A70
          clear A70
          have H' := Aside0.mk H
          clear H
          go_wp2_with (first | ((with_reducible refine gate_callee (f := 180) rfl ?_); refine goesL_ (some 16) rfl rfl Try.func180 (by kernel_rfl) rfl #[.int .i64 x0_1, .int .i64 x0_1] rfl (by (try simp only [List.map_toArray, List.map_cons, List.map_nil]); first | done | rfl | (simp only [List.length_drop, List.length_take]; rfl)) ?_; (with_reducible refine (spec_l01Mul.calls x0_1 x0_1 t103 _ A7.out).mono ?_); rintro e w' ⟨rfl, ⟨nd, rfl⟩⟩; refine ⟨_, rfl, ?_⟩))
          go_roundg k1
          case measure => have := HK1.out; omega
          case rel => exact ⟨(t103), (wrap64 (Int.tdiv x1_1 2)), (x5_1), (by first | rfl | (simp; done) | (simp [*]; done)), (by first | rfl | (simp; done) | (simp [*]; done)), (by first | rfl | (simp; done) | (simp [*]; done)), H', ⟨by have := HK1.out; omega⟩, by repeat (first | exact Drawn0.refl _ | apply Drawn0.step)⟩
      · rw [if_neg c3] at H
        have c3b0 : decide (0 < x1_1) = false := decide_eq_false c3
        clear c3
        obtain rfl := Option.some.inj H
        go_wp2
        go_ret
        exact ⟨by first | rfl | (simp; done) | (simp [*]; done), by repeat (first | exact Drawn0.refl _ | apply Drawn0.step)⟩

end Go.Proofs.Ytlfnfalckfggkaa.PT
end
section
/- What the printed functions of the field and of the greater field answer: the same sums and products on both sides. -/
namespace Go.Proofs.Ytlfnfalckfggkaa.PT
open Go.RowKit Go.Proofs.YtlfnfalckfggkaaW.PrintWords Go.Proofs.YtlfnfalckfggkaaW.PrintLast Go.Proofs.YtlfnfalckfggkaaW.PrintMore
set_option linter.unusedVariables false
set_option linter.unusedSimpArgs false

theorem impl_in_eq (a b c : Int) : impl_in.f a b c = some (decide (b ≤ a ∧ a ≤ c)) := by
  unfold impl_in.f; by_cases h : b ≤ a <;> simp [h]
theorem impl_FieldOK_eq (a : Int) : impl_FieldOK.f a = some (decide (inF a)) := by
  unfold impl_FieldOK.f; rw [impl_in_eq]; rfl
def okB (x : E) : Bool := decide (inF x.f0) && decide (inF x.f1)
theorem okB_iff (x : E) : okB x = true ↔ okE x := by
  unfold okB; rw [Bool.and_eq_true, decide_eq_true_eq, decide_eq_true_eq]; exact ⟨fun h => ⟨h.1, h.2⟩, fun h => ⟨h.a, h.b⟩⟩
theorem impl_ExtOK_eq (a b : Int) : impl_ExtOK.f a b = some (okB ⟨a, b⟩) := by
  unfold impl_ExtOK.f okB; rw [impl_FieldOK_eq, impl_FieldOK_eq]
  by_cases h : inF a <;> simp [h]
theorem impl_add_eq {a b : Int} (ha : inF a) (hb : inF b) : impl_add.f a b = some (fadd a b) := by
  unfold inF at ha hb; unfold impl_add.f fadd; rw [w64 (by omega) (by omega), tmod_nn (by omega)]
theorem impl_sub_eq {a b : Int} (ha : inF a) (hb : inF b) : impl_sub.f a b = some (fsub a b) := by
  unfold inF at ha hb; unfold impl_sub.f fsub; rw [w64 (n := a - b) (by omega) (by omega), w64 (by omega) (by omega), tmod_nn (by omega)]
  congr 1; omega
theorem impl_mul_eq {a b : Int} (ha : inF a) (hb : inF b) : impl_mul.f a b = some (fmul a b) := by
  have := mul_bd ha hb
  unfold impl_mul.f fmul; rw [w64 (by omega) (by omega), tmod_nn (by omega)]
theorem spec_l01Mul_eq {a b : Int} (ha : inF a) (hb : inF b) : spec_l01Mul.f a b = some (fmul a b) := by
  have := mul_bd ha hb
  unfold spec_l01Mul.f fmul; rw [w64 (by omega) (by omega), tmod_nn (by omega)]
theorem impl_times_eq {x y : E} (hx : okE x) (hy : okE y) : impl_Ext_times.f x.f0 x.f1 y.f0 y.f1 = some ((emul x y).f0, (emul x y).f1) := by
  unfold impl_Ext_times.f
  simp only [impl_mul_eq hx.a hy.a, impl_mul_eq hx.b hy.b, impl_mul_eq hx.a hy.b, impl_mul_eq hx.b hy.a, impl_mul_eq inF_3 (inF_mul _ _), impl_add_eq (inF_mul _ _) (inF_mul _ _), Option.bind_some]
  rfl
theorem impl_scaled_eq {x : E} {n : Int} (hx : okE x) (hn : inF n) : impl_Ext_scaled.f x.f0 x.f1 n = some ((escale x n).f0, (escale x n).f1) := by
  unfold impl_Ext_scaled.f; rw [impl_mul_eq hx.a hn, impl_mul_eq hx.b hn]; rfl
/-! lists -/
end Go.Proofs.Ytlfnfalckfggkaa.PT
end
section
/- The laws' own helpers: elements copied, compared, marked; and powers of two. -/
namespace Go.Proofs.Ytlfnfalckfggkaa.PT
open Go.RowKit Go.Proofs.YtlfnfalckfggkaaW.PrintWords Go.Proofs.YtlfnfalckfggkaaW.PrintLast Go.Proofs.YtlfnfalckfggkaaW.PrintMore
set_option linter.unusedVariables false
set_option linter.unusedSimpArgs false

theorem getD_at {α : Type} {l : List α} {z : α} {i : Nat} (h : i < l.length) : l.getD i z = l[i] := by
  rw [List.getD_eq_getElem?_getD, List.getElem?_eq_getElem h]; rfl
/-! marks: a list's cells are numbered from k on -/
def marked : Nat → Int → List E
  | 0, _ => []
  | n + 1, k => ⟨k, k + 1⟩ :: marked n (k + 2)
/-! powers of two -/
end Go.Proofs.Ytlfnfalckfggkaa.PT
end
section
/- Steps that several laws share: same answers compared, lists turned in place. -/
namespace Go.Proofs.Ytlfnfalckfggkaa.PT
open Go.RowKit Go.Proofs.YtlfnfalckfggkaaW.PrintWords Go.Proofs.YtlfnfalckfggkaaW.PrintLast Go.Proofs.YtlfnfalckfggkaaW.PrintMore
set_option linter.unusedVariables false
set_option linter.unusedSimpArgs false
/-- A step with its answer known, as a rewriting (no unfolding in the kernel). -/
theorem bS {α β : Type} (a : α) (f : α → Option β) : (some a).bind f = f a := Eq.trans (Eq.refl _) (Option.bind_some a f)
end Go.Proofs.Ytlfnfalckfggkaa.PT
end
section
/- The equality weight, at a point and as a table: both sides walk the same numbers. -/
namespace Go.Proofs.Ytlfnfalckfggkaa.PT
open Go.RowKit Go.Proofs.YtlfnfalckfggkaaW.PrintWords Go.Proofs.YtlfnfalckfggkaaW.PrintLast Go.Proofs.YtlfnfalckfggkaaW.PrintMore
set_option linter.unusedVariables false
set_option linter.unusedSimpArgs false
/-! the table -/
theorem etaE (x : E) : (⟨x.f0, x.f1⟩ : E) = x := rfl
end Go.Proofs.Ytlfnfalckfggkaa.PT
end
section
/- Tables turned in place, folded, and read at a point: both sides walk the same numbers. -/
namespace Go.Proofs.Ytlfnfalckfggkaa.PT
open Go.RowKit Go.Proofs.YtlfnfalckfggkaaW.PrintWords Go.Proofs.YtlfnfalckfggkaaW.PrintLast Go.Proofs.YtlfnfalckfggkaaW.PrintMore
set_option linter.unusedVariables false
set_option linter.unusedSimpArgs false
/-! a table turned in place -/
/-! a table folded -/
/-! a table at a point -/
end Go.Proofs.Ytlfnfalckfggkaa.PT
end
section
/- Powers, inverses and the line: what the printed functions of chapter 2 come to. -/
namespace Go.Proofs.Ytlfnfalckfggkaa.PT
open Go.RowKit Go.Proofs.YtlfnfalckfggkaaW.PrintWords Go.Proofs.YtlfnfalckfggkaaW.PrintLast Go.Proofs.YtlfnfalckfggkaaW.PrintMore
set_option linter.unusedVariables false
set_option linter.unusedSimpArgs false
theorem e_al (a b : Int) : (a % 2130706433 + b) % 2130706433 = (a + b) % 2130706433 := by omega
theorem e_ar (a b : Int) : (a + b % 2130706433) % 2130706433 = (a + b) % 2130706433 := by omega
theorem e_sl (a b : Int) : (a % 2130706433 - b) % 2130706433 = (a - b) % 2130706433 := by omega
theorem e_sr (a b : Int) : (a - b % 2130706433) % 2130706433 = (a - b) % 2130706433 := by omega
theorem e_ml (a b : Int) : (a % 2130706433 * b) % 2130706433 = (a * b) % 2130706433 := by rw [Int.mul_emod, Int.emod_emod_of_dvd _ (Int.dvd_refl _), ← Int.mul_emod]
theorem e_mr (a b : Int) : (a * (b % 2130706433)) % 2130706433 = (a * b) % 2130706433 := by rw [Int.mul_emod, Int.emod_emod_of_dvd _ (Int.dvd_refl _), ← Int.mul_emod]
theorem e_pow (a : Int) (n : Nat) : (a % 2130706433) ^ n % 2130706433 = a ^ n % 2130706433 := by
  induction n with
  | zero => rw [Int.pow_zero, Int.pow_zero]
  | succ n ih => rw [Int.pow_succ, Int.pow_succ, e_mr, ← e_ml, ih, e_ml]
theorem pow_sq (a : Int) (m : Nat) : (a * a) ^ m = a ^ (2 * m) := by
  induction m with
  | zero => rw [Nat.mul_zero, Int.pow_zero, Int.pow_zero]
  | succ m ih => rw [Int.pow_succ, ih, show 2 * (m + 1) = 2 * m + 1 + 1 by omega, Int.pow_succ, Int.pow_succ, Int.mul_assoc]
theorem and1 {x : Int} (h0 : 0 ≤ x) (h1 : x ≤ 9223372036854775807) : Go.bits .and .i64 x 1 = x % 2 := by
  have := bits_mask .i64 63 (by decide) (fun n h0 h1 => by
    simp only [IntKind.wrap, IntKind.bits, IntKind.signed]
    simp
    simp at h1
    omega) 1 (by decide) x h0 (by simp; omega)
  simpa using this
def fpow (a : Int) (n : Nat) : Int := a ^ n % 2130706433
theorem inF_pow (a : Int) (n : Nat) : inF (fpow a n) := by unfold inF fpow; omega
theorem fpow_mul (a b : Int) (n : Nat) : fpow (fmul a b) n = fmul (fpow a n) (fpow b n) := by
  unfold fpow fmul
  rw [e_pow, e_ml, e_mr, Int.mul_pow]
theorem pow_l0 (d : Nat) (hd : d ≤ 62) : ∀ (n : Nat) (a r : Int), n < 2 ^ d → inF a → inF r → ∀ k, d < k →
    impl_pow.l0 k a n r = some (r * a ^ n % 2130706433) ∧ spec_l01Pow.l0 k a n r = some (r * a ^ n % 2130706433) := by
  induction d with
  | zero =>
    intro n a r hn ha hr k hk
    obtain ⟨k, rfl⟩ : ∃ m, k = m + 1 := ⟨k - 1, by omega⟩
    obtain rfl : n = 0 := by simp at hn; exact hn
    simp only [impl_pow.l0, spec_l01Pow.l0]
    have e : r * a ^ 0 % 2130706433 = r := by unfold inF at hr; rw [Int.pow_zero]; omega
    rw [if_neg (by omega), if_neg (by omega), e]; exact ⟨rfl, rfl⟩
  | succ d ih =>
    intro n a r hn ha hr k hk
    obtain ⟨k, rfl⟩ : ∃ m, k = m + 1 := ⟨k - 1, by omega⟩
    simp only [impl_pow.l0, spec_l01Pow.l0]
    by_cases h0 : n = 0
    · subst h0
      have e : r * a ^ 0 % 2130706433 = r := by unfold inF at hr; rw [Int.pow_zero]; omega
      rw [if_neg (by omega), if_neg (by omega), e]; exact ⟨rfl, rfl⟩
    · have hd2 : n < 2 ^ 62 := Nat.lt_of_lt_of_le hn (Nat.pow_le_pow_right (by omega) hd)
      have hn62 : n < 4611686018427387904 := hd2
      have e1 : Go.bits .and .i64 (n : Int) 1 = (n : Int) % 2 := and1 (by omega) (by omega)
      have e2 : Int.tmod (n : Int) 2 = (n : Int) % 2 := tmod_nn (by omega)
      have e3 : wrap64 (Int.tdiv (n : Int) 2) = ((n / 2 : Nat) : Int) := by rw [tdiv_nn (by omega), w64 (by omega) (by omega)]; omega
      have e4 : (n : Int) / 2 = ((n / 2 : Nat) : Int) := by omega
      have hm : n / 2 < 2 ^ d := by rw [Nat.pow_succ] at hn; omega
      have hpos : (n : Int) > 0 := by omega
      rw [e1, e2, e3, e4, if_pos hpos]
      by_cases h1 : (n : Int) % 2 = 1
      · rw [if_pos h1, if_pos hpos, if_pos h1, impl_mul_eq hr ha, spec_l01Mul_eq hr ha, impl_mul_eq ha ha, spec_l01Mul_eq ha ha]
        simp only [bS]
        have hx := ih (by omega) (n / 2) (fmul a a) (fmul r a) hm (inF_mul _ _) (inF_mul _ _) k (by omega)
        have e5 : fmul r a * fmul a a ^ (n / 2) % 2130706433 = r * a ^ n % 2130706433 := by
          unfold fmul
          rw [e_ml, ← e_mr, e_pow, e_mr, pow_sq, Int.mul_assoc, Int.mul_comm a, ← Int.pow_succ, show (2 * (n / 2)).succ = n by omega]
        rw [e5] at hx
        exact hx
      · rw [if_neg h1, if_pos hpos, if_neg h1, impl_mul_eq ha ha, spec_l01Mul_eq ha ha]
        simp only [bS]
        have hx := ih (by omega) (n / 2) (fmul a a) r hm (inF_mul _ _) hr k (by omega)
        have e5 : r * fmul a a ^ (n / 2) % 2130706433 = r * a ^ n % 2130706433 := by
          unfold fmul
          rw [← e_mr, e_pow, e_mr, pow_sq, show 2 * (n / 2) = n by omega]
        rw [e5] at hx
        exact hx
theorem pow_both {a : Int} (ha : inF a) {n : Nat} (hn : n < 2 ^ 40) {k : Nat} (hk : 40 < k) : impl_pow.f k a n = some (fpow a n) ∧ spec_l01Pow.f k a n = some (fpow a n) := by
  have h := pow_l0 40 (by omega) n a 1 hn ha inF_1 k hk
  rw [Int.one_mul] at h
  exact h
def finv (a : Int) : Int := fpow a 2130706431
theorem inF_inv (a : Int) : inF (finv a) := inF_pow _ _
theorem impl_inverse_eq {a : Int} (ha : inF a) {k : Nat} (hk : 40 < k) : impl_inverse.f k a = some (finv a) := by
  unfold impl_inverse.f finv
  have h := (pow_both ha (n := 2130706431) (by decide) hk).1
  rw [show ((2130706431 : Nat) : Int) = 2130706431 from rfl] at h
  rw [h]; rfl
theorem mul_scale (x w : E) (n : Int) : emul x (escale w n) = escale (emul x w) n := by
  refine E.ext_ ?_ ?_
  · show fadd (fmul x.f0 (fmul w.f0 n)) (fmul 3 (fmul x.f1 (fmul w.f1 n))) = fmul (fadd (fmul x.f0 w.f0) (fmul 3 (fmul x.f1 w.f1))) n
    unfold fmul fadd
    simp only [e_al, e_ar, e_ml, e_mr]
    congr 1; grind
  · show fadd (fmul x.f0 (fmul w.f1 n)) (fmul x.f1 (fmul w.f0 n)) = fmul (fadd (fmul x.f0 w.f1) (fmul x.f1 w.f0)) n
    unfold fmul fadd
    simp only [e_al, e_ar, e_ml, e_mr]
    congr 1; grind
theorem scale_one {x : E} (hx : okE x) : escale x 1 = x := E.ext_ (fmul_one hx.a) (fmul_one hx.b)
end Go.Proofs.Ytlfnfalckfggkaa.PT
end
section
/- What is drawn from bytes: the numbers and elements that the laws draw are of the field. -/
namespace Go.Proofs.Ytlfnfalckfggkaa.PT
open Go.RowKit Go.Proofs.YtlfnfalckfggkaaW.PrintWords Go.Proofs.YtlfnfalckfggkaaW.PrintLast Go.Proofs.YtlfnfalckfggkaaW.PrintMore
set_option linter.unusedVariables false
set_option linter.unusedSimpArgs false
def bytesL (l : List Int) : Prop := ∀ x ∈ l, 0 ≤ x ∧ x ≤ 255
theorem bytesL_rd {l : List Int} (h : bytesL l) {i : Int} (h0 : 0 ≤ i) (h1 : i < l.length) : 0 ≤ rd l i ∧ rd l i ≤ 255 := by
  show 0 ≤ l.getD i.toNat 0 ∧ l.getD i.toNat 0 ≤ 255
  rw [getD_at (show i.toNat < l.length by omega)]
  exact h _ (List.getElem_mem _)
def stOK (p s : Int) (b : Int) : Prop := 0 ≤ p ∧ p ≤ b ∧ 0 ≤ s ∧ s < 2147483648
theorem byte_ok {l : List Int} (h : bytesL l) {p s b : Int} (hs : stOK p s b) (hb : b ≤ 1000000000) : ∃ v s', spec_l00Src_byte.f l p s = some (v, p + 1, s') ∧ 0 ≤ v ∧ v ≤ 255 ∧ stOK (p + 1) s' (b + 1) := by
  obtain ⟨h0, h1, h2, h3⟩ := hs
  unfold spec_l00Src_byte.f
  rw [if_pos (by omega)]
  by_cases h4 : p < (l.length : Int)
  · have hr := bytesL_rd h h0 h4
    rw [if_pos h4, if_pos hr]
    exact ⟨_, _, rfl, hr.1, hr.2, by unfold stOK; omega⟩
  · rw [if_neg h4]
    by_cases h5 : 2999 < p
    · rw [if_pos h5]; exact ⟨_, _, rfl, by omega, by omega, by unfold stOK; omega⟩
    · rw [if_neg h5]
      refine ⟨_, _, rfl, by omega, by omega, ?_⟩
      unfold stOK spec_l00Src_byte.next; omega
theorem next_ok {l : List Int} (h : bytesL l) {p s b a : Int} (hs : stOK p s b) (hb : b ≤ 1000000000) (ha : 2 ≤ a) (ha2 : a ≤ 256) : ∃ v s', spec_l00Src_next.f l p s a = some (v, p + 1, s') ∧ 0 ≤ v ∧ v < a ∧ v ≤ 255 ∧ stOK (p + 1) s' (b + 1) := by
  obtain ⟨v, s', e, h0, h1, h2⟩ := byte_ok h hs hb
  unfold spec_l00Src_next.f
  rw [if_neg (by omega), if_pos ha2, e]
  simp only [bS]
  rw [if_neg (by omega), tmod_nn h0]
  have hm : v % a ≤ v := by
    rcases Int.lt_or_le v a with h | h
    · rw [Int.emod_eq_of_lt h0 h]; exact Int.le_refl _
    · have := Int.emod_lt_of_pos v (show 0 < a by omega); omega
  exact ⟨_, _, rfl, Int.emod_nonneg _ (by omega), Int.emod_lt_of_pos _ (by omega), by omega, h2⟩
theorem chance_ok {l : List Int} (h : bytesL l) {p s b : Int} (hs : stOK p s b) (hb : b ≤ 1000000000) : ∃ v s', spec_l00Src_chance.f l p s 4 = some (v, p + 1, s') ∧ stOK (p + 1) s' (b + 1) := by
  obtain ⟨v, s', e, _, _, _, h2⟩ := next_ok h hs hb (a := 4) (by omega) (by omega)
  unfold spec_l00Src_chance.f
  rw [e]
  exact ⟨_, _, rfl, h2⟩
theorem field_l0 {l : List Int} (h : bytesL l) (d : Nat) : ∀ (k i : Nat) (v p s b : Int), i + d = 5 → d < k → inF v → stOK p s b → b + d ≤ 1000000000 →
    ∃ v' p' s', spec_l00Src_field.l0 k v i l p s = some (v', p', s') ∧ inF v' ∧ stOK p' s' (b + d) := by
  induction d with
  | zero =>
    intro k i v p s b hi hk hv hs hb
    obtain ⟨k, rfl⟩ : ∃ m, k = m + 1 := ⟨k - 1, by omega⟩
    simp only [spec_l00Src_field.l0]
    rw [if_neg (by omega)]
    exact ⟨_, _, _, rfl, hv, by unfold stOK at *; omega⟩
  | succ d ih =>
    intro k i v p s b hi hk hv hs hb
    obtain ⟨k, rfl⟩ : ∃ m, k = m + 1 := ⟨k - 1, by omega⟩
    obtain ⟨u, s', e, h0, h1, h2, h3⟩ := next_ok h hs (by omega) (a := 256) (by omega) (by omega)
    simp only [spec_l00Src_field.l0]
    rw [if_pos (by omega), e]
    simp only [bS]
    unfold inF at hv
    rw [w64 (n := v * 256) (by omega) (by omega), w64 (n := v * 256 + u) (by omega) (by omega), tmod_nn (by omega), w64 (by omega) (by omega), show (i : Int) + 1 = ((i + 1 : Nat) : Int) by omega]
    obtain ⟨v', p', s'', e2, hv', hs'⟩ := ih k (i + 1) ((v * 256 + u) % 2130706433) (p + 1) s' (b + 1) (by omega) (by omega) (by unfold inF; omega) h3 (by omega)
    exact ⟨v', p', s'', e2, hv', by unfold stOK at *; omega⟩
theorem field_ok {l : List Int} (h : bytesL l) {p s b : Int} (hs : stOK p s b) (hb : b ≤ 900000000) {k : Nat} (hk : 10 < k) : ∃ v p' s', spec_l00Src_field.f k l p s = some (v, p', s') ∧ inF v ∧ stOK p' s' (b + 10) := by
  obtain ⟨u, s1, e1, h0, h1, _, h2⟩ := next_ok h hs (by omega) (a := 5) (by omega) (by omega)
  unfold spec_l00Src_field.f
  rw [e1]
  simp only [bS]
  by_cases hu : u = 0
  · obtain ⟨v, s2, e2, h3, h4, _, h5⟩ := next_ok h h2 (by omega) (a := 4) (by omega) (by omega)
    rw [if_pos hu, e2]
    simp only [bS]
    exact ⟨_, _, _, rfl, by unfold inF; omega, by unfold stOK at *; omega⟩
  · rw [if_neg hu]
    by_cases hu1 : u = 1
    · obtain ⟨v, s2, e2, h3, h4, _, h5⟩ := next_ok h h2 (by omega) (a := 3) (by omega) (by omega)
      rw [if_pos hu1, e2]
      simp only [bS]
      rw [w64 (by omega) (by omega)]
      exact ⟨_, _, _, rfl, by unfold inF; omega, by unfold stOK at *; omega⟩
    · rw [if_neg hu1]
      obtain ⟨v', p', s', e2, hv, h5⟩ := field_l0 h 5 k 0 0 (p + 1) s1 (b + 1) (by omega) (by omega) inF_0 h2 (by omega)
      rw [Int.natCast_zero] at e2
      exact ⟨v', p', s', e2, hv, by unfold stOK at *; omega⟩
theorem ext_ok {l : List Int} (h : bytesL l) {p s b : Int} (hs : stOK p s b) (hb : b ≤ 800000000) {k : Nat} (hk : 10 < k) : ∃ (x : E) (p' s' : Int), spec_l00Src_ext.f k l p s = some (x.f0, x.f1, p', s') ∧ okE x ∧ stOK p' s' (b + 30) := by
  obtain ⟨c, s1, e1, h1⟩ := chance_ok h hs (by omega)
  obtain ⟨u, p2, s2, e2, hu, h2⟩ := field_ok h h1 (by omega) hk
  unfold spec_l00Src_ext.f
  rw [e1]
  simp only [bS]
  by_cases hc : c = true
  · rw [if_pos hc, e2]
    simp only [bS]
    exact ⟨⟨u, 0⟩, p2, s2, rfl, ⟨hu, inF_0⟩, by unfold stOK at *; omega⟩
  · obtain ⟨v, p3, s3, e3, hv, h3⟩ := field_ok h h2 (by omega) hk
    rw [if_neg hc, e2]
    simp only [bS]
    rw [e3]
    simp only [bS]
    exact ⟨⟨u, v⟩, p3, s3, rfl, ⟨hu, hv⟩, by unfold stOK at *; omega⟩
theorem source_ok (l : List Int) : ∃ s, spec_l00Source.f l = some (l, 0, s) ∧ stOK 0 s 0 := by
  unfold spec_l00Source.f
  exact ⟨_, rfl, by unfold stOK; omega⟩
theorem ExtOf_ok {l : List Int} (h : bytesL l) {k : Nat} (hk : 10 < k) : ∃ x : E, spec_ExtOf.f k l = some (x.f0, x.f1) ∧ okE x := by
  obtain ⟨s, e, hs⟩ := source_ok l
  obtain ⟨x, p', s', e2, hx, _⟩ := ext_ok h hs (by omega) hk
  unfold spec_ExtOf.f
  rw [e]
  simp only [bS]
  rw [e2]
  exact ⟨x, rfl, hx⟩
theorem at_ok {l : List Int} (h : bytesL l) (hl : l.length ≤ 1048576) {a n : Int} (ha : 0 ≤ a) (ha2 : a ≤ 10) (hn : 0 ≤ n) (hn2 : n ≤ 1000000) : ∃ t, laws_at.f l a n = some t ∧ 0 ≤ t ∧ (t < n ∨ t = 0) := by
  unfold laws_at.f
  by_cases h1 : n ≤ 1
  · rw [if_pos h1]; exact ⟨0, rfl, by omega, by omega⟩
  · rw [if_neg h1]
    by_cases h2 : (l.length : Int) = 0
    · rw [if_pos h2, if_neg (by omega), w64 (by omega) (by omega), tmod_nn (by omega)]
      exact ⟨_, rfl, Int.emod_nonneg _ (by omega), Or.inl (Int.emod_lt_of_pos _ (by omega))⟩
    · have hp : 0 < (l.length : Int) := by omega
      have m0 := Int.emod_nonneg a (show (l.length : Int) ≠ 0 by omega)
      have m1 := Int.emod_lt_of_pos a hp
      have m2 := Int.emod_nonneg (a + 1) (show (l.length : Int) ≠ 0 by omega)
      have m3 := Int.emod_lt_of_pos (a + 1) hp
      have r1 := bytesL_rd h m0 m1
      have r2 := bytesL_rd h m2 m3
      have d0 : 0 ≤ a / (l.length : Int) := Int.ediv_nonneg ha (by omega)
      have d1 : a / (l.length : Int) ≤ a := Int.ediv_le_self _ ha
      rw [if_neg h2, tmod_nn ha, w64 (n := a + 1) (by omega) (by omega), tmod_nn (by omega), tdiv_nn ha, if_pos m0, if_pos m1, if_pos m2, if_pos m3, if_neg (by omega),
        w64 (n := rd l (a % (l.length : Int))) (by omega) (by omega), w64 (n := rd l (a % (l.length : Int)) * 31) (by omega) (by omega), w64 (n := rd l ((a + 1) % (l.length : Int))) (by omega) (by omega),
        w64 (n := _ + rd l ((a + 1) % (l.length : Int))) (by omega) (by omega), w64 (n := a / (l.length : Int)) (by omega) (by omega), w64 (n := _ + a / (l.length : Int)) (by omega) (by omega), tmod_nn (by omega)]
      exact ⟨_, rfl, Int.emod_nonneg _ (by omega), Or.inl (Int.emod_lt_of_pos _ (by omega))⟩
end Go.Proofs.Ytlfnfalckfggkaa.PT
end
section
/- The field's order is a prime: powers, inverses and the greater field's laws. -/
namespace Go.Proofs.Ytlfnfalckfggkaa.PT
open Go.RowKit Go.Proofs.YtlfnfalckfggkaaW.PrintWords Go.Proofs.YtlfnfalckfggkaaW.PrintLast Go.Proofs.YtlfnfalckfggkaaW.PrintMore
set_option linter.unusedVariables false
set_option linter.unusedSimpArgs false
def Cb : Nat → Nat → Nat
  | _, 0 => 1
  | 0, _ + 1 => 0
  | n + 1, k + 1 => Cb n k + Cb n (k + 1)
theorem Cb_zero (n : Nat) : Cb n 0 = 1 := by cases n <;> rfl
theorem Cb_big : ∀ (n k : Nat), n < k → Cb n k = 0
  | 0, k + 1, _ => rfl
  | n + 1, k + 1, h => by rw [Cb, Cb_big n k (by omega), Cb_big n (k + 1) (by omega)]
theorem Cb_self (n : Nat) : Cb n n = 1 := by
  induction n with
  | zero => rfl
  | succ n ih => rw [Cb, ih, Cb_big n (n + 1) (by omega)]
theorem Cb_absorb (n : Nat) : ∀ k, (k + 1) * Cb (n + 1) (k + 1) = (n + 1) * Cb n k := by
  induction n with
  | zero =>
    intro k
    cases k with
    | zero => rfl
    | succ k => rw [Cb_big (0 + 1) (k + 1 + 1) (by omega), Cb_big 0 (k + 1) (by omega), Nat.mul_zero, Nat.mul_zero]
  | succ n ih =>
    intro k
    cases k with
    | zero =>
      have := ih 0
      rw [Cb_zero] at this
      rw [Cb_zero, show Cb (n + 1 + 1) (0 + 1) = Cb (n + 1) 0 + Cb (n + 1) (0 + 1) from rfl, Cb_zero, Nat.mul_add, this]
      omega
    | succ k =>
      have h1 := ih k
      have h2 := ih (k + 1)
      rw [Cb, Nat.mul_add, h2]
      rw [show (k + 1 + 1) * Cb (n + 1) (k + 1) = (k + 1) * Cb (n + 1) (k + 1) + Cb (n + 1) (k + 1) by rw [Nat.add_mul, Nat.one_mul], h1]
      rw [show (n + 1 + 1) * Cb (n + 1) (k + 1) = (n + 1) * Cb (n + 1) (k + 1) + Cb (n + 1) (k + 1) by rw [Nat.add_mul, Nat.one_mul]]
      rw [show Cb (n + 1) (k + 1) = Cb n k + Cb n (k + 1) from rfl, Nat.mul_add]
      omega
def Sb (n a : Nat) : Nat → Nat
  | 0 => 0
  | m + 1 => Sb n a m + Cb n m * a ^ m
theorem Sb_step (n a : Nat) : ∀ m, Sb (n + 1) a (m + 1) = Sb n a (m + 1) + a * Sb n a m
  | 0 => by simp [Sb, Cb_zero]
  | m + 1 => by
    rw [Sb, Sb_step n a m, Sb, Sb, Sb, Cb, Nat.pow_succ, Nat.mul_add, Nat.add_mul]
    have e : Cb n m * (a ^ m * a) = a * (Cb n m * a ^ m) := by rw [Nat.mul_comm (a ^ m) a, Nat.mul_left_comm]
    rw [e]
    omega
theorem Sb_eq (n a : Nat) : Sb n a (n + 1) = (a + 1) ^ n := by
  induction n with
  | zero => simp [Sb, Cb]
  | succ n ih =>
    rw [Sb_step, Sb, Cb_big n (n + 1) (by omega), Nat.zero_mul, Nat.add_zero, ih, Nat.pow_succ, Nat.mul_add, Nat.mul_one, Nat.mul_comm, Nat.add_comm]
theorem Cb_dvd {p : Nat} (h : ∀ a, 0 < a → a < p → Nat.gcd a p = 1) {k : Nat} (h0 : 0 < k) (h1 : k < p) : p ∣ Cb p k := by
  obtain ⟨k, rfl⟩ : ∃ m, k = m + 1 := ⟨k - 1, by omega⟩
  obtain ⟨n, rfl⟩ : ∃ m, p = m + 1 := ⟨p - 1, by omega⟩
  have e := Cb_absorb n k
  have hc : Nat.Coprime (n + 1) (k + 1) := by
    show Nat.gcd (n + 1) (k + 1) = 1
    rw [Nat.gcd_comm]; exact h (k + 1) (by omega) h1
  exact hc.dvd_of_dvd_mul_left (by rw [e]; exact Nat.dvd_mul_right _ _)
theorem Sb_mod {p : Nat} (hp : 1 < p) (h : ∀ a, 0 < a → a < p → Nat.gcd a p = 1) (a : Nat) : ∀ m, m < p → Sb p a (m + 1) % p = 1
  | 0, _ => by simp [Sb, Cb_zero]; exact Nat.mod_eq_of_lt hp
  | m + 1, hm => by
    have ih := Sb_mod hp h a m (by omega)
    obtain ⟨c, hc⟩ := Cb_dvd h (k := m + 1) (by omega) hm
    rw [Sb, hc, Nat.mul_assoc, Nat.add_mul_mod_self_left]
    exact ih
theorem fermat_pow {p : Nat} (hp : 1 < p) (h : ∀ a, 0 < a → a < p → Nat.gcd a p = 1) : ∀ a, a ^ p % p = a % p
  | 0 => by rw [Nat.zero_pow (by omega)]
  | a + 1 => by
    have ih := fermat_pow hp h a
    obtain ⟨q, rfl⟩ : ∃ m, p = m + 1 := ⟨p - 1, by omega⟩
    rw [← Sb_eq, Sb, Cb_self, Nat.one_mul, Nat.add_mod, Sb_mod hp h a q (by omega), ih, Nat.add_mod_mod, Nat.add_comm]
theorem fermat {p : Nat} (hp : 1 < p) (h : ∀ a, 0 < a → a < p → Nat.gcd a p = 1) {a : Nat} (h0 : 0 < a) (h1 : a < p) : a ^ (p - 1) % p = 1 := by
  have e := fermat_pow hp h a
  obtain ⟨q, rfl⟩ : ∃ m, p = m + 1 := ⟨p - 1, by omega⟩
  have hpos : 0 < a ^ q := Nat.pow_pos h0
  have hd : (q + 1) ∣ a * (a ^ q - 1) := by
    have : a * (a ^ q - 1) = a ^ (q + 1) - a := by rw [Nat.mul_sub, Nat.mul_one, Nat.pow_succ, Nat.mul_comm]
    rw [this]
    exact Nat.dvd_of_mod_eq_zero (Nat.sub_mod_eq_zero_of_mod_eq e)
  have hc : Nat.Coprime (q + 1) a := by
    show Nat.gcd (q + 1) a = 1
    rw [Nat.gcd_comm]; exact h a h0 h1
  obtain ⟨c, hc2⟩ := hc.dvd_of_dvd_mul_left hd
  have e3 : a ^ q = 1 + (q + 1) * c := by omega
  show a ^ q % (q + 1) = 1
  rw [e3, Nat.add_mul_mod_self_left]
  exact Nat.mod_eq_of_lt hp
def noDiv : Nat → Nat → Bool
  | 0, lo => 2130706433 % lo != 0
  | n + 1, lo => noDiv n lo && noDiv n (lo + 2 ^ n)
theorem noDiv_spec : ∀ (n lo : Nat), noDiv n lo = true → ∀ d, lo ≤ d → d < lo + 2 ^ n → 2130706433 % d ≠ 0
  | 0, lo, h, d, h1, h2 => by
    obtain rfl : d = lo := by simp at h2; omega
    simpa [noDiv] using h
  | n + 1, lo, h, d, h1, h2 => by
    rw [noDiv, Bool.and_eq_true] at h
    rw [Nat.pow_succ] at h2
    by_cases hd : d < lo + 2 ^ n
    · exact noDiv_spec n lo h.1 d h1 hd
    · exact noDiv_spec n _ h.2 d (by omega) (by omega)
set_option maxRecDepth 100000 in
theorem noDiv_all : noDiv 16 2 = true := by decide +kernel
theorem cop (a : Nat) (h0 : 0 < a) (h1 : a < 2130706433) : Nat.gcd a 2130706433 = 1 := by
  by_cases h : Nat.gcd a 2130706433 = 1
  · exact h
  · exfalso
    have hg : 0 < Nat.gcd a 2130706433 := Nat.gcd_pos_of_pos_left _ h0
    have hga : Nat.gcd a 2130706433 ≤ a := Nat.le_of_dvd h0 (Nat.gcd_dvd_left _ _)
    obtain ⟨q, hq⟩ := Nat.gcd_dvd_right a 2130706433
    generalize Nat.gcd a 2130706433 = g at *
    have hq2 : 2 ≤ q := by
      rcases q with _ | _ | q
      · omega
      · omega
      · omega
    by_cases hs : g < 65538
    · refine noDiv_spec 16 2 noDiv_all g (by omega) (by simp; omega) ?_
      rw [hq]; exact Nat.mul_mod_right _ _
    · have hqs : q < 65538 := by
        apply Decidable.byContradiction
        intro hc
        have := Nat.mul_le_mul (show 65538 ≤ g by omega) (show 65538 ≤ q by omega)
        omega
      refine noDiv_spec 16 2 noDiv_all q (by omega) (by simp; omega) ?_
      rw [hq]; exact Nat.mul_mod_left _ _
theorem fpow_nat {a : Int} (h : 0 ≤ a) (n : Nat) : fpow a n = ((a.toNat ^ n % 2130706433 : Nat) : Int) := by
  obtain ⟨b, rfl⟩ := Int.eq_ofNat_of_zero_le h
  unfold fpow
  rw [Int.toNat_natCast, Int.natCast_emod, Int.natCast_pow]; rfl
theorem fermat_n {p n : Nat} (hn : p = n + 1) (hp : 1 < p) (h : ∀ a, 0 < a → a < p → Nat.gcd a p = 1) {a : Nat} (h0 : 0 < a) (h1 : a < p) : a ^ n % p = 1 := by
  have e := fermat hp h h0 h1
  subst hn
  exact e
theorem fpow_fermat_n {a : Int} {n : Nat} (hn : 2130706433 = n + 1) (h : inF a) (h0 : a ≠ 0) : fpow a n = 1 := by
  rw [fpow_nat h.1, fermat_n hn (by omega) cop (by unfold inF at h; omega) (by unfold inF at h; omega)]
  rfl
theorem fpow_fermat {a : Int} (h : inF a) (h0 : a ≠ 0) : fpow a 2130706432 = 1 := fpow_fermat_n rfl h h0
theorem fmul_inv {a : Int} (h : inF a) (h0 : a ≠ 0) : fmul a (finv a) = 1 := by
  have e := fpow_fermat h h0
  unfold finv
  unfold fpow at *
  unfold fmul
  rw [e_mr, Int.mul_comm, ← Int.pow_succ]
  exact e
theorem fpow_dbl (a : Int) (m : Nat) : fpow a (2 * m) = fmul (fpow a m) (fpow a m) := by
  unfold fpow fmul
  rw [e_ml, e_mr, ← Int.mul_pow, pow_sq]
def dbl : Nat → Int → Int
  | 0, x => x
  | n + 1, x => dbl n (fmul x x)
theorem fpow_dbls (a : Int) : ∀ (n m : Nat), fpow a (m * 2 ^ n) = dbl n (fpow a m)
  | 0, m => by rw [Nat.pow_zero, Nat.mul_one]; rfl
  | n + 1, m => by
    rw [Nat.pow_succ, Nat.mul_comm (2 ^ n) 2, ← Nat.mul_assoc, Nat.mul_comm m 2, fpow_dbls a n (2 * m), fpow_dbl]; rfl
/-- Three is no square. -/
theorem three_half : fpow 3 1065353216 = 2130706432 := by
  have h := fpow_dbls 3 23 127
  rw [show 127 * 2 ^ 23 = 1065353216 by decide] at h
  rw [h]
  decide +kernel
theorem fmul_zero_iff {a b : Int} (ha : inF a) (hb : inF b) (h : fmul a b = 0) : a = 0 ∨ b = 0 := by
  by_cases h0 : a = 0
  · exact Or.inl h0
  · refine Or.inr ?_
    have e := fmul_inv ha h0
    have : fmul (fmul a b) (finv a) = b := by
      have e2 : fmul (fmul a b) (finv a) = fmul (fmul a (finv a)) b := by
        unfold fmul
        simp only [e_ml, e_mr]
        congr 1; grind
      rw [e2, e, fmul_comm, fmul_one hb]
    rw [h, fmul_comm, fmul_zero] at this
    exact this.symm
theorem enorm_zero {x : E} (hx : okE x) (h : enorm x = 0) : x = zE := by
  have hs : fmul x.f0 x.f0 = fmul 3 (fmul x.f1 x.f1) := by
    have h1 := inF_mul x.f0 x.f0
    have h2 := inF_mul 3 (fmul x.f1 x.f1)
    unfold enorm fsub at h
    unfold inF at h1 h2
    omega
  by_cases h1 : x.f1 = 0
  · rw [h1, fmul_zero, fmul_zero] at hs
    have h0 : x.f0 = 0 := by rcases fmul_zero_iff hx.a hx.a hs with h | h <;> exact h
    exact E.ext_ h0 h1
  · exfalso
    have hb : fmul x.f1 x.f1 ≠ 0 := fun e => by rcases fmul_zero_iff hx.b hx.b e with h | h <;> exact h1 h
    have ha : x.f0 ≠ 0 := by
      intro e
      rw [e, fmul_zero] at hs
      rcases fmul_zero_iff inF_3 (inF_mul _ _) hs.symm with h | h
      · omega
      · exact hb h
    have e1 : fpow (fmul x.f0 x.f0) 1065353216 = 1 := by
      rw [fpow_mul, ← fpow_dbl]; exact fpow_fermat hx.a ha
    have e2 : fpow (fmul x.f1 x.f1) 1065353216 = 1 := by
      rw [fpow_mul, ← fpow_dbl]; exact fpow_fermat hx.b h1
    rw [hs, fpow_mul, e2, three_half] at e1
    exact absurd e1 (by decide)
theorem emul_comm (x y : E) : emul x y = emul y x := by
  refine E.ext_ ?_ ?_
  · show fadd (fmul x.f0 y.f0) (fmul 3 (fmul x.f1 y.f1)) = fadd (fmul y.f0 x.f0) (fmul 3 (fmul y.f1 x.f1))
    rw [fmul_comm x.f0, fmul_comm x.f1]
  · show fadd (fmul x.f0 y.f1) (fmul x.f1 y.f0) = fadd (fmul y.f0 x.f1) (fmul y.f1 x.f0)
    unfold fadd fmul
    simp only [e_al, e_ar, e_ml, e_mr]
    congr 1; grind
theorem emul_assoc (x y z : E) : emul (emul x y) z = emul x (emul y z) := by
  refine E.ext_ ?_ ?_
  · show fadd (fmul (fadd (fmul x.f0 y.f0) (fmul 3 (fmul x.f1 y.f1))) z.f0) (fmul 3 (fmul (fadd (fmul x.f0 y.f1) (fmul x.f1 y.f0)) z.f1)) = fadd (fmul x.f0 (fadd (fmul y.f0 z.f0) (fmul 3 (fmul y.f1 z.f1)))) (fmul 3 (fmul x.f1 (fadd (fmul y.f0 z.f1) (fmul y.f1 z.f0))))
    unfold fadd fmul
    simp only [e_al, e_ar, e_ml, e_mr]
    congr 1; grind
  · show fadd (fmul (fadd (fmul x.f0 y.f0) (fmul 3 (fmul x.f1 y.f1))) z.f1) (fmul (fadd (fmul x.f0 y.f1) (fmul x.f1 y.f0)) z.f0) = fadd (fmul x.f0 (fadd (fmul y.f0 z.f1) (fmul y.f1 z.f0))) (fmul x.f1 (fadd (fmul y.f0 z.f0) (fmul 3 (fmul y.f1 z.f1))))
    unfold fadd fmul
    simp only [e_al, e_ar, e_ml, e_mr]
    congr 1; grind
theorem emul_one {x : E} (hx : okE x) : emul x (eof 1) = x := by rw [emul_of]; exact scale_one hx
def epw (x : E) : Nat → E
  | 0 => eof 1
  | n + 1 => emul (epw x n) x
theorem ok_epw {x : E} : ∀ n, okE (epw x n)
  | 0 => ok_of inF_1
  | n + 1 => ok_mul _ _
theorem epw_add (x : E) (m : Nat) : ∀ n, epw x (m + n) = emul (epw x m) (epw x n)
  | 0 => (emul_one (ok_epw m)).symm
  | n + 1 => by rw [← Nat.add_assoc, epw, epw_add x m n, epw, emul_assoc]
theorem epw_sq (x : E) : ∀ n, epw (emul x x) n = epw x (2 * n)
  | 0 => rfl
  | n + 1 => by rw [epw, epw_sq x n, show 2 * (n + 1) = 2 * n + 1 + 1 by omega, epw, epw, emul_assoc]
theorem extPow_l0 (d : Nat) (hd : d ≤ 62) : ∀ (n : Nat) (x r : E), n < 2 ^ d → okE x → okE r → ∀ k, d < k →
    impl_Ext_pow.l0 k n x.f0 x.f1 r.f0 r.f1 = some ((emul r (epw x n)).f0, (emul r (epw x n)).f1) := by
  induction d with
  | zero =>
    intro n x r hn hx hr k hk
    obtain ⟨k, rfl⟩ : ∃ m, k = m + 1 := ⟨k - 1, by omega⟩
    obtain rfl : n = 0 := by simp at hn; exact hn
    simp only [impl_Ext_pow.l0]
    rw [if_neg (by omega), show emul r (epw x 0) = r from emul_one hr]
  | succ d ih =>
    intro n x r hn hx hr k hk
    obtain ⟨k, rfl⟩ : ∃ m, k = m + 1 := ⟨k - 1, by omega⟩
    simp only [impl_Ext_pow.l0]
    by_cases h0 : n = 0
    · subst h0
      rw [if_neg (by omega), show emul r (epw x 0) = r from emul_one hr]
    · have hd2 : n < 2 ^ 62 := Nat.lt_of_lt_of_le hn (Nat.pow_le_pow_right (by omega) hd)
      have hn62 : n < 4611686018427387904 := hd2
      have e1 : Go.bits .and .i64 (n : Int) 1 = (n : Int) % 2 := and1 (by omega) (by omega)
      have e4 : (n : Int) / 2 = ((n / 2 : Nat) : Int) := by omega
      have hm : n / 2 < 2 ^ d := by rw [Nat.pow_succ] at hn; omega
      rw [e1, e4, if_pos (by omega)]
      by_cases h1 : (n : Int) % 2 = 1
      · rw [if_pos h1, impl_times_eq hr hx, impl_times_eq hx hx]
        simp only [bS]
        rw [ih (by omega) (n / 2) (emul x x) (emul r x) hm (ok_mul _ _) (ok_mul _ _) k (by omega)]
        have e5 : emul (emul r x) (epw (emul x x) (n / 2)) = emul r (epw x n) := by
          rw [epw_sq, emul_assoc, emul_comm x, ← epw, show (2 * (n / 2)).succ = n by omega]
        rw [e5]
      · rw [if_neg h1, impl_times_eq hx hx]
        simp only [bS]
        rw [ih (by omega) (n / 2) (emul x x) r hm (ok_mul _ _) hr k (by omega), epw_sq, show 2 * (n / 2) = n by omega]
theorem one_emul {x : E} (hx : okE x) : emul (eof 1) x = x := by rw [emul_comm, emul_one hx]
theorem extPow_eq {n : Nat} {x : E} (hn : n < 1000000) (hx : okE x) {k : Nat} (hk : 40 < k) : impl_Ext_pow.f k x.f0 x.f1 n = some ((epw x n).f0, (epw x n).f1) := by
  have h := extPow_l0 40 (by omega) n x (eof 1) (by have : (2 : Nat) ^ 40 = 1099511627776 := by decide
                                                    omega) hx (ok_of inF_1) k hk
  rw [one_emul (ok_epw n)] at h
  exact h
/-- The inverse in the greater field. -/
def einv (x : E) : E := escale ⟨x.f0, fsub 0 x.f1⟩ (finv (enorm x))
theorem ok_einv (x : E) : okE (einv x) := ok_scale _ _
theorem inF_norm (x : E) : inF (enorm x) := inF_sub _ _
theorem einv_mul {x : E} (hx : okE x) (h : x ≠ zE) : emul (einv x) x = eof 1 := by
  have hn : enorm x ≠ 0 := fun e => h (enorm_zero hx e)
  have hi := fmul_inv (inF_norm x) hn
  have e : emul (einv x) x = escale (eof (enorm x)) (finv (enorm x)) := by
    unfold einv
    rw [emul_comm, mul_scale]
    congr 1
    refine E.ext_ ?_ ?_
    · show fadd (fmul x.f0 x.f0) (fmul 3 (fmul x.f1 (fsub 0 x.f1))) = fsub (fmul x.f0 x.f0) (fmul 3 (fmul x.f1 x.f1))
      unfold fadd fmul fsub
      simp only [e_al, e_ar, e_ml, e_mr, e_sl, e_sr]
      congr 1; grind
    · show fadd (fmul x.f0 (fsub 0 x.f1)) (fmul x.f1 x.f0) = 0
      unfold fadd fmul fsub
      simp only [e_al, e_ar, e_ml, e_mr, e_sl, e_sr]
      have : x.f0 * (0 - x.f1) + x.f1 * x.f0 = 0 := by grind
      rw [this]; rfl
  rw [e]
  refine E.ext_ hi ?_
  show fmul 0 _ = 0
  rw [fmul_comm, fmul_zero]
theorem extInverse_eq {x : E} (hx : okE x) {k : Nat} (hk : 40 < k) : impl_Ext_inverse.f k x.f0 x.f1 = some ((einv x).f0, (einv x).f1) := by
  unfold impl_Ext_inverse.f impl_Ext_norm.f
  rw [impl_sub_eq inF_0 hx.b, impl_mul_eq hx.a hx.a, impl_mul_eq hx.b hx.b]
  simp only [bS]
  rw [impl_mul_eq inF_3 (inF_mul _ _)]
  simp only [bS]
  rw [impl_sub_eq (inF_mul _ _) (inF_mul _ _)]
  simp only [bS]
  have hi := impl_inverse_eq (inF_norm x) hk
  rw [show fsub (fmul x.f0 x.f0) (fmul 3 (fmul x.f1 x.f1)) = enorm x from rfl, hi]
  simp only [bS]
  have hs := impl_scaled_eq (x := ⟨x.f0, fsub 0 x.f1⟩) ⟨hx.a, inF_sub _ _⟩ (inF_inv (enorm x))
  rw [show impl_Ext_scaled.f x.f0 (fsub 0 x.f1) (finv (enorm x)) = _ from hs]
  rfl
end Go.Proofs.Ytlfnfalckfggkaa.PT
end
section
/- Powers add, and an inverse is one: nought alone has none. -/
namespace Go.Proofs.Ytlfnfalckfggkaa.fnExtInverse
open Go.Proofs.Ytlfnfalckfggkaa.PT Go.RowKit Go.Proofs.YtlfnfalckfggkaaO
set_option linter.unusedSimpArgs false
theorem bytes_of {l : List Int} (h : ListGood (IntGood .u8) l) : bytesL l := by
  intro x hx
  have e := h.2 x hx
  have e2 : (Lit.int .u8 x).wf = true := e
  simp only [Lit.wf, IntKind.min, IntKind.max, IntKind.signed, IntKind.bits] at e2
  simp at e2
  omega
theorem pow_eq {x : E} (hx : okE x) {n : Int} (h0 : 0 ≤ n) (h1 : n < 1000000) {k : Nat} (hk : 40 < k) : impl_ExtPow.f k x.f0 x.f1 n = some ((epw x n.toNat).f0, (epw x n.toNat).f1, 0) := by
  have e := extPow_eq (n := n.toNat) (by omega) hx hk
  rw [Int.toNat_of_nonneg h0] at e
  unfold impl_ExtPow.f
  rw [impl_ExtOK_eq, etaE, (okB_iff x).2 hx]
  simp only [bS, if_true]
  rw [if_neg (by omega), e]
  simp only [bS]
theorem mul_eq {x y : E} (hx : okE x) (hy : okE y) : impl_ExtMul.f x.f0 x.f1 y.f0 y.f1 = some ((emul x y).f0, (emul x y).f1, 0) := by
  unfold impl_ExtMul.f impl_extTwo_times.f
  rw [impl_ExtOK_eq, impl_ExtOK_eq, etaE, etaE, (okB_iff x).2 hx, (okB_iff y).2 hy]
  simp only [bS, if_true]
  rw [impl_times_eq hx hy]
  simp only [bS]
theorem pureFnExtInverse : Pure := by
  intro x y hx hy
  have hbx := bytes_of hx
  have hby := bytes_of hy
  refine ⟨100 + 1 + 1, ?_⟩
  unfold laws_FnExtInverse.f
  by_cases h1 : (x.length : Int) > 1048576
  · rw [if_pos h1]; rfl
  rw [if_neg h1]
  by_cases h2 : (y.length : Int) > 1048576
  · rw [decide_eq_true h2]; rfl
  rw [decide_eq_false h2]
  simp only [laws_FnExtInverse.j0, Bool.false_eq_true, if_false]
  obtain ⟨a, ea, ha⟩ := ExtOf_ok hbx (k := 100 + 1) (by omega)
  obtain ⟨m, em, hm0, hm1⟩ := at_ok hby (by omega) (a := 0) (n := 40) (by omega) (by omega) (by omega) (by omega)
  obtain ⟨n, en, hn0, hn1⟩ := at_ok hby (by omega) (a := 1) (n := 40) (by omega) (by omega) (by omega) (by omega)
  rw [ea, em, en]
  simp only [bS]
  rw [w64 (n := m + n) (by omega) (by omega), pow_eq ha hm0 (by omega) (by omega), pow_eq ha hn0 (by omega) (by omega), pow_eq ha (n := m + n) (by omega) (by omega) (by omega)]
  simp only [bS]
  rw [mul_eq (ok_epw _) (ok_epw _)]
  have et : (m + n).toNat = m.toNat + n.toNat := by omega
  rw [et, epw_add]
  simp only [bS, if_true, beq_self_eq_true, Bool.not_true, Bool.or_false, laws_FnExtInverse.j1, Bool.false_eq_true, if_false]
  unfold impl_ExtInverse.f
  rw [impl_ExtOK_eq, etaE, (okB_iff a).2 ha]
  simp only [bS, if_true]
  by_cases hz : a = zE
  · have e1 : (a.f0 == 0 && (a.f1 == 0)) = true := by rw [hz]; rfl
    rw [if_pos e1]
    simp only [bS]
    rw [if_pos e1]; rfl
  · have e1 : ¬ (a.f0 == 0 && (a.f1 == 0)) = true := by
      intro e
      rw [Bool.and_eq_true, beq_iff_eq, beq_iff_eq] at e
      exact hz (E.ext_ e.1 e.2)
    rw [if_neg e1, extInverse_eq ha (by omega)]
    simp only [bS]
    rw [if_neg e1, mul_eq (ok_einv a) ha, einv_mul ha hz]
    simp only [bS, if_true, laws_one.f]
    rfl
end Go.Proofs.Ytlfnfalckfggkaa.fnExtInverse
end
