/- Part 5 of the proof of FnSystem: what functions compute, shown step by step, and what that says (the claim's last text states the law). -/
import Derived.Test.YtekijbcblajjbaaProg
import Derived.Test.YtekijbcblajjbaaVMore
import Derived.Test.YtekijbcblajjbaaVWords
import Derived.Test.YtekijbcblajjbaaVLast
import Derived.Test.YtekijbcblajjbaaVTab
import Derived.Test.YtekijbcblajjbaaVQPut
import Derived.Test.YtekijbcblajjbaaVApart
import Derived.Test.YtekijbcblajjbaaVArr
import Derived.Test.YtekijbcblajjbaaVZeros
import Derived.Test.YtekijbcblajjbaaVFoot
import Derived.Test.YtekijbcblajjbaaVKept
import Derived.Test.YtekijbcblajjbaaVShare
import Derived.Test.YtekijbcblajjbaaVN
import Derived.Test.YtekijbcblajjbaaVRepsOne
import Derived.Test.YtekijbcblajjbaaVGuard
import Derived.Test.YtekijbcblajjbaaVNEv
import Derived.Test.YtekijbcblajjbaaRows
import Derived.JoinedOf
import Derived.WalkKit
import Derived.ProofKit
import Derived.Below
import Derived.Deep.Draws
import Derived.Deep.AppendLies
import Derived.Maps.AppendAt
import Derived.OwnWalk
import Derived.Laws.BytesArg
import Derived.Laws.MakeOwn
import Derived.Laws.OwnMore
import Derived.Deep.OwnRows
import Derived.Tactics
import Derived.Lib.ConvBytes
import Derived.Laws.Slices
import Derived.KernelRfl
import Derived.RowKit3
import Derived.Deep.LoopGhost
import Derived.Deep.QuietTactic
import Derived.BigQuiet
import Derived.WideLaws
import Derived.Deep.DeepCutAuto
import Derived.Deep.CutBlock
import Derived.Deep.RegionHeld3
import Derived.Laws.Rows
import Derived.Lib.AppendStr
import Derived.ArgAppend
import Derived.Laws.IdiomCopy
import Derived.OrdersHeld
import Derived.Laws.BitsLemmas
import Derived.RowKit
import Derived.Laws.CopyOwn
import Derived.StillTailTactics
import Derived.OpenShut
import Derived.ShutString
import Derived.ChangeOld
import Derived.SizedLaws
import Derived.Deep.Slices
import Derived.ChangeArms
import Derived.Test.YtekijbcblajjbaaZFnSystem4
section
/- Arguments that are read as data have the kinds' own form: for each kind, compositionally. Own text, for every seat (Ytekijbcblajjbaa: the seat's name). -/
namespace Go.Proofs.YtekijbcblajjbaaO
open Go.RowKit Go.ChangeShapes Go.WideShapes Go.ChangeAt Go.Proofs.YtekijbcblajjbaaW.PrintWords

/-- What is read as data of type T is of the kind d, and good. -/
def Opens {α : Type} {H : Type} (enc : TypeId × Value → H) (P : Program) (w : World) (T : TypeId) (d : Kd α) (good : α → Prop) : Prop :=
 ∀ (fuel : Nat) (cs : List Value) (x : DataW H × List MemPlace), DataW.trod enc P w 0 (fun _ => true) true fuel T cs = some x → ∃ a, d.K w a cs ∧ good a

/-- What is read as a run of fields of these types (each with its cells) is of the kind d, and good. -/
def OpensSeq {α : Type} {H : Type} (enc : TypeId × Value → H) (P : Program) (w : World) (fs : List (TypeId × Nat)) (d : Kd α) (good : α → Prop) : Prop :=
 ∀ (fuel : Nat) (cs : List Value), cs.length = (fs.map (·.2)).sum → (∀ (j : Nat) (T n : Nat), fs[j]? = some (T, n) → ∃ x, DataW.trod enc P w 0 (fun _ => true) true fuel T ((cs.drop ((fs.take j).map (·.2)).sum).take n) = some x) → ∃ a, d.K w a cs ∧ good a

section
variable {H : Type} {enc : TypeId × Value → H} {P : Program} {w : World}

def IntGood (k : IntKind) (a : Int) : Prop := (Lit.int k a).wf = true
def StrGood (a : ByteArray) : Prop := a.size ≤ 9223372036854775807
def ListGood {α : Type} (g : α → Prop) (l : List α) : Prop := l.length ≤ 9223372036854775807 ∧ ∀ x ∈ l, g x

theorem opens_int {T : TypeId} {k : IntKind} (ht : P.underlying T = some (.int k)) : Opens enc P w T (Kd.int k) (IntGood k) := by
 intro fuel cs x h
 obtain ⟨n, rfl, _, hw⟩ := DataW.trod_int ht h
 exact ⟨n, rfl, hw⟩
theorem opens_bool {T : TypeId} (ht : P.underlying T = some .bool) : Opens enc P w T Kd.bool (fun _ => True) := by
 intro fuel cs x h
 obtain ⟨n, rfl, _⟩ := DataW.trod_bool ht h
 exact ⟨n, rfl, trivial⟩
theorem opens_string {T : TypeId} (ht : P.underlying T = some .string) : Opens enc P w T Kd.string StrGood := by
 intro fuel cs x h
 obtain ⟨s, rfl, _, hs⟩ := DataW.trod_string ht h
 exact ⟨s, rfl, (by unfold StrGood; unfold maxLen at hs; omega)⟩

theorem choose_list {α : Type} {n : Nat} {p : Nat → α → Prop} (h : ∀ i, i < n → ∃ a, p i a) : ∃ l : List α, l.length = n ∧ ∀ i a, l[i]? = some a → p i a := by
 induction n with
 | zero => exact ⟨[], rfl, fun i a hi => by simp at hi⟩
 | succ n ih =>
  obtain ⟨l, hl, hp⟩ := ih (fun i hi => h i (by omega))
  obtain ⟨a, ha⟩ := h n (by omega)
  refine ⟨l ++ [a], (by simp [hl]), fun i b hi => ?_⟩
  rcases Nat.lt_or_ge i l.length with hlt | hge
  ·
   rw [List.getElem?_append_left hlt] at hi
   exact hp i b hi
  ·
   rw [List.getElem?_append_right hge] at hi
   have : i - l.length = 0 := by
    rcases Nat.eq_zero_or_pos (i - l.length) with h0 | h0
    ·
     exact h0
    ·
     rw [List.getElem?_eq_none (by simp; omega)] at hi; simp at hi
   rw [this] at hi
   simp at hi
   subst hi
   have : i = n := by omega
   rw [this]
   exact ha

theorem opens_slice {α : Type} {d : Kd α} {good : α → Prop} {T e : TypeId} (ht : P.underlying T = some (.slice e)) (hc : P.cellsOf e = d.sz) (ho : Opens enc P w e d good) : Opens enc P w T (Kd.slice e d) (ListGood good) := by
 intro fuel cs x h
 rcases Deep.open_slice ht h with ⟨rfl, _⟩ | ⟨a, len, cap, m, n, D, Pl, rfl, _, hl, hm, hmm, _, hx⟩
 ·
  exact ⟨[], ⟨none, 0, rfl, Nat.le_refl _, ⟨rfl, (by simp), fun h0 => by simp at h0⟩⟩, ⟨(by simp), fun x hx => by simp at hx⟩⟩
 ·
  have hle : len ≤ m := by rw [hmm]; split <;> omega
  have hex : ∀ i, i < len → ∃ b : α, (∃ c, c.length = d.sz ∧ d.K w b c ∧ ∀ j u, c[j]? = some u → w.cell? (a.add (i * d.sz + j)) = some u) ∧ good b := by
   intro i hi
   obtain ⟨cs', h1, h2⟩ := hx i (by omega)
   obtain ⟨b, hK, hg⟩ := ho _ _ _ h2
   obtain ⟨_, hlen, hcell⟩ := World.cells?_some h1
   refine ⟨b, ⟨cs', (by rw [hlen, hc]), hK, fun j u hu => ?_⟩, hg⟩
   have hj : j < P.cellsOf e := by
    rw [← hlen]
    exact (List.getElem?_eq_some_iff.1 hu).1
   rw [← Deep.add_add, ← hc, hcell j hj, hu]
  obtain ⟨l, hll, hp⟩ := choose_list hex
  unfold maxLen at hm
  refine ⟨l, ⟨some a, cap, by rw [hll], by omega, ⟨rfl, by omega, fun _ => ⟨a, rfl, fun j p hj => (hp j p hj).1⟩⟩⟩, ⟨(by omega), fun x hx => ?_⟩⟩
  obtain ⟨i, hi, rfl⟩ := List.getElem_of_mem hx
  exact (hp i _ (List.getElem?_eq_getElem hi)).2

theorem opensSeq_one {α : Type} {d : Kd α} {good : α → Prop} {T n : Nat} (ho : Opens enc P w T d good) : OpensSeq enc P w [(T, n)] d good := by
 intro fuel cs hlen h
 obtain ⟨x, hx⟩ := h 0 T n rfl
 simp at hlen
 simp [List.take_of_length_le (Nat.le_of_eq hlen)] at hx
 exact ho _ _ _ hx
theorem opensSeq_cons {α β : Type} {d : Kd α} {good : α → Prop} {d2 : Kd β} {good2 : β → Prop} {T n : Nat} {fs : List (TypeId × Nat)} (ho : Opens enc P w T d good) (hs : OpensSeq enc P w fs d2 good2) :
  OpensSeq enc P w ((T, n) :: fs) (Kd.pair d d2) (fun x => good x.1 ∧ good2 x.2) := by
 intro fuel cs hlen h
 obtain ⟨x, hx⟩ := h 0 T n rfl
 simp at hx
 obtain ⟨a, hK, hg⟩ := ho _ _ _ hx
 simp only [List.map_cons, List.sum_cons] at hlen
 obtain ⟨b, hK2, hg2⟩ := hs fuel (cs.drop n) (by rw [List.length_drop, hlen]; omega) (fun j T' n' hj => by
  obtain ⟨y, hy⟩ := h (j + 1) T' n' (by simpa using hj)
  refine ⟨y, ?_⟩
  simp only [List.take_succ_cons, List.map_cons, List.sum_cons] at hy
  rw [List.drop_drop]
  exact hy)
 exact ⟨(a, b), ⟨cs.take n, cs.drop n, (List.take_append_drop n cs).symm, hK, hK2⟩, hg, hg2⟩

/-- A struct whose fields stand one behind the other. -/
theorem opens_struct {α β : Type} {d : Kd α} {good : α → Prop} {T : TypeId} {fs : Array Field} {l : List (TypeId × Nat)} (f : β → α) (g : α → β) (hfg : ∀ a, f (g a) = a) (ht : P.underlying T = some (.struct fs))
  (hl : l.length = fs.size) (hf : ∀ (j : Nat) (T' n : Nat), l[j]? = some (T', n) → ∃ fd, fs[j]? = some fd ∧ fd.type = T' ∧ P.cellsOf T' = n ∧ fd.offset = ((l.take j).map (·.2)).sum) (hc : P.cellsOf T = (l.map (·.2)).sum)
  (hs : OpensSeq enc P w l d good) : Opens enc P w T (Kd.iso d f) (fun x => good (f x)) := by
 intro fuel cs x h
 obtain ⟨xs, n, _, _, hlen, hxl, hx⟩ := DataW.trod_struct ht h
 obtain ⟨a, hK, hg⟩ := hs n cs (by rw [hlen, hc]) (fun j T' n' hj => by
  obtain ⟨fd, h1, h2, h3, h4⟩ := hf j T' n' hj
  have h5 := hx j fd h1
  have hj2 : j < xs.length := by
   have := (List.getElem?_eq_some_iff.1 hj).1
   omega
  rw [List.getElem?_eq_getElem hj2, h2, h3, h4] at h5
  exact ⟨_, h5⟩)
 refine ⟨g a, ?_, ?_⟩
 ·
  show d.K w (f (g a)) cs
  rw [hfg]; exact hK
 ·
  show good (f (g a))
  rw [hfg]; exact hg
end
end Go.Proofs.YtekijbcblajjbaaO
end
section
namespace Go.Proofs.Ytekijbcblajjbaa.fnSystem
open Go.RowKit Go.ChangeShapes Go.WideShapes Go.ChangeAt Go.Proofs.YtekijbcblajjbaaO Go.Proofs.Ytekijbcblajjbaa.PT Go.Proofs.YtekijbcblajjbaaW.PrintWords Go.Proofs.YtekijbcblajjbaaW.PrintLast
set_option linter.unusedVariables false
theorem opensT5 {H : Type} {enc : TypeId × Value → H} {w : World} : Opens enc Try.prog w 5 (Kd.int .u8) (IntGood .u8) := opens_int Try.underlying5
theorem opensT46 {H : Type} {enc : TypeId × Value → H} {w : World} : Opens enc Try.prog w 46 (Kd.slice 5 (Kd.int .u8)) (ListGood (IntGood .u8)) := opens_slice Try.underlying46 (by kernel_rfl) opensT5
/-- What is to be shown of the law, over numbers and lists alone. -/
def Pure : Prop := ∀ (x0 : List Int) (x1 : List Int), (ListGood (IntGood .u8)) x0 → (ListGood (IntGood .u8)) x1 → ∃ k, laws_FnSystem.f k x0 x1 = some true
end Go.Proofs.Ytekijbcblajjbaa.fnSystem
end
section
/- The field and the greater field, over whole numbers: what the printed functions of chapters 2 and 3 come to. -/
namespace Go.Proofs.Ytekijbcblajjbaa.PT
open Go.RowKit Go.Proofs.YtekijbcblajjbaaW.PrintWords Go.Proofs.YtekijbcblajjbaaW.PrintLast Go.Proofs.YtekijbcblajjbaaW.PrintMore
set_option linter.unusedVariables false
set_option linter.unusedSimpArgs false

theorem w64 {n : Int} (h0 : -9223372036854775808 ≤ n) (h1 : n ≤ 9223372036854775807) : wrap64 n = n := by unfold wrap64; omega
theorem tmod_nn {a b : Int} (h : 0 ≤ a) : Int.tmod a b = a % b := Int.tmod_eq_emod_of_nonneg h
theorem tdiv_nn {a b : Int} (h : 0 ≤ a) : Int.tdiv a b = a / b := Int.tdiv_eq_ediv_of_nonneg h

def inF (a : Int) : Prop := 0 ≤ a ∧ a ≤ 2130706432
instance (a : Int) : Decidable (inF a) := by unfold inF; infer_instance
def fadd (a b : Int) : Int := (a + b) % 2130706433
def fmul (a b : Int) : Int := (a * b) % 2130706433
theorem inF_add (a b : Int) : inF (fadd a b) := by unfold inF fadd; omega
theorem inF_mul (a b : Int) : inF (fmul a b) := by unfold inF fmul; omega
theorem mul_bd {a b : Int} (ha : inF a) (hb : inF b) : 0 ≤ a * b ∧ a * b ≤ 4539909903617114624 := by
 obtain ⟨h1, h2⟩ := ha
 obtain ⟨h3, h4⟩ := hb
 refine ⟨Int.mul_nonneg h1 h3, Int.le_trans (Int.mul_le_mul h2 h4 h3 (by omega)) (by decide)⟩
theorem inF_0 : inF 0 := by decide
end Go.Proofs.Ytekijbcblajjbaa.PT
end
section
/- What the printed functions of the field and of the greater field answer: the same sums and products on both sides. -/
namespace Go.Proofs.Ytekijbcblajjbaa.PT
open Go.RowKit Go.Proofs.YtekijbcblajjbaaW.PrintWords Go.Proofs.YtekijbcblajjbaaW.PrintLast Go.Proofs.YtekijbcblajjbaaW.PrintMore
set_option linter.unusedVariables false
set_option linter.unusedSimpArgs false

theorem impl_in_eq (a b c : Int) : impl_in.f a b c = some (decide (b ≤ a ∧ a ≤ c)) := by
 unfold impl_in.f; by_cases h : b ≤ a <;> simp [h]
theorem spec_l01In_eq (a b c : Int) : spec_l01In.f a b c = some (decide (b ≤ a ∧ a ≤ c)) := by
 unfold spec_l01In.f; by_cases h : b ≤ a <;> simp [h]
theorem impl_FieldOK_eq (a : Int) : impl_FieldOK.f a = some (decide (inF a)) := by
 unfold impl_FieldOK.f; rw [impl_in_eq]; rfl
theorem spec_FieldOK_eq (a : Int) : spec_FieldOK.f a = some (decide (inF a)) := by
 unfold spec_FieldOK.f; rw [spec_l01In_eq]; rfl
theorem impl_add_eq {a b : Int} (ha : inF a) (hb : inF b) : impl_add.f a b = some (fadd a b) := by
 unfold inF at ha hb; unfold impl_add.f fadd; rw [w64 (by omega) (by omega), tmod_nn (by omega)]
theorem impl_mul_eq {a b : Int} (ha : inF a) (hb : inF b) : impl_mul.f a b = some (fmul a b) := by
 have := mul_bd ha hb
 unfold impl_mul.f fmul; rw [w64 (by omega) (by omega), tmod_nn (by omega)]
/-! lists -/
end Go.Proofs.Ytekijbcblajjbaa.PT
end
section
/- The laws' own helpers: elements copied, compared, marked; and powers of two. -/
namespace Go.Proofs.Ytekijbcblajjbaa.PT
open Go.RowKit Go.Proofs.YtekijbcblajjbaaW.PrintWords Go.Proofs.YtekijbcblajjbaaW.PrintLast Go.Proofs.YtekijbcblajjbaaW.PrintMore
set_option linter.unusedVariables false
set_option linter.unusedSimpArgs false

theorem getD_at {α : Type} {l : List α} {z : α} {i : Nat} (h : i < l.length) : l.getD i z = l[i] := by
 rw [List.getD_eq_getElem?_getD, List.getElem?_eq_getElem h]; rfl
/-! marks: a list's cells are numbered from k on -/
/-! powers of two -/
def pow2B (n most : Int) : Bool := decide (n ≤ most) && (n == 1 || n == 2 || n == 4 || n == 8 || n == 16 || n == 32 || n == 64 || n == 128 || n == 256 || n == 512)
theorem and_small : ∀ n : Fin 513, 0 < n.val → ((Go.bits .and .i64 (n.val : Int) ((n.val : Int) - 1)) == 0) = pow2B n.val 512 := by decide +kernel
theorem impl_isPower_eq {n most : Int} (hm : most ≤ 512) : impl_isPower.f n most = some (pow2B n most) := by
 unfold impl_isPower.f
 rw [impl_in_eq]
 simp only [Option.bind_some]
 by_cases h : 1 ≤ n ∧ n ≤ most
 ·
  rw [decide_eq_true h, if_pos rfl, w64 (by omega) (by omega)]
  have := and_small ⟨n.toNat, (by omega)⟩ (by show 0 < n.toNat; omega)
  simp only [Int.toNat_of_nonneg (show 0 ≤ n by omega)] at this
  rw [this]
  unfold pow2B
  rw [decide_eq_true h.2, decide_eq_true (show n ≤ 512 by omega)]
 ·
  rw [decide_eq_false h, if_neg (by decide)]
  congr 1
  symm
  unfold pow2B
  by_cases h2 : n ≤ most
  ·
   have : n < 1 := by omega
   have e : ∀ m : Int, 1 ≤ m → (n == m) = false := fun m hm => beq_eq_false_iff_ne.2 (by omega)
   simp [e]
  ·
   rw [decide_eq_false h2]; rfl
end Go.Proofs.Ytekijbcblajjbaa.PT
end
section
/- Steps that several laws share: same answers compared, lists turned in place. -/
namespace Go.Proofs.Ytekijbcblajjbaa.PT
open Go.RowKit Go.Proofs.YtekijbcblajjbaaW.PrintWords Go.Proofs.YtekijbcblajjbaaW.PrintLast Go.Proofs.YtekijbcblajjbaaW.PrintMore
set_option linter.unusedVariables false
set_option linter.unusedSimpArgs false
/-- A step with its answer known, as a rewriting (no unfolding in the kernel). -/
theorem bS {α β : Type} (a : α) (f : α → Option β) : (some a).bind f = f a := Eq.trans (Eq.refl _) (Option.bind_some a f)
end Go.Proofs.Ytekijbcblajjbaa.PT
end
section
/- The equality weight, at a point and as a table: both sides walk the same numbers. -/
namespace Go.Proofs.Ytekijbcblajjbaa.PT
open Go.RowKit Go.Proofs.YtekijbcblajjbaaW.PrintWords Go.Proofs.YtekijbcblajjbaaW.PrintLast Go.Proofs.YtekijbcblajjbaaW.PrintMore
set_option linter.unusedVariables false
set_option linter.unusedSimpArgs false
/-! the table -/
end Go.Proofs.Ytekijbcblajjbaa.PT
end
section
/- Entries and matrices: the laws' helpers, and what both sides answer. -/
namespace Go.Proofs.Ytekijbcblajjbaa.PT
open Go.RowKit Go.Proofs.YtekijbcblajjbaaW.PrintWords Go.Proofs.YtekijbcblajjbaaW.PrintLast Go.Proofs.YtekijbcblajjbaaW.PrintMore
set_option linter.unusedVariables false
set_option linter.unusedSimpArgs false
theorem rdEntryS {l : List S53} {i : Nat} (h : i < l.length) : rd_T53 l (i : Int) = l[i] := by
 show l.getD (i : Int).toNat z53 = l[i]
 rw [Int.toNat_natCast, getD_at h]
theorem rdI {l : List Int} {i : Nat} (h : i < l.length) : rd l (i : Int) = l[i] := by
 show l.getD (i : Int).toNat 0 = l[i]
 rw [Int.toNat_natCast, getD_at h]
/-! matrices -/
def befB (x y : S53) : Bool := decide (x.f0 < y.f0 ∨ (x.f0 = y.f0 ∧ x.f1 < y.f1))
theorem order_eq (x y : S53) {k : Nat} (hk : 5 < k) : ∃ r, impl_Entry_order.f k x.f0 x.f1 x.f2 y.f0 y.f1 y.f2 = some r ∧ (¬ r ≥ 0 ↔ befB x y = true) := by
 obtain ⟨k, rfl⟩ : ∃ m, k = m + 1 + 1 + 1 := ⟨k - 3, (by omega)⟩
 have cmp : ∀ a b : Int, cmp_Compare_int.f a b = some (if a < b then -1 else if a > b then 1 else 0) := by
  intro a b
  unfold cmp_Compare_int.f cmp_isNaN_int.f
  simp only [bne_self_eq_false, bS, Bool.false_eq_true, if_false]
  by_cases h : a < b
  ·
   rw [if_pos h, if_pos h]
  ·
   rw [if_neg h, if_neg h]
   by_cases h2 : a > b
   ·
    rw [if_pos h2, if_pos h2]
   ·
    rw [if_neg h2, if_neg h2]
 unfold impl_Entry_order.f
 rw [cmp, cmp]
 simp only [bS, cmp_Or_int.f]
 have w0 : wrap64 ((0 : Int) + 1) = 1 := w64 (by omega) (by omega)
 have w1 : wrap64 ((1 : Int) + 1) = 2 := w64 (by omega) (by omega)
 have r0 : ∀ p q : Int, rd [p, q] 0 = p := fun _ _ => rfl
 have r1 : ∀ p q : Int, rd [p, q] 1 = q := fun _ _ => rfl
 have hl : ∀ p q : Int, (([p, q] : List Int).length : Int) = 2 := fun _ _ => rfl
 simp only [cmp_Or_int.l0, hl, r0, r1, w0, w1]
 unfold befB
 by_cases h1 : x.f0 < y.f0
 ·
  rw [if_pos h1]
  exact ⟨-1, (by simp), (by simp [h1])⟩
 ·
  rw [if_neg h1]
  by_cases h2 : x.f0 > y.f0
  ·
   rw [if_pos h2]
   refine ⟨1, (by simp), ?_⟩
   simp only [decide_eq_true_eq]
   omega
  ·
   rw [if_neg h2]
   by_cases h3 : x.f1 < y.f1
   ·
    rw [if_pos h3]
    refine ⟨-1, (by simp), ?_⟩
    simp only [decide_eq_true_eq]
    omega
   ·
    rw [if_neg h3]
    by_cases h4 : x.f1 > y.f1
    ·
     rw [if_pos h4]
     refine ⟨1, (by simp), ?_⟩
     simp only [decide_eq_true_eq]
     omega
    ·
     rw [if_neg h4]
     refine ⟨0, (by simp), ?_⟩
     simp only [decide_eq_true_eq]
     omega
/-- All entries lie within r rows and c columns, are of the field and not nought, and stand in order. -/
def entB (r c : Int) (x : S53) : Bool := decide (0 ≤ x.f0 ∧ x.f0 ≤ r - 1) && decide (0 ≤ x.f1 ∧ x.f1 ≤ c - 1) && decide (1 ≤ x.f2 ∧ x.f2 ≤ 2130706432)
def matB (r c : Int) : List S53 → Bool
 | [] => true
 | [x] => entB r c x
 | x :: y :: zs => entB r c x && (befB x y && matB r c (y :: zs))
def matFrom (r c : Int) (l : List S53) (i : Nat) : Bool := (decide (i = 0) || decide (l.length ≤ i) || befB (l.getD (i - 1) z53) (l.getD i z53)) && matB r c (l.drop i)
theorem matFrom_step (r c : Int) (l : List S53) (i : Nat) (h : i < l.length) :
  matFrom r c l i = (entB r c l[i] && ((decide (i = 0) || befB (l.getD (i - 1) z53) l[i]) && matFrom r c l (i + 1))) := by
 unfold matFrom
 have e1 : decide (l.length ≤ i) = false := decide_eq_false (by omega)
 rw [e1, Bool.or_false, getD_at h, List.drop_eq_getElem_cons h]
 have e2 : decide (i + 1 = 0) = false := decide_eq_false (by omega)
 rw [e2, Bool.false_or, Nat.add_sub_cancel, getD_at h]
 by_cases h2 : l.length ≤ i + 1
 ·
  rw [decide_eq_true h2, List.drop_eq_nil_of_le h2, Bool.true_or, Bool.true_and, matB, matB, Bool.and_true]
  cases entB r c l[i] <;> cases (decide (i = 0) || befB (l.getD (i - 1) z53) l[i]) <;> rfl
 ·
  have h3 : i + 1 < l.length := by omega
  rw [decide_eq_false h2, Bool.false_or, getD_at h3, List.drop_eq_getElem_cons h3, matB]
  cases entB r c l[i] <;> cases (decide (i = 0) || befB (l.getD (i - 1) z53) l[i]) <;> rfl
theorem isMatrix_l0 (l : List S53) (hl : l.length ≤ 1048576) (r c : Int) (hr : 0 ≤ r) (hr2 : r ≤ 1000000) (hc : 0 ≤ c) (hc2 : c ≤ 1000000) (d : Nat) : ∀ (k i : Nat), i + d = l.length → d + 10 < k →
  impl_isMatrix.l0 k l r c l (l.length : Int) i = some (matFrom r c l i && decide (l.length ≤ 200)) := by
 induction d with
 | zero =>
  intro k i hi hk
  obtain ⟨k, rfl⟩ : ∃ m, k = m + 1 := ⟨k - 1, (by omega)⟩
  simp only [impl_isMatrix.l0]
  have e : matFrom r c l i = true := by unfold matFrom; rw [List.drop_eq_nil_of_le (by omega), decide_eq_true (show l.length ≤ i by omega)]; simp [matB]
  rw [if_neg (by omega), e, Bool.true_and]
  congr 1
  rw [Bool.eq_iff_iff, decide_eq_true_eq, decide_eq_true_eq]; omega
 | succ d ih =>
  intro k i hi hk
  obtain ⟨k, rfl⟩ : ∃ m, k = m + 1 := ⟨k - 1, (by omega)⟩
  have hlt : i < l.length := by omega
  simp only [impl_isMatrix.l0]
  rw [if_pos (show (i : Int) < (l.length : Int) by omega), if_pos (show 0 ≤ (i : Int) by omega), if_pos (show (i : Int) < (l.length : Int) by omega), rdEntryS hlt, impl_in_eq, impl_in_eq, impl_in_eq, matFrom_step r c l i hlt,
   w64 (n := r - 1) (by omega) (by omega), w64 (n := c - 1) (by omega) (by omega), w64 (n := (i : Int) + 1) (by omega) (by omega), show (i : Int) + 1 = ((i + 1 : Nat) : Int) by omega]
  simp only [bS]
  by_cases h1 : 0 ≤ (l[i]).f0 ∧ (l[i]).f0 ≤ r - 1
  ·
   by_cases h2 : 0 ≤ (l[i]).f1 ∧ (l[i]).f1 ≤ c - 1
   ·
    by_cases h3 : 1 ≤ (l[i]).f2 ∧ (l[i]).f2 ≤ 2130706432
    ·
     have e : entB r c l[i] = true := by unfold entB; rw [decide_eq_true h1, decide_eq_true h2, decide_eq_true h3]; rfl
     rw [decide_eq_true h1, decide_eq_true h2, decide_eq_true h3, e]
     simp only [if_true, Bool.true_and]
     by_cases h4 : i = 0
     ·
      rw [if_neg (by omega), decide_eq_true h4, Bool.true_or, Bool.true_and]
      exact ih k (i + 1) (by omega) (by omega)
     ·
      have hp : i - 1 < l.length := by omega
      have ei : (i : Int) - 1 = ((i - 1 : Nat) : Int) := by omega
      rw [if_pos (by omega), w64 (n := (i : Int) - 1) (by omega) (by omega), ei, if_pos (by omega), if_pos (by omega), rdEntryS hp, decide_eq_false h4, Bool.false_or, getD_at hp]
      obtain ⟨q, e5, e6⟩ := order_eq l[i - 1] l[i] (k := k) (by omega)
      rw [e5]
      simp only [bS]
      by_cases h5 : q ≥ 0
      ·
       have e7 : befB l[i - 1] l[i] = false := by
        rw [Bool.eq_false_iff]; intro h; exact (e6.2 h) h5
       rw [if_pos h5, e7]; rfl
      ·
       rw [if_neg h5, e6.1 h5, Bool.true_and]
       exact ih k (i + 1) (by omega) (by omega)
    ·
     have e : entB r c l[i] = false := by unfold entB; rw [decide_eq_false h3, Bool.and_false]
     rw [decide_eq_true h1, decide_eq_true h2, decide_eq_false h3, e]; rfl
   ·
    have e : entB r c l[i] = false := by unfold entB; rw [decide_eq_false h2, Bool.and_false, Bool.false_and]
    rw [decide_eq_true h1, decide_eq_false h2, e]; rfl
  ·
   have e : entB r c l[i] = false := by unfold entB; rw [decide_eq_false h1, Bool.false_and, Bool.false_and]
   rw [decide_eq_false h1, e]; rfl
def matOK (r c : Int) (l : List S53) : Bool := matB r c l && decide (l.length ≤ 200)
theorem isMatrix_eq {l : List S53} (hl : l.length ≤ 1048576) {r c : Int} (hr : 0 ≤ r) (hr2 : r ≤ 1000000) (hc : 0 ≤ c) (hc2 : c ≤ 1000000) {k : Nat} (hk : l.length + 10 < k) : impl_isMatrix.f k l r c = some (matOK r c l) := by
 have h := isMatrix_l0 l hl r c hr hr2 hc hc2 l.length k 0 (by omega) hk
 have e : matFrom r c l 0 = matB r c l := by unfold matFrom; rw [List.drop_zero]; simp
 rw [Int.natCast_zero, e] at h
 exact h
end Go.Proofs.Ytekijbcblajjbaa.PT
end
section
/- Tables turned in place, folded, and read at a point: both sides walk the same numbers. -/
namespace Go.Proofs.Ytekijbcblajjbaa.PT
open Go.RowKit Go.Proofs.YtekijbcblajjbaaW.PrintWords Go.Proofs.YtekijbcblajjbaaW.PrintLast Go.Proofs.YtekijbcblajjbaaW.PrintMore
set_option linter.unusedVariables false
set_option linter.unusedSimpArgs false
/-! a table turned in place -/
/-! a table folded -/
/-! a table at a point -/
theorem shlS_0 : ∀ n : Fin 10, shl .i64 1 (n.val : Int) = ((2 ^ n.val : Nat) : Int) := by decide +kernel
theorem shlS_ {n : Nat} (h : n < 10) : shl .i64 1 (n : Int) = ((2 ^ n : Nat) : Int) := shlS_0 ⟨n, h⟩
end Go.Proofs.Ytekijbcblajjbaa.PT
end
section
/- Powers, inverses and the line: what the printed functions of chapter 2 come to. -/
namespace Go.Proofs.Ytekijbcblajjbaa.PT
open Go.RowKit Go.Proofs.YtekijbcblajjbaaW.PrintWords Go.Proofs.YtekijbcblajjbaaW.PrintLast Go.Proofs.YtekijbcblajjbaaW.PrintMore
set_option linter.unusedVariables false
set_option linter.unusedSimpArgs false
end Go.Proofs.Ytekijbcblajjbaa.PT
end
section
/- Words: their transform, its inverse, and a word folded: both sides walk the same numbers. -/
namespace Go.Proofs.Ytekijbcblajjbaa.PT
open Go.RowKit Go.Proofs.YtekijbcblajjbaaW.PrintWords Go.Proofs.YtekijbcblajjbaaW.PrintLast Go.Proofs.YtekijbcblajjbaaW.PrintMore
set_option linter.unusedVariables false
set_option linter.unusedSimpArgs false
theorem u64w {n : Int} (h0 : 0 ≤ n) (h1 : n ≤ 4611686018427387904) : IntKind.u64.wrap n = n := by
 simp only [IntKind.wrap, IntKind.bits, IntKind.signed]; simp; omega
/-! logarithms and roots -/
/-! a pair folded -/
/-! the transform -/
end Go.Proofs.Ytekijbcblajjbaa.PT
end
section
/- The field's order is a prime: powers, inverses and the greater field's laws. -/
namespace Go.Proofs.Ytekijbcblajjbaa.PT
open Go.RowKit Go.Proofs.YtekijbcblajjbaaW.PrintWords Go.Proofs.YtekijbcblajjbaaW.PrintLast Go.Proofs.YtekijbcblajjbaaW.PrintMore
set_option linter.unusedVariables false
set_option linter.unusedSimpArgs false
end Go.Proofs.Ytekijbcblajjbaa.PT
end
section
/- Matrices times numbers, and matrices at points: both sides walk the same numbers. -/
namespace Go.Proofs.Ytekijbcblajjbaa.PT
open Go.RowKit Go.Proofs.YtekijbcblajjbaaW.PrintWords Go.Proofs.YtekijbcblajjbaaW.PrintLast Go.Proofs.YtekijbcblajjbaaW.PrintMore
set_option linter.unusedVariables false
set_option linter.unusedSimpArgs false
theorem matB_all {r c : Int} : ∀ {l : List S53}, matB r c l = true → ∀ x ∈ l, entB r c x = true
 | [], _, x, h => by cases h
 | [y], h, x, hx => by rw [List.mem_singleton.mp hx]; exact h
 | y :: z :: zs, h, x, hx => by
  rw [matB, Bool.and_eq_true, Bool.and_eq_true] at h
  rcases List.mem_cons.mp hx with rfl | hx
  ·
   exact h.1
  ·
   exact matB_all h.2.2 x hx
theorem entB_iff {r c : Int} {x : S53} (h : entB r c x = true) : (0 ≤ x.f0 ∧ x.f0 < r) ∧ (0 ≤ x.f1 ∧ x.f1 < c) ∧ inF x.f2 := by
 unfold entB at h
 rw [Bool.and_eq_true, Bool.and_eq_true, decide_eq_true_eq, decide_eq_true_eq, decide_eq_true_eq] at h
 unfold inF
 omega
theorem l10List_l0 (l : List S53) (hl : l.length ≤ 200) (s t : Nat) (hs : s ≤ 9) (ht : t ≤ 9) (d : Nat) : ∀ (k i : Nat), i + d = l.length → 2 * d < k →
  spec_l10List.l0 k l s t i = some (matFrom ((2 ^ s : Nat) : Int) ((2 ^ t : Nat) : Int) l i) := by
 have hps : 2 ^ s ≤ 512 := Nat.le_trans (Nat.pow_le_pow_right (by omega) hs) (by decide)
 have hpt : 2 ^ t ≤ 512 := Nat.le_trans (Nat.pow_le_pow_right (by omega) ht) (by decide)
 induction d with
 | zero =>
  intro k i hi hk
  obtain ⟨k, rfl⟩ : ∃ m, k = m + 1 := ⟨k - 1, (by omega)⟩
  simp only [spec_l10List.l0]
  have e : matFrom ((2 ^ s : Nat) : Int) ((2 ^ t : Nat) : Int) l i = true := by unfold matFrom; rw [List.drop_eq_nil_of_le (by omega), decide_eq_true (show l.length ≤ i by omega)]; simp [matB]
  rw [if_neg (by omega), e]
 | succ d ih =>
  intro k i hi hk
  obtain ⟨k, rfl⟩ : ∃ m, k = m + 1 + 1 := ⟨k - 2, (by omega)⟩
  have hlt : i < l.length := by omega
  have hr0 : (0 : Int) ≤ ((2 ^ s : Nat) : Int) := Int.natCast_nonneg _
  have hr1 : ((2 ^ s : Nat) : Int) ≤ 512 := Int.ofNat_le.mpr hps
  have hc0 : (0 : Int) ≤ ((2 ^ t : Nat) : Int) := Int.natCast_nonneg _
  have hc1 : ((2 ^ t : Nat) : Int) ≤ 512 := Int.ofNat_le.mpr hpt
  generalize hr : ((2 ^ s : Nat) : Int) = r at *
  generalize hc : ((2 ^ t : Nat) : Int) = c at *
  have es : shl .i64 1 (s : Int) = r := by rw [shlS_ (by omega), hr]
  have et : shl .i64 1 (t : Int) = c := by rw [shlS_ (by omega), hc]
  simp only [spec_l10List.l0]
  rw [if_pos (show (i : Int) < (l.length : Int) by omega), if_pos (show 0 ≤ (i : Int) by omega), u64w (n := (s : Int)) (by omega) (by omega), u64w (n := (t : Int)) (by omega) (by omega), if_pos (show 0 ≤ (s : Int) by omega), es, et, rdEntryS hlt, spec_l01In_eq, spec_l01In_eq, spec_l01In_eq, matFrom_step r c l i hlt,
   w64 (n := r - 1) (by omega) (by omega), w64 (n := c - 1) (by omega) (by omega)]
  simp only [bS]
  have bad : ∀ x y z, spec_l10List.j1 (k + 1) l s t i true x y z = some false := by intro x y z; simp only [spec_l10List.j1, if_true]
  by_cases h1 : 0 ≤ (l[i]).f0 ∧ (l[i]).f0 ≤ r - 1
  ·
   rw [decide_eq_true h1]
   simp only [if_true]
   rw [if_pos (show 0 ≤ (t : Int) by omega)]
   by_cases h2 : 0 ≤ (l[i]).f1 ∧ (l[i]).f1 ≤ c - 1
   ·
    rw [decide_eq_true h2]
    simp only [if_true]
    by_cases h3 : 1 ≤ (l[i]).f2 ∧ (l[i]).f2 ≤ 2130706432
    ·
     have e : entB r c l[i] = true := by unfold entB; rw [decide_eq_true h1, decide_eq_true h2, decide_eq_true h3]; rfl
     rw [decide_eq_true h3, e]
     simp only [Bool.not_true, Bool.true_and, spec_l10List.j1, Bool.false_eq_true, if_false]
     rw [w64 (n := (i : Int) + 1) (by omega) (by omega), show (i : Int) + 1 = ((i + 1 : Nat) : Int) by omega]
     by_cases h4 : i = 0
     ·
      rw [if_neg (by omega), decide_eq_true h4, Bool.true_or, Bool.true_and]
      exact ih k (i + 1) (by omega) (by omega)
     ·
      have hp : i - 1 < l.length := by omega
      have ei : (i : Int) - 1 = ((i - 1 : Nat) : Int) := by omega
      rw [if_pos (by omega), w64 (n := (i : Int) - 1) (by omega) (by omega), ei, if_pos (by omega), if_pos (by omega), rdEntryS hp, decide_eq_false h4, Bool.false_or, getD_at hp]
      unfold befB
      by_cases h5 : (l[i - 1]).f0 > (l[i]).f0
      ·
       rw [if_pos h5, decide_eq_false (by omega)]; rfl
      ·
       rw [if_neg h5]
       by_cases h6 : (l[i - 1]).f0 = (l[i]).f0
       ·
        rw [if_pos h6]
        by_cases h7 : (l[i - 1]).f1 ≥ (l[i]).f1
        ·
         rw [if_pos h7, decide_eq_false (by omega)]; rfl
        ·
         rw [if_neg h7, decide_eq_true (by omega), Bool.true_and]
         exact ih k (i + 1) (by omega) (by omega)
       ·
        rw [if_neg h6, decide_eq_true (by omega), Bool.true_and]
        exact ih k (i + 1) (by omega) (by omega)
    ·
     have e : entB r c l[i] = false := by unfold entB; rw [decide_eq_false h3, Bool.and_false]
     rw [decide_eq_false h3, e, Bool.not_false, bad]; rfl
   ·
    have e : entB r c l[i] = false := by unfold entB; rw [decide_eq_false h2, Bool.and_false, Bool.false_and]
    rw [decide_eq_false h2, e]
    simp only [Bool.false_eq_true, if_false]
    rw [bad]; rfl
  ·
   have e : entB r c l[i] = false := by unfold entB; rw [decide_eq_false h1, Bool.false_and, Bool.false_and]
   rw [decide_eq_false h1, e]
   simp only [Bool.false_eq_true, if_false]
   rw [bad]; rfl
theorem l10List_eq {l : List S53} {s t : Nat} (hs : s ≤ 9) (ht : t ≤ 9) {k : Nat} (hk : 500 < k) : spec_l10List.f k l s t = some (matOK ((2 ^ s : Nat) : Int) ((2 ^ t : Nat) : Int) l) := by
 unfold spec_l10List.f matOK
 by_cases h : (l.length : Int) > 200
 ·
  rw [if_pos h, decide_eq_false (by omega), Bool.and_false]
 ·
  have e := l10List_l0 l (by omega) s t hs ht l.length k 0 (by omega) (by omega)
  have e2 : matFrom ((2 ^ s : Nat) : Int) ((2 ^ t : Nat) : Int) l 0 = matB ((2 ^ s : Nat) : Int) ((2 ^ t : Nat) : Int) l := by unfold matFrom; rw [List.drop_zero]; simp
  rw [Int.natCast_zero, e2] at e
  rw [if_neg h, decide_eq_true (by omega), Bool.and_true, e]
def fieldsB (l : List Int) : Bool := l.all fun x => decide (inF x)
theorem are_fields_eq (l : List Int) : impl_are_int_FieldOK.f l = some (fieldsB l) := by
 unfold impl_are_int_FieldOK.f fieldsB
 congr 2; funext x; unfold impl_are_int_FieldOK.p; rw [impl_FieldOK_eq]; rfl
theorem l10Fields_l0 (l : List Int) (hl : l.length ≤ 1048576) (d : Nat) : ∀ (k i : Nat), i + d = l.length → d < k → spec_l10Fields.l0 k l i = some (fieldsB (l.drop i)) := by
 induction d with
 | zero =>
  intro k i hi hk
  obtain ⟨k, rfl⟩ : ∃ m, k = m + 1 := ⟨k - 1, (by omega)⟩
  simp only [spec_l10Fields.l0]; rw [if_neg (by omega), List.drop_eq_nil_of_le (by omega)]; rfl
 | succ d ih =>
  intro k i hi hk
  obtain ⟨k, rfl⟩ : ∃ m, k = m + 1 := ⟨k - 1, (by omega)⟩
  have hlt : i < l.length := by omega
  simp only [spec_l10Fields.l0]
  rw [if_pos (show (i : Int) < (l.length : Int) by omega), if_pos (show 0 ≤ (i : Int) by omega), rdI hlt, spec_FieldOK_eq, List.drop_eq_getElem_cons hlt, w64 (by omega) (by omega), show (i : Int) + 1 = ((i + 1 : Nat) : Int) by omega]
  simp only [bS, fieldsB, List.all_cons]
  by_cases h : inF l[i]
  ·
   rw [decide_eq_true h, if_pos rfl, Bool.true_and]; exact ih k (i + 1) (by omega) (by omega)
  ·
   rw [decide_eq_false h]; rfl
theorem l10Fields_eq {l : List Int} (hl : l.length ≤ 1048576) {k : Nat} (hk : l.length < k) : spec_l10Fields.f k l = some (fieldsB l) := by
 have e := l10Fields_l0 l hl l.length k 0 (by omega) hk
 rw [Int.natCast_zero, List.drop_zero] at e
 unfold spec_l10Fields.f; exact e
theorem inF_rd {l : List Int} (h : ∀ x ∈ l, inF x) {i : Int} (h0 : 0 ≤ i) (h1 : i < l.length) : inF (rd l i) := by
 show inF (l.getD i.toNat 0)
 rw [getD_at (show i.toNat < l.length by omega)]
 exact h _ (List.getElem_mem _)
/-! at points -/

/-! ### spec_l10Ask: function 56 -/
def spec_l10Ask.j0 : Nat → List Int → Bool → Int → Int → Int → List (S53) → List (S53) → List (S53) → Option (Int)
 | 0, _, _, _, _, _, _, _, _ => none
 | k + 1, x1, x9, x102000, x102001, x102002, x102003, x102004, x102005 => if x9 = true then (some 1) else (if 0 ≤ (IntKind.u64.wrap (x102001)) then (if (x1.length : Int) = (shl .i64 1 (IntKind.u64.wrap (x102001))) then (some 0) else (some 8)) else (none))
def spec_l10Ask.f (k : Nat) (a0_0 : Int) (a0_1 : Int) (a0_2 : Int) (l0_3 : List (S53)) (l0_4 : List (S53)) (l0_5 : List (S53)) (l1 : List Int) : Option (Int) := if (l1.length : Int) > 4096 then (some 2) else ((spec_SystemOK.f k a0_0 a0_1 a0_2 l0_3 l0_4 l0_5).bind fun t102 => (if t102 = true then ((spec_l10Fields.f k l1).bind fun t103 => (spec_l10Ask.j0 k l1 (!t103) a0_0 a0_1 a0_2 l0_3 l0_4 l0_5)) else (spec_l10Ask.j0 k l1 true a0_0 a0_1 a0_2 l0_3 l0_4 l0_5)))
theorem spec_l10Ask.mono_l : ∀ k, (∀ y0 y1 y2 y3 y4 y5 y6 y7, LeO (spec_l10Ask.j0 k y0 y1 y2 y3 y4 y5 y6 y7) (spec_l10Ask.j0 (k + 1) y0 y1 y2 y3 y4 y5 y6 y7))
 | 0 => fun _ _ _ _ _ _ _ _ r h => by simp [spec_l10Ask.j0] at h
 | k + 1 => by
  have ih0 := spec_l10Ask.mono_l k
  ·
   intro y0 y1 y2 y3 y4 y5 y6 y7
   unfold spec_l10Ask.j0
   repeat' first
   | (with_reducible exact ih0 _ _ _ _ _ _ _ _)
   | (with_reducible exact spec_SystemOK.mono _ _ _ _ _ _ _)
   | (with_reducible exact spec_l10Fields.mono _ _)
   | (with_reducible exact LeO.refl _)
   | (with_reducible exact LeO.none _)
   | (with_reducible refine LeO.ite ?_ ?_)
   | (with_reducible refine LeO.bind ?_ (fun _ => ?_))
   | exact ih0 _ _ _ _ _ _ _ _
   | exact spec_SystemOK.mono _ _ _ _ _ _ _
   | exact spec_l10Fields.mono _ _
   | exact LeO.none _
   | refine LeO.ite ?_ ?_
   | refine LeO.bind ?_ (fun _ => ?_)
theorem spec_l10Ask.mono : ∀ a0 a1 a2 a3 a4 a5 a6 k, LeO (spec_l10Ask.f k a0 a1 a2 a3 a4 a5 a6) (spec_l10Ask.f (k + 1) a0 a1 a2 a3 a4 a5 a6) := by
 intro a0 a1 a2 a3 a4 a5 a6 k
 have ih0 := spec_l10Ask.mono_l k
 unfold spec_l10Ask.f
 repeat' first
   | (with_reducible exact ih0 _ _ _ _ _ _ _ _)
   | (with_reducible exact spec_SystemOK.mono _ _ _ _ _ _ _)
   | (with_reducible exact spec_l10Fields.mono _ _)
   | (with_reducible exact LeO.refl _)
   | (with_reducible exact LeO.none _)
   | (with_reducible refine LeO.ite ?_ ?_)
   | (with_reducible refine LeO.bind ?_ (fun _ => ?_))
   | exact ih0 _ _ _ _ _ _ _ _
   | exact spec_SystemOK.mono _ _ _ _ _ _ _
   | exact spec_l10Fields.mono _ _
   | exact LeO.none _
   | refine LeO.ite ?_ ?_
   | refine LeO.bind ?_ (fun _ => ?_)
set_option maxHeartbeats 8000000 in
set_option maxRecDepth 100000 in
theorem spec_l10Ask.calls (k : Nat) (a0_0 : Int) (a0_1 : Int) (a0_2 : Int) (A0_3 : Option Addr) (c0_3 : Nat) (l0_3 : List (S53)) (A0_4 : Option Addr) (c0_4 : Nat) (l0_4 : List (S53)) (A0_5 : Option Addr) (c0_5 : Nat) (l0_5 : List (S53)) (A1 : Option Addr) (c1 : Nat) (l1 : List Int) (r : Int) (w : World) (hr0_3 : Kd.C k53 w A0_3 l0_3.length l0_3) (hc0_3 : l0_3.length ≤ c0_3) (hr0_4 : Kd.C k53 w A0_4 l0_4.length l0_4) (hc0_4 : l0_4.length ≤ c0_4) (hr0_5 : Kd.C k53 w A0_5 l0_5.length l0_5) (hc0_5 : l0_5.length ≤ c0_5) (hr1 : Kd.C (Kd.int .i64) w A1 l1.length l1) (hc1 : l1.length ≤ c1) (h : spec_l10Ask.f k a0_0 a0_1 a0_2 l0_3 l0_4 l0_5 l1 = some r) :
  Calls Try.prog 56 #[.agg #[.int .i64 a0_0, .int .i64 a0_1, .int .i64 a0_2, .slice A0_3 l0_3.length c0_3, .slice A0_4 l0_4.length c0_4, .slice A0_5 l0_5.length c0_5], .slice A1 l1.length c1] w fun e w' => e = .returned (.int .i64 r) ∧ Below w.heap.size w w' := by
 have hu29 := Try.underlying29
 have HR0_3 := am_ hr0_3
 have HC0_3 := am_ hc0_3
 clear hr0_3 hc0_3
 have HR0_4 := am_ hr0_4
 have HC0_4 := am_ hc0_4
 clear hr0_4 hc0_4
 have HR0_5 := am_ hr0_5
 have HC0_5 := am_ hc0_5
 clear hr0_5 hc0_5
 have HR1 := am_ hr1
 have HC1 := am_ hc1
 clear hr1 hc1
 have HB := am_ (Below.refl w.heap.size w)
 have H : (if (l1.length : Int) > 4096 then (some 2) else ((spec_SystemOK.f k a0_0 a0_1 a0_2 l0_3 l0_4 l0_5).bind fun t102 => (if t102 = true then ((spec_l10Fields.f k l1).bind fun t103 => (spec_l10Ask.j0 k l1 (!t103) a0_0 a0_1 a0_2 l0_3 l0_4 l0_5)) else (spec_l10Ask.j0 k l1 true a0_0 a0_1 a0_2 l0_3 l0_4 l0_5)))) = some r := h
 clear h
 by_cases c3 : (l1.length : Int) > 4096
 ·
  rw [if_pos c3] at H
  have c3b0 : decide (4096 < (l1.length : Int)) = true := decide_eq_true c3
  have c3b1 : decide (4096 < l1.length) = true := decide_eq_true (by omega)
  clear c3
  obtain rfl := Option.some.inj H
  go_enter Try.func56, Try.ntmps56
  go_wp2_with (first | ((with_reducible refine gate_dst (N := 2) rfl ?_); refine box_event ?hg (N := 2) ?hd (cs := #[.int .i64 a0_0, .int .i64 a0_1, .int .i64 a0_2, .slice A0_3 l0_3.length c0_3, .slice A0_4 l0_4.length c0_4, .slice A0_5 l0_5.length c0_5]) (t := 29) ?hr ?_; (case hd => rfl); (case hg => rfl); (case hr => first | (go_simp; done) | (go_simp; rfl)); intro gb101 hg w4 hbox hb; have n0_ := am_ (below_step qz2_ hb); have n1_ := am_ (hbox); have n2_ := am_ ((by rw [hg]; exact (below_size qz2_) : w.heap.size ≤ gb101)); have n3_ := am_ ((by rw [hg]; exact (below_size qz2_) : w.heap.size ≤ gb101)); clear HB; have HB := n0_; have BK101 := n1_; have GW101 := n2_; have GE101 := n3_; clear n0_ n1_ n2_ n3_; clear hb hbox hg))
  go_ret
  exact ⟨qz7_, qz3_⟩
 ·
  rw [if_neg c3] at H
  have c3b0 : decide (4096 < (l1.length : Int)) = false := decide_eq_false c3
  have c3b1 : decide (4096 < l1.length) = false := decide_eq_false (by omega)
  clear c3
  have HC5 := am_ H
  clear H
  go_enter Try.func56, Try.ntmps56
  go_upto_region 3 with (first | ((with_reducible refine gate_dst (N := 2) rfl ?_); refine box_event ?hg (N := 2) ?hd (cs := #[.int .i64 a0_0, .int .i64 a0_1, .int .i64 a0_2, .slice A0_3 l0_3.length c0_3, .slice A0_4 l0_4.length c0_4, .slice A0_5 l0_5.length c0_5]) (t := 29) ?hr ?_; (case hd => rfl); (case hg => rfl); (case hr => first | (go_simp; done) | (go_simp; rfl)); intro gb101 hg w6 hbox hb; have n0_ := am_ (below_step qz2_ hb); have n1_ := am_ (hbox); have n2_ := am_ ((by rw [hg]; exact (below_size qz2_) : w.heap.size ≤ gb101)); have n3_ := am_ ((by rw [hg]; exact (below_size qz2_) : w.heap.size ≤ gb101)); clear HB; have HB := n0_; have BK101 := n1_; have GW101 := n2_; have GE101 := n3_; clear n0_ n1_ n2_ n3_; clear hb hbox hg))
  (try simp only [Act.put, List.setIfInBounds_toArray, List.set_cons_zero, List.set_cons_succ])
  go_cut [9] (fun v9 wc => ∃ (kq : Nat) (x9_4 : Bool), v9 = .bool x9_4 ∧ Aside0 (spec_l10Ask.j0 kq l1 x9_4 a0_0 a0_1 a0_2 l0_3 l0_4 l0_5 = some r) ∧ Aside0 (kq ≤ k) ∧ Aside0 (wc.heap[gb101]? = some (.cells #[.int .i64 a0_0, .int .i64 a0_1, .int .i64 a0_2, (.slice A0_3 l0_3.length c0_3), (.slice A0_4 l0_4.length c0_4), (.slice A0_5 l0_5.length c0_5)] 29 (0, 0))) ∧ Aside0 (Below w.heap.size w wc))
  case first =>
   have H := HC5.out
   clear HC5
   replace H := Option.bind_eq_some_iff.mp H
   obtain ⟨t102, A70, H⟩ := H
   replace H : (if t102 = true then ((spec_l10Fields.f k l1).bind fun t103 => (spec_l10Ask.j0 k l1 (!t103) a0_0 a0_1 a0_2 l0_3 l0_4 l0_5)) else (spec_l10Ask.j0 k l1 true a0_0 a0_1 a0_2 l0_3 l0_4 l0_5)) = some r := H
   have A7 := am_ A70
   clear A70
   by_cases c8 : t102 = true
   ·
    subst c8
    have H1 : ((spec_l10Fields.f k l1).bind fun t103 => (spec_l10Ask.j0 k l1 (!t103) a0_0 a0_1 a0_2 l0_3 l0_4 l0_5)) = some r := by rw [if_pos rfl] at H; exact H
    clear H
    have H := H1
    clear H1
    replace H := Option.bind_eq_some_iff.mp H
    obtain ⟨t103, A90, H⟩ := H
    replace H : (spec_l10Ask.j0 k l1 (!t103) a0_0 a0_1 a0_2 l0_3 l0_4 l0_5) = some r := H
    have A9 := am_ A90
    clear A90
    have H' := am_ H
    clear H
    have hcz10_0 : w6.cell? ⟨gb101, 0, none⟩ = some (.int .i64 a0_0) := (blk_cell BK101.out 0).trans rfl
    have hcz10_1 : w6.cell? ⟨gb101, 1, none⟩ = some (.int .i64 a0_1) := (blk_cell BK101.out 1).trans rfl
    have hcz10_2 : w6.cell? ⟨gb101, 2, none⟩ = some (.int .i64 a0_2) := (blk_cell BK101.out 2).trans rfl
    have hcz10_3 : w6.cell? ⟨gb101, 3, none⟩ = some (.slice A0_3 l0_3.length c0_3) := (blk_cell BK101.out 3).trans rfl
    have hcz10_4 : w6.cell? ⟨gb101, 4, none⟩ = some (.slice A0_4 l0_4.length c0_4) := (blk_cell BK101.out 4).trans rfl
    have hcz10_5 : w6.cell? ⟨gb101, 5, none⟩ = some (.slice A0_5 l0_5.length c0_5) := (blk_cell BK101.out 5).trans rfl
    have hfz10_0 := blk_frozen BK101.out 0
    have hfz10_1 := blk_frozen BK101.out 1
    have hfz10_2 := blk_frozen BK101.out 2
    have hfz10_3 := blk_frozen BK101.out 3
    have hfz10_4 := blk_frozen BK101.out 4
    have hfz10_5 := blk_frozen BK101.out 5
    go_wp2_with (first | ((with_reducible refine gate_callee (f := 11) rfl ?_); refine goesL_ (some 11) rfl rfl Try.func11 (by kernel_rfl) rfl #[.agg #[.int .i64 a0_0, .int .i64 a0_1, .int .i64 a0_2, .slice A0_3 l0_3.length c0_3, .slice A0_4 l0_4.length c0_4, .slice A0_5 l0_5.length c0_5]] rfl qz5_ ?_; (with_reducible refine (spec_SystemOK.calls k a0_0 a0_1 a0_2 _ _ l0_3 _ _ l0_4 _ _ l0_5 true _ ?side1 ?side2 ?side3 ?side4 ?side5 ?side6 A7.out).mono ?_); (case side1 => exact qc_ (Kd.C_below HR0_3.out HB.out)); (case side2 => exact HC0_3.out); (case side3 => exact qc_ (Kd.C_below HR0_4.out HB.out)); (case side4 => exact HC0_4.out); (case side5 => exact qc_ (Kd.C_below HR0_5.out HB.out)); (case side6 => exact HC0_5.out); rintro e w11 ⟨rfl, hb⟩; refine ⟨_, rfl, ?_⟩; have n0_ := am_ (blk_below (g := gb101) (o := .cells #[.int .i64 a0_0, .int .i64 a0_1, .int .i64 a0_2, .slice A0_3 l0_3.length c0_3, .slice A0_4 l0_4.length c0_4, .slice A0_5 l0_5.length c0_5] 29 (0, 0)) qz6_ hb); have n1_ := am_ (below_step qz3_ hb); clear BK101; clear HB; have BK101 := n0_; have HB := n1_; clear n0_ n1_; (try clear hb); (try clear hb2); (try clear hk); (try clear hi)) | (go_at_call 50; (with_reducible refine (spec_l10Fields.calls k _ _ l1 t103 _ ?side1 ?side2 A9.out).mono ?_); (case side1 => exact qc_ (Kd.C_below HR1.out HB.out)); (case side2 => exact HC1.out); rintro e w' ⟨rfl, ⟨nd, rfl⟩⟩))
    go_meet
    case rel => exact ⟨_, (!t103), qz0_, H', ⟨qz10_⟩, ⟨qz6_⟩, ⟨qz3_⟩⟩
   ·
    replace c8 := Bool.eq_false_iff.mpr c8
    subst c8
    have H1 : (spec_l10Ask.j0 k l1 true a0_0 a0_1 a0_2 l0_3 l0_4 l0_5) = some r := by rw [if_neg (show ¬ (false = true) by decide)] at H; exact H
    clear H
    have H := H1
    clear H1
    have H' := am_ H
    clear H
    have hcz12_0 : w6.cell? ⟨gb101, 0, none⟩ = some (.int .i64 a0_0) := (blk_cell BK101.out 0).trans rfl
    have hcz12_1 : w6.cell? ⟨gb101, 1, none⟩ = some (.int .i64 a0_1) := (blk_cell BK101.out 1).trans rfl
    have hcz12_2 : w6.cell? ⟨gb101, 2, none⟩ = some (.int .i64 a0_2) := (blk_cell BK101.out 2).trans rfl
    have hcz12_3 : w6.cell? ⟨gb101, 3, none⟩ = some (.slice A0_3 l0_3.length c0_3) := (blk_cell BK101.out 3).trans rfl
    have hcz12_4 : w6.cell? ⟨gb101, 4, none⟩ = some (.slice A0_4 l0_4.length c0_4) := (blk_cell BK101.out 4).trans rfl
    have hcz12_5 : w6.cell? ⟨gb101, 5, none⟩ = some (.slice A0_5 l0_5.length c0_5) := (blk_cell BK101.out 5).trans rfl
    have hfz12_0 := blk_frozen BK101.out 0
    have hfz12_1 := blk_frozen BK101.out 1
    have hfz12_2 := blk_frozen BK101.out 2
    have hfz12_3 := blk_frozen BK101.out 3
    have hfz12_4 := blk_frozen BK101.out 4
    have hfz12_5 := blk_frozen BK101.out 5
    go_wp2_with (first | ((with_reducible refine gate_callee (f := 11) rfl ?_); refine goesL_ (some 11) rfl rfl Try.func11 (by kernel_rfl) rfl #[.agg #[.int .i64 a0_0, .int .i64 a0_1, .int .i64 a0_2, .slice A0_3 l0_3.length c0_3, .slice A0_4 l0_4.length c0_4, .slice A0_5 l0_5.length c0_5]] rfl qz5_ ?_; (with_reducible refine (spec_SystemOK.calls k a0_0 a0_1 a0_2 _ _ l0_3 _ _ l0_4 _ _ l0_5 false _ ?side1 ?side2 ?side3 ?side4 ?side5 ?side6 A7.out).mono ?_); (case side1 => exact qc_ (Kd.C_below HR0_3.out HB.out)); (case side2 => exact HC0_3.out); (case side3 => exact qc_ (Kd.C_below HR0_4.out HB.out)); (case side4 => exact HC0_4.out); (case side5 => exact qc_ (Kd.C_below HR0_5.out HB.out)); (case side6 => exact HC0_5.out); rintro e w13 ⟨rfl, hb⟩; refine ⟨_, rfl, ?_⟩; have n0_ := am_ (blk_below (g := gb101) (o := .cells #[.int .i64 a0_0, .int .i64 a0_1, .int .i64 a0_2, .slice A0_3 l0_3.length c0_3, .slice A0_4 l0_4.length c0_4, .slice A0_5 l0_5.length c0_5] 29 (0, 0)) qz6_ hb); have n1_ := am_ (below_step qz3_ hb); clear BK101; clear HB; have BK101 := n0_; have HB := n1_; clear n0_ n1_; (try clear hb); (try clear hb2); (try clear hk); (try clear hi)))
    go_meet
    case rel => exact ⟨_, (true), qz0_, H', ⟨qz10_⟩, ⟨qz6_⟩, ⟨qz3_⟩⟩
  case rest =>
   clear HC5
   try clear c1
   try clear p2
   try clear c3
   try clear c3b0
   try clear c3b1
   try clear c5
   try clear c8
   try clear c11
   try clear hcz10_0
   try clear hcz10_1
   try clear hcz10_2
   try clear hcz10_3
   try clear hcz10_4
   try clear hcz10_5
   try clear hcz12_0
   try clear hcz12_1
   try clear hcz12_2
   try clear hcz12_3
   try clear hcz12_4
   try clear hcz12_5
   try clear hfz10_0
   try clear hfz10_1
   try clear hfz10_2
   try clear hfz10_3
   try clear hfz10_4
   try clear hfz10_5
   try clear hfz12_0
   try clear hfz12_1
   try clear hfz12_2
   try clear hfz12_3
   try clear hfz12_4
   try clear hfz12_5
   obtain ⟨kq, x9_4, rfl, HA, HJ4, BK101, HB⟩ := hcut
   cases kq with
   | zero => exact absurd HA.out (by simp [spec_l10Ask.j0])
   | succ kj4 =>
    have H := HA.out
    clear HA
    simp only [spec_l10Ask.j0] at H
    by_cases c14 : x9_4 = true
    ·
     subst c14
     have H1 : (some 1) = some r := by rw [if_pos rfl] at H; exact H
     clear H
     have H := H1
     clear H1
     obtain rfl := Option.some.inj H
     go_wp2
     go_ret
     exact ⟨qz7_, qz3_⟩
    ·
     replace c14 := Bool.eq_false_iff.mpr c14
     subst c14
     have H1 : (if 0 ≤ (IntKind.u64.wrap (a0_1)) then (if (l1.length : Int) = (shl .i64 1 (IntKind.u64.wrap (a0_1))) then (some 0) else (some 8)) else (none)) = some r := by rw [if_neg (show ¬ (false = true) by decide)] at H; exact H
     clear H
     have H := H1
     clear H1
     obtain ⟨ji15, hji15⟩ : ∃ j_ : Int, (IntKind.u64.wrap (a0_1)) = j_ := ⟨_, rfl⟩
     replace H : (if 0 ≤ (ji15) then (if (l1.length : Int) = (shl .i64 1 (ji15)) then (some 0) else (some 8)) else (none)) = some r := by first | (rw [hji15] at H; exact H) | (simp only [hji15] at H ⊢; exact H)
     by_cases c16 : 0 ≤ (ji15)
     ·
      rw [if_pos c16] at H
      have c16b0 := eq_true c16
      have c16b1 : decide (0 ≤ (ji15)) = true := decide_eq_true c16
      clear c16
      obtain ⟨ji17, hji17⟩ : ∃ j_ : Int, (shl .i64 1 (ji15)) = j_ := ⟨_, rfl⟩
      replace H : (if (l1.length : Int) = (ji17) then (some 0) else (some 8)) = some r := by first | (rw [hji17] at H; exact H) | (simp only [hji17] at H ⊢; exact H)
      have hji17_ : (IntKind.i64.wrap (1 * 2 ^ min (ji15).toNat 64)) = ji17 := hji17
      have hji17z : (ji15) ≤ 64 → (IntKind.i64.wrap (1 * 2 ^ (ji15).toNat)) = ji17 := shl_small hji17
      have hji17u : (IntKind.i64.wrap (2 ^ min (ji15).toNat 64)) = ji17 := by have h_ := hji17_; rw [Int.one_mul] at h_; exact h_
      have hji17v : (ji15) ≤ 64 → (IntKind.i64.wrap (2 ^ (ji15).toNat)) = ji17 := fun hle_ => by have h_ := hji17z hle_; rw [Int.one_mul] at h_; exact h_
      have hji17y : (wrap64 (1 * 2 ^ min (ji15).toNat 64)) = ji17 := (i64_w _).symm.trans hji17_
      have hji17x : (ji15) ≤ 64 → (wrap64 (1 * 2 ^ (ji15).toNat)) = ji17 := fun h_ => (i64_w _).symm.trans (hji17z h_)
      by_cases c18 : (l1.length : Int) = (ji17)
      ·
       rw [if_pos c18] at H
       have c18b0 : ((l1.length : Int) == (ji17)) = true := beq_iff_eq.mpr c18
       have c18b1 : ((l1.length : Int) != (ji17)) = false := bne_eq_false_iff_eq.mpr c18
       clear c18
       obtain rfl := Option.some.inj H
       have hcz19_0 : wc.cell? ⟨gb101, 0, none⟩ = some (.int .i64 a0_0) := (blk_cell BK101.out 0).trans rfl
       have hcz19_1 : wc.cell? ⟨gb101, 1, none⟩ = some (.int .i64 a0_1) := (blk_cell BK101.out 1).trans rfl
       have hcz19_2 : wc.cell? ⟨gb101, 2, none⟩ = some (.int .i64 a0_2) := (blk_cell BK101.out 2).trans rfl
       have hcz19_3 : wc.cell? ⟨gb101, 3, none⟩ = some (.slice A0_3 l0_3.length c0_3) := (blk_cell BK101.out 3).trans rfl
       have hcz19_4 : wc.cell? ⟨gb101, 4, none⟩ = some (.slice A0_4 l0_4.length c0_4) := (blk_cell BK101.out 4).trans rfl
       have hcz19_5 : wc.cell? ⟨gb101, 5, none⟩ = some (.slice A0_5 l0_5.length c0_5) := (blk_cell BK101.out 5).trans rfl
       have hfz19_0 := blk_frozen BK101.out 0
       have hfz19_1 := blk_frozen BK101.out 1
       have hfz19_2 := blk_frozen BK101.out 2
       have hfz19_3 := blk_frozen BK101.out 3
       have hfz19_4 := blk_frozen BK101.out 4
       have hfz19_5 := blk_frozen BK101.out 5
       go_wp2
       go_ret
       exact ⟨(by first | rfl | (simp [errW_none, errW_some] <;> rfl) | (simp only [← hji15, ← hji17]; first | rfl | (simp [errW_none, errW_some] <;> rfl)) | (simp [*, errW_none, errW_some] <;> rfl)), qz3_⟩
      ·
       rw [if_neg c18] at H
       have c18b0 : ((l1.length : Int) == (ji17)) = false := beq_eq_false_iff_ne.mpr c18
       have c18b1 : ((l1.length : Int) != (ji17)) = true := bne_iff_ne.mpr c18
       obtain rfl := Option.some.inj H
       have hcz20_0 : wc.cell? ⟨gb101, 0, none⟩ = some (.int .i64 a0_0) := (blk_cell BK101.out 0).trans rfl
       have hcz20_1 : wc.cell? ⟨gb101, 1, none⟩ = some (.int .i64 a0_1) := (blk_cell BK101.out 1).trans rfl
       have hcz20_2 : wc.cell? ⟨gb101, 2, none⟩ = some (.int .i64 a0_2) := (blk_cell BK101.out 2).trans rfl
       have hcz20_3 : wc.cell? ⟨gb101, 3, none⟩ = some (.slice A0_3 l0_3.length c0_3) := (blk_cell BK101.out 3).trans rfl
       have hcz20_4 : wc.cell? ⟨gb101, 4, none⟩ = some (.slice A0_4 l0_4.length c0_4) := (blk_cell BK101.out 4).trans rfl
       have hcz20_5 : wc.cell? ⟨gb101, 5, none⟩ = some (.slice A0_5 l0_5.length c0_5) := (blk_cell BK101.out 5).trans rfl
       have hfz20_0 := blk_frozen BK101.out 0
       have hfz20_1 := blk_frozen BK101.out 1
       have hfz20_2 := blk_frozen BK101.out 2
       have hfz20_3 := blk_frozen BK101.out 3
       have hfz20_4 := blk_frozen BK101.out 4
       have hfz20_5 := blk_frozen BK101.out 5
       go_wp2
       go_ret
       exact ⟨(by first | rfl | (simp [errW_none, errW_some] <;> rfl) | (simp only [← hji15, ← hji17]; first | rfl | (simp [errW_none, errW_some] <;> rfl)) | (simp [*, errW_none, errW_some] <;> rfl)), qz3_⟩
     ·
      rw [if_neg c16] at H
      exact absurd H (by simp)

end Go.Proofs.Ytekijbcblajjbaa.PT
end
section
/- Systems: both sides ask the same of a system and of numbers, and come to the same failed row. -/
namespace Go.Proofs.Ytekijbcblajjbaa.PT
open Go.RowKit Go.Proofs.YtekijbcblajjbaaW.PrintWords Go.Proofs.YtekijbcblajjbaaW.PrintLast Go.Proofs.YtekijbcblajjbaaW.PrintMore
set_option linter.unusedVariables false
set_option linter.unusedSimpArgs false
def mat3 (r c : Int) (x y z : List S53) : Bool := matOK r c x && (matOK r c y && matOK r c z)
/-- A system is right. -/
def sysB (a b c : Int) (x y z : List S53) : Bool := decide (1 ≤ a ∧ a ≤ 5) && (decide (2 ≤ b ∧ b ≤ 5) && (decide (0 ≤ c ∧ c ≤ ((2 ^ (b.toNat - 1) : Nat) : Int) - 1) && mat3 ((2 ^ a.toNat : Nat) : Int) ((2 ^ b.toNat : Nat) : Int) x y z))
theorem half_eq {b : Int} (h1 : 1 ≤ b) (h2 : b ≤ 5) (a c : Int) (x y z : List S53) : impl_System_half.f a b c x y z = some ((2 ^ (b.toNat - 1) : Nat) : Int) := by
 unfold impl_System_half.f
 rw [w64 (by omega) (by omega), if_pos (by omega), show b - 1 = ((b.toNat - 1 : Nat) : Int) by omega, Go.Proofs.Ytekijbcblajjbaa.PT.shlS_ (by omega)]
theorem two_le (t : Nat) (h : t ≤ 5) : 2 ^ t ≤ 32 := Nat.le_trans (Nat.pow_le_pow_right (by omega) h) (by decide)
theorem mats_impl {s t : Nat} (hs : s ≤ 5) (ht : t ≤ 5) {x y z : List S53} (hx : x.length ≤ 1048576) (hy : y.length ≤ 1048576) (hz : z.length ≤ 1048576) {k : Nat} (hk : 1050000 < k) (a b c : Int) (ha : a = (s : Int)) (hb : b = (t : Int)) :
  impl_SystemOK.j0 (k + 1) false a b c x y z = some (mat3 ((2 ^ s : Nat) : Int) ((2 ^ t : Nat) : Int) x y z) := by
 subst ha hb
 have h1 := two_le s hs
 have h2 := two_le t ht
 simp only [impl_SystemOK.j0, Bool.false_eq_true, if_false]
 rw [if_pos (show 0 ≤ (s : Int) by omega), if_pos (show 0 ≤ (t : Int) by omega), Go.Proofs.Ytekijbcblajjbaa.PT.shlS_ (by omega), Go.Proofs.Ytekijbcblajjbaa.PT.shlS_ (by omega),
  isMatrix_eq hx (Int.natCast_nonneg _) (by omega) (Int.natCast_nonneg _) (by omega) (by omega), isMatrix_eq hy (Int.natCast_nonneg _) (by omega) (Int.natCast_nonneg _) (by omega) (by omega), isMatrix_eq hz (Int.natCast_nonneg _) (by omega) (Int.natCast_nonneg _) (by omega) (by omega)]
 simp only [bS]
 unfold mat3
 cases matOK ((2 ^ s : Nat) : Int) ((2 ^ t : Nat) : Int) x <;> cases matOK ((2 ^ s : Nat) : Int) ((2 ^ t : Nat) : Int) y <;> cases matOK ((2 ^ s : Nat) : Int) ((2 ^ t : Nat) : Int) z <;> rfl
theorem SystemOK_eq {a b c : Int} {x y z : List S53} (hx : x.length ≤ 1048576) (hy : y.length ≤ 1048576) (hz : z.length ≤ 1048576) {k : Nat} (hk : 1050002 < k) :
  impl_SystemOK.f k a b c x y z = some (sysB a b c x y z) ∧ spec_SystemOK.f k a b c x y z = some (sysB a b c x y z) := by
 obtain ⟨k, rfl⟩ : ∃ m, k = m + 1 := ⟨k - 1, (by omega)⟩
 unfold impl_SystemOK.f spec_SystemOK.f sysB
 rw [impl_in_eq, spec_l01In_eq]
 simp only [bS]
 by_cases ha : 1 ≤ a ∧ a ≤ 5
 ·
  rw [decide_eq_true ha, if_pos rfl, if_pos rfl, impl_in_eq, spec_l01In_eq]
  simp only [bS]
  by_cases hb : 2 ≤ b ∧ b ≤ 5
  ·
   have e1 : IntKind.u64.wrap (b - 1) = b - 1 := by
    simp only [IntKind.wrap, IntKind.bits, IntKind.signed]; simp; omega
   have e2 : shl .i64 1 (b - 1) = ((2 ^ (b.toNat - 1) : Nat) : Int) := by
    rw [show b - 1 = ((b.toNat - 1 : Nat) : Int) by omega, Go.Proofs.Ytekijbcblajjbaa.PT.shlS_ (by omega)]
   have h3 := two_le (b.toNat - 1) (by omega)
   have h4 := Nat.two_pow_pos (b.toNat - 1)
   rw [decide_eq_true hb, if_pos rfl, if_pos rfl, half_eq (by omega) (by omega), w64 (n := b - 1) (by omega) (by omega), e1, e2, if_pos (show 0 ≤ b - 1 by omega)]
   simp only [bS]
   rw [w64 (n := ((2 ^ (b.toNat - 1) : Nat) : Int) - 1) (by omega) (by omega), impl_in_eq, spec_l01In_eq]
   simp only [bS]
   by_cases hc : 0 ≤ c ∧ c ≤ ((2 ^ (b.toNat - 1) : Nat) : Int) - 1
   ·
    have l3 := l10List_eq (l := x) (s := a.toNat) (t := b.toNat) (by omega) (by omega) (k := k + 1) (by omega)
    have l4 := l10List_eq (l := y) (s := a.toNat) (t := b.toNat) (by omega) (by omega) (k := k + 1) (by omega)
    have l5 := l10List_eq (l := z) (s := a.toNat) (t := b.toNat) (by omega) (by omega) (k := k + 1) (by omega)
    rw [show ((a.toNat : Nat) : Int) = a by omega, show ((b.toNat : Nat) : Int) = b by omega] at l3 l4 l5
    rw [decide_eq_true hc, if_pos rfl, Bool.not_true, mats_impl (s := a.toNat) (t := b.toNat) (by omega) (by omega) hx hy hz (by omega) a b c (by omega) (by omega), l3, l4, l5]
    simp only [bS, Bool.true_and]
    refine ⟨trivial, ?_⟩
    unfold mat3
    cases matOK ((2 ^ a.toNat : Nat) : Int) ((2 ^ b.toNat : Nat) : Int) x <;> cases matOK ((2 ^ a.toNat : Nat) : Int) ((2 ^ b.toNat : Nat) : Int) y <;> cases matOK ((2 ^ a.toNat : Nat) : Int) ((2 ^ b.toNat : Nat) : Int) z <;> rfl
   ·
    rw [decide_eq_false hc]
    simp only [Bool.not_false, impl_SystemOK.j0, if_true, Bool.false_and, Bool.true_and, Bool.false_eq_true, if_false]
    exact ⟨trivial, trivial⟩
  ·
   rw [decide_eq_false hb]
   simp only [impl_SystemOK.j0, if_true, Bool.false_and, Bool.true_and, Bool.false_eq_true, if_false]
   exact ⟨trivial, trivial⟩
 ·
  rw [decide_eq_false ha]
  simp only [impl_SystemOK.j0, if_true, Bool.false_and, Bool.false_eq_true, if_false]
  exact ⟨trivial, trivial⟩
theorem sysB_iff {a b c : Int} {x y z : List S53} (h : sysB a b c x y z = true) : (1 ≤ a ∧ a ≤ 5) ∧ (2 ≤ b ∧ b ≤ 5) ∧ (0 ≤ c ∧ c ≤ ((2 ^ (b.toNat - 1) : Nat) : Int) - 1) ∧ mat3 ((2 ^ a.toNat : Nat) : Int) ((2 ^ b.toNat : Nat) : Int) x y z = true := by
 unfold sysB at h
 simp only [Bool.and_eq_true, decide_eq_true_eq] at h
 exact h
/-- The code of a system and numbers. -/
def askC (a b c : Int) (x y z : List S53) (n : List Int) : Int := if (n.length : Int) > 4096 then 2 else if (sysB a b c x y z && fieldsB n) = true then (if (n.length : Int) = ((2 ^ b.toNat : Nat) : Int) then 0 else 8) else 1
theorem ask_eq {a b c : Int} {x y z : List S53} {n : List Int} (hx : x.length ≤ 1048576) (hy : y.length ≤ 1048576) (hz : z.length ≤ 1048576) (hn : n.length ≤ 1048576) {k : Nat} (hk : 1050003 < k) :
  impl_numbersCode.f k a b c x y z n = some (askC a b c x y z n) ∧ spec_l10Ask.f k a b c x y z n = some (askC a b c x y z n) := by
 obtain ⟨k, rfl⟩ : ∃ m, k = m + 1 := ⟨k - 1, (by omega)⟩
 obtain ⟨e1, e2⟩ := SystemOK_eq (a := a) (b := b) (c := c) hx hy hz (k := k + 1) (by omega)
 unfold impl_numbersCode.f spec_l10Ask.f askC
 by_cases h1 : (n.length : Int) > 4096
 ·
  rw [if_pos h1, if_pos h1, if_pos h1]; exact ⟨rfl, rfl⟩
 rw [if_neg h1, if_neg h1, if_neg h1, e1, e2]
 simp only [bS]
 cases hs : sysB a b c x y z
 ·
  simp only [Bool.false_eq_true, if_false, impl_numbersCode.j0, spec_l10Ask.j0, if_true, Bool.false_and]
  exact ⟨trivial, trivial⟩
 ·
  obtain ⟨ha, hb, _⟩ := sysB_iff hs
  rw [if_pos rfl, if_pos rfl, are_fields_eq, l10Fields_eq hn (by omega)]
  simp only [bS, Bool.true_and]
  cases fieldsB n
  ·
   simp only [Bool.not_false, Bool.false_eq_true, if_false, impl_numbersCode.j0, spec_l10Ask.j0, if_true]
   exact ⟨trivial, trivial⟩
  ·
   have e3 : IntKind.u64.wrap b = b := by
    simp only [IntKind.wrap, IntKind.bits, IntKind.signed]; simp; omega
   have e4 : shl .i64 1 b = ((2 ^ b.toNat : Nat) : Int) := by
    rw [show b = ((b.toNat : Nat) : Int) by omega, Go.Proofs.Ytekijbcblajjbaa.PT.shlS_ (by omega)]; rfl
   simp only [Bool.not_true, Bool.false_eq_true, if_false, impl_numbersCode.j0, spec_l10Ask.j0, if_true]
   rw [e3, e4, if_pos (show 0 ≤ b by omega)]
   by_cases h2 : (n.length : Int) = ((2 ^ b.toNat : Nat) : Int)
   ·
    rw [if_pos h2, if_pos h2]; exact ⟨rfl, rfl⟩
   ·
    rw [if_neg h2, if_neg h2]; exact ⟨rfl, rfl⟩
theorem mat3_iff {r c : Int} {x y z : List S53} (h : mat3 r c x y z = true) : (matB r c x = true ∧ x.length ≤ 200) ∧ (matB r c y = true ∧ y.length ≤ 200) ∧ (matB r c z = true ∧ z.length ≤ 200) := by
 unfold mat3 matOK at h
 simp only [Bool.and_eq_true, decide_eq_true_eq] at h
 exact h
end Go.Proofs.Ytekijbcblajjbaa.PT
end
section
/- A system's vector: the loops of the one side come to the splices of the other. -/
namespace Go.Proofs.Ytekijbcblajjbaa.PT
open Go.RowKit Go.Proofs.YtekijbcblajjbaaW.PrintWords Go.Proofs.YtekijbcblajjbaaW.PrintLast Go.Proofs.YtekijbcblajjbaaW.PrintMore
set_option linter.unusedVariables false
set_option linter.unusedSimpArgs false
theorem splice_nil (y : List Int) (off : Nat) : splice y off [] = y := by
 unfold splice; rw [List.nil_append, List.length_nil, Nat.add_zero, List.take_append_drop]
theorem splice_set (y x : List Int) (off i : Nat) (hi : i < x.length) (h : off + x.length ≤ y.length) : (splice y off (x.take i)).set (off + i) x[i] = splice y off (x.take (i + 1)) := by
 have l1 : (x.take i).length = i := by rw [List.length_take]; omega
 have l2 : (x.take (i + 1)).length = i + 1 := by rw [List.length_take]; omega
 have l3 : (y.take off).length = off := by rw [List.length_take]; omega
 unfold splice
 rw [l1, l2, List.set_append_right _ _ (by omega), l3, Nat.add_sub_cancel_left, List.set_append_right _ _ (by omega), l1, Nat.sub_self, List.drop_eq_getElem_cons (by omega), List.set_cons_zero, List.take_succ_eq_append_getElem hi, List.append_assoc]
 rfl
theorem splice_len (y x : List Int) (off : Nat) (h : off + x.length ≤ y.length) : (splice y off x).length = y.length := length_splice y off x h
theorem vec_l1 (x : List Int) (hx : x.length ≤ 4096) (h : Nat) (hh : h ≤ 4096) (y : List Int) (hy : h + x.length ≤ y.length) (hy2 : y.length ≤ 4096) (d : Nat) : ∀ (k i : Nat), i + d = x.length → d < k →
  spec_l10Vector.l1 k x (h : Int) (splice y h (x.take i)) i = some (splice y h x) := by
 induction d with
 | zero =>
  intro k i hi hk
  obtain ⟨k, rfl⟩ : ∃ m, k = m + 1 := ⟨k - 1, (by omega)⟩
  simp only [spec_l10Vector.l1]
  rw [if_neg (by omega), List.take_of_length_le (by omega)]
 | succ d ih =>
  intro k i hi hk
  obtain ⟨k, rfl⟩ : ∃ m, k = m + 1 := ⟨k - 1, (by omega)⟩
  have hlt : i < x.length := by omega
  have hl : (splice y h (x.take i)).length = y.length := splice_len _ _ _ (by rw [List.length_take]; omega)
  simp only [spec_l10Vector.l1]
  rw [w64 (n := (h : Int) + i) (by omega) (by omega), if_pos (by omega), if_pos (by omega), if_pos (by omega), if_pos (by omega), rdI hlt, show ((h : Int) + i).toNat = h + i by omega, splice_set y x h i hlt hy, w64 (by omega) (by omega), show (i : Int) + 1 = ((i + 1 : Nat) : Int) by omega]
  exact ih k (i + 1) (by omega) (by omega)
theorem vec_l0 (x z : List Int) (hx : x.length ≤ 4096) (h : Nat) (y : List Int) (hy : 1 + x.length ≤ y.length) (hy2 : y.length ≤ 4096) (d : Nat) : ∀ (k i : Nat), i + d = x.length → d < k →
  spec_l10Vector.l0 k x z (h : Int) (splice y 1 (x.take i)) i = spec_l10Vector.l1 (k - d - 1) z (h : Int) (splice y 1 x) 0 := by
 induction d with
 | zero =>
  intro k i hi hk
  obtain ⟨k, rfl⟩ : ∃ m, k = m + 1 := ⟨k - 1, (by omega)⟩
  simp only [spec_l10Vector.l0]
  rw [if_neg (by omega), List.take_of_length_le (by omega)]
  rfl
 | succ d ih =>
  intro k i hi hk
  obtain ⟨k, rfl⟩ : ∃ m, k = m + 1 := ⟨k - 1, (by omega)⟩
  have hlt : i < x.length := by omega
  have hl : (splice y 1 (x.take i)).length = y.length := splice_len _ _ _ (by rw [List.length_take]; omega)
  simp only [spec_l10Vector.l0]
  rw [w64 (n := 1 + (i : Int)) (by omega) (by omega), if_pos (by omega), if_pos (by omega), if_pos (by omega), if_pos (by omega), rdI hlt, show (1 + (i : Int)).toNat = 1 + i by omega, splice_set y x 1 i hlt hy, w64 (by omega) (by omega), show (i : Int) + 1 = ((i + 1 : Nat) : Int) by omega, ih k (i + 1) (by omega) (by omega)]
  congr 1
  omega
/-- The vector. -/
def vecL (b : Int) (x z : List Int) : List Int := splice (splice ((1 : Int) :: List.replicate (2 ^ b.toNat - 1) 0) 1 x) (2 ^ (b.toNat - 1)) z
theorem two_half {b : Int} (h1 : 1 ≤ b) : 2 ^ b.toNat = 2 * 2 ^ (b.toNat - 1) := by
 obtain ⟨m, hm⟩ : ∃ m, b.toNat = m + 1 := ⟨b.toNat - 1, (by omega)⟩
 rw [hm, Nat.add_sub_cancel, Nat.pow_succ, Nat.mul_comm]
theorem vecL_length {b : Int} (h1 : 1 ≤ b) (h2 : b ≤ 5) {x z : List Int} (hx : x.length + 1 ≤ 2 ^ b.toNat) (hz : z.length + 2 ^ (b.toNat - 1) ≤ 2 ^ b.toNat) : (vecL b x z).length = 2 ^ b.toNat := by
 have hp := Nat.two_pow_pos b.toNat
 have e0 : ((1 : Int) :: List.replicate (2 ^ b.toNat - 1) 0).length = 2 ^ b.toNat := by rw [List.length_cons, List.length_replicate]; omega
 have e1 : (splice ((1 : Int) :: List.replicate (2 ^ b.toNat - 1) 0) 1 x).length = 2 ^ b.toNat := by rw [splice_len _ _ _ (by omega), e0]
 unfold vecL
 rw [splice_len _ _ _ (by omega), e1]
theorem vector_same {a b c : Int} {x y z : List S53} {u v : List Int} (h1 : 2 ≤ b) (h2 : b ≤ 5) (hu : u.length + 1 ≤ 2 ^ b.toNat) (hv : v.length + 2 ^ (b.toNat - 1) ≤ 2 ^ b.toNat) :
  impl_System_vector.f a b c x y z u v = some (vecL b u v) ∧ ∀ k, 200 < k → spec_l10Vector.f k a b c x y z u v = some (vecL b u v) := by
 have hp := two_le b.toNat (by omega)
 have hp0 := Nat.two_pow_pos (b.toNat - 1)
 have hh := two_half (b := b) (by omega)
 constructor
 ·
  unfold impl_System_vector.f
  rw [if_pos h1, if_pos h2, if_pos hu, if_pos hv]; rfl
 ·
  intro k hk
  have e1 : IntKind.u64.wrap (b - 1) = b - 1 := by
   simp only [IntKind.wrap, IntKind.bits, IntKind.signed]; simp; omega
  have e2 : shl .i64 1 (b - 1) = ((2 ^ (b.toNat - 1) : Nat) : Int) := by
   rw [show b - 1 = ((b.toNat - 1 : Nat) : Int) by omega, Go.Proofs.Ytekijbcblajjbaa.PT.shlS_ (by omega)]
  have e3 : wrap64 (2 * ((2 ^ (b.toNat - 1) : Nat) : Int)) = ((2 ^ b.toNat : Nat) : Int) := by rw [w64 (by omega) (by omega), hh]; omega
  have e0 : ((1 : Int) :: List.replicate (2 ^ b.toNat - 1) 0).length = 2 ^ b.toNat := by rw [List.length_cons, List.length_replicate]; omega
  have es : (splice ((1 : Int) :: List.replicate (2 ^ b.toNat - 1) 0) 1 u).length = 2 ^ b.toNat := by rw [splice_len _ _ _ (by omega), e0]
  have er : (List.replicate (2 ^ b.toNat) (0 : Int)).set 0 1 = (1 : Int) :: List.replicate (2 ^ b.toNat - 1) 0 := by
   obtain ⟨m, hm⟩ : ∃ m, 2 ^ b.toNat = m + 1 := ⟨2 ^ b.toNat - 1, (by omega)⟩
   rw [hm, List.replicate_succ, List.set_cons_zero, Nat.add_sub_cancel]
  unfold spec_l10Vector.f
  rw [w64 (n := b - 1) (by omega) (by omega), e1, e2, e3, if_pos (show 0 ≤ b - 1 by omega), if_pos (show (0 : Int) ≤ ((2 ^ b.toNat : Nat) : Int) by omega), if_pos (by omega)]
  simp only [bS]
  rw [Int.toNat_natCast, if_pos (by rw [List.length_replicate]; omega), show (0 : Int).toNat = 0 from rfl, er]
  have g := vec_l0 u v (by omega) (2 ^ (b.toNat - 1)) ((1 : Int) :: List.replicate (2 ^ b.toNat - 1) 0) (by omega) (by omega) u.length k 0 (by omega) (by omega)
  rw [List.take_zero, splice_nil, Int.natCast_zero] at g
  rw [g]
  have g2 := vec_l1 v (by omega) (2 ^ (b.toNat - 1)) (by omega) (splice ((1 : Int) :: List.replicate (2 ^ b.toNat - 1) 0) 1 u) (by omega) (by omega) v.length (k - u.length - 1) 0 (by omega) (by omega)
  rw [List.take_zero, splice_nil, Int.natCast_zero] at g2
  exact g2
theorem VectorOf_same (a b c : Int) (x y z : List S53) (u v : List Int) (hx : x.length ≤ 1048576) (hy : y.length ≤ 1048576) (hz : z.length ≤ 1048576) (hu : u.length ≤ 1048576) (hv : v.length ≤ 1048576) :
  ∃ r : List Int × Int, r.1.length ≤ 4096 ∧ ∀ k, 1060000 < k → impl_VectorOf.f k a b c x y z u v = some r ∧ spec_VectorOf.f k a b c x y z u v = some r := by
 by_cases h1 : (u.length : Int) > 4096
 ·
  refine ⟨([], 2), (by simp), fun k hk => ?_⟩
  obtain ⟨k, rfl⟩ : ∃ m, k = m + 1 := ⟨k - 1, (by omega)⟩
  unfold impl_VectorOf.f spec_VectorOf.f
  rw [if_pos h1, if_pos h1]
  simp only [impl_VectorOf.j0, spec_VectorOf.j0, if_true]
  exact ⟨trivial, trivial⟩
 by_cases h2 : (v.length : Int) > 4096
 ·
  refine ⟨([], 2), (by simp), fun k hk => ?_⟩
  obtain ⟨k, rfl⟩ : ∃ m, k = m + 1 := ⟨k - 1, (by omega)⟩
  unfold impl_VectorOf.f spec_VectorOf.f
  rw [if_neg h1, if_neg h1, decide_eq_true h2]
  simp only [impl_VectorOf.j0, spec_VectorOf.j0, if_true]
  exact ⟨trivial, trivial⟩
 have start : ∀ k, 1055000 < k → ∃ g : Bool, (g = true ↔ ¬ (sysB a b c x y z = true ∧ fieldsB u = true ∧ fieldsB v = true)) ∧ impl_VectorOf.f (k + 1 + 1) a b c x y z u v = impl_VectorOf.j1 (k + 1) u v g a b c x y z ∧ spec_VectorOf.f (k + 1 + 1) a b c x y z u v = spec_VectorOf.j1 (k + 1) u v g a b c x y z := by
  intro k hk
  obtain ⟨e1, e2⟩ := SystemOK_eq (a := a) (b := b) (c := c) hx hy hz (k := k + 1) (by omega)
  unfold impl_VectorOf.f spec_VectorOf.f
  rw [if_neg h1, if_neg h1, decide_eq_false h2]
  simp only [impl_VectorOf.j0, spec_VectorOf.j0, Bool.false_eq_true, if_false]
  rw [e1, e2]
  simp only [bS]
  cases hs : sysB a b c x y z
  ·
   simp only [Bool.false_eq_true, if_false]
   exact ⟨true, (by simp), rfl, rfl⟩
  ·
   simp only [if_true]
   rw [are_fields_eq, l10Fields_eq hu (by omega)]
   simp only [bS]
   cases hfu : fieldsB u
   ·
    simp only [Bool.false_eq_true, if_false]
    exact ⟨true, (by simp), rfl, rfl⟩
   ·
    simp only [if_true]
    rw [are_fields_eq, l10Fields_eq hv (by omega)]
    simp only [bS]
    exact ⟨!fieldsB v, (by cases fieldsB v <;> simp), rfl, rfl⟩
 by_cases hok : sysB a b c x y z = true ∧ fieldsB u = true ∧ fieldsB v = true
 ·
  obtain ⟨ha, hb, hc, _⟩ := sysB_iff hok.1
  have hp := two_le b.toNat (by omega)
  have hp0 := Nat.two_pow_pos (b.toNat - 1)
  have hh := two_half (b := b) (by omega)
  have e1 : IntKind.u64.wrap (b - 1) = b - 1 := by
   simp only [IntKind.wrap, IntKind.bits, IntKind.signed]; simp; omega
  have e2 : shl .i64 1 (b - 1) = ((2 ^ (b.toNat - 1) : Nat) : Int) := by
   rw [show b - 1 = ((b.toNat - 1 : Nat) : Int) by omega, Go.Proofs.Ytekijbcblajjbaa.PT.shlS_ (by omega)]
  have step : ∀ k, 1055000 < k → impl_VectorOf.f (k + 1 + 1) a b c x y z u v = (if (u.length : Int) = c then (if (v.length : Int) > ((2 ^ (b.toNat - 1) : Nat) : Int) then some ([], 8) else (impl_System_vector.f a b c x y z u v).bind fun t => some (t, (0 : Int))) else some ([], 8)) ∧
    spec_VectorOf.f (k + 1 + 1) a b c x y z u v = (if (u.length : Int) = c then (if (v.length : Int) > ((2 ^ (b.toNat - 1) : Nat) : Int) then some ([], 8) else (spec_l10Vector.f k a b c x y z u v).bind fun t => some (t, (0 : Int))) else some ([], 8)) := by
   intro k hk
   obtain ⟨g, hg, q1, q2⟩ := start k hk
   have hgf : g = false := by
    cases g
    ·
     rfl
    ·
     exact absurd hok (hg.1 rfl)
   subst hgf
   rw [q1, q2]
   simp only [impl_VectorOf.j1, spec_VectorOf.j1, Bool.false_eq_true, if_false]
   rw [half_eq (by omega) (by omega), w64 (n := b - 1) (by omega) (by omega), e1, e2, if_pos (show 0 ≤ b - 1 by omega)]
   simp only [bS]
   exact ⟨trivial, trivial⟩
  by_cases h3 : (u.length : Int) = c
  ·
   by_cases h4 : (v.length : Int) > ((2 ^ (b.toNat - 1) : Nat) : Int)
   ·
    refine ⟨([], 8), (by simp), fun k hk => ?_⟩
    obtain ⟨k, rfl⟩ : ∃ m, k = m + 1 + 1 := ⟨k - 2, (by omega)⟩
    obtain ⟨q1, q2⟩ := step k (by omega)
    rw [q1, q2, if_pos h3, if_pos h3, if_pos h4, if_pos h4]; exact ⟨rfl, rfl⟩
   ·
    obtain ⟨f1, f2⟩ := vector_same (a := a) (b := b) (c := c) (x := x) (y := y) (z := z) (u := u) (v := v) (by omega) (by omega) (by omega) (by omega)
    have hvl := vecL_length (b := b) (x := u) (z := v) (by omega) (by omega) (by omega) (by omega)
    refine ⟨(vecL b u v, 0), (by show (vecL b u v).length ≤ 4096; omega), fun k hk => ?_⟩
    obtain ⟨k, rfl⟩ : ∃ m, k = m + 1 + 1 := ⟨k - 2, (by omega)⟩
    obtain ⟨q1, q2⟩ := step k (by omega)
    rw [q1, q2, if_pos h3, if_pos h3, if_neg h4, if_neg h4, f1, f2 k (by omega)]; exact ⟨rfl, rfl⟩
  ·
   refine ⟨([], 8), (by simp), fun k hk => ?_⟩
   obtain ⟨k, rfl⟩ : ∃ m, k = m + 1 + 1 := ⟨k - 2, (by omega)⟩
   obtain ⟨q1, q2⟩ := step k (by omega)
   rw [q1, q2, if_neg h3, if_neg h3]; exact ⟨rfl, rfl⟩
 ·
  refine ⟨([], 1), (by simp), fun k hk => ?_⟩
  obtain ⟨k, rfl⟩ : ∃ m, k = m + 1 + 1 := ⟨k - 2, (by omega)⟩
  obtain ⟨g, hg, q1, q2⟩ := start k (by omega)
  have hgt : g = true := hg.2 hok
  subst hgt
  rw [q1, q2]
  simp only [impl_VectorOf.j1, spec_VectorOf.j1, if_true]
  exact ⟨trivial, trivial⟩
/-! marks -/
end Go.Proofs.Ytekijbcblajjbaa.PT
end
section
/- What is drawn from bytes: the numbers and elements that the laws draw are of the field. -/
namespace Go.Proofs.Ytekijbcblajjbaa.PT
open Go.RowKit Go.Proofs.YtekijbcblajjbaaW.PrintWords Go.Proofs.YtekijbcblajjbaaW.PrintLast Go.Proofs.YtekijbcblajjbaaW.PrintMore
set_option linter.unusedVariables false
set_option linter.unusedSimpArgs false
def bytesL (l : List Int) : Prop := ∀ x ∈ l, 0 ≤ x ∧ x ≤ 255
theorem bytesL_rd {l : List Int} (h : bytesL l) {i : Int} (h0 : 0 ≤ i) (h1 : i < l.length) : 0 ≤ rd l i ∧ rd l i ≤ 255 := by
 show 0 ≤ l.getD i.toNat 0 ∧ l.getD i.toNat 0 ≤ 255
 rw [getD_at (show i.toNat < l.length by omega)]
 exact h _ (List.getElem_mem _)
def stOK (p s : Int) (b : Int) : Prop := 0 ≤ p ∧ p ≤ b ∧ 0 ≤ s ∧ s < 2147483648
theorem byte_ok {l : List Int} (h : bytesL l) {p s b : Int} (hs : stOK p s b) (hb : b ≤ 1000000000) : ∃ v s', spec_l00Src_byte.f l p s = some (v, p + 1, s') ∧ 0 ≤ v ∧ v ≤ 255 ∧ stOK (p + 1) s' (b + 1) := by
 obtain ⟨h0, h1, h2, h3⟩ := hs
 unfold spec_l00Src_byte.f
 rw [if_pos (by omega)]
 by_cases h4 : p < (l.length : Int)
 ·
  have hr := bytesL_rd h h0 h4
  rw [if_pos h4, if_pos hr]
  exact ⟨_, _, rfl, hr.1, hr.2, (by unfold stOK; omega)⟩
 ·
  rw [if_neg h4]
  by_cases h5 : 2999 < p
  ·
   rw [if_pos h5]; exact ⟨_, _, rfl, (by omega), (by omega), (by unfold stOK; omega)⟩
  ·
   rw [if_neg h5]
   refine ⟨_, _, rfl, (by omega), (by omega), ?_⟩
   unfold stOK spec_l00Src_byte.next; omega
theorem next_ok {l : List Int} (h : bytesL l) {p s b a : Int} (hs : stOK p s b) (hb : b ≤ 1000000000) (ha : 2 ≤ a) (ha2 : a ≤ 256) : ∃ v s', spec_l00Src_next.f l p s a = some (v, p + 1, s') ∧ 0 ≤ v ∧ v < a ∧ v ≤ 255 ∧ stOK (p + 1) s' (b + 1) := by
 obtain ⟨v, s', e, h0, h1, h2⟩ := byte_ok h hs hb
 unfold spec_l00Src_next.f
 rw [if_neg (by omega), if_pos ha2, e]
 simp only [bS]
 rw [if_neg (by omega), tmod_nn h0]
 have hm : v % a ≤ v := by
  rcases Int.lt_or_le v a with h | h
  ·
   rw [Int.emod_eq_of_lt h0 h]; exact Int.le_refl _
  ·
   have := Int.emod_lt_of_pos v (show 0 < a by omega); omega
 exact ⟨_, _, rfl, Int.emod_nonneg _ (by omega), Int.emod_lt_of_pos _ (by omega), (by omega), h2⟩
theorem chance_ok {l : List Int} (h : bytesL l) {p s b : Int} (hs : stOK p s b) (hb : b ≤ 1000000000) : ∃ v s', spec_l00Src_chance.f l p s 4 = some (v, p + 1, s') ∧ stOK (p + 1) s' (b + 1) := by
 obtain ⟨v, s', e, _, _, _, h2⟩ := next_ok h hs hb (a := 4) (by omega) (by omega)
 unfold spec_l00Src_chance.f
 rw [e]
 exact ⟨_, _, rfl, h2⟩
theorem field_l0 {l : List Int} (h : bytesL l) (d : Nat) : ∀ (k i : Nat) (v p s b : Int), i + d = 5 → d < k → inF v → stOK p s b → b + d ≤ 1000000000 →
  ∃ v' p' s', spec_l00Src_field.l0 k v i l p s = some (v', p', s') ∧ inF v' ∧ stOK p' s' (b + d) := by
 induction d with
 | zero =>
  intro k i v p s b hi hk hv hs hb
  obtain ⟨k, rfl⟩ : ∃ m, k = m + 1 := ⟨k - 1, (by omega)⟩
  simp only [spec_l00Src_field.l0]
  rw [if_neg (by omega)]
  exact ⟨_, _, _, rfl, hv, (by unfold stOK at *; omega)⟩
 | succ d ih =>
  intro k i v p s b hi hk hv hs hb
  obtain ⟨k, rfl⟩ : ∃ m, k = m + 1 := ⟨k - 1, (by omega)⟩
  obtain ⟨u, s', e, h0, h1, h2, h3⟩ := next_ok h hs (by omega) (a := 256) (by omega) (by omega)
  simp only [spec_l00Src_field.l0]
  rw [if_pos (by omega), e]
  simp only [bS]
  unfold inF at hv
  rw [w64 (n := v * 256) (by omega) (by omega), w64 (n := v * 256 + u) (by omega) (by omega), tmod_nn (by omega), w64 (by omega) (by omega), show (i : Int) + 1 = ((i + 1 : Nat) : Int) by omega]
  obtain ⟨v', p', s'', e2, hv', hs'⟩ := ih k (i + 1) ((v * 256 + u) % 2130706433) (p + 1) s' (b + 1) (by omega) (by omega) (by unfold inF; omega) h3 (by omega)
  exact ⟨v', p', s'', e2, hv', (by unfold stOK at *; omega)⟩
theorem field_ok {l : List Int} (h : bytesL l) {p s b : Int} (hs : stOK p s b) (hb : b ≤ 900000000) {k : Nat} (hk : 10 < k) : ∃ v p' s', spec_l00Src_field.f k l p s = some (v, p', s') ∧ inF v ∧ stOK p' s' (b + 10) := by
 obtain ⟨u, s1, e1, h0, h1, _, h2⟩ := next_ok h hs (by omega) (a := 5) (by omega) (by omega)
 unfold spec_l00Src_field.f
 rw [e1]
 simp only [bS]
 by_cases hu : u = 0
 ·
  obtain ⟨v, s2, e2, h3, h4, _, h5⟩ := next_ok h h2 (by omega) (a := 4) (by omega) (by omega)
  rw [if_pos hu, e2]
  simp only [bS]
  exact ⟨_, _, _, rfl, (by unfold inF; omega), (by unfold stOK at *; omega)⟩
 ·
  rw [if_neg hu]
  by_cases hu1 : u = 1
  ·
   obtain ⟨v, s2, e2, h3, h4, _, h5⟩ := next_ok h h2 (by omega) (a := 3) (by omega) (by omega)
   rw [if_pos hu1, e2]
   simp only [bS]
   rw [w64 (by omega) (by omega)]
   exact ⟨_, _, _, rfl, (by unfold inF; omega), (by unfold stOK at *; omega)⟩
  ·
   rw [if_neg hu1]
   obtain ⟨v', p', s', e2, hv, h5⟩ := field_l0 h 5 k 0 0 (p + 1) s1 (b + 1) (by omega) (by omega) inF_0 h2 (by omega)
   rw [Int.natCast_zero] at e2
   exact ⟨v', p', s', e2, hv, (by unfold stOK at *; omega)⟩
theorem source_ok (l : List Int) : ∃ s, spec_l00Source.f l = some (l, 0, s) ∧ stOK 0 s 0 := by
 unfold spec_l00Source.f
 exact ⟨_, rfl, (by unfold stOK; omega)⟩
theorem at_ok {l : List Int} (h : bytesL l) (hl : l.length ≤ 1048576) {a n : Int} (ha : 0 ≤ a) (ha2 : a ≤ 10) (hn : 0 ≤ n) (hn2 : n ≤ 1000000) : ∃ t, laws_at.f l a n = some t ∧ 0 ≤ t ∧ (t < n ∨ t = 0) := by
 unfold laws_at.f
 by_cases h1 : n ≤ 1
 ·
  rw [if_pos h1]; exact ⟨0, rfl, (by omega), (by omega)⟩
 ·
  rw [if_neg h1]
  by_cases h2 : (l.length : Int) = 0
  ·
   rw [if_pos h2, if_neg (by omega), w64 (by omega) (by omega), tmod_nn (by omega)]
   exact ⟨_, rfl, Int.emod_nonneg _ (by omega), Or.inl (Int.emod_lt_of_pos _ (by omega))⟩
  ·
   have hp : 0 < (l.length : Int) := by omega
   have m0 := Int.emod_nonneg a (show (l.length : Int) ≠ 0 by omega)
   have m1 := Int.emod_lt_of_pos a hp
   have m2 := Int.emod_nonneg (a + 1) (show (l.length : Int) ≠ 0 by omega)
   have m3 := Int.emod_lt_of_pos (a + 1) hp
   have r1 := bytesL_rd h m0 m1
   have r2 := bytesL_rd h m2 m3
   have d0 : 0 ≤ a / (l.length : Int) := Int.ediv_nonneg ha (by omega)
   have d1 : a / (l.length : Int) ≤ a := Int.ediv_le_self _ ha
   rw [if_neg h2, tmod_nn ha, w64 (n := a + 1) (by omega) (by omega), tmod_nn (by omega), tdiv_nn ha, if_pos m0, if_pos m1, if_pos m2, if_pos m3, if_neg (by omega),
    w64 (n := rd l (a % (l.length : Int))) (by omega) (by omega), w64 (n := rd l (a % (l.length : Int)) * 31) (by omega) (by omega), w64 (n := rd l ((a + 1) % (l.length : Int))) (by omega) (by omega),
    w64 (n := _ + rd l ((a + 1) % (l.length : Int))) (by omega) (by omega), w64 (n := a / (l.length : Int)) (by omega) (by omega), w64 (n := _ + a / (l.length : Int)) (by omega) (by omega), tmod_nn (by omega)]
   exact ⟨_, rfl, Int.emod_nonneg _ (by omega), Or.inl (Int.emod_lt_of_pos _ (by omega))⟩
end Go.Proofs.Ytekijbcblajjbaa.PT
end
section
/- Systems that are drawn are right; and what the law asks of them holds. -/
namespace Go.Proofs.Ytekijbcblajjbaa.PT
open Go.RowKit Go.Proofs.YtekijbcblajjbaaW.PrintWords Go.Proofs.YtekijbcblajjbaaW.PrintLast Go.Proofs.YtekijbcblajjbaaW.PrintMore
set_option linter.unusedVariables false
set_option linter.unusedSimpArgs false
abbrev EN := S53
/-! what is drawn -/
theorem stOK_le {p s b b' : Int} (h : stOK p s b) (hb : b ≤ b') : stOK p s b' := by unfold stOK at *; omega
theorem field_u {l : List Int} (h : bytesL l) {p s b : Int} (hs : stOK p s b) (hb : b ≤ 900000000) : ∃ v p' s', inF v ∧ stOK p' s' (b + 10) ∧ ∀ k, 10 < k → spec_l00Src_field.f k l p s = some (v, p', s') := by
 obtain ⟨v, p', s', e, hv, h2⟩ := field_ok h hs hb (k := 11) (by omega)
 refine ⟨v, p', s', hv, h2, fun k hk => ?_⟩
 obtain ⟨m, rfl⟩ : ∃ m, k = 11 + m := ⟨k - 11, (by omega)⟩
 induction m with
 | zero => exact e
 | succ m ih => exact spec_l00Src_field.mono l p s (11 + m) _ (ih (by omega))
def endsB (r c : Int) (l : List EN) : Prop := ∀ e ∈ l, e.f0 < r ∨ (e.f0 = r ∧ e.f1 < c)
theorem endsB_nil (r c : Int) : endsB r c [] := fun e h => by cases h
theorem endsB_le {r c r' c' : Int} {l : List EN} (h : endsB r c l) (hl : r < r' ∨ (r = r' ∧ c ≤ c')) : endsB r' c' l := fun e he => by have := h e he; omega
theorem endsB_snoc {r c : Int} {l : List EN} (h : endsB r c l) (v : Int) : endsB r (c + 1) (l ++ [⟨r, c, v⟩]) := fun e he => by
 rcases List.mem_append.mp he with he | he
 ·
  have := h e he; omega
 ·
  rw [List.mem_singleton.mp he]; right; exact ⟨rfl, (by show c < c + 1; omega)⟩
theorem matB_snoc {R C : Int} {x : EN} (hx : entB R C x = true) : ∀ {l : List EN}, matB R C l = true → endsB x.f0 x.f1 l → matB R C (l ++ [x]) = true
 | [], _, _ => hx
 | [y], h, he => by
  have hy := he y (List.mem_cons_self ..)
  show (entB R C y && (befB y x && entB R C x)) = true
  rw [show entB R C y = true from h, show befB y x = true from decide_eq_true hy, hx]; rfl
 | y :: z :: zs, h, he => by
  have h' : (entB R C y && (befB y z && matB R C (z :: zs))) = true := h
  rw [Bool.and_eq_true, Bool.and_eq_true] at h'
  have ih := matB_snoc hx (l := z :: zs) h'.2.2 (fun e hm => he e (List.mem_cons_of_mem _ hm))
  show (entB R C y && (befB y z && matB R C ((z :: zs) ++ [x]))) = true
  rw [h'.1, h'.2.1, ih]; rfl
theorem mx_ok {v : Int} (h : inF v) : 1 ≤ mx 1 v ∧ mx 1 v ≤ 2130706432 := by
 unfold inF at h; unfold mx; by_cases h1 : 1 < v
 ·
  rw [if_pos h1]; omega
 ·
  rw [if_neg h1]; omega
theorem pow_le8 {t : Nat} (h : t ≤ 3) : 2 ^ t ≤ 8 := Nat.le_trans (Nat.pow_le_pow_right (by omega) h) (by decide)
theorem entries_l1 {l : List Int} (h : bytesL l) {s t : Nat} (hs : s ≤ 3) (ht : t ≤ 3) {r : Nat} (hr : r < 2 ^ s) (K M : Nat) (B EB : Int) (hB : B ≤ 100000)
  (next : ∀ (L : List EN) (p sd b : Int), matB ((2 ^ s : Nat) : Int) ((2 ^ t : Nat) : Int) L = true → endsB ((r + 1 : Nat) : Int) 0 L → L.length ≤ M + 8 → stOK p sd b → b ≤ B + 88 →
   ∃ q p' s', (matB ((2 ^ s : Nat) : Int) ((2 ^ t : Nat) : Int) q = true ∧ q.length ≤ 64) ∧ stOK p' s' EB ∧ ∀ k, K < k → spec_l00Src_entries.l0 k s t L ((r + 1 : Nat) : Int) l p sd = some (q, p', s')) (hM : M ≤ 1000) (d : Nat) :
  ∀ (c : Nat) (L : List EN) (p sd b : Int), c + d = 2 ^ t → matB ((2 ^ s : Nat) : Int) ((2 ^ t : Nat) : Int) L = true → endsB (r : Int) (c : Int) L → L.length ≤ M + c → stOK p sd b → b ≤ B + 11 * c →
   ∃ q p' s', (matB ((2 ^ s : Nat) : Int) ((2 ^ t : Nat) : Int) q = true ∧ q.length ≤ 64) ∧ stOK p' s' EB ∧ ∀ k, K + d + 20 < k → spec_l00Src_entries.l1 k s t L (r : Int) (c : Int) l p sd = some (q, p', s') := by
 have h8 := pow_le8 ht
 have h8s := pow_le8 hs
 induction d with
 | zero =>
  intro c L p sd b hc hm he hl hst hb
  obtain ⟨q, p', s', hq, hst', e⟩ := next L p sd b hm (endsB_le he (by omega)) (by omega) hst (by omega)
  refine ⟨q, p', s', hq, hst', fun k hk => ?_⟩
  obtain ⟨k, rfl⟩ : ∃ m, k = m + 1 := ⟨k - 1, (by omega)⟩
  simp only [spec_l00Src_entries.l1]
  rw [u64w (n := (t : Int)) (by omega) (by omega), if_pos (show 0 ≤ (t : Int) by omega), Go.Proofs.Ytekijbcblajjbaa.PT.shlS_ (by omega), if_neg (by omega), w64 (by omega) (by omega), show (r : Int) + 1 = ((r + 1 : Nat) : Int) by omega]
  exact e k (by omega)
 | succ d ih =>
  intro c L p sd b hc hm he hl hst hb
  obtain ⟨v, s1, e1, h1⟩ := chance_ok h hst (by omega)
  cases v with
  | true =>
   obtain ⟨u, p2, s2, hu, h2, e2⟩ := field_u h h1 (by omega)
   obtain ⟨u0, u1⟩ := mx_ok hu
   have hent : entB ((2 ^ s : Nat) : Int) ((2 ^ t : Nat) : Int) ⟨(r : Int), (c : Int), mx 1 u⟩ = true := by
    unfold entB
    rw [decide_eq_true (show 0 ≤ (r : Int) ∧ (r : Int) ≤ ((2 ^ s : Nat) : Int) - 1 by omega), decide_eq_true (show 0 ≤ (c : Int) ∧ (c : Int) ≤ ((2 ^ t : Nat) : Int) - 1 by omega), decide_eq_true (show 1 ≤ mx 1 u ∧ mx 1 u ≤ 2130706432 from ⟨u0, u1⟩)]; rfl
   obtain ⟨q, p', s', hq, hst', e⟩ := ih (c + 1) (L ++ [⟨(r : Int), (c : Int), mx 1 u⟩]) p2 s2 (b + 1 + 10) (by omega) (matB_snoc hent hm he) (by have := endsB_snoc he (mx 1 u); rwa [show (c : Int) + 1 = ((c + 1 : Nat) : Int) by omega] at this) (by rw [List.length_append, List.length_singleton]; omega) h2 (by push_cast; omega)
   refine ⟨q, p', s', hq, hst', fun k hk => ?_⟩
   obtain ⟨k, rfl⟩ : ∃ m, k = m + 1 := ⟨k - 1, (by omega)⟩
   simp only [spec_l00Src_entries.l1]
   rw [u64w (n := (t : Int)) (by omega) (by omega), if_pos (show 0 ≤ (t : Int) by omega), Go.Proofs.Ytekijbcblajjbaa.PT.shlS_ (by omega), if_pos (by omega), e1]
   simp only [bS, if_true]
   rw [e2 k (by omega)]
   simp only [bS]
   rw [if_pos (by omega), w64 (by omega) (by omega), show (c : Int) + 1 = ((c + 1 : Nat) : Int) by omega]
   exact e k (by omega)
  | false =>
   obtain ⟨q, p', s', hq, hst', e⟩ := ih (c + 1) L (p + 1) s1 (b + 1) (by omega) hm (endsB_le he (by omega)) (by omega) h1 (by push_cast; omega)
   refine ⟨q, p', s', hq, hst', fun k hk => ?_⟩
   obtain ⟨k, rfl⟩ : ∃ m, k = m + 1 := ⟨k - 1, (by omega)⟩
   simp only [spec_l00Src_entries.l1]
   rw [u64w (n := (t : Int)) (by omega) (by omega), if_pos (show 0 ≤ (t : Int) by omega), Go.Proofs.Ytekijbcblajjbaa.PT.shlS_ (by omega), if_pos (by omega), e1]
   simp only [bS, Bool.false_eq_true, if_false]
   rw [w64 (by omega) (by omega), show (c : Int) + 1 = ((c + 1 : Nat) : Int) by omega]
   exact e k (by omega)
theorem entries_l0 {l : List Int} (h : bytesL l) {s t : Nat} (hs : s ≤ 2) (ht : t ≤ 3) (b0 : Int) (hb0 : b0 ≤ 10000) (d : Nat) :
  ∀ (r : Nat) (L : List EN) (p sd b : Int), r + d = 2 ^ s → matB ((2 ^ s : Nat) : Int) ((2 ^ t : Nat) : Int) L = true → endsB (r : Int) 0 L → L.length ≤ 8 * r → stOK p sd b → b ≤ b0 + 100 * r →
   ∃ q p' s', (matB ((2 ^ s : Nat) : Int) ((2 ^ t : Nat) : Int) q = true ∧ q.length ≤ 64) ∧ stOK p' s' (b0 + 500) ∧ ∀ k, d * 40 + 5 < k → spec_l00Src_entries.l0 k s t L (r : Int) l p sd = some (q, p', s') := by
 have h4 : 2 ^ s ≤ 4 := Nat.le_trans (Nat.pow_le_pow_right (by omega) hs) (by decide)
 have h8 := pow_le8 ht
 induction d with
 | zero =>
  intro r L p sd b hr hm he hl hst hb
  refine ⟨L, p, sd, ⟨hm, (by omega)⟩, stOK_le hst (by omega), fun k hk => ?_⟩
  obtain ⟨k, rfl⟩ : ∃ m, k = m + 1 := ⟨k - 1, (by omega)⟩
  simp only [spec_l00Src_entries.l0]
  rw [u64w (n := (s : Int)) (by omega) (by omega), if_pos (show 0 ≤ (s : Int) by omega), Go.Proofs.Ytekijbcblajjbaa.PT.shlS_ (by omega), if_neg (by omega)]
 | succ d ih =>
  intro r L p sd b hr hm he hl hst hb
  obtain ⟨q, p', s', hq, hst', e⟩ := entries_l1 h (s := s) (t := t) (by omega) ht (r := r) (by omega) (d * 40 + 5) (8 * r) (b0 + 100 * r) (b0 + 500) (by omega)
   (fun L p sd b hm he hl hst hb => ih (r + 1) L p sd b (by omega) hm he (by omega) hst (by push_cast; omega)) (by omega) (2 ^ t) 0 L p sd b (by omega) hm he (by omega) hst (by omega)
  refine ⟨q, p', s', hq, hst', fun k hk => ?_⟩
  obtain ⟨k, rfl⟩ : ∃ m, k = m + 1 := ⟨k - 1, (by omega)⟩
  simp only [spec_l00Src_entries.l0]
  rw [u64w (n := (s : Int)) (by omega) (by omega), if_pos (show 0 ≤ (s : Int) by omega), Go.Proofs.Ytekijbcblajjbaa.PT.shlS_ (by omega), if_pos (by omega)]
  rw [Int.natCast_zero] at e
  exact e k (by omega)
theorem entries_ok {l : List Int} (h : bytesL l) {s t : Nat} (hs : s ≤ 2) (ht : t ≤ 3) {p sd b : Int} (hst : stOK p sd b) (hb : b ≤ 10000) :
  ∃ q p' s', (matB ((2 ^ s : Nat) : Int) ((2 ^ t : Nat) : Int) q = true ∧ q.length ≤ 64) ∧ stOK p' s' (b + 500) ∧ ∀ k, 200 < k → spec_l00Src_entries.f k l p sd s t = some (q, p', s') := by
 have h4 : 2 ^ s ≤ 4 := Nat.le_trans (Nat.pow_le_pow_right (by omega) hs) (by decide)
 obtain ⟨q, p', s', hq, h2, e⟩ := entries_l0 h hs ht b hb (2 ^ s) 0 [] p sd b (by omega) rfl (endsB_nil _ _) (by simp) hst (by omega)
 exact ⟨q, p', s', hq, h2, fun k hk => e k (by omega)⟩
theorem Drawn_ok {l : List Int} (h : bytesL l) : ∃ (a b c : Int) (x y z : List EN), sysB a b c x y z = true ∧ (a ≤ 2 ∧ b ≤ 3) ∧ ∀ k, 300 < k → spec_SystemDrawn.f k l = some (a, b, c, x, y, z) := by
 obtain ⟨s0, e0, h0⟩ := source_ok l
 obtain ⟨v1, s1, e1, a0, a1, _, h1⟩ := next_ok h h0 (by omega) (a := 2) (by omega) (by omega)
 obtain ⟨v2, s2, e2, b0, b1, _, h2⟩ := next_ok h h1 (by omega) (a := 2) (by omega) (by omega)
 obtain ⟨s, hs⟩ : ∃ s : Nat, 1 + v1 = s := ⟨(1 + v1).toNat, (by omega)⟩
 obtain ⟨t, ht⟩ : ∃ t : Nat, 2 + v2 = t := ⟨(2 + v2).toNat, (by omega)⟩
 have ht1 : (t : Int) - 1 = ((t - 1 : Nat) : Int) := by omega
 have hp2 : 2 ≤ 2 ^ (t - 1) := by
  have : t - 1 = 1 ∨ t - 1 = 2 := by omega
  rcases this with h | h <;> rw [h] <;> decide
 have hp8 := pow_le8 (t := t - 1) (by omega)
 obtain ⟨v3, s3, e3, c0, c1, _, h3⟩ := next_ok h h2 (by omega) (a := ((2 ^ (t - 1) : Nat) : Int)) (by omega) (by omega)
 obtain ⟨x, p4, s4, hx, h4, e4⟩ := entries_ok h (s := s) (t := t) (by omega) (by omega) h3 (by omega)
 obtain ⟨y, p5, s5, hy, h5, e5⟩ := entries_ok h (s := s) (t := t) (by omega) (by omega) h4 (by omega)
 obtain ⟨z, p6, s6, hz, h6, e6⟩ := entries_ok h (s := s) (t := t) (by omega) (by omega) h5 (by omega)
 refine ⟨(s : Int), (t : Int), v3, x, y, z, ?_, (by omega), fun k hk => ?_⟩
 ·
  unfold sysB mat3 matOK
  rw [Int.toNat_natCast, Int.toNat_natCast, hx.1, hy.1, hz.1, decide_eq_true (show 1 ≤ (s : Int) ∧ (s : Int) ≤ 5 by omega), decide_eq_true (show 2 ≤ (t : Int) ∧ (t : Int) ≤ 5 by omega), decide_eq_true (show 0 ≤ v3 ∧ v3 ≤ ((2 ^ (t - 1) : Nat) : Int) - 1 by omega),
   decide_eq_true (show x.length ≤ 200 by omega), decide_eq_true (show y.length ≤ 200 by omega), decide_eq_true (show z.length ≤ 200 by omega)]; rfl
 ·
  unfold spec_SystemDrawn.f spec_l00Src_system.f
  rw [e0]
  simp only [bS]
  rw [e1]
  simp only [bS]
  rw [show (0 : Int) + 1 = 0 + 1 from rfl, e2]
  simp only [bS]
  rw [w64 (n := 2 + v2) (by omega) (by omega), w64 (n := 1 + v1) (by omega) (by omega), ht, hs, w64 (n := (t : Int) - 1) (by omega) (by omega), ht1, u64w (n := ((t - 1 : Nat) : Int)) (by omega) (by omega), if_pos (by omega), Go.Proofs.Ytekijbcblajjbaa.PT.shlS_ (by omega), e3]
  simp only [bS]
  rw [e4 k (by omega)]
  simp only [bS]
  rw [e5 k (by omega)]
  simp only [bS]
  rw [e6 k (by omega)]
  simp only [bS]
theorem fields_l0 {l : List Int} (h : bytesL l) (n : Nat) (hn : n ≤ 4096) (d : Nat) : ∀ (i : Nat) (a : List Int) (p s b : Int), i + d = n → a.length = i → (∀ y ∈ a, inF y) → stOK p s b → b ≤ 10 * i →
  ∃ (q : List Int) (p' s' : Int), ((∀ y ∈ q, inF y) ∧ q.length = n) ∧ ∀ k, d + 11 < k → spec_l00Src_fields.l0 k (n : Int) a i l p s = some (q, p', s') := by
 induction d with
 | zero =>
  intro i a p s b hi ha hoa hs hb
  refine ⟨a, p, s, ⟨hoa, (by omega)⟩, fun k hk => ?_⟩
  obtain ⟨k, rfl⟩ : ∃ m, k = m + 1 := ⟨k - 1, (by omega)⟩
  simp only [spec_l00Src_fields.l0]
  rw [if_neg (by omega)]
 | succ d ih =>
  intro i a p s b hi ha hoa hs hb
  obtain ⟨v, p', s', hv, hs', e⟩ := field_u h hs (by omega)
  obtain ⟨q, p2, s2, hq, hk2⟩ := ih (i + 1) (a ++ [v]) p' s' (b + 10) (by omega) (by simp; omega) (by
   intro y hy
   rcases List.mem_append.mp hy with hy | hy
   ·
    exact hoa y hy
   ·
    rw [List.mem_singleton.mp hy]; exact hv) hs' (by omega)
  refine ⟨q, p2, s2, hq, fun k hk => ?_⟩
  obtain ⟨k, rfl⟩ : ∃ m, k = m + 1 := ⟨k - 1, (by omega)⟩
  simp only [spec_l00Src_fields.l0]
  rw [if_pos (by omega), e k (by omega)]
  simp only [bS]
  rw [if_pos (by omega), w64 (by omega) (by omega), show (i : Int) + 1 = ((i + 1 : Nat) : Int) by omega]
  exact hk2 k (by omega)
theorem Numbers_ok {l : List Int} (h : bytesL l) (n : Nat) (hn : n ≤ 4096) : ∃ q : List Int, ((∀ y ∈ q, inF y) ∧ q.length = n) ∧ ∀ k, n + 20 < k → spec_NumbersOf.f k l (n : Int) = some q := by
 obtain ⟨s, e, hs⟩ := source_ok l
 obtain ⟨q, p', s', hq, hk2⟩ := fields_l0 h n hn n 0 [] 0 s 0 (by omega) rfl (by intro y hy; cases hy) hs (by omega)
 refine ⟨q, hq, fun k hk => ?_⟩
 unfold spec_NumbersOf.f spec_l00Src_fields.f
 rw [e]
 simp only [bS]
 have e2 := hk2 k (by omega)
 rw [Int.natCast_zero] at e2
 rw [e2]
 simp only [bS]
theorem fieldsB_of {l : List Int} (h : ∀ y ∈ l, inF y) : fieldsB l = true := by
 unfold fieldsB; rw [List.all_eq_true]; exact fun x hx => decide_eq_true (h x hx)
theorem sameInts_l0 (a : List Int) (hl : a.length ≤ 4096) (d : Nat) : ∀ (k i : Nat), i + d = a.length → d < k → laws_sameInts.l0 k a a i = some true := by
 induction d with
 | zero =>
  intro k i hi hk
  obtain ⟨k, rfl⟩ : ∃ m, k = m + 1 := ⟨k - 1, (by omega)⟩
  simp only [laws_sameInts.l0]
  rw [if_neg (by omega)]
 | succ d ih =>
  intro k i hi hk
  obtain ⟨k, rfl⟩ : ∃ m, k = m + 1 := ⟨k - 1, (by omega)⟩
  simp only [laws_sameInts.l0]
  rw [if_pos (by omega), if_pos (by omega), if_pos (by omega), if_true, w64 (by omega) (by omega), show (i : Int) + 1 = ((i + 1 : Nat) : Int) by omega]
  exact ih k (i + 1) (by omega) (by omega)
theorem sameInts_refl {a : List Int} (hl : a.length ≤ 4096) {k : Nat} (hk : a.length < k) : laws_sameInts.f k a a = some true := by
 unfold laws_sameInts.f; rw [if_pos rfl]; exact sameInts_l0 a hl a.length k 0 (by omega) hk
/-! the vector -/
theorem VectorOf_val {a b c : Int} {x y z : List EN} {u v : List Int} (hs : sysB a b c x y z = true) (hu : fieldsB u = true) (hv : fieldsB v = true) (h3 : (u.length : Int) = c) (h4 : v.length ≤ 2 ^ (b.toNat - 1)) {k : Nat} (hk : 1060000 < k) :
  impl_VectorOf.f k a b c x y z u v = some (vecL b u v, 0) := by
 obtain ⟨ha, hb, hc, hm⟩ := sysB_iff hs
 obtain ⟨⟨_, l3⟩, ⟨_, l4⟩, ⟨_, l5⟩⟩ := mat3_iff hm
 have hp := two_le b.toNat (by omega)
 have hp0 := Nat.two_pow_pos (b.toNat - 1)
 have hh := two_half (b := b) (by omega)
 obtain ⟨k, rfl⟩ : ∃ m, k = m + 1 + 1 := ⟨k - 2, (by omega)⟩
 obtain ⟨e1, _⟩ := SystemOK_eq (a := a) (b := b) (c := c) (x := x) (y := y) (z := z) (by omega) (by omega) (by omega) (k := k + 1) (by omega)
 obtain ⟨f1, _⟩ := vector_same (a := a) (b := b) (c := c) (x := x) (y := y) (z := z) (u := u) (v := v) (by omega) (by omega) (by omega) (by omega)
 unfold impl_VectorOf.f
 rw [if_neg (by omega), decide_eq_false (show ¬ (v.length : Int) > 4096 by omega)]
 simp only [impl_VectorOf.j0, Bool.false_eq_true, if_false]
 rw [e1, hs]
 simp only [bS, if_true]
 rw [are_fields_eq, hu]
 simp only [bS, if_true]
 rw [are_fields_eq, hv]
 simp only [bS, Bool.not_true, impl_VectorOf.j1, Bool.false_eq_true, if_false]
 rw [if_pos h3, half_eq (by omega) (by omega)]
 simp only [bS]
 rw [if_neg (by omega), f1]
 simp only [bS]
theorem vecL_ok {b : Int} {u v : List Int} (hu : ∀ y ∈ u, inF y) (hv : ∀ y ∈ v, inF y) : ∀ y ∈ vecL b u v, inF y := by
 intro y hy
 unfold vecL splice at hy
 have base : ∀ y ∈ (1 : Int) :: List.replicate (2 ^ b.toNat - 1) 0, inF y := by
  intro y hy
  rcases List.mem_cons.mp hy with rfl | hy
  ·
   unfold inF; omega
  ·
   rw [(List.mem_replicate.mp hy).2]; exact inF_0
 have mid : ∀ y ∈ ((1 : Int) :: List.replicate (2 ^ b.toNat - 1) 0).take 1 ++ (u ++ ((1 : Int) :: List.replicate (2 ^ b.toNat - 1) 0).drop (1 + u.length)), inF y := by
  intro y hy
  rcases List.mem_append.mp hy with hy | hy
  ·
   exact base y (List.mem_of_mem_take hy)
  ·
   rcases List.mem_append.mp hy with hy | hy
   ·
    exact hu y hy
   ·
    exact base y (List.mem_of_mem_drop hy)
 rcases List.mem_append.mp hy with hy | hy
 ·
  exact mid y (List.mem_of_mem_take hy)
 ·
  rcases List.mem_append.mp hy with hy | hy
  ·
   exact hv y hy
  ·
   exact mid y (List.mem_of_mem_drop hy)
theorem vecL_head {b : Int} (h1 : 2 ≤ b) (u v : List Int) : rd (vecL b u v) 0 = 1 := by
 obtain ⟨m, hm⟩ : ∃ m, 2 ^ (b.toNat - 1) = m + 1 := ⟨2 ^ (b.toNat - 1) - 1, (by have := Nat.two_pow_pos (b.toNat - 1); omega)⟩
 show (vecL b u v).getD (0 : Int).toNat 0 = 1
 unfold vecL splice
 rw [hm]
 rfl
/-! the products -/
def pstep (n : List Int) (o : List Int) (e : EN) : List Int := o.set e.f0.toNat (fadd (rd o e.f0) (fmul e.f2 (rd n e.f1)))
def prodL (n : List Int) (l : List EN) (o : List Int) : List Int := l.foldl (pstep n) o
theorem prodL_length (n : List Int) : ∀ (l : List EN) (o : List Int), (prodL n l o).length = o.length
 | [], _ => rfl
 | e :: l, o => by show (prodL n l (pstep n o e)).length = _; rw [prodL_length n l]; exact List.length_set
theorem prodL_inF (n : List Int) : ∀ (l : List EN) (o : List Int), (∀ y ∈ o, inF y) → ∀ y ∈ prodL n l o, inF y
 | [], _, h => h
 | e :: l, o, h => prodL_inF n l _ (by
   intro y hy
   rcases List.mem_or_eq_of_mem_set hy with h2 | h2
   ·
    exact h y h2
   ·
    rw [h2]; exact inF_add _ _)
def rstep (n : List Int) (j : Int) (a : Int) (e : EN) : Int := if e.f0 = j then fadd a (fmul e.f2 (rd n e.f1)) else a
theorem rd_set (o : List Int) (i : Nat) (v : Int) (j : Nat) (hi : i < o.length) : rd (o.set i v) (j : Int) = if i = j then v else rd o (j : Int) := by
 show (o.set i v).getD (j : Int).toNat 0 = if i = j then v else o.getD (j : Int).toNat 0
 rw [Int.toNat_natCast, List.getD_eq_getElem?_getD, List.getD_eq_getElem?_getD, List.getElem?_set]
 by_cases h : i = j
 ·
  subst h; rw [if_pos rfl, if_pos rfl, if_pos hi]; rfl
 ·
  rw [if_neg h, if_neg h]
theorem prodL_rd (n : List Int) (j : Nat) : ∀ (l : List EN) (o : List Int), (∀ e ∈ l, 0 ≤ e.f0 ∧ e.f0 < (o.length : Int)) → rd (prodL n l o) (j : Int) = l.foldl (rstep n (j : Int)) (rd o (j : Int))
 | [], _, _ => rfl
 | e :: l, o, h => by
  obtain ⟨h0, h1⟩ := h e (List.mem_cons_self ..)
  show rd (prodL n l (pstep n o e)) (j : Int) = l.foldl (rstep n (j : Int)) (rstep n (j : Int) (rd o (j : Int)) e)
  rw [prodL_rd n j l (pstep n o e) (fun e' he' => by have := h e' (List.mem_cons_of_mem _ he'); rwa [show (pstep n o e).length = o.length from List.length_set])]
  congr 1
  unfold pstep rstep
  rw [rd_set _ _ _ _ (by omega)]
  by_cases hj : e.f0 = (j : Int)
  ·
   rw [if_pos (by omega), if_pos hj, hj]
  ·
   rw [if_neg (by omega), if_neg hj]
theorem product_val0 (l : List EN) (hl : l.length ≤ 4096) (x : List Int) (hx : ∀ y ∈ x, inF y) (n : Nat) (he : ∀ y ∈ l, entB (n : Int) (x.length : Int) y = true) (d : Nat) : ∀ (i : Nat) (o : List Int), i + d = l.length → (∀ y ∈ o, inF y) → o.length = n →
  ∀ k, d < k → impl_product.l0 k x o l (l.length : Int) i = some (prodL x (l.drop i) o) := by
 induction d with
 | zero =>
  intro i o hi ho hn k hk
  obtain ⟨k, rfl⟩ : ∃ m, k = m + 1 := ⟨k - 1, (by omega)⟩
  simp only [impl_product.l0]
  rw [if_neg (by omega), List.drop_eq_nil_of_le (by omega)]; rfl
 | succ d ih =>
  intro i o hi ho hn k hk
  have hlt : i < l.length := by omega
  obtain ⟨⟨a0, a1⟩, ⟨b0, b1⟩, hv⟩ := entB_iff (he _ (List.getElem_mem hlt))
  have h1 : inF (rd x (l[i]).f1) := inF_rd hx b0 b1
  have h2 : inF (rd o (l[i]).f0) := inF_rd ho a0 (by omega)
  have h := ih (i + 1) (o.set (l[i]).f0.toNat (fadd (rd o (l[i]).f0) (fmul (l[i]).f2 (rd x (l[i]).f1)))) (by omega) (by
   intro y hy
   rcases List.mem_or_eq_of_mem_set hy with h | h
   ·
    exact ho y h
   ·
    rw [h]; exact inF_add _ _) (by rw [List.length_set]; exact hn)
  obtain ⟨k, rfl⟩ : ∃ m, k = m + 1 := ⟨k - 1, (by omega)⟩
  simp only [impl_product.l0]
  rw [if_pos (show (i : Int) < (l.length : Int) by omega), if_pos (show 0 ≤ (i : Int) by omega), if_pos (show (i : Int) < (l.length : Int) by omega), rdEntryS hlt, if_pos a0, if_pos (show (l[i]).f0 < (o.length : Int) by omega), if_pos b0, if_pos b1, impl_mul_eq hv h1]
  simp only [bS]
  rw [impl_add_eq h2 (inF_mul _ _)]
  simp only [bS]
  rw [w64 (by omega) (by omega), show (i : Int) + 1 = ((i + 1 : Nat) : Int) by omega, List.drop_eq_getElem_cons hlt]
  exact h k (by omega)
theorem shl_toNat {a : Int} (ha : 1 ≤ a ∧ a ≤ 5) : shl .i64 1 a = ((2 ^ a.toNat : Nat) : Int) := by
 have h := Go.Proofs.Ytekijbcblajjbaa.PT.shlS_ (n := a.toNat) (by omega)
 rwa [show ((a.toNat : Nat) : Int) = a by omega] at h
def zeros (a : Int) : List Int := List.replicate (2 ^ a.toNat) 0
theorem zeros_ok (a : Int) : ∀ y ∈ zeros a, inF y := by intro y hy; rw [(List.mem_replicate.mp hy).2]; exact inF_0
theorem product_val {l : List EN} (hl : l.length ≤ 200) {x : List Int} (hx : ∀ y ∈ x, inF y) {a : Int} (ha : 1 ≤ a ∧ a ≤ 5) (he : matB ((2 ^ a.toNat : Nat) : Int) (x.length : Int) l = true) {k : Nat} (hk : 5000 < k) : impl_product.f k l a x = some (prodL x l (zeros a)) := by
 have hps := two_le a.toNat (by omega)
 have e := product_val0 l (by omega) x hx (2 ^ a.toNat) (matB_all he) l.length 0 (zeros a) (by omega) (zeros_ok a) (by simp [zeros]) k (by omega)
 rw [Int.natCast_zero, List.drop_zero] at e
 unfold impl_product.f
 have hsh := shl_toNat ha
 rw [if_pos (show 0 ≤ a by omega), hsh, if_pos (Int.natCast_nonneg _), if_pos (show (((2 ^ a.toNat : Nat) : Int)).toNat ≤ 35184372088832 by rw [Int.toNat_natCast]; omega), Int.toNat_natCast]
 exact e
theorem MulMatrix_val {l : List EN} (hl : l.length ≤ 200) {x : List Int} (hx : ∀ y ∈ x, inF y) {a b : Int} (ha : 1 ≤ a ∧ a ≤ 5) (hb : 2 ≤ b ∧ b ≤ 3) (hxl : x.length = 2 ^ b.toNat) (he : matB ((2 ^ a.toNat : Nat) : Int) ((2 ^ b.toNat : Nat) : Int) l = true) {k : Nat} (hk : 6000 < k) :
  impl_MulMatrix.f k l a x = some (prodL x l (zeros a), 0) := by
 have hps := two_le a.toNat (by omega)
 have hpb := two_le b.toNat (by omega)
 obtain ⟨k, rfl⟩ : ∃ m, k = m + 1 + 1 := ⟨k - 2, (by omega)⟩
 have hsh := shl_toNat ha
 have hpow : pow2B (x.length : Int) 32 = true := by
  have : b.toNat = 2 ∨ b.toNat = 3 := by omega
  rw [hxl]
  rcases this with h | h <;> rw [h] <;> decide
 unfold impl_MulMatrix.f
 rw [if_neg (by omega), decide_eq_false (show ¬ (x.length : Int) > 4096 by omega)]
 simp only [impl_MulMatrix.j0, Bool.false_eq_true, if_false]
 rw [impl_in_eq, decide_eq_true (show 1 ≤ a ∧ a ≤ 5 from ha)]
 simp only [bS, if_true]
 rw [impl_isPower_eq (by omega), hpow]
 simp only [bS, Bool.not_true, impl_MulMatrix.j1, Bool.false_eq_true, if_false]
 rw [if_pos (show 0 ≤ a by omega), hsh, isMatrix_eq (by omega) (Int.natCast_nonneg _) (by omega) (Int.natCast_nonneg _) (by omega) (by omega), show matOK ((2 ^ a.toNat : Nat) : Int) (x.length : Int) l = true by unfold matOK; rw [hxl, he, decide_eq_true hl]; rfl]
 simp only [bS, if_true]
 rw [are_fields_eq, fieldsB_of hx]
 simp only [bS, if_true]
 rw [product_val hl hx ha (by rw [hxl]; exact he) (by omega)]
 simp only [bS]
theorem Mul_eq {a b : Int} (ha : inF a) (hb : inF b) : impl_Mul.f a b = some (fmul a b, 0) := by
 unfold impl_Mul.f impl_two_mul.f
 rw [impl_FieldOK_eq, impl_FieldOK_eq, decide_eq_true ha, decide_eq_true hb]
 simp only [bS, if_true]
 rw [impl_mul_eq ha hb]
 simp only [bS]
theorem Add_eq {a b : Int} (ha : inF a) (hb : inF b) : impl_Add.f a b = some (fadd a b, 0) := by
 unfold impl_Add.f impl_two_add.f
 rw [impl_FieldOK_eq, impl_FieldOK_eq, decide_eq_true ha, decide_eq_true hb]
 simp only [bS, if_true]
 rw [impl_add_eq ha hb]
 simp only [bS]
end Go.Proofs.Ytekijbcblajjbaa.PT
end
section
/- A matrix times a vector goes row by row; a system is satisfied just if no row fails. -/
namespace Go.Proofs.Ytekijbcblajjbaa.fnSystem
open Go.Proofs.Ytekijbcblajjbaa.PT Go.RowKit Go.Proofs.YtekijbcblajjbaaO Go.Proofs.YtekijbcblajjbaaW.PrintWords Go.Proofs.YtekijbcblajjbaaW.PrintLast Go.Proofs.YtekijbcblajjbaaW.PrintMore
set_option linter.unusedVariables false
set_option linter.unusedSimpArgs false
theorem bytes_of {l : List Int} (h : ListGood (IntGood .u8) l) : bytesL l := by
 intro x hx
 have e := h.2 x hx
 have e2 : (Lit.int .u8 x).wf = true := e
 simp only [Lit.wf, IntKind.min, IntKind.max, IntKind.signed, IntKind.bits] at e2
 simp at e2
 omega
theorem law_l1 {n u v w : List Int} (hn : ∀ y ∈ n, inF y) (hu : ∀ y ∈ u, inF y) (hv : ∀ y ∈ v, inF y) (huv : u.length = v.length) {j : Nat} (hj : j < u.length) (a b c : Int) {x y z : List EN} (R : Int) (hx : ∀ e ∈ x, entB R (n.length : Int) e = true) (hxl : x.length ≤ 200) (f : Int) (K : Nat)
  (hZ : ∀ k, K < k → laws_FnSystem.j5 k n u v w f (j : Int) (fmul (rd u j) (rd v j)) false a b c x y z = some true) (d : Nat) : ∀ (i : Nat) (s : Int), i + d = x.length → inF s → (x.drop i).foldl (rstep n (j : Int)) s = rd u (j : Int) → ∀ k, K + d + 2 < k →
  laws_FnSystem.l1 k n u v w f (j : Int) s (i : Int) a b c x y z = some true := by
 induction d with
 | zero =>
  intro i s hi hs hf k hk
  obtain ⟨k, rfl⟩ : ∃ m, k = m + 1 := ⟨k - 1, (by omega)⟩
  rw [List.drop_eq_nil_of_le (by omega)] at hf
  have hf2 : s = rd u (j : Int) := hf
  simp only [laws_FnSystem.l1]
  rw [if_neg (by omega), if_pos (show 0 ≤ (j : Int) by omega), if_pos (show (j : Int) < (u.length : Int) by omega), if_pos (show (j : Int) < (v.length : Int) by omega), Mul_eq (inF_rd hu (by omega) (by omega)) (inF_rd hv (by omega) (by omega))]
  simp only [bS, if_true]
  rw [show (s != rd u (j : Int)) = false from bne_eq_false_iff_eq.mpr hf2]
  exact hZ k (by omega)
 | succ d ih =>
  intro i s hi hs hf k hk
  obtain ⟨k, rfl⟩ : ∃ m, k = m + 1 := ⟨k - 1, (by omega)⟩
  have hlt : i < x.length := by omega
  obtain ⟨⟨a0, a1⟩, ⟨b0, b1⟩, hval⟩ := entB_iff (hx _ (List.getElem_mem hlt))
  rw [List.drop_eq_getElem_cons hlt, List.foldl_cons] at hf
  simp only [laws_FnSystem.l1]
  rw [if_pos (show (i : Int) < (x.length : Int) by omega), if_pos (show 0 ≤ (i : Int) by omega), rdEntryS hlt]
  unfold rstep at hf
  by_cases h : (x[i]).f0 = (j : Int)
  ·
   rw [if_pos h] at hf
   have hm := inF_rd hn b0 b1
   rw [if_pos h, if_pos b0, if_pos b1, Mul_eq hval hm]
   simp only [bS]
   rw [Add_eq hs (inF_mul _ _)]
   simp only [bS, if_true]
   rw [w64 (by omega) (by omega), show (i : Int) + 1 = ((i + 1 : Nat) : Int) by omega]
   exact ih (i + 1) _ (by omega) (inF_add _ _) hf k (by omega)
  ·
   rw [if_neg h] at hf
   rw [if_neg h, w64 (by omega) (by omega), show (i : Int) + 1 = ((i + 1 : Nat) : Int) by omega]
   exact ih (i + 1) s (by omega) hs hf k (by omega)
theorem law_l0 (M : Nat) {n u v w : List Int} (hn : ∀ y ∈ n, inF y) (hu : ∀ y ∈ u, inF y) (hv : ∀ y ∈ v, inF y) (huv : u.length = v.length) (huw : u.length = w.length) (hul : u.length ≤ 32) (a b c : Int) {x y z : List EN} (R : Int) (hx : ∀ e ∈ x, entB R (n.length : Int) e = true) (hxl : x.length ≤ 200)
  (hsum : ∀ j : Nat, j < u.length → x.foldl (rstep n (j : Int)) 0 = rd u (j : Int))
  (hfin : ∀ f : Int, (∀ k, u.length < k → impl_System_failed.l0 k u v w (u.length : Int) 0 = some f) → ∀ k, M < k → laws_FnSystem.l0 k n u v w f (-1) a b c x y z = some true) :
  ∀ (i : Nat) (f : Int), i ≤ u.length → (∀ k, u.length - i < k → impl_System_failed.l0 k u v w (u.length : Int) (i : Int) = some f) → ∀ k, M + i * 300 < k → laws_FnSystem.l0 k n u v w f ((i : Int) - 1) a b c x y z = some true := by
 intro i
 induction i with
 | zero =>
  intro f hi hf k hk
  rw [show ((0 : Nat) : Int) - 1 = -1 by omega]
  exact hfin f (fun k hk => by have := hf k (by omega); rwa [Int.natCast_zero] at this) k (by omega)
 | succ i ih =>
  intro f hi hf k hk
  obtain ⟨k, rfl⟩ : ∃ m, k = m + 1 := ⟨k - 1, (by omega)⟩
  have g1 := inF_rd hu (i := (i : Int)) (by omega) (by omega)
  have g2 := inF_rd hv (i := (i : Int)) (by omega) (by omega)
  have step : ∀ m, u.length - i < m → impl_System_failed.l0 m u v w (u.length : Int) (i : Int) = some (if fmul (rd u i) (rd v i) = rd w i then f else (i : Int)) := by
   intro m hm
   obtain ⟨m, rfl⟩ : ∃ q, m = q + 1 := ⟨m - 1, (by omega)⟩
   simp only [impl_System_failed.l0]
   rw [if_pos (by omega), if_pos (by omega), if_pos (by omega), if_pos (by omega), impl_mul_eq g1 g2]
   simp only [bS]
   rw [if_pos (by omega)]
   by_cases h : fmul (rd u i) (rd v i) = rd w i
   ·
    rw [if_pos h, if_pos h, w64 (by omega) (by omega), show (i : Int) + 1 = ((i + 1 : Nat) : Int) by omega]
    exact hf m (by omega)
   ·
    rw [if_neg h, if_neg h]
  rw [show ((i + 1 : Nat) : Int) - 1 = (i : Int) by omega]
  simp only [laws_FnSystem.l0]
  rw [if_pos (show (i : Int) ≥ 0 by omega)]
  have h := law_l1 hn hu hv huv (w := w) (j := i) (by omega) a b c (y := y) (z := z) R hx hxl f (M + i * 300 + 2) (fun k hk => by
   obtain ⟨k, rfl⟩ : ∃ m, k = m + 1 := ⟨k - 1, (by omega)⟩
   have hk3 : M + i * 300 < k := Nat.lt_of_succ_lt_succ (Nat.lt_of_le_of_lt (Nat.le_succ _) hk)
   simp only [laws_FnSystem.j5, Bool.false_eq_true, if_false]
   rw [if_pos (show 0 ≤ (i : Int) by omega), if_pos (show (i : Int) < (w.length : Int) by omega), w64 (n := (i : Int) - 1) (by omega) (by omega)]
   by_cases h : fmul (rd u i) (rd v i) = rd w i
   ·
    rw [if_pos h]
    exact ih f (by omega) (fun m hm => by have := step m hm; rwa [if_pos h] at this) k hk3
   ·
    rw [if_neg h]
    exact ih (i : Int) (by omega) (fun m hm => by have := step m hm; rwa [if_neg h] at this) k hk3) x.length 0 0 (by omega) inF_0 (by rw [List.drop_zero]; exact hsum i (by omega)) k (by omega)
  exact h
theorem two_val {b : Int} (hb : 2 ≤ b ∧ b ≤ 3) : shl .i64 1 (IntKind.u64.wrap (wrap64 (b - 1))) = ((2 ^ (b.toNat - 1) : Nat) : Int) ∧ shl .i64 1 (IntKind.u64.wrap b) = ((2 ^ b.toNat : Nat) : Int) ∧ 0 ≤ IntKind.u64.wrap (wrap64 (b - 1)) ∧ 0 ≤ IntKind.u64.wrap b := by
 rw [w64 (by omega) (by omega), u64w (n := b - 1) (by omega) (by omega), u64w (n := b) (by omega) (by omega)]
 refine ⟨?_, shl_toNat (by omega), (by omega), (by omega)⟩
 rw [shl_toNat (a := b - 1) (by omega), show (b - 1).toNat = b.toNat - 1 by omega]
theorem pureFnSystem : Pure := by
 intro l0 l1 h0 h1
 by_cases g0 : (l0.length : Int) > 1048576
 ·
  refine ⟨1, ?_⟩
  unfold laws_FnSystem.f
  rw [if_pos g0]
  simp only [laws_FnSystem.j0, if_true]
 by_cases g1 : (l1.length : Int) > 1048576
 ·
  refine ⟨1, ?_⟩
  unfold laws_FnSystem.f
  rw [if_neg g0, decide_eq_true g1]
  simp only [laws_FnSystem.j0, if_true]
 have hb0 := bytes_of h0
 have hb1 := bytes_of h1
 obtain ⟨a, b, c, x, y, z, hs, ⟨ha2, hb3⟩, hd⟩ := Drawn_ok hb0
 obtain ⟨ha, hb, hc, hm⟩ := sysB_iff hs
 obtain ⟨⟨m3, l3⟩, ⟨m4, l4⟩, ⟨m5, l5⟩⟩ := mat3_iff hm
 have hp := two_le b.toNat (by omega)
 have hpa := two_le a.toNat (by omega)
 have hp0 := Nat.two_pow_pos (b.toNat - 1)
 have hpa0 := Nat.two_pow_pos a.toNat
 have hh := two_half (b := b) (by omega)
 obtain ⟨t1, t2, t3, t4⟩ := two_val (b := b) (by omega)
 obtain ⟨pu, ⟨hpu, hpul⟩, npu⟩ := Numbers_ok hb1 c.toNat (by omega)
 rw [show ((c.toNat : Nat) : Int) = c by omega] at npu
 obtain ⟨q, eq, q0, q1⟩ := at_ok hb1 (by omega) (a := 0) (n := ((2 ^ (b.toNat - 1) : Nat) : Int)) (by omega) (by omega) (Int.natCast_nonneg _) (by omega)
 obtain ⟨pv, ⟨hpv, hpvl⟩, npv⟩ := Numbers_ok hb1 (1 + q).toNat (by omega)
 rw [show (((1 + q).toNat : Nat) : Int) = 1 + q by omega] at npv
 have hvl := vecL_length (b := b) (x := pu) (z := pv) (by omega) (by omega) (by omega) (by omega)
 have hvf := vecL_ok (b := b) hpu hpv
 have hhead := vecL_head (b := b) (by omega) pu pv
 have hval : ∀ k, 1060000 < k → impl_VectorOf.f k a b c x y z pu pv = some (vecL b pu pv, 0) := fun k hk => VectorOf_val hs (fieldsB_of hpu) (fieldsB_of hpv) (by omega) (by omega) hk
 have hsval : ∀ k, 1060000 < k → spec_VectorOf.f k a b c x y z pu pv = some (vecL b pu pv, 0) := fun k hk => by
  obtain ⟨r, _, e⟩ := VectorOf_same a b c x y z pu pv (by omega) (by omega) (by omega) (by omega) (by omega)
  obtain ⟨e1, e2⟩ := e k hk
  rw [hval k hk] at e1
  rw [e2, ← Option.some.inj e1]
 generalize hn : vecL b pu pv = n at *
 have hx3 : matB ((2 ^ a.toNat : Nat) : Int) (n.length : Int) x = true := by rw [hvl]; exact m3
 have hx4 : matB ((2 ^ a.toNat : Nat) : Int) (n.length : Int) y = true := by rw [hvl]; exact m4
 have hx5 : matB ((2 ^ a.toNat : Nat) : Int) (n.length : Int) z = true := by rw [hvl]; exact m5
 have zl : (zeros a).length = 2 ^ a.toNat := by simp [zeros]
 have mul3 : ∀ k, 6000 < k → impl_MulMatrix.f k x a n = some (prodL n x (zeros a), 0) := fun k hk => MulMatrix_val l3 hvf ha (by omega) hvl m3 hk
 have mul4 : ∀ k, 6000 < k → impl_MulMatrix.f k y a n = some (prodL n y (zeros a), 0) := fun k hk => MulMatrix_val l4 hvf ha (by omega) hvl m4 hk
 have mul5 : ∀ k, 6000 < k → impl_MulMatrix.f k z a n = some (prodL n z (zeros a), 0) := fun k hk => MulMatrix_val l5 hvf ha (by omega) hvl m5 hk
 have pr3 : ∀ k, 5000 < k → impl_product.f k x a n = some (prodL n x (zeros a)) := fun k hk => product_val l3 hvf ha hx3 hk
 have pr4 : ∀ k, 5000 < k → impl_product.f k y a n = some (prodL n y (zeros a)) := fun k hk => product_val l4 hvf ha hx4 hk
 have pr5 : ∀ k, 5000 < k → impl_product.f k z a n = some (prodL n z (zeros a)) := fun k hk => product_val l5 hvf ha hx5 hk
 have u3 := prodL_inF n x (zeros a) (zeros_ok a)
 have u4 := prodL_inF n y (zeros a) (zeros_ok a)
 have q3 : (prodL n x (zeros a)).length = 2 ^ a.toNat := by rw [prodL_length, zl]
 have q4 : (prodL n y (zeros a)).length = 2 ^ a.toNat := by rw [prodL_length, zl]
 have q5 : (prodL n z (zeros a)).length = 2 ^ a.toNat := by rw [prodL_length, zl]
 have hsum : ∀ j : Nat, j < (prodL n x (zeros a)).length → x.foldl (rstep n (j : Int)) 0 = rd (prodL n x (zeros a)) (j : Int) := fun j hj => by
  rw [prodL_rd n j x (zeros a) (fun e he => by have := (entB_iff (matB_all m3 e he)).1; rw [zl]; exact this)]
  congr 1
  show (0 : Int) = (zeros a).getD (j : Int).toNat 0
  unfold zeros
  rw [List.getD_eq_getElem?_getD, List.getElem?_replicate]
  split <;> rfl
 generalize prodL n x (zeros a) = u at *
 generalize prodL n y (zeros a) = v at *
 generalize prodL n z (zeros a) = w at *
 have hfin : ∀ f : Int, (∀ k, u.length < k → impl_System_failed.l0 k u v w (u.length : Int) 0 = some f) → ∀ k, 1100000 < k → laws_FnSystem.l0 k n u v w f (-1) a b c x y z = some true := by
  intro f hf k hk
  obtain ⟨k, rfl⟩ : ∃ m, k = m + 1 := ⟨k - 1, (by omega)⟩
  have ef : impl_System_failed.f k a b c x y z n = some f := by
   unfold impl_System_failed.f
   rw [pr3 k (by omega), pr4 k (by omega), pr5 k (by omega)]
   simp only [bS]
   exact hf k (by omega)
  have ec : impl_numbersCode.f k a b c x y z n = some 0 := by
   rw [(ask_eq (a := a) (b := b) (c := c) (x := x) (y := y) (z := z) (n := n) (by omega) (by omega) (by omega) (by omega) (by omega)).1]
   unfold askC
   rw [if_neg (by omega), hs, fieldsB_of hvf, Bool.and_self, if_pos rfl, if_pos (by omega)]
  have es := (SystemOK_eq (a := a) (b := b) (c := c) (x := x) (y := y) (z := z) (by omega) (by omega) (by omega) (k := k) (by omega)).1
  rw [hs] at es
  simp only [laws_FnSystem.l0]
  rw [if_neg (by omega)]
  unfold impl_Satisfied.f impl_FailedRow.f
  rw [ec]
  simp only [bS, if_true]
  rw [ef]
  simp only [bS]
  by_cases hneg : f < 0
  ·
   rw [if_pos hneg]
   simp only [bS, if_true, beq_self_eq_true, decide_eq_true hneg]
   rw [if_pos hneg, es]
   simp only [bS]
  ·
   rw [if_neg hneg]
   simp only [bS, if_true, beq_self_eq_true, decide_eq_false hneg]
   rw [if_neg hneg, if_pos (show f ≥ 0 by omega), es]
   simp only [bS]
 refine ⟨1200000, ?_⟩
 have hK : ∃ K : Nat, 1200000 = K + 1 + 1 + 1 ∧ 1199000 < K := ⟨1199997, rfl, (by omega)⟩
 obtain ⟨K, hK, hK2⟩ := hK
 rw [hK]
 clear hK
 have hl := law_l0 1100000 hvf u3 u4 (by omega) (by omega) (w := w) (by omega) a b c (x := x) (y := y) (z := z) ((2 ^ a.toNat : Nat) : Int) (matB_all hx3) l3 hsum hfin u.length (-1) (Nat.le_refl _) (fun k hk => by
  obtain ⟨k, rfl⟩ : ∃ m, k = m + 1 := ⟨k - 1, (by omega)⟩
  simp only [impl_System_failed.l0]
  rw [if_neg (by omega)]) K (by omega)
 unfold laws_FnSystem.f
 rw [if_neg g0, decide_eq_false g1]
 simp only [laws_FnSystem.j0, Bool.false_eq_true, if_false]
 rw [hd (K + 1 + 1) (by omega)]
 simp only [bS]
 rw [npu (K + 1 + 1) (by omega)]
 simp only [bS]
 rw [if_pos t3, t1, eq]
 simp only [bS]
 rw [w64 (n := 1 + q) (by omega) (by omega), npv (K + 1 + 1) (by omega)]
 simp only [bS]
 rw [hval (K + 1 + 1) (by omega), hsval (K + 1 + 1) (by omega)]
 simp only [bS, if_true]
 rw [sameInts_refl (by omega) (by omega)]
 simp only [bS, if_true]
 rw [if_pos t4, t2, if_pos (by omega), if_pos (by omega), hhead]
 simp only [bne_self_eq_false, laws_FnSystem.j1, Bool.false_eq_true, if_false]
 rw [mul3 (K + 1) (by omega), mul4 (K + 1) (by omega), mul5 (K + 1) (by omega)]
 simp only [bS, if_true]
 have tA : shl .i64 1 (IntKind.u64.wrap a) = ((2 ^ a.toNat : Nat) : Int) ∧ 0 ≤ IntKind.u64.wrap a := by
  rw [u64w (n := a) (by omega) (by omega)]
  exact ⟨shl_toNat ha, (by omega)⟩
 rw [if_pos tA.2, tA.1, if_pos (by omega), if_pos (by omega), show ((w.length : Int) != (u.length : Int)) = false from bne_eq_false_iff_eq.mpr (by omega)]
 simp only [laws_FnSystem.j2, Bool.false_eq_true, if_false]
 rw [w64 (n := (u.length : Int) - 1) (by omega) (by omega)]
 exact hl
end Go.Proofs.Ytekijbcblajjbaa.fnSystem
end
