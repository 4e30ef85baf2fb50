/- Part 1 of the proof of FnGates: what functions compute, shown step by step, and what that says (the claim's last text states the law). -/
import Derived.Test.YtokljkneflejdaaDoorProg
import Derived.Test.YtokljkneflejdaaDoorVWords
import Derived.Test.YtokljkneflejdaaDoorVMore
import Derived.Test.YtokljkneflejdaaDoorVLast
import Derived.Test.YtokljkneflejdaaDoorVTab
import Derived.Test.YtokljkneflejdaaDoorVQPut
import Derived.Test.YtokljkneflejdaaDoorVApart
import Derived.Test.YtokljkneflejdaaDoorVArr
import Derived.Test.YtokljkneflejdaaDoorVZeros
import Derived.Test.YtokljkneflejdaaDoorVFoot
import Derived.Test.YtokljkneflejdaaDoorVKept
import Derived.Test.YtokljkneflejdaaDoorVShare
import Derived.Test.YtokljkneflejdaaDoorVN
import Derived.Test.YtokljkneflejdaaDoorVFootNe
import Derived.Test.YtokljkneflejdaaDoorVEqStruct
import Derived.Test.YtokljkneflejdaaDoorVRepsOne
import Derived.Test.YtokljkneflejdaaDoorVInv
import Derived.Test.YtokljkneflejdaaDoorVInvWords
import Derived.Test.YtokljkneflejdaaDoorVNEv
import Derived.Test.YtokljkneflejdaaDoorCards
import Derived.Test.YtokljkneflejdaaDoorTie
import Derived.JoinedOf
import Derived.WalkKit
import Derived.ProofKit
import Derived.OpenShut
import Derived.ShutString
import Derived.ChangeOld
import Derived.Below
import Derived.SizedLaws
import Derived.Deep.Slices
import Derived.ChangeArms
import Derived.Deep.Draws
import Derived.Deep.AppendLies
import Derived.Maps.AppendAt
import Derived.OwnWalk
import Derived.Laws.BytesArg
import Derived.Laws.MakeOwn
import Derived.Laws.OwnMore
import Derived.Deep.OwnRows
import Derived.Tactics
import Derived.Lib.ConvBytes
import Derived.Laws.Slices
import Derived.KernelRfl
import Derived.RowKit3
import Derived.Deep.LoopGhost
import Derived.Deep.QuietTactic
import Derived.BigQuiet
import Derived.WideLaws
import Derived.Deep.DeepCutAuto
import Derived.Deep.CutBlock
import Derived.Deep.RegionHeld3
import Derived.Laws.Rows
import Derived.Lib.AppendStr
import Derived.ArgAppend
import Derived.Laws.IdiomCopy
import Derived.OrdersHeld
import Derived.Laws.BitsLemmas
import Derived.RowKit
import Derived.StillTailTactics
import Derived.Deep.DeepMust
import Derived.Laws.CopyOwn
import Derived.Shelf.Utf8.RuneCount
import Derived.Shelf.Strconv.Atoi
import Derived.Shelf.Strconv.Itoa0
import Derived.Shelf.Strconv.Itoa1
import Derived.Shelf.LaysM
import Derived.Shelf.Strconv.Itoa2
import Derived.Shelf.Strconv.Itoa3
import Derived.Shelf.Strconv.AtoiErrFast
import Derived.Shelf.Strconv.ParseIntEmpty
import Derived.Shelf.Strconv.AtoiFail
import Derived.Shelf.Strconv.Clone
import Derived.Shelf.Strconv.SyntaxError
import Derived.Shelf.LaysC
import Derived.Shelf.Strconv.ToError
import Derived.Shelf.Strconv.Lower
import Derived.Shelf.Strconv.ParseUint10
import Derived.Shelf.Strconv.ParseUint10Empty
import Derived.Shelf.Strconv.ParseUint10Any
import Derived.Shelf.Strconv.ParseInt10
import Derived.Shelf.Strconv.AtoiLong
import Derived.Shelf.Strconv.AtoiInnerAll
import Derived.Shelf.Strconv.RangeError
import Derived.Shelf.Strconv.ToErrorRange
import Derived.Shelf.Strconv.AtoiAll
import Derived.Shelf.Strconv.ErrVarAll
import Derived.Shelf.Strings.Search1
import Derived.Shelf.Strings.Search2
import Derived.Shelf.Strings.Search3
import Derived.Shelf.Strings.Count
import Derived.Shelf.Strings.Shaped
import Derived.Shelf.Strings.Prefix
import Derived.Shelf.Strings.Split
import Derived.Shelf.Strings.SplitShaped
import Derived.Shelf.Unicode.Decode
import Derived.Shelf.Strings.RuneCount
import Derived.Shelf.Strings.Explode
import Derived.Shelf.Unicode.DecodeSlow
import Derived.Shelf.Unicode.DecodeAny
import Derived.Shelf.Slices.Turned
import Derived.Ground.SlgfProg
import Derived.Shelf.SlicesE.IndexFunc
import Derived.Shelf.SlicesE.DeleteFunc
import Derived.Lib.SplitLaws
import Derived.Lib.AtoiTie
import Derived.Lib.ItoaMem
import Derived.Lib.ItoaLen
import Derived.Lib.Strings
import Derived.Lib.LaidTab
import Derived.Lib.AppendIntMem
import Derived.Lib.OwnBridge
import Derived.Deep.DeepHandedRow
import Derived.Stop.LaidErr
import Derived.Shelf.Vars
import Derived.Test.YtokljkneflejdaaDoorZFnGates0
section
/- Words between blanks, and whole numbers in letters: what the library's functions come to, over rows of bytes. -/
namespace Go.Proofs.YtokljkneflejdaaDoor.PT
set_option linter.unusedVariables false
set_option linter.unusedSimpArgs false
open Go.Lib
def cutL : List UInt8 → List UInt8 → List (List UInt8)
 | cur, [] => [cur]
 | cur, c :: r => if c = 32 then cur :: cutL [] r else cutL (cur ++ [c]) r
def headApp (a : List UInt8) : List (List UInt8) → List (List UInt8)
 | [] => []
 | x :: r => (a ++ x) :: r
theorem headApp_two (a b : List UInt8) (l : List (List UInt8)) : headApp (a ++ b) l = headApp a (headApp b l) := by
 cases l with
 | nil => rfl
 | cons x r => simp [headApp]
theorem headApp_nil (l : List (List UInt8)) : headApp [] l = l := by cases l <;> rfl
theorem index_blank (c : UInt8) (r : List UInt8) (h : c ≠ 32) : index (c :: r) [32] = if index r [32] == -1 then -1 else index r [32] + 1 := by
 have hp : ([32] : List UInt8).isPrefixOf (c :: r) = false := by simp [List.isPrefixOf]; exact fun e => h e.symm
 rw [index, hp]; simp
theorem splitK_cut : ∀ (s cur : List UInt8), headApp cur (splitK [32] 0 (count s [32]) s) = cutL cur s := by
 intro s
 induction s with
 | nil =>
  intro cur
  rw [count_miss (by simp [index])]
  simp [splitK, headApp, cutL]
 | cons c r ih =>
  intro cur
  by_cases h : c = 32
  ·
   subst h
   have hix : index ((32 : UInt8) :: r) [32] = 0 := by rw [index]; simp [List.isPrefixOf]
   rw [count_cons_eq, show 1 + count r [32] = count r [32] + 1 by omega, splitK, if_neg (by rw [hix]; decide), hix]
   simp only [Int.toNat_zero, Nat.add_zero, List.take_zero, List.length_singleton, Nat.zero_add, List.drop_succ_cons, List.drop_zero, headApp, List.append_nil, cutL, if_true]
   have := ih []
   rw [headApp_nil] at this
   rw [this]
  ·
   rw [count_cons_ne c 32 r h, cutL, if_neg h, ← ih (cur ++ [c]), headApp_two]
   congr 1
   have hix := index_blank c r h
   generalize count r [32] = k
   cases k with
   | zero => simp [splitK, headApp]
   | succ k =>
    by_cases hm : index r [32] = -1
    ·
     rw [splitK, if_pos (by rw [hix, hm]; decide), splitK, if_pos (by rw [hm]; decide)]
     simp [headApp]
    ·
     have hge := index_ge r [32]
     obtain ⟨j, hj⟩ : ∃ j : Nat, index r [32] = j := ⟨(index r [32]).toNat, (by omega)⟩
     have hix' : index (c :: r) [32] = ((j + 1 : Nat) : Int) := by rw [hix, if_neg (fun e => hm (beq_iff_eq.1 e)), hj]; omega
     rw [splitK, if_neg (by rw [hix', beq_iff_eq]; omega), splitK, if_neg (by rw [hj, beq_iff_eq]; omega), hix', hj]
     simp [headApp]
def wordsL (s : List UInt8) : List (List UInt8) := (cutL [] s).filter fun x => !x.isEmpty
theorem splitK_words (s : List UInt8) : (splitK [32] 0 (count s [32]) s).filter (fun x => !x.isEmpty) = wordsL s := by
 unfold wordsL
 rw [← splitK_cut, headApp_nil]
theorem decFrom_snoc : ∀ (l : List UInt8) (acc : Nat) (b : UInt8), decFrom acc (l ++ [b]) = (decFrom acc l).bind fun n => (digitVal b).map fun d => n * 10 + d
 | [], acc, b => by simp only [List.nil_append, decFrom, Option.bind_some]; cases digitVal b <;> rfl
 | c :: r, acc, b => by
  simp only [List.cons_append, decFrom]
  cases digitVal c with
  | none => rfl
  | some d => exact decFrom_snoc r _ b
theorem digitVal_of (d : Nat) (h : d < 10) : digitVal (UInt8.ofNat (48 + d)) = some d := by
 have e : (UInt8.ofNat (48 + d)).toNat = 48 + d := by simp; omega
 unfold digitVal
 rw [e, if_pos (by omega)]
 congr 1; omega
theorem of_digitVal {b : UInt8} {d : Nat} (h : digitVal b = some d) : d < 10 ∧ b = UInt8.ofNat (48 + d) := by
 obtain ⟨h0, h1, rfl⟩ := digitVal_eq h
 refine ⟨(by omega), ?_⟩
 rw [show 48 + (b.toNat - 48) = b.toNat by omega]
 simp
theorem decFrom_digits (u : Nat) : decFrom 0 (decDigits u) = some u := by
 induction u using Nat.strongRecOn with
 | ind u ih =>
  rw [decDigits]
  by_cases h : u < 10
  ·
   rw [dif_pos h]
   simp only [decFrom, digitVal_of u h]
   congr 1; omega
  ·
   rw [dif_neg h, decFrom_snoc, ih (u / 10) (by omega)]
   simp only [Option.bind_some, digitVal_of (u % 10) (by omega), Option.map_some]
   congr 1; omega
theorem digits_ne (u : Nat) : decDigits u ≠ [] := by
 rw [decDigits]; split <;> simp
def plainN (r : List UInt8) : Prop := ∃ c t, r = c :: t ∧ (c = 48 → t = [])
theorem digits_plain (u : Nat) : plainN (decDigits u) ∧ (decDigits u).head? ≠ some 48 ∨ u = 0 := by
 induction u using Nat.strongRecOn with
 | ind u ih =>
  by_cases h0 : u = 0
  ·
   exact .inr h0
  ·
   refine .inl ?_
   rw [decDigits]
   by_cases h : u < 10
   ·
    rw [dif_pos h]
    have hne : UInt8.ofNat (48 + u) ≠ 48 := by
     intro e
     have := congrArg UInt8.toNat e
     simp at this
     omega
    exact ⟨⟨_, _, rfl, fun _ => rfl⟩, by simpa using hne⟩
   ·
    rw [dif_neg h]
    rcases ih (u / 10) (by omega) with ⟨⟨c, t, e, hc⟩, hh⟩ | e0
    ·
     rw [e] at hh ⊢
     have hne : c ≠ 48 := by simpa using hh
     exact ⟨⟨c, _, rfl, fun e => absurd e hne⟩, by simpa using hne⟩
    ·
     omega
theorem digits_zero : decDigits 0 = [48] := by rw [decDigits, dif_pos (by omega)]; rfl
theorem digits_plain2 (u : Nat) : plainN (decDigits u) := by
 rcases digits_plain u with h | rfl
 ·
  exact h.1
 ·
  rw [digits_zero]; exact ⟨_, _, rfl, fun _ => rfl⟩
theorem plain_digits : ∀ (n : Nat) (r : List UInt8), r.length = n → ∀ m, decFrom 0 r = some m → plainN r → decDigits m = r
 | 0, r, hl, m, _, hp => by
  obtain ⟨c, t, rfl, _⟩ := hp
  simp at hl
 | n + 1, r, hl, m, h, hp => by
  obtain ⟨l, b, rfl⟩ : ∃ l b, r = l ++ [b] := by
   rcases List.eq_nil_or_concat r with e | ⟨l, b, e⟩
   ·
    subst e; simp at hl
   ·
    exact ⟨l, b, (by simpa using e)⟩
  have hll : l.length = n := by simpa using hl
  rw [decFrom_snoc] at h
  obtain ⟨q, hq, h⟩ := Option.bind_eq_some_iff.1 h
  obtain ⟨d, hd, rfl⟩ := Option.map_eq_some_iff.1 h
  obtain ⟨hd10, hb⟩ := of_digitVal hd
  cases l with
  | nil =>
   simp only [decFrom, Option.some.injEq] at hq
   subst hq
   rw [decDigits, dif_pos (by omega), hb]
   simp
  | cons c t =>
   obtain ⟨c', t', e, hc⟩ := hp
   rw [List.cons_append] at e
   injection e with e1 e2
   subst e1 e2
   have hne : c ≠ 48 := fun e => by have := hc e; simp at this
   have ih := plain_digits n (c :: t) hll q hq ⟨c, t, rfl, fun e => absurd e hne⟩
   have hq1 : q ≠ 0 := by
    rintro rfl
    rw [digits_zero] at ih
    injection ih with e3 _
    exact hne e3.symm
   rw [decDigits, dif_neg (by omega), show (q * 10 + d) / 10 = q by omega, show (q * 10 + d) % 10 = d by omega, ih, hb]
theorem head_digit {c : UInt8} {t : List UInt8} {m : Nat} (h : decFrom 0 (c :: t) = some m) : 48 ≤ c.toNat ∧ c.toNat ≤ 57 := by
 simp only [decFrom] at h
 cases hd : digitVal c with
 | none => rw [hd] at h; cases h
 | some d => have := digitVal_eq hd; omega
def canonL (r : List UInt8) : Option Nat := match r with
 | [] => none
 | c :: t => if (c :: t).length ≤ 18 ∧ (c = 48 → t = []) then decFrom 0 (c :: t) else none
def numL (s : List UInt8) : Option Int := match s with
 | [] => none
 | c :: r => if c = 45 then (canonL r).bind fun m => if m = 0 then none else some (-(m : Int)) else (canonL (c :: r)).map fun (m : Nat) => (m : Int)
def numA (s : List UInt8) : Option Int := match atoiAll s with
 | .ok v => if itoa v = s ∧ (trimPrefix s [45]).length ≤ 18 then some v else none
 | _ => none
theorem canonL_some {r : List UInt8} {m : Nat} (h : canonL r = some m) : decDigits m = r ∧ r.length ≤ 18 ∧ decFrom 0 r = some m ∧ r ≠ [] := by
 unfold canonL at h
 split at h
 ·
  cases h
 ·
  rename_i c t
  split at h
  ·
   rename_i hc
   exact ⟨plain_digits _ _ rfl _ h ⟨c, t, rfl, hc.2⟩, hc.1, h, by simp⟩
  ·
   cases h
theorem canonL_digits {u : Nat} (h : (decDigits u).length ≤ 18) : canonL (decDigits u) = some u := by
 obtain ⟨c, t, e, hc⟩ := digits_plain2 u
 have h2 := decFrom_digits u
 rw [e] at h h2 ⊢
 unfold canonL
 simp only
 rw [if_pos ⟨h, hc⟩, h2]
theorem trim_minus (r : List UInt8) : trimPrefix (45 :: r) [45] = r := by
 unfold trimPrefix
 rw [if_pos (by simp [hasPrefix])]
 simp
theorem trim_other (c : UInt8) (r : List UInt8) (h : c ≠ 45) : trimPrefix (c :: r) [45] = c :: r := by
 unfold trimPrefix
 rw [if_neg]
 simp [hasPrefix, List.isPrefixOf]
 exact fun e => h e.symm
theorem numA_eq (s : List UInt8) : numA s = numL s := by
 have key : ∀ v, atoiAll s = .ok v → (itoa v = s ∧ (trimPrefix s [45]).length ≤ 18) → numL s = some v := by
  intro v hv ⟨h1, h2⟩
  by_cases hn : v < 0
  ·
   obtain ⟨u, rfl⟩ : ∃ u : Nat, v = -(u : Int) := ⟨(-v).toNat, (by omega)⟩
   rw [itoa_neg u (by omega)] at h1
   subst h1
   rw [trim_minus] at h2
   unfold numL
   simp only [if_true]
   rw [canonL_digits h2]
   simp only [Option.bind_some]
   rw [if_neg (by omega)]
  ·
   obtain ⟨u, rfl⟩ : ∃ u : Nat, v = (u : Int) := ⟨v.toNat, (by omega)⟩
   rw [itoa_nonneg u] at h1
   have hd := decFrom_digits u
   have hcan := canonL_digits (u := u)
   rw [h1] at hd hcan
   cases s with
   | nil => exact absurd h1 (digits_ne u)
   | cons c r =>
    have hc := head_digit hd
    have hc45 : c ≠ 45 := by rintro rfl; simp at hc
    rw [trim_other c r hc45] at h2
    unfold numL
    simp only
    rw [if_neg hc45, hcan h2]
    rfl
 have back : ∀ v, numL s = some v → atoiAll s = .ok v ∧ itoa v = s ∧ (trimPrefix s [45]).length ≤ 18 := by
  intro v hv
  cases s with
  | nil => cases hv
  | cons c r =>
   unfold numL at hv
   simp only at hv
   by_cases hc : c = 45
   ·
    subst hc
    rw [if_pos rfl] at hv
    obtain ⟨m, hm, hv⟩ := Option.bind_eq_some_iff.1 hv
    split at hv
    ·
     cases hv
    ·
     rename_i hm0
     injection hv with hv
     subst hv
     obtain ⟨e1, e2, e3, e4⟩ := canonL_some hm
     refine ⟨?_, ?_, ?_⟩
     ·
      rw [atoiAll_minus, signed_short e2]
      have : decNat r = some m := by unfold decNat; rw [if_neg (by simpa using e4), e3]
      rw [this]; rfl
     ·
      rw [itoa_neg m (by omega), e1]
     ·
      rw [trim_minus]; exact e2
   ·
    rw [if_neg hc] at hv
    obtain ⟨m, hm, rfl⟩ := Option.map_eq_some_iff.1 hv
    obtain ⟨e1, e2, e3, e4⟩ := canonL_some hm
    have hd := head_digit e3
    refine ⟨?_, ?_, ?_⟩
    ·
     rw [atoiAll_plain c r (by omega) (by omega), signless_short e2]
     have : decNat (c :: r) = some m := by unfold decNat; rw [if_neg (by simp), e3]
     rw [this]; rfl
    ·
     rw [itoa_nonneg m, e1]
    ·
     rw [trim_other c r hc]; exact e2
 unfold numA
 rcases hA : atoiAll s with v | _ | _
 ·
  simp only
  by_cases hc : itoa v = s ∧ (trimPrefix s [45]).length ≤ 18
  ·
   rw [if_pos hc, key v hA hc]
  ·
   rw [if_neg hc]
   cases hN : numL s with
   | none => rfl
   | some v2 =>
    obtain ⟨a1, a2, a3⟩ := back v2 hN
    rw [hA] at a1
    injection a1 with a1
    subst a1
    exact absurd ⟨a2, a3⟩ hc
 ·
  cases hN : numL s with
  | none => rfl
  | some v2 => have := (back v2 hN).1; rw [hA] at this; cases this
 ·
  cases hN : numL s with
  | none => rfl
  | some v2 => have := (back v2 hN).1; rw [hA] at this; cases this
end Go.Proofs.YtokljkneflejdaaDoor.PT
end
section
/- What the walks know of the program's own variables, in every later world. -/
namespace Go.Proofs.YtokljkneflejdaaDoor.PT
open Go Go.RowKit Go.Lib Go.Proofs.YtokljkneflejdaaDoorW.PrintWords Go.Proofs.YtokljkneflejdaaDoorW.PrintLast Go.Proofs.YtokljkneflejdaaDoorW.PrintMore
set_option linter.unusedVariables false
set_option linter.unusedSimpArgs false
structure RG (w : World) : Prop where
 tab : TabIs Tryd.prog w "internal/strconv.uint64pow10" .u64 pow10Tab
 syn : ∃ t p, w.var? Tryd.prog "strconv.ErrSyntax" = some #[.iface t p]
 ran : ∃ t p, w.var? Tryd.prog "strconv.ErrRange" = some #[.iface t p]
 max : ∃ m, w.cell? ⟨3, 0, none⟩ = some (.int .i64 m)
theorem var_below {P : Program} {w w' : World} {nm : String} {v : Array Value} (h : w.var? P nm = some v) (hb : Below w.heap.size w w') : w'.var? P nm = some v := by
 unfold World.var? at *
 cases hg : P.globalNamed nm with
 | none => rw [hg] at h; cases h
 | some g =>
  rw [hg] at h
  simp only [Option.bind_some] at h ⊢
  cases ho : w.heap[g]? with
  | none => rw [ho] at h; cases h
  | some o =>
   rw [hb.block g (Array.getElem?_eq_some_iff.1 ho).1, ho]
   rw [ho] at h
   exact h
theorem RG.below {w w' : World} (h : RG w) (hb : Below w.heap.size w w') : RG w' := by
 obtain ⟨h1, ⟨t2, p2, h2⟩, ⟨t3, p3, h3⟩, ⟨m, h4⟩⟩ := h
 refine ⟨?_, ⟨t2, p2, var_below h2 hb⟩, ⟨t3, p3, var_below h3 hb⟩, ⟨m, (hb.cell (World.block_lt_of_cell? w _ h4)).trans h4⟩⟩
 unfold TabIs at *
 exact var_below h1 hb
def wordsIn (q : Option Addr) (ws : List ByteArray) (w : World) : Prop := ∀ (j : Nat) (h : j < ws.length), ∃ b o, q = some ⟨b, o, none⟩ ∧ w.cell? ⟨b, o + j, none⟩ = some (.string ws[j])
theorem wordsIn.below {q : Option Addr} {ws : List ByteArray} {w w' : World} (h : wordsIn q ws w) (hb : Below w.heap.size w w') : wordsIn q ws w' := fun j hj => by
 obtain ⟨b, o, e, hc⟩ := h j hj
 exact ⟨b, o, e, (hb.cell (World.block_lt_of_cell? w _ hc)).trans hc⟩
end Go.Proofs.YtokljkneflejdaaDoor.PT
end
section
/- A circuit drawn from bytes: what the walk leaves is a row of right gates. -/
namespace Go.Proofs.YtokljkneflejdaaDoor.PT
open Go Go.RowKit Go.Proofs.YtokljkneflejdaaDoorW.PrintWords Go.Proofs.YtokljkneflejdaaDoorW.PrintLast Go.Proofs.YtokljkneflejdaaDoorW.PrintMore
set_option linter.unusedVariables false
set_option linter.unusedSimpArgs false
def SrcOK (w0 : World) (l : List Int) (g : Nat) (CS : Array Value) (b : Int) : Prop := ∃ A c p s, CS = #[.slice A l.length c, .int .i64 p, .int .i64 s] ∧ w0.heap.size ≤ g ∧ Kd.C (Kd.int .u8) w0 A l.length l ∧ stOK p s b
theorem SrcOK.up {w0 : World} {l : List Int} {g : Nat} {CS : Array Value} {b c : Int} (h : SrcOK w0 l g CS b) (hc : b ≤ c) : SrcOK w0 l g CS c := by
 obtain ⟨A, c0, p, s, h1, h2, h3, h4⟩ := h
 exact ⟨A, c0, p, s, h1, h2, h3, h4.up hc⟩
theorem Inv.frontI {w0 w : World} {P : Nat → Prop} {F : World → Prop} {L : List Grp} (h : Inv w0 P w L F) (i : Nat) {b : Grp} (hi : L[i]? = some b) : Inv w0 P w (b :: L.eraseIdx i) F := h.perm (perm_erase L i b hi)
section
variable {w0 wb w : World} {l : List Int} {g : Nat} {L : List Grp} {F : World → Prop} {b a n : Int} {CS : Array Value}
theorem src_step (hB : Below w0.heap.size w0 wb) (h : Inv wb (fun k => k = g) w (blk g 52 CS :: L) F) (hS : SrcOK w0 l g CS b) : ∃ p s, IsS52 w0 w g l p s ∧ Below w0.heap.size w0 w ∧ stOK p s b := by
 obtain ⟨A, c, p, s, rfl, hg, hC, hst⟩ := hS
 exact ⟨p, s, ⟨A, c, h.blk0, hg, hC⟩, h.agr.onto hB (fun k hk => hk ▸ hg), hst⟩
theorem src_back {w' : World} {p s : Int} (hB : Below w0.heap.size w0 wb) (h : Inv wb (fun k => k = g) w (blk g 52 CS :: L) F) (hS : SrcOK w0 l g CS b) (hI : IsS52 w0 w' g l p s) (hb : Below w0.heap.size w0 w') (hk : KeepBut w w' g none) {c : Int} (hst : stOK p s c) : ∃ CS', Inv wb (fun k => k = g) w' (blk g 52 CS' :: L) F ∧ SrcOK w0 l g CS' c := by
 obtain ⟨_, _, _, hB2, _⟩ := src_step hB h hS
 obtain ⟨A, c0, hblk, hg, hC⟩ := hI
 exact ⟨_, h.keep0 hB2 hb hk hblk, ⟨A, c0, p, s, rfl, hg, hC, hst⟩⟩
theorem next_inv (hl : bytesL l) (hB : Below w0.heap.size w0 wb) (h : Inv wb (fun k => k = g) w (blk g 52 CS :: L) F) (hS : SrcOK w0 l g CS b) (hb : b ≤ 500000000) (ha : 0 ≤ a) (ha2 : a ≤ 256) :
  Calls Tryd.prog 25 #[.pointer (some ⟨g, 0, none⟩), .int .i64 a] w fun e w' => ∃ v CS', e = .returned (.int .i64 v) ∧ 0 ≤ v ∧ (v < a ∨ v = 0) ∧ Inv wb (fun k => k = g) w' (blk g 52 CS' :: L) F ∧ SrcOK w0 l g CS' (b + 1) := by
 obtain ⟨p, s, hI, hB2, hst⟩ := src_step hB h hS
 obtain ⟨v, p', s', e, v0, v1, hst2⟩ := next_any hl hst (by omega) ha ha2
 refine (spec_l00Src_next.calls g l p s a v p' s' w0 w hI hB2 e).mono ?_
 rintro e w' ⟨rfl, hi, hb2, hk⟩
 obtain ⟨CS', h1, h2⟩ := src_back hB h hS hi hb2 hk hst2
 exact ⟨v, CS', rfl, v0, v1, h1, h2⟩
theorem chance_inv (hl : bytesL l) (hB : Below w0.heap.size w0 wb) (h : Inv wb (fun k => k = g) w (blk g 52 CS :: L) F) (hS : SrcOK w0 l g CS b) (hb : b ≤ 500000000) (ha : 2 ≤ n) (ha2 : n ≤ 256) :
  Calls Tryd.prog 26 #[.pointer (some ⟨g, 0, none⟩), .int .i64 n] w fun e w' => ∃ v CS', e = .returned (.bool v) ∧ Inv wb (fun k => k = g) w' (blk g 52 CS' :: L) F ∧ SrcOK w0 l g CS' (b + 1) := by
 obtain ⟨p, s, hI, hB2, hst⟩ := src_step hB h hS
 obtain ⟨v, p', s', e, hst2⟩ := chance_any hl hst (by omega) ha ha2
 refine (spec_l00Src_chance.calls g l p s n v p' s' w0 w hI hB2 e).mono ?_
 rintro e w' ⟨rfl, hi, hb2, hk⟩
 obtain ⟨CS', h1, h2⟩ := src_back hB h hS hi hb2 hk hst2
 exact ⟨v, CS', rfl, h1, h2⟩
theorem field_inv (hl : bytesL l) (hB : Below w0.heap.size w0 wb) (h : Inv wb (fun k => k = g) w (blk g 52 CS :: L) F) (hS : SrcOK w0 l g CS b) (hb : b ≤ 500000000) :
  Calls Tryd.prog 28 #[.pointer (some ⟨g, 0, none⟩)] w fun e w' => ∃ v CS', e = .returned (.int .i64 v) ∧ inF v ∧ Inv wb (fun k => k = g) w' (blk g 52 CS' :: L) F ∧ SrcOK w0 l g CS' (b + 10) := by
 obtain ⟨p, s, hI, hB2, hst⟩ := src_step hB h hS
 obtain ⟨v, p', s', e, hv, hst2⟩ := field_ok hl hst (by omega) (k := 11) (by omega)
 refine (spec_l00Src_field.calls 11 g l p s v p' s' w0 w hI hB2 e).mono ?_
 rintro e w' ⟨rfl, hi, hb2, hk⟩
 obtain ⟨CS', h1, h2⟩ := src_back hB h hS hi hb2 hk hst2
 exact ⟨v, CS', rfl, hv, h1, h2⟩
end
theorem row_inF {v u : Int} (hv : inF v) (h0 : 0 ≤ u) (h1 : u < 3) : inF (rd ([0, 1, v] : List Int) u) := by
 rcases (show u = 0 ∨ u = 1 ∨ u = 2 by omega) with rfl | rfl | rfl
 ·
  show inF 0; unfold inF; omega
 ·
  show inF 1; unfold inF; omega
 ·
  exact hv
theorem const_right {op x y z : Int} (c3 : op = 3) (h : if 4 ≤ op ∧ op ≤ 7 then (0 ≤ x ∧ x ≤ 14) ∧ (0 ≤ y ∧ y ≤ 14) else if op = 8 then (0 ≤ x ∧ x ≤ 14) ∧ y = 0 else x = 0 ∧ y = 0) (hz : inF z) : gateB (⟨op, x, y, z⟩ : S30) 15 = true := by
 subst c3
 rw [if_neg (by omega), if_neg (by omega)] at h
 obtain ⟨rfl, rfl⟩ := h
 unfold gateB
 simp only
 rw [if_neg (by omega), if_neg (by omega)]
 simp [hz]
theorem other_right {op x y : Int} (c3 : ¬ op = 3) (h18 : 1 ≤ op ∧ op ≤ 8) (hx : if 4 ≤ op ∧ op ≤ 7 then (0 ≤ x ∧ x ≤ 14) ∧ (0 ≤ y ∧ y ≤ 14) else if op = 8 then (0 ≤ x ∧ x ≤ 14) ∧ y = 0 else x = 0 ∧ y = 0) : gateB (⟨op, x, y, 0⟩ : S30) 15 = true := by
 unfold gateB
 simp only
 rw [decide_eq_true h18]
 by_cases c4 : 4 ≤ op ∧ op ≤ 7
 ·
  rw [if_pos c4] at hx ⊢
  rw [decide_eq_true (show 0 ≤ x ∧ x ≤ 15 - 1 by omega), decide_eq_true (show 0 ≤ y ∧ y ≤ 15 - 1 by omega)]
  rfl
 ·
  rw [if_neg c4] at hx ⊢
  by_cases c8 : op = 8
  ·
   rw [if_pos c8] at hx ⊢
   obtain ⟨hx, rfl⟩ := hx
   rw [decide_eq_true (show 0 ≤ x ∧ x ≤ 15 - 1 by omega)]
   rfl
  ·
   rw [if_neg c8] at hx ⊢
   obtain ⟨rfl, rfl⟩ := hx
   simp [c3]
theorem rowOf {α : Type} {d : Kd α} {e b : Nat} {v : Value} {xs : List α} {S : Nat → Prop} {W : World} (h : (row d e b v xs S).A W) : d.R e W b S v xs := h
set_option maxHeartbeats 8000000 in
set_option maxRecDepth 100000 in
theorem circuit_walk (w0 : World) (l : List Int) (g : Nat) (CS : Array Value) (w : World) (hl : bytesL l) (hB : Below w0.heap.size w0 w) (hblk : w.heap[g]? = some (.cells CS 52 (0, 0))) (hS : SrcOK w0 l g CS 0) :
  Calls Tryd.prog 12 #[.pointer (some ⟨g, 0, none⟩)] w fun e w' => ∃ v gs, e = .returned (.agg #[v]) ∧ Kd.R k30 30 w' w.heap.size (fun _ => True) v gs ∧ (gs.length ≤ 9 ∧ ∀ x ∈ gs, gateB x 15 = true) ∧ Below w0.heap.size w0 w' := by
 have hu30 := Tryd.underlying30
 have hu25 := Tryd.underlying25
 have hu23 := Tryd.underlying23
 have HB0 := am_ hB
 have HS := am_ hS
 have HI := am_ (Inv.startP w hblk (fun _ => True) (fun _ _ => trivial))
 clear hB hS hblk
 go_enter Tryd.func12, Tryd.ntmps12
 go_wp2_with (first | ((with_reducible refine gate_dst (N := 2) rfl ?_); refine box_event ?hg (N := 2) ?hd (cs := #[.slice none 0 0]) (t := 25) ?hr ?_; (case hd => rfl); (case hg => rfl); (case hr => first | (go_simp; done) | (go_simp; rfl)); intro g2 hg w2 hbox hb; have HI_ := am_ ((HI.out).box hg hbox hb); clear HI; have HI := HI_; clear HI_; clear hb hbox hg) | ((with_reducible refine gate_dst (N := 7) rfl ?_); refine Kd.R_lit k30 (w0 := _) _ 30 ?hg (N := 7) ?hd (xs := ([] : List S30)) (inner := []) (ok := fun _ => True) (okp := fun _ => True) ?hr ?hp (fun _ hk => hk) trivial (Below.refl _ _) (Nat.le_refl _) (by simp) ?_; (case hd => rfl); (case hg => rfl); (case hr => first | (go_simp; done) | (go_simp; rfl)); (case hp => exact (Reps.none _ _)); intro v7 w7 hR hb hg hat; have HI_ := am_ ((HI.out).rowPush hb hR); clear HI; have HI := HI_; clear HI_; clear hR hb hg hat; obtain ⟨A7, c7, e7⟩ := Kd.R_slice HI.out.row0; subst e7) | ((with_reducible refine gate_dst (N := 3) rfl ?_); refine box_event ?hg (N := 3) ?hd (cs := #[.slice none 0 0]) (t := 25) ?hr ?_; (case hd => rfl); (case hg => rfl); (case hr => first | (go_simp; done) | (go_simp; rfl)); intro g3 hg w3 hbox hb; have HI_ := am_ ((HI.out).box hg hbox hb); clear HI; have HI := HI_; clear HI_; clear hb hbox hg) | ((with_reducible refine gate_store (p := 3) (v := (.tmp 8)) (t := 25) rfl ?_); go_must (refine wpList_store_row rfl 25 _ _ rfl g3 (#[.slice A7 ([] : List S30).length c7]) rfl (by first | rfl | (go_simp; rfl)) 25 (#[.slice none 0 0]) (Inv.blk0 (HI.out)) (by kernel_rfl) (by rfl) qz12_ ?_; have HI_ := am_ (Inv.put0 (HI.out) (#[.slice A7 ([] : List S30).length c7])); clear HI; have HI := HI_; clear HI_; generalize World.setRow _ g3 (#[.slice A7 ([] : List S30).length c7]) = w8 at HI ⊢)) | ((with_reducible refine gate_callee (f := 25) rfl ?_); refine goesL_ (some 10) rfl rfl Tryd.func25 (by kernel_rfl) rfl #[.pointer (some ⟨g, 0, none⟩), .int .i64 9] rfl qz13_ ?_; refine (next_inv hl HB0.out (show Inv w (fun k => k = g) _ [blk g 52 CS, blk g3 25 #[.slice A7 ([] : List S30).length c7], row k30 30 w.heap.size (.slice A7 ([] : List S30).length c7) [] _, blk g2 25 #[.slice none 0 0]] (fun _ => True) from HI.out.frontI 3 rfl) (HS.out) (a := 9) (by omega) (by omega) (by omega)).mono ?_; rintro e w10 ⟨x, CS1, rfl, x0, x1, hI_, hS_⟩; refine ⟨_, rfl, ?_⟩; replace HI := am_ hI_; replace HS := am_ hS_; clear hI_ hS_))
 have hm : ∃ m : Nat, 1 + x = (m : Int) ∧ m ≤ 9 := ⟨(1 + x).toNat, (by omega), (by omega)⟩
 obtain ⟨m, hm, hm9⟩ := hm
 have HM9 := am_ hm9
 simp only [hm]
 clear hm hm9 x0 x1
 have HI_ := am_ (HI.out.swap1); clear HI; have HI := HI_; clear HI_
 go_loopg [5] m (fun kq v5 w' => ∃ (i : Nat) (Ag : Option Addr) (cg : Nat) (gs : List S30) (S : Nat → Prop) (CS_ : Array Value), v5 = .int .i64 i ∧ Aside0 (i + kq = m) ∧ Aside0 (gs.length = i) ∧ Aside0 (∀ y ∈ gs, gateB y 15 = true) ∧ Aside0 (SrcOK w0 l g CS_ (30 * i + 1)) ∧ Aside0 (Inv w (fun k => k = g) w' [blk g 52 CS_, row k30 30 w.heap.size (.slice Ag gs.length cg) gs S, blk g3 25 #[.slice Ag gs.length cg], blk g2 25 #[.slice none 0 0]] (fun _ => True)))
 case atStart => exact ⟨0, A7, c7, [], _, _, rfl, ⟨(by omega)⟩, ⟨rfl⟩, ⟨fun y hy => by cases hy⟩, ⟨HS.out.up (by omega)⟩, HI⟩
 case round =>
  clear HI HS
  obtain ⟨i, Ag, cg, gs, S, CS, rfl, HJ, HLEN, HALL, HS, HI⟩ := hrel
  have hj := HJ.out
  cases gk with
  | zero =>
   have c1 : decide ((i : Int) < (m : Int)) = false := decide_eq_false (by omega)
   have c2 : decide (i < m) = false := decide_eq_false (by omega)
   go_wp2_with (first | ((with_reducible refine gate_dst (N := 87) rfl ?_); go_must (refine wpList_load_row rfl 25 _ rfl g3 rfl 25 (#[.slice Ag gs.length cg]) (0, 0) _ (HI.out.get 2 rfl) hu25 rfl (by kernel_rfl) ?_)) | ((with_reducible refine gate_store (p := 2) (v := (.tmp 87)) (t := 25) rfl ?_); go_must (refine wpList_store_row rfl 25 _ _ rfl g2 (#[.slice Ag gs.length cg]) rfl (by first | rfl | (go_simp; rfl)) 25 (#[.slice none 0 0]) (Inv.blk0 ((show Inv w (fun k => k = g) _ [blk g2 25 #[.slice none 0 0], blk g 52 CS, row k30 30 w.heap.size (.slice Ag gs.length cg) gs S, blk g3 25 #[.slice Ag gs.length cg]] (fun _ => True) from HI.out.frontI 3 rfl))) (by kernel_rfl) (by rfl) qz12_ ?_; have HI_ := am_ (Inv.put0 ((show Inv w (fun k => k = g) _ [blk g2 25 #[.slice none 0 0], blk g 52 CS, row k30 30 w.heap.size (.slice Ag gs.length cg) gs S, blk g3 25 #[.slice Ag gs.length cg]] (fun _ => True) from HI.out.frontI 3 rfl)) (#[.slice Ag gs.length cg])); clear HI; have HI := HI_; clear HI_; generalize World.setRow _ g2 (#[.slice Ag gs.length cg]) = w88 at HI ⊢)))
   refine bodyPost_ret (results_cell_row rfl _ _ g2 25 (#[.slice Ag gs.length cg]) (0, 0) _ rfl (HI.out.get 0 rfl) Tryd.underlying25 rfl (by kernel_rfl)) rfl ?_
   have hj2 := HJ.out
   have hm2 := HM9.out
   have hl2 := HLEN.out
   refine ⟨_, gs, rfl, Kd.R_mono (rowOf (HI.out.get 2 rfl)) (fun _ _ => trivial), ⟨(by omega), HALL.out⟩, ?_⟩
   obtain ⟨_, _, _, _, _, hge, _, _⟩ := HS.out
   exact HI.out.agr.onto HB0.out (fun k hk => hk ▸ hge)
  | succ k1 =>
   have HBB := am_ (show (i : Int) ≤ 9 by have := HM9.out; omega)
   have hi9 : (i : Int) ≤ 9 := HBB.out
   have c1 : decide ((i : Int) < (m : Int)) = true := decide_eq_true (by omega)
   have c2 : decide (i < m) = true := decide_eq_true (by omega)
   go_upto_region 7 with (first | ((with_reducible refine gate_callee (f := 25) rfl ?_); refine goesL_ (some 18) rfl rfl Tryd.func25 (by kernel_rfl) rfl #[.pointer (some ⟨g, 0, none⟩), .int .i64 8] rfl qz13_ ?_; refine (next_inv hl HB0.out (HI.out) (HS.out) (a := 8) (by have := HBB.out; omega) (by omega) (by omega)).mono ?_; rintro e w18 ⟨y, CS2, rfl, y0, y1, hI_, hS_⟩; refine ⟨_, rfl, ?_⟩; replace HI := am_ hI_; replace HS := am_ hS_; clear hI_ hS_) | ((with_reducible refine gate_dst (N := 6) rfl ?_); refine box_event ?hg (N := 6) ?hd (cs := #[.int .i64 0, .int .i64 0, .int .i64 0, .int .i64 0]) (t := 30) ?hr ?_; (case hd => rfl); (case hg => rfl); (case hr => first | (go_simp; done) | (go_simp; rfl)); intro gg hg w20 hbox hb; have HI_ := am_ ((HI.out).box hg hbox hb); clear HI; have HI := HI_; clear HI_; clear hb hbox hg) | ((with_reducible refine gate_store (p := 6) (v := (.tmp 20)) (t := 30) rfl ?_); go_must (refine wpList_store_row rfl 30 _ _ rfl gg (#[.int .i64 (1 + y), .int .i64 0, .int .i64 0, .int .i64 0]) rfl (by first | rfl | (go_simp; rfl)) 30 (#[.int .i64 0, .int .i64 0, .int .i64 0, .int .i64 0]) (Inv.blk0 (HI.out)) (by kernel_rfl) (by rfl) qz12_ ?_; have HI_ := am_ (Inv.put0 (HI.out) (#[.int .i64 (1 + y), .int .i64 0, .int .i64 0, .int .i64 0])); clear HI; have HI := HI_; clear HI_; generalize World.setRow _ gg (#[.int .i64 (1 + y), .int .i64 0, .int .i64 0, .int .i64 0]) = w21 at HI ⊢)))
   have hop : 1 ≤ 1 + y ∧ 1 + y ≤ 8 := by omega
   generalize 1 + y = op0 at hop HI ⊢
   have HOP := am_ hop
   clear hop
   have HI_ := am_ (HI.out.swap); clear HI; have HI := HI_; clear HI_
   (try simp only [Act.put, List.setIfInBounds_toArray, List.set_cons_zero, List.set_cons_succ])
   go_cut [26] (fun v26 wc => ∃ (x26 : Bool), v26 = .bool x26 ∧ ∃ (CS_ : Array Value), Aside0 (SrcOK w0 l g CS_ (30 * i + 3)) ∧ Aside0 (Inv w (fun k => k = g) wc [blk g 52 CS_, blk gg 30 #[.int .i64 op0, .int .i64 0, .int .i64 0, .int .i64 0], row k30 30 w.heap.size (.slice Ag gs.length cg) gs S, blk g3 25 #[.slice Ag gs.length cg], blk g2 25 #[.slice none 0 0]] (fun _ => True)))
   case first =>
    by_cases c0 : (i : Int) = 0
    ·
     have c0a : ((i : Int) == 0) = true := beq_iff_eq.mpr c0
     have c0b : (i == 0) = true := beq_iff_eq.mpr (by omega)
     have c0c : i = 0 := by omega
     go_wp2
     go_meet
     case rel => exact ⟨true, by first | rfl | (simp; done) | (simp [*]; done), _, ⟨HS.out.up (by omega)⟩, HI⟩
    ·
     have c0a : ((i : Int) == 0) = false := beq_eq_false_iff_ne.mpr c0
     have c0b : (i == 0) = false := beq_eq_false_iff_ne.mpr (by omega)
     have c0c : ¬ i = 0 := by omega
     go_wp2_with (first | (go_at_call 26; refine (chance_inv hl HB0.out (HI.out) (HS.out) (n := 3) (by have := HBB.out; omega) (by omega) (by omega)).mono ?_; rintro e w25 ⟨v, CS3, rfl, hI_, hS_⟩; replace HI := am_ hI_; replace HS := am_ hS_; clear hI_ hS_))
     go_meet
     case rel => exact ⟨v, by first | rfl | (simp; done) | (simp [*]; done), _, ⟨HS.out.up (by omega)⟩, HI⟩
   case rest =>
    clear HS HI
    obtain ⟨x26, rfl, CS, HS, HI⟩ := hcut
    go_upto_if 26 with (fail)
    go_cut [] (fun wc => ∃ (op_ : Int), Aside0 (1 ≤ op_ ∧ op_ ≤ 8) ∧ ∃ (CS_ : Array Value), Aside0 (SrcOK w0 l g CS_ (30 * i + 4)) ∧ Aside0 (Inv w (fun k => k = g) wc [blk g 52 CS_, blk gg 30 #[.int .i64 op_, .int .i64 0, .int .i64 0, .int .i64 0], row k30 30 w.heap.size (.slice Ag gs.length cg) gs S, blk g3 25 #[.slice Ag gs.length cg], blk g2 25 #[.slice none 0 0]] (fun _ => True)))
    case first =>
     cases x26 with
     | true =>
      go_wp2_with (first | ((with_reducible refine gate_callee (f := 25) rfl ?_); refine goesL_ (some 28) rfl rfl Tryd.func25 (by kernel_rfl) rfl #[.pointer (some ⟨g, 0, none⟩), .int .i64 3] rfl qz13_ ?_; refine (next_inv hl HB0.out (HI.out) (HS.out) (a := 3) (by have := HBB.out; omega) (by omega) (by omega)).mono ?_; rintro e w28 ⟨z, CS4, rfl, z0, z1, hI_, hS_⟩; refine ⟨_, rfl, ?_⟩; replace HI := am_ hI_; replace HS := am_ hS_; clear hI_ hS_; have hc0 : w28.cell? ⟨gg, 0, none⟩ = some (.int .i64 op0) := (blk_cell (HI.out.get 1 rfl) 0).trans rfl; have hf0 := blk_frozen (HI.out.get 1 rfl) 0))
      go_meet
      case rel => exact ⟨1 + z, ⟨(by omega)⟩, _, ⟨HS.out.up (by omega)⟩, ⟨(Inv.cellsEq (show Inv w (fun k => k = g) _ (blk gg 30 ((#[.int .i64 op0, .int .i64 0, .int .i64 0, .int .i64 0] : Array Value).setIfInBounds 0 (.int .i64 (1 + z))) :: _) (fun _ => True) from HI.out.swap.set0 0 (.int .i64 (1 + z))) (cs' := #[.int .i64 (1 + z), .int .i64 0, .int .i64 0, .int .i64 0]) rfl).swap⟩⟩
     | false =>
      go_wp2
      go_meet
      case rel => exact ⟨op0, HOP, _, ⟨HS.out.up (by omega)⟩, HI⟩
    case rest =>
     clear HS HI HOP
     obtain ⟨op1, HOP, CS, HS, HI⟩ := hcut
     go_upto_region 9 with (fail)
     go_cut [38] (fun v38 wc => ∃ (x38 : Bool), v38 = .bool x38 ∧ ∃ (CS_ : Array Value), Aside0 (SrcOK w0 l g CS_ (30 * i + 4)) ∧ Aside0 (Inv w (fun k => k = g) wc [blk g 52 CS_, blk gg 30 #[.int .i64 op1, .int .i64 0, .int .i64 0, .int .i64 0], row k30 30 w.heap.size (.slice Ag gs.length cg) gs S, blk g3 25 #[.slice Ag gs.length cg], blk g2 25 #[.slice none 0 0]] (fun _ => True)))
     case first =>
      have hc0 : wc.cell? ⟨gg, 0, none⟩ = some (.int .i64 op1) := (blk_cell (HI.out.get 1 rfl) 0).trans rfl
      have hc3 : wc.cell? ⟨g3, 0, none⟩ = some (.slice Ag gs.length cg) := (blk_cell (HI.out.get 3 rfl) 0).trans rfl
      by_cases c2 : op1 = 2
      ·
       have c2a : (op1 == 2) = true := beq_iff_eq.mpr c2
       obtain ⟨u, hu⟩ := count_some gs 2 (by have := HLEN.out; omega) gs.length 0 0 100 (by omega) (by omega) (by omega) (by have := HLEN.out; omega)
       have HU := am_ (show spec_l11Count.f 100 gs 2 = some u from hu)
       clear hu
       go_wp2_with (go_at_call 27; refine (spec_l11Count.calls 100 Ag cg gs 2 u _ (Kd.R_reads' (rowOf (HI.out.get 2 rfl))).2.2 (Kd.R_reads' (rowOf (HI.out.get 2 rfl))).2.1 HU.out).mono ?_; rintro e w36 ⟨rfl, hb⟩; replace HI := am_ (HI.out.grow hb); clear hb)
       go_meet
       case rel => exact ⟨(u == 3), by first | rfl | (simp; done) | (simp [*]; done), _, ⟨HS.out.up (by omega)⟩, HI⟩
      ·
       have c2a : (op1 == 2) = false := beq_eq_false_iff_ne.mpr c2
       go_wp2
       go_meet
       case rel => exact ⟨false, by first | rfl | (simp; done) | (simp [*]; done), _, ⟨HS.out.up (by omega)⟩, HI⟩
     case rest =>
      clear HS HI
      obtain ⟨x38, rfl, CS, HS, HI⟩ := hcut
      go_upto_if 38 with (fail)
      go_cut [] (fun wc => ∃ (op_ : Int), Aside0 (1 ≤ op_ ∧ op_ ≤ 8) ∧ ∃ (CS_ : Array Value), Aside0 (SrcOK w0 l g CS_ (30 * i + 4)) ∧ Aside0 (Inv w (fun k => k = g) wc [blk g 52 CS_, blk gg 30 #[.int .i64 op_, .int .i64 0, .int .i64 0, .int .i64 0], row k30 30 w.heap.size (.slice Ag gs.length cg) gs S, blk g3 25 #[.slice Ag gs.length cg], blk g2 25 #[.slice none 0 0]] (fun _ => True)))
      case first =>
       have hc0 : wc.cell? ⟨gg, 0, none⟩ = some (.int .i64 op1) := (blk_cell (HI.out.get 1 rfl) 0).trans rfl
       have hf0 := blk_frozen (HI.out.get 1 rfl) 0
       cases x38 with
       | true =>
        go_wp2
        go_meet
        case rel => exact ⟨1, ⟨(by omega)⟩, _, ⟨HS.out.up (by omega)⟩, ⟨(Inv.cellsEq (show Inv w (fun k => k = g) _ (blk gg 30 ((#[.int .i64 op1, .int .i64 0, .int .i64 0, .int .i64 0] : Array Value).setIfInBounds 0 (.int .i64 1)) :: _) (fun _ => True) from HI.out.swap.set0 0 (.int .i64 1)) (cs' := #[.int .i64 1, .int .i64 0, .int .i64 0, .int .i64 0]) rfl).swap⟩⟩
       | false =>
        go_wp2
        go_meet
        case rel => exact ⟨op1, HOP, _, ⟨HS.out.up (by omega)⟩, HI⟩
      case rest =>
       clear HS HI HOP
       obtain ⟨op, HOP, CS, HS, HI⟩ := hcut
       have hc0 : wc.cell? ⟨gg, 0, none⟩ = some (.int .i64 op) := (blk_cell (HI.out.get 1 rfl) 0).trans rfl
       obtain ⟨u, hu, hu2⟩ : ∃ u, spec_l11Uses.f op = some u ∧ u = if 4 ≤ op ∧ op ≤ 7 then 2 else if op = 8 then 1 else 0 := ⟨_, uses_eq op, rfl⟩
       have HU := am_ hu
       have HU2 := am_ hu2
       clear hu hu2
       go_upto_block 2 with (go_at_call 19; refine (spec_l11Uses.calls op u _ HU.out).mono ?_; rintro e w42 ⟨rfl, ⟨nd, rfl⟩⟩; replace HI := am_ (HI.out.drewN nd))
       go_cut [] (fun wc => ∃ (x_ y_ : Int), Aside0 (if 4 ≤ op ∧ op ≤ 7 then (0 ≤ x_ ∧ x_ ≤ 14) ∧ (0 ≤ y_ ∧ y_ ≤ 14) else if op = 8 then (0 ≤ x_ ∧ x_ ≤ 14) ∧ y_ = 0 else x_ = 0 ∧ y_ = 0) ∧ ∃ (CS_ : Array Value), Aside0 (SrcOK w0 l g CS_ (30 * i + 8)) ∧ Aside0 (Inv w (fun k => k = g) wc [blk g 52 CS_, blk gg 30 #[.int .i64 op, .int .i64 x_, .int .i64 y_, .int .i64 0], row k30 30 w.heap.size (.slice Ag gs.length cg) gs S, blk g3 25 #[.slice Ag gs.length cg], blk g2 25 #[.slice none 0 0]] (fun _ => True)))
       case first =>
        have hu2 := HU2.out
        by_cases c4 : 4 ≤ op ∧ op ≤ 7
        ·
         rw [if_pos c4] at hu2
         subst hu2
         by_cases c7 : op = 7
         ·
          have c7a : (op == 7) = true := beq_iff_eq.mpr c7
          go_wp2_with (first | ((with_reducible refine gate_callee (f := 25) rfl ?_); refine goesL_ (some 47) rfl rfl Tryd.func25 (by kernel_rfl) rfl #[.pointer (some ⟨g, 0, none⟩), .int .i64 (i : Int)] rfl qz13_ ?_; refine (next_inv hl HB0.out (HI.out) (HS.out) (a := (i : Int)) (by have := HBB.out; omega) (by omega) (by omega)).mono ?_; rintro e w47 ⟨p, CS5, rfl, p0, p1, hI_, hS_⟩; refine ⟨_, rfl, ?_⟩; replace HI := am_ hI_; replace HS := am_ hS_; clear hI_ hS_; have hd1 : w47.cell? ⟨gg, 1, none⟩ = some (.int .i64 0) := (blk_cell (HI.out.get 1 rfl) 1).trans rfl; have hg1 := blk_frozen (HI.out.get 1 rfl) 1) | ((with_reducible refine gate_callee (f := 25) rfl ?_); refine goesL_ (some 51) rfl rfl Tryd.func25 (by kernel_rfl) rfl #[.pointer (some ⟨g, 0, none⟩), .int .i64 (i : Int)] rfl qz13_ ?_; refine (next_inv hl HB0.out ((Inv.cellsEq (show Inv w (fun k => k = g) _ (blk gg 30 ((#[.int .i64 op, .int .i64 0, .int .i64 0, .int .i64 0] : Array Value).setIfInBounds 1 (.int .i64 p)) :: _) (fun _ => True) from HI.out.swap.set0 1 (.int .i64 p)) (cs' := #[.int .i64 op, .int .i64 p, .int .i64 0, .int .i64 0]) rfl).swap) (HS.out) (a := (i : Int)) (by have := HBB.out; omega) (by omega) (by omega)).mono ?_; rintro e w51 ⟨q, CS6, rfl, q0, q1, hI_, hS_⟩; refine ⟨_, rfl, ?_⟩; replace HI := am_ hI_; replace HS := am_ hS_; clear hI_ hS_; have hi2 : w51.cell? ⟨gg, 2, none⟩ = some (.int .i64 0) := (blk_cell (HI.out.get 1 rfl) 2).trans rfl; have hj2 := blk_frozen (HI.out.get 1 rfl) 2; have hk0 : w51.cell? ⟨gg, 0, none⟩ = some (.int .i64 op) := (blk_cell (HI.out.get 1 rfl) 0).trans rfl; have hm1 : w51.cell? ⟨gg, 1, none⟩ = some (.int .i64 p) := (blk_cell (HI.out.get 1 rfl) 1).trans rfl) | (go_at_call 26; refine (chance_inv hl HB0.out ((Inv.cellsEq (show Inv w (fun k => k = g) _ (blk gg 30 ((#[.int .i64 op, .int .i64 p, .int .i64 0, .int .i64 0] : Array Value).setIfInBounds 2 (.int .i64 q)) :: _) (fun _ => True) from HI.out.swap.set0 2 (.int .i64 q)) (cs' := #[.int .i64 op, .int .i64 p, .int .i64 q, .int .i64 0]) rfl).swap) (HS.out) (n := 5) (by have := HBB.out; omega) (by omega) (by omega)).mono ?_; rintro e w58 ⟨v, CS7, rfl, hI_, hS_⟩; replace HI := am_ hI_; replace HS := am_ hS_; clear hI_ hS_; have hn1 : w58.cell? ⟨gg, 1, none⟩ = some (.int .i64 p) := (blk_cell (HI.out.get 1 rfl) 1).trans rfl; have ho2 : w58.cell? ⟨gg, 2, none⟩ = some (.int .i64 q) := (blk_cell (HI.out.get 1 rfl) 2).trans rfl; have hp2 := blk_frozen (HI.out.get 1 rfl) 2))
          ·
           go_meet
           case rel => exact ⟨p, p, ⟨(by rw [if_pos c4]; omega)⟩, _, ⟨HS.out.up (by omega)⟩, ⟨(Inv.cellsEq (show Inv w (fun k => k = g) _ (blk gg 30 ((#[.int .i64 op, .int .i64 p, .int .i64 q, .int .i64 0] : Array Value).setIfInBounds 2 (.int .i64 p)) :: _) (fun _ => True) from HI.out.swap.set0 2 (.int .i64 p)) (cs' := #[.int .i64 op, .int .i64 p, .int .i64 p, .int .i64 0]) rfl).swap⟩⟩
          ·
           go_meet
           case rel => exact ⟨p, q, ⟨(by rw [if_pos c4]; omega)⟩, _, ⟨HS.out.up (by omega)⟩, HI⟩
         ·
          have c7a : (op == 7) = false := beq_eq_false_iff_ne.mpr c7
          go_wp2_with (first | ((with_reducible refine gate_callee (f := 25) rfl ?_); refine goesL_ (some 47) rfl rfl Tryd.func25 (by kernel_rfl) rfl #[.pointer (some ⟨g, 0, none⟩), .int .i64 (i : Int)] rfl qz13_ ?_; refine (next_inv hl HB0.out (HI.out) (HS.out) (a := (i : Int)) (by have := HBB.out; omega) (by omega) (by omega)).mono ?_; rintro e w47 ⟨p, CS5, rfl, p0, p1, hI_, hS_⟩; refine ⟨_, rfl, ?_⟩; replace HI := am_ hI_; replace HS := am_ hS_; clear hI_ hS_; have hd1 : w47.cell? ⟨gg, 1, none⟩ = some (.int .i64 0) := (blk_cell (HI.out.get 1 rfl) 1).trans rfl; have hg1 := blk_frozen (HI.out.get 1 rfl) 1) | ((with_reducible refine gate_callee (f := 25) rfl ?_); refine goesL_ (some 51) rfl rfl Tryd.func25 (by kernel_rfl) rfl #[.pointer (some ⟨g, 0, none⟩), .int .i64 (i : Int)] rfl qz13_ ?_; refine (next_inv hl HB0.out ((Inv.cellsEq (show Inv w (fun k => k = g) _ (blk gg 30 ((#[.int .i64 op, .int .i64 0, .int .i64 0, .int .i64 0] : Array Value).setIfInBounds 1 (.int .i64 p)) :: _) (fun _ => True) from HI.out.swap.set0 1 (.int .i64 p)) (cs' := #[.int .i64 op, .int .i64 p, .int .i64 0, .int .i64 0]) rfl).swap) (HS.out) (a := (i : Int)) (by have := HBB.out; omega) (by omega) (by omega)).mono ?_; rintro e w51 ⟨q, CS6, rfl, q0, q1, hI_, hS_⟩; refine ⟨_, rfl, ?_⟩; replace HI := am_ hI_; replace HS := am_ hS_; clear hI_ hS_; have hi2 : w51.cell? ⟨gg, 2, none⟩ = some (.int .i64 0) := (blk_cell (HI.out.get 1 rfl) 2).trans rfl; have hj2 := blk_frozen (HI.out.get 1 rfl) 2; have hk0 : w51.cell? ⟨gg, 0, none⟩ = some (.int .i64 op) := (blk_cell (HI.out.get 1 rfl) 0).trans rfl; have hm1 : w51.cell? ⟨gg, 1, none⟩ = some (.int .i64 p) := (blk_cell (HI.out.get 1 rfl) 1).trans rfl))
          go_meet
          case rel => exact ⟨p, q, ⟨(by rw [if_pos c4]; omega)⟩, _, ⟨HS.out.up (by omega)⟩, ⟨(Inv.cellsEq (show Inv w (fun k => k = g) _ (blk gg 30 ((#[.int .i64 op, .int .i64 p, .int .i64 0, .int .i64 0] : Array Value).setIfInBounds 2 (.int .i64 q)) :: _) (fun _ => True) from HI.out.swap.set0 2 (.int .i64 q)) (cs' := #[.int .i64 op, .int .i64 p, .int .i64 q, .int .i64 0]) rfl).swap⟩⟩
        ·
         rw [if_neg c4] at hu2
         by_cases c8 : op = 8
         ·
          rw [if_pos c8] at hu2
          subst hu2
          go_wp2_with (first | ((with_reducible refine gate_callee (f := 25) rfl ?_); refine goesL_ (some 68) rfl rfl Tryd.func25 (by kernel_rfl) rfl #[.pointer (some ⟨g, 0, none⟩), .int .i64 (i : Int)] rfl qz13_ ?_; refine (next_inv hl HB0.out (HI.out) (HS.out) (a := (i : Int)) (by have := HBB.out; omega) (by omega) (by omega)).mono ?_; rintro e w68 ⟨p, CS5, rfl, p0, p1, hI_, hS_⟩; refine ⟨_, rfl, ?_⟩; replace HI := am_ hI_; replace HS := am_ hS_; clear hI_ hS_; have hd1 : w68.cell? ⟨gg, 1, none⟩ = some (.int .i64 0) := (blk_cell (HI.out.get 1 rfl) 1).trans rfl; have hg1 := blk_frozen (HI.out.get 1 rfl) 1))
          go_meet
          case rel => exact ⟨p, 0, ⟨(by rw [if_neg c4, if_pos c8]; omega)⟩, _, ⟨HS.out.up (by omega)⟩, ⟨(Inv.cellsEq (show Inv w (fun k => k = g) _ (blk gg 30 ((#[.int .i64 op, .int .i64 0, .int .i64 0, .int .i64 0] : Array Value).setIfInBounds 1 (.int .i64 p)) :: _) (fun _ => True) from HI.out.swap.set0 1 (.int .i64 p)) (cs' := #[.int .i64 op, .int .i64 p, .int .i64 0, .int .i64 0]) rfl).swap⟩⟩
         ·
          rw [if_neg c8] at hu2
          subst hu2
          go_wp2
          go_meet
          case rel => exact ⟨0, 0, ⟨(by rw [if_neg c4, if_neg c8]; omega)⟩, _, ⟨HS.out.up (by omega)⟩, HI⟩
       case rest =>
        clear HS HI HU HU2
        obtain ⟨x, y, HXY, CS, HS, HI⟩ := hcut
        have hc0 : wc.cell? ⟨gg, 0, none⟩ = some (.int .i64 op) := (blk_cell (HI.out.get 1 rfl) 0).trans rfl
        go_upto_if 72 with (fail)
        go_cut [] (fun wc => ∃ (z_ : Int), Aside0 (gateB (⟨op, x, y, z_⟩ : S30) 15 = true) ∧ ∃ (CS_ : Array Value), Aside0 (SrcOK w0 l g CS_ (30 * i + 25)) ∧ Aside0 (Inv w (fun k => k = g) wc [blk g 52 CS_, blk gg 30 #[.int .i64 op, .int .i64 x, .int .i64 y, .int .i64 z_], row k30 30 w.heap.size (.slice Ag gs.length cg) gs S, blk g3 25 #[.slice Ag gs.length cg], blk g2 25 #[.slice none 0 0]] (fun _ => True)))
        case first =>
         by_cases c3 : op = 3
         ·
          have c3a : (op == 3) = true := beq_iff_eq.mpr c3
          go_wp2_with (first | ((with_reducible refine gate_callee (f := 28) rfl ?_); refine goesL_ (some 74) rfl rfl Tryd.func28 (by kernel_rfl) rfl #[.pointer (some ⟨g, 0, none⟩)] rfl qz13_ ?_; refine (field_inv hl HB0.out HI.out HS.out (by have := HBB.out; omega)).mono ?_; rintro e w74 ⟨fv, CS8, rfl, fv0, hI_, hS_⟩; refine ⟨_, rfl, ?_⟩; replace HI := am_ hI_; replace HS := am_ hS_; clear hI_ hS_) | ((with_reducible refine gate_dst (N := 75) rfl ?_); refine Kd.R_lit (Kd.int .i64) (w0 := _) _ 3 ?hg (N := 75) ?hd (xs := ([0, 1, fv] : List Int)) (inner := [.int .i64 (0), .int .i64 (1), .int .i64 (fv)]) (ok := fun _ => True) (okp := fun _ => True) ?hr ?hp (fun _ hk => hk) trivial (Below.refl _ _) (Nat.le_refl _) (by simp) ?_; (case hd => rfl); (case hg => rfl); (case hr => first | (go_simp; done) | (go_simp; rfl)); (case hp => exact (Reps.one (show Kd.M (Kd.int .i64) _ _ _ (0) [.int .i64 (0)] from rfl) (Reps.one (show Kd.M (Kd.int .i64) _ _ _ (1) [.int .i64 (1)] from rfl) (Reps.one (show Kd.M (Kd.int .i64) _ _ _ (fv) [.int .i64 (fv)] from rfl) (Reps.none _ _))))); intro v_ w75 hR hb hg hat; obtain ⟨AL, cl, rfl, _, HI_⟩ := (HI.out).rowKnow hb hR; clear HI; have HI := am_ HI_; clear HI_ hR hb hg hat) | ((with_reducible refine gate_callee (f := 25) rfl ?_); refine goesL_ (some 77) rfl rfl Tryd.func25 (by kernel_rfl) rfl #[.pointer (some ⟨g, 0, none⟩), .int .i64 3] rfl qz13_ ?_; refine (next_inv hl HB0.out (HI.out) (HS.out) (a := 3) (by have := HBB.out; omega) (by omega) (by omega)).mono ?_; rintro e w77 ⟨u, CS9, rfl, u0, u1, hI_, hS_⟩; refine ⟨_, rfl, ?_⟩; replace HI := am_ hI_; replace HS := am_ hS_; clear hI_ hS_; obtain ⟨adl, eAl, hxl⟩ := Kd.at_int HI.out.now.1 u u0 (by show u < 3; omega); subst eAl; have pu5 : u < 3 := (by omega); have pu6 := eq_true u0; have pu7 := eq_true pu5; have hd3 : w77.cell? ⟨gg, 3, none⟩ = some (.int .i64 0) := (blk_cell (HI.out.get 1 rfl) 3).trans rfl; have hg3 := blk_frozen (HI.out.get 1 rfl) 3))
          go_meet
          case rel => exact ⟨rd [0, 1, fv] u, ⟨const_right c3 HXY.out (row_inF fv0 u0 (by omega))⟩, _, ⟨HS.out.up (by omega)⟩, ⟨((Inv.cellsEq (show Inv w (fun k => k = g) _ (blk gg 30 ((#[.int .i64 op, .int .i64 x, .int .i64 y, .int .i64 0] : Array Value).setIfInBounds 3 (.int .i64 (rd [0, 1, fv] u))) :: _) _ from HI.out.swap.set0 3 (.int .i64 (rd [0, 1, fv] u))) (cs' := #[.int .i64 op, .int .i64 x, .int .i64 y, .int .i64 (rd [0, 1, fv] u)]) rfl).swap).weaken (fun _ _ => trivial)⟩⟩
         ·
          have c3a : (op == 3) = false := beq_eq_false_iff_ne.mpr c3
          go_wp2
          go_meet
          case rel => exact ⟨0, ⟨other_right c3 HOP.out HXY.out⟩, _, ⟨HS.out.up (by omega)⟩, HI⟩
        case rest =>
         clear HS HI HXY
         obtain ⟨z, HZ, CS, HS, HI⟩ := hcut
         have hc3 : wc.cell? ⟨g3, 0, none⟩ = some (.slice Ag gs.length cg) := (blk_cell (HI.out.get 3 rfl) 0).trans rfl
         go_wp2_with (first | ((with_reducible refine gate_dst (N := 83) rfl ?_); go_must (refine wpList_load_row rfl 30 _ rfl gg rfl 30 (#[.int .i64 op, .int .i64 x, .int .i64 y, .int .i64 z]) (0, 0) _ (HI.out.get 1 rfl) hu30 rfl (by kernel_rfl) ?_)) | ((with_reducible refine gate_builtin (b := .append) (xs := #[.tmp 82, .tmp 84]) rfl ?_); at_builtin; refine Kd.R_append k30 (w0 := _) w.heap.size rfl (.tmp 82) (.tmp 84) 23 30 (.agg #[.int .i64 0, .int .i64 0, .int .i64 0, .int .i64 0]) 32 rfl Tryd.underlying23 info30 rfl (by decide) (by omega) _ gs (⟨op, x, y, z⟩ : S30) [.int .i64 op, .int .i64 x, .int .i64 y, .int .i64 z] _ (fun _ => False) rfl (by first | (go_simp; done) | (go_simp; rfl)) ?aP (fun _ hk => hk.elim) ?aF (Inv.row0W (show Inv w (fun k => k = g) _ [row k30 30 w.heap.size (.slice Ag gs.length cg) gs S, blk g 52 CS, blk gg 30 #[.int .i64 op, .int .i64 x, .int .i64 y, .int .i64 z], blk g3 25 #[.slice Ag gs.length cg], blk g2 25 #[.slice none 0 0]] (fun _ => True) from HI.out.frontI 2 rfl)) (Below.refl _ _) (show Inv w (fun k => k = g) _ [row k30 30 w.heap.size (.slice Ag gs.length cg) gs S, blk g 52 CS, blk gg 30 #[.int .i64 op, .int .i64 x, .int .i64 y, .int .i64 z], blk g3 25 #[.slice Ag gs.length cg], blk g2 25 #[.slice none 0 0]] (fun _ => True) from HI.out.frontI 2 rfl).agr.size ?aL ?_; (case aP => exact k30_mkM _ _ _ (⟨op, x, y, z⟩ : S30)); (case aF => exact (fun _ hk => .inr hk)); (case aL => have := HLEN.out; have := HBB.out; omega); intro v85 w85 hR hb hg_ hat; replace HI := am_ ((show Inv w (fun k => k = g) _ [row k30 30 w.heap.size (.slice Ag gs.length cg) gs S, blk g 52 CS, blk gg 30 #[.int .i64 op, .int .i64 x, .int .i64 y, .int .i64 z], blk g3 25 #[.slice Ag gs.length cg], blk g2 25 #[.slice none 0 0]] (fun _ => True) from HI.out.frontI 2 rfl).grown0 hb hR (fun _ hk _ => hk) hg_); clear hR hb hg_ hat; obtain ⟨A85, c85, e85⟩ := Kd.R_slice HI.out.row0; subst e85; have hc5 : w85.cell? ⟨g3, 0, none⟩ = some (.slice Ag gs.length cg) := (blk_cell (HI.out.get 3 rfl) 0).trans rfl; have hf5 := blk_frozen (HI.out.get 3 rfl) 0))
         have h1 := (show Inv w (fun k => k = g) _ [blk g3 25 #[.slice Ag gs.length cg], row k30 30 w.heap.size (.slice A85 (gs ++ [(⟨op, x, y, z⟩ : S30)]).length c85) (gs ++ [(⟨op, x, y, z⟩ : S30)]) _, blk g 52 CS, blk gg 30 #[.int .i64 op, .int .i64 x, .int .i64 y, .int .i64 z], blk g2 25 #[.slice none 0 0]] (fun _ => True) from HI.out.frontI 3 rfl)
         have h2 := Inv.cellsEq (show Inv w (fun k => k = g) _ (blk g3 25 ((#[.slice Ag gs.length cg] : Array Value).setIfInBounds 0 (.slice A85 (gs.length + 1) c85)) :: _) (fun _ => True) from h1.set0 0 (.slice A85 (gs.length + 1) c85)) (cs' := #[.slice A85 (gs ++ [(⟨op, x, y, z⟩ : S30)]).length c85]) (by rw [List.length_append, List.length_singleton]; rfl)
         have h3 := (show Inv w (fun k => k = g) _ [blk g 52 CS, blk g3 25 #[.slice A85 (gs ++ [(⟨op, x, y, z⟩ : S30)]).length c85], row k30 30 w.heap.size (.slice A85 (gs ++ [(⟨op, x, y, z⟩ : S30)]).length c85) (gs ++ [(⟨op, x, y, z⟩ : S30)]) _, blk gg 30 #[.int .i64 op, .int .i64 x, .int .i64 y, .int .i64 z], blk g2 25 #[.slice none 0 0]] (fun _ => True) from h2.frontI 2 rfl)
         have h4 := am_ ((h3.swap1).subL (L' := [blk g 52 CS, row k30 30 w.heap.size (.slice A85 (gs ++ [(⟨op, x, y, z⟩ : S30)]).length c85) (gs ++ [(⟨op, x, y, z⟩ : S30)]) _, blk g3 25 #[.slice A85 (gs ++ [(⟨op, x, y, z⟩ : S30)]).length c85], blk g2 25 #[.slice none 0 0]]) (by repeat (first | exact List.Sublist.slnil | apply List.Sublist.cons_cons | apply List.Sublist.cons)))
         clear h1 h2 h3
         have wj : wrap64 ((i : Int) + 1) = ((i + 1 : Nat) : Int) := by unfold wrap64; omega
         go_roundg k1
         case measure => omega
         case rel => exact ⟨i + 1, A85, c85, gs ++ [(⟨op, x, y, z⟩ : S30)], _, CS, (by first | rfl | rw [wj] | go_num), ⟨(by have := HJ.out; omega)⟩, ⟨(by have := HLEN.out; rw [List.length_append, List.length_singleton]; omega)⟩, ⟨fun r hr => by
           rcases List.mem_append.1 hr with h1 | h1
           ·
            exact HALL.out r h1
           ·
            obtain rfl := List.mem_singleton.1 h1
            exact HZ.out⟩, ⟨HS.out.up (by push_cast; omega)⟩, h4⟩
end Go.Proofs.YtokljkneflejdaaDoor.PT
end
section
/- What CircuitOf hands back: a row of right gates. -/
namespace Go.Proofs.YtokljkneflejdaaDoor.PT
open Go Go.RowKit Go.Proofs.YtokljkneflejdaaDoorW.PrintWords Go.Proofs.YtokljkneflejdaaDoorW.PrintLast Go.Proofs.YtokljkneflejdaaDoorW.PrintMore
set_option linter.unusedVariables false
set_option linter.unusedSimpArgs false
set_option maxHeartbeats 8000000 in
set_option maxRecDepth 100000 in
theorem spec_CircuitOf.right (A0 : Option Addr) (c0 : Nat) (l : List Int) (w : World) (hl : bytesL l) (hr0 : Kd.C (Kd.int .u8) w A0 l.length l) (hc0 : l.length ≤ c0) :
  Calls Tryd.prog 5 #[.slice A0 l.length c0] w fun e w' => ∃ v gs, e = .returned (.agg #[v]) ∧ Kd.R k30 30 w' w.heap.size (fun _ => True) v gs ∧ (gs.length ≤ 9 ∧ ∀ x ∈ gs, gateB x 15 = true) ∧ Below w.heap.size w w' := by
 have hu25 := Tryd.underlying25
 have HI := am_ (Inv.start w (fun W => Kd.C (Kd.int .u8) W A0 l.length l) (fun W hb => Kd.C_below hr0 hb))
 have HC := am_ hc0
 obtain ⟨s0, hsrc, hst⟩ := source_ok l
 have HSRC := am_ hsrc
 have HST := am_ hst
 clear hr0 hc0 hsrc hst
 go_enter Tryd.func5, Tryd.ntmps5
 go_wp2_with (first | ((with_reducible refine gate_dst (N := 2) rfl ?_); refine box_event ?hg (N := 2) ?hd (cs := #[.slice none 0 0]) (t := 25) ?hr ?_; (case hd => rfl); (case hg => rfl); (case hr => first | (go_simp; done) | (go_simp; rfl)); intro g2 hg w2 hbox hb; have HI_ := am_ ((HI.out).box hg hbox hb); clear HI; have HI := HI_; clear HI_; clear hb hbox hg) | (go_at_call 11; refine (spec_l00Source.calls A0 c0 l l 0 s0 w2 w2 (Below.refl _ _) HI.out.now HC.out HSRC.out).mono ?_; rintro e w4 ⟨gs_, rfl, hi, hb, _⟩; have HIS := am_ hi; have HBS := am_ hb; clear hi hb) | (go_at_call 12; obtain ⟨As, cs_, hblk, hge, hCs⟩ := HIS.out; refine (circuit_walk w2 l gs_ _ w4 hl HBS.out hblk ⟨As, cs_, 0, s0, rfl, hge, hCs, HST.out⟩).mono ?_; rintro e w5 ⟨v, gs, rfl, hR, hok, hb5⟩; obtain ⟨Av, cv, ev⟩ := Kd.R_slice hR; subst ev; have HOK := am_ hok; replace HI := am_ (HI.out.rowPush hb5 (Kd.R_lower hR HBS.out.size)); clear hR hok hb5 HIS HBS) | ((with_reducible refine gate_store (p := 2) (v := (.tmp 5)) (t := 25) rfl ?_); go_must (refine wpList_store_row rfl 25 _ _ rfl g2 (#[.slice Av gs.length cv]) rfl (by first | rfl | (go_simp; rfl)) 25 (#[.slice none 0 0]) (Inv.blk0 (HI.out.swap)) (by kernel_rfl) (by rfl) qz12_ ?_; have HI_ := am_ (Inv.put0 (HI.out.swap) (#[.slice Av gs.length cv])); clear HI; have HI := HI_; clear HI_; generalize World.setRow _ g2 (#[.slice Av gs.length cv]) = w6 at HI ⊢)))
 refine bodyPost_ret (results_cell_row rfl _ _ g2 25 (#[.slice Av gs.length cv]) (0, 0) _ rfl (HI.out.get 0 rfl) Tryd.underlying25 rfl (by kernel_rfl)) rfl ?_
 exact ⟨_, gs, rfl, Kd.R_mono (rowOf (HI.out.get 1 rfl)) (fun _ _ => trivial), HOK.out, HI.out.below⟩
end Go.Proofs.YtokljkneflejdaaDoor.PT
end
section
/- What readNumber returns: a text's number, if the number's own letters are the text. -/
namespace Go.Proofs.YtokljkneflejdaaDoor.PT
open Go Go.RowKit Go.Lib Go.Proofs.YtokljkneflejdaaDoorW.PrintWords Go.Proofs.YtokljkneflejdaaDoorW.PrintLast Go.Proofs.YtokljkneflejdaaDoorW.PrintMore
set_option linter.unusedVariables false
set_option linter.unusedSimpArgs false
def impl_readNumber.Post (t : ByteArray) (w : World) (e : Ending) (w' : World) : Prop := (∃ n, e = .returned (.tuple #[.int .i64 n, .bool (numA t.data.toList).isSome]) ∧ ∀ v, numA t.data.toList = some v → n = v) ∧ Below w.heap.size w w'
theorem str_eq (l : List UInt8) (t : ByteArray) : ((⟨l.toArray⟩ : ByteArray).toList == t.toList) = decide (l = t.data.toList) := by
 rw [toList_data, toList_data]
 by_cases h : l = t.data.toList
 ·
  rw [decide_eq_true h]; simp [h]
 ·
  rw [decide_eq_false h]; simpa using h
set_option maxHeartbeats 4000000 in
set_option maxRecDepth 100000 in
theorem impl_readNumber.fails (t : ByteArray) (n : Int) (w : World) (hA : numA t.data.toList = none)
  (hc : ∀ W : World, W = w → Calls Tryd.prog 44 #[.string t] W fun e w' => (∃ te pe', e = .returned (.tuple #[.int .i64 n, .iface te pe'])) ∧ Below w.heap.size w w') :
  Calls Tryd.prog 35 #[.string t] w (impl_readNumber.Post t w) := by
 have HC := am_ hc
 have HA := am_ hA
 clear hc hA
 go_enter Tryd.func35, Tryd.ntmps35
 go_wp2_with ((go_at_call 44; (refine (HC.out _ rfl).mono ?_); rintro e w1 ⟨⟨te, p1, rfl⟩, hb⟩; have HB := am_ hb; clear hb))
 go_ret2
 refine ⟨⟨n, ?_, fun v hv => ?_⟩, HB.out⟩
 ·
  rw [HA.out]; first | rfl | simp
 ·
  rw [HA.out] at hv; cases hv
set_option maxHeartbeats 4000000 in
set_option maxRecDepth 100000 in
theorem impl_readNumber.calls (t : ByteArray) (w : World) (hs : t.size ≤ 281474976710656) (hg : RG w) : Calls Tryd.prog 35 #[.string t] w (impl_readNumber.Post t w) := by
 rcases hA : atoiAll t.data.toList with v | _ | _
 rotate_left
 ·
  obtain ⟨te, pe, hv⟩ := hg.syn
  refine impl_readNumber.fails t 0 w (by unfold numA; rw [hA]) (fun W hW => ?_)
  subst hW
  exact (Tryd.strconv_Atoi_syn t hs (hA.trans rfl) te pe W hv).mono (fun e w' ⟨N_, he, _, _, hb⟩ => ⟨⟨_, _, he⟩, hb⟩)
 ·
  obtain ⟨te, pe, hv⟩ := hg.ran
  refine impl_readNumber.fails t (atoiSat t.data.toList) w (by unfold numA; rw [hA]) (fun W hW => ?_)
  subst hW
  exact (Tryd.strconv_Atoi_range_var t hs hA te pe W hv).mono (fun e w' ⟨N_, he, _, _, hb⟩ => ⟨⟨_, _, he⟩, hb⟩)
 ·
  obtain ⟨vb0, vb1⟩ := atoiAll_bounds hA
  have HG := am_ hg
  have HN := am_ (show numA t.data.toList = if itoa v = t.data.toList ∧ (trimPrefix t.data.toList [45]).length ≤ 18 then some v else none by unfold numA; rw [hA])
  have HAT := am_ (show Calls Tryd.prog 44 #[.string t] w fun e w' => e = .returned (.tuple #[.int .i64 v, .nilIface]) ∧ Below w.heap.size w w' from
   (Tryd.strconv_Atoi_ok t (by omega) v hA w).mono (fun e w' ⟨he, hw⟩ => ⟨he, by
    rcases hw with rfl | ⟨T_, rfl⟩
    ·
     exact Below.refl _ _
    ·
     exact bytesWorld_below _ _ _⟩))
  have H0 := am_ vb0
  have H1 := am_ vb1
  clear hg hA vb0 vb1
  have p1 := str_eq (itoa v) t
  have p2 : (⟨(trimPrefix t.data.toList [45]).toArray⟩ : ByteArray).size = (trimPrefix t.data.toList [45]).length := by show (trimPrefix t.data.toList [45]).toArray.size = _; simp
  have HTR := am_ (show ∀ W, Calls Tryd.prog 45 #[.string t, .string ⟨#[45]⟩] W fun e w' => e = .returned (.string ⟨(trimPrefix t.data.toList [45]).toArray⟩) ∧ w' = W from fun W => Tryd.strings_TrimPrefix t ⟨#[45]⟩ W)
  generalize trimPrefix t.data.toList [45] = tr at p2 HN HTR ⊢
  by_cases c1 : itoa v = t.data.toList
  ·
   rw [decide_eq_true c1] at p1
   have q1 : itoa v = t.toList := by rw [toList_data]; exact c1
   by_cases c2 : tr.length ≤ 18
   ·
    rw [if_pos ⟨c1, c2⟩] at HN
    have p3 : decide ((⟨tr.toArray⟩ : ByteArray).size ≤ 18) = true := decide_eq_true (by omega)
    have p4 : decide (((⟨tr.toArray⟩ : ByteArray).size : Int) ≤ 18) = true := decide_eq_true (by omega)
    go_enter Tryd.func35, Tryd.ntmps35
    go_wp2_with (first | (go_at_call 44; refine HAT.out.mono ?_; rintro e w1 ⟨rfl, hb⟩; have HB := am_ hb; clear hb) | (go_at_call 16; refine (Tryd.strconv_Itoa v H0.out H1.out _ (HG.out.below HB.out).tab).mono ?_; rintro e w2 ⟨rfl, kd, os, hw⟩; have hb : Below w1.heap.size w1 w2 := (by rw [hw]; exact below_grow _ _ (Nat.le_refl _) _ _); have n0_ := am_ (below_step HB.out hb); clear HB hw hb; have HB := n0_; clear n0_) | (go_at_call 45; refine (HTR.out _).mono ?_; rintro e w3 ⟨rfl, rfl⟩))
    ·
     go_ret2
     refine ⟨⟨v, ?_, fun v2 h2 => ?_⟩, HB.out⟩
     ·
      rw [HN.out]; first | rfl | (simp; omega)
     ·
      rw [HN.out] at h2; exact Option.some.inj h2
   ·
    rw [if_neg (fun h => c2 h.2)] at HN
    have p3 : decide ((⟨tr.toArray⟩ : ByteArray).size ≤ 18) = false := decide_eq_false (by omega)
    have p4 : decide (((⟨tr.toArray⟩ : ByteArray).size : Int) ≤ 18) = false := decide_eq_false (by omega)
    go_enter Tryd.func35, Tryd.ntmps35
    go_wp2_with (first | (go_at_call 44; refine HAT.out.mono ?_; rintro e w1 ⟨rfl, hb⟩; have HB := am_ hb; clear hb) | (go_at_call 16; refine (Tryd.strconv_Itoa v H0.out H1.out _ (HG.out.below HB.out).tab).mono ?_; rintro e w2 ⟨rfl, kd, os, hw⟩; have hb : Below w1.heap.size w1 w2 := (by rw [hw]; exact below_grow _ _ (Nat.le_refl _) _ _); have n0_ := am_ (below_step HB.out hb); clear HB hw hb; have HB := n0_; clear n0_) | (go_at_call 45; refine (HTR.out _).mono ?_; rintro e w3 ⟨rfl, rfl⟩))
    ·
     go_ret2
     refine ⟨⟨v, ?_, fun v2 h2 => ?_⟩, HB.out⟩
     ·
      rw [HN.out]; first | rfl | (simp; omega)
     ·
      rw [HN.out] at h2; cases h2
  ·
   rw [if_neg (fun h => c1 h.1)] at HN
   rw [decide_eq_false c1] at p1
   have q1 : ¬ itoa v = t.toList := by rw [toList_data]; exact c1
   go_enter Tryd.func35, Tryd.ntmps35
   go_wp2_with (first | (go_at_call 44; refine HAT.out.mono ?_; rintro e w1 ⟨rfl, hb⟩; have HB := am_ hb; clear hb) | (go_at_call 16; refine (Tryd.strconv_Itoa v H0.out H1.out _ (HG.out.below HB.out).tab).mono ?_; rintro e w2 ⟨rfl, kd, os, hw⟩; have hb : Below w1.heap.size w1 w2 := (by rw [hw]; exact below_grow _ _ (Nat.le_refl _) _ _); have n0_ := am_ (below_step HB.out hb); clear HB hw hb; have HB := n0_; clear n0_) | (go_at_call 45; refine (HTR.out _).mono ?_; rintro e w3 ⟨rfl, rfl⟩))
   ·
    go_ret2
    refine ⟨⟨v, ?_, fun v2 h2 => ?_⟩, HB.out⟩
    ·
     rw [HN.out]; first | rfl | (simp; omega)
    ·
     rw [HN.out] at h2; cases h2
end Go.Proofs.YtokljkneflejdaaDoor.PT
end
section
/- What nums returns: pointers into the gate. -/
namespace Go.Proofs.YtokljkneflejdaaDoor.PT
open Go.RowKit Go.Proofs.YtokljkneflejdaaDoorW.PrintWords Go.Proofs.YtokljkneflejdaaDoorW.PrintLast Go.Proofs.YtokljkneflejdaaDoorW.PrintMore
set_option linter.unusedVariables false
set_option linter.unusedSimpArgs false
def impl_Gate_nums.offs (op : Int) : List Nat := if op = 3 then [3] else if 4 ≤ op ∧ op ≤ 7 then [1, 2] else if op = 8 then [1] else []
def impl_Gate_nums.Post (g : Nat) (op : Int) (w : World) (e : Ending) (w' : World) : Prop := ∃ A c, e = .returned (.slice A (impl_Gate_nums.offs op).length c) ∧ (∀ i (h : i < (impl_Gate_nums.offs op).length), ∃ q, A = some ⟨q, 0, none⟩ ∧ w'.cell? ⟨q, i, none⟩ = some (.pointer (some ⟨g, (impl_Gate_nums.offs op)[i], none⟩))) ∧ Below w.heap.size w w'
set_option maxHeartbeats 8000000 in
set_option maxRecDepth 100000 in
theorem impl_Gate_nums.const (g : Nat) (a b kk : Int) (w : World) (hb : w.heap[g]? = some (.cells #[.int .i64 3, .int .i64 a, .int .i64 b, .int .i64 kk] 30 (0, 0))) :
  Calls Tryd.prog 15 #[.pointer (some ⟨g, 0, none⟩)] w (impl_Gate_nums.Post g 3 w) := by
 have hu30 := Tryd.underlying30
 have hz : w.cell? ⟨g, 0, none⟩ = some (.int .i64 3) := (blk_cell hb 0).trans rfl
 have hf := blk_frozen hb 0
 go_enter Tryd.func15, Tryd.ntmps15
 go_wp2
 go_ret
 refine ⟨some ⟨w.heap.size, 0, none⟩, 1, rfl, fun i h => ⟨w.heap.size, rfl, ?_⟩, below_alloc (Below.refl _ _) _⟩
 obtain rfl : i = 0 := by have h2 : i < 1 := h; omega
 exact World.cell?_alloc_new _ _ _ _
set_option maxHeartbeats 8000000 in
set_option maxRecDepth 100000 in
theorem impl_Gate_nums.bit (g : Nat) (a b kk : Int) (w : World) (hb : w.heap[g]? = some (.cells #[.int .i64 8, .int .i64 a, .int .i64 b, .int .i64 kk] 30 (0, 0))) :
  Calls Tryd.prog 15 #[.pointer (some ⟨g, 0, none⟩)] w (impl_Gate_nums.Post g 8 w) := by
 have hu30 := Tryd.underlying30
 have hz : w.cell? ⟨g, 0, none⟩ = some (.int .i64 8) := (blk_cell hb 0).trans rfl
 have hf := blk_frozen hb 0
 go_enter Tryd.func15, Tryd.ntmps15
 go_wp2
 go_ret
 refine ⟨some ⟨w.heap.size, 0, none⟩, 1, rfl, fun i h => ⟨w.heap.size, rfl, ?_⟩, below_alloc (Below.refl _ _) _⟩
 obtain rfl : i = 0 := by have h2 : i < 1 := h; omega
 exact World.cell?_alloc_new _ _ _ _
set_option maxHeartbeats 8000000 in
set_option maxRecDepth 100000 in
theorem impl_Gate_nums.two4 (g : Nat) (a b kk : Int) (w : World) (hb : w.heap[g]? = some (.cells #[.int .i64 4, .int .i64 a, .int .i64 b, .int .i64 kk] 30 (0, 0))) :
  Calls Tryd.prog 15 #[.pointer (some ⟨g, 0, none⟩)] w (impl_Gate_nums.Post g 4 w) := by
 have hu30 := Tryd.underlying30
 have hz : w.cell? ⟨g, 0, none⟩ = some (.int .i64 4) := (blk_cell hb 0).trans rfl
 have hf := blk_frozen hb 0
 go_enter Tryd.func15, Tryd.ntmps15
 go_wp2
 refine start_ (n := 8) (S := fun _ => True) (ds := []) #[false, false, false, false, false, false, false, false] (by kernel_rfl) rfl rfl trivial (fun hHeld => ?_)
 refine pure_ (i := 0) (N := some 18) (v := ?_) (a' := ?_) #[true, false, false, false, false, false, false, false] rfl rfl (by kernel_rfl) (fun _ _ _ h => h) (Or.inl ⟨(by rfl), ?_⟩) ?_ ?_
 rotate_left
 ·
  intro w'
  go_simp
  with_reducible rfl
 rotate_left
 ·
  exact ap_
 refine pure_ (i := 1) (N := some 19) (v := ?_) (a' := ?_) #[true, true, false, false, false, false, false, false] rfl rfl (by kernel_rfl) (fun _ _ _ h => h) (Or.inl ⟨(by rfl), ?_⟩) ?_ ?_
 rotate_left
 ·
  intro w'
  go_simp
  with_reducible rfl
 rotate_left
 ·
  exact ap_
 refine pure_ (i := 2) (N := some 20) (v := ?_) (a' := ?_) #[true, true, true, false, false, false, false, false] rfl rfl (by kernel_rfl) (fun _ _ _ h => h) (Or.inl ⟨(by rfl), ?_⟩) ?_ ?_
 rotate_left
 ·
  intro w'
  go_simp
  with_reducible rfl
 rotate_left
 ·
  exact ap_
 refine pure_ (i := 3) (N := some 21) (v := ?_) (a' := ?_) #[true, true, true, true, false, false, false, false] rfl rfl (by kernel_rfl) (fun _ _ _ h => h) (Or.inl ⟨(by rfl), ?_⟩) ?_ ?_
 rotate_left
 ·
  intro w'
  go_simp
  with_reducible rfl
 rotate_left
 ·
  exact ap_
 refine pure_ (i := 4) (N := some 22) (v := ?_) (a' := ?_) #[true, true, true, true, true, false, false, false] rfl rfl (by kernel_rfl) (fun _ _ _ h => h) (Or.inl ⟨(by rfl), ?_⟩) ?_ ?_
 rotate_left
 ·
  intro w'
  go_simp
  with_reducible rfl
 rotate_left
 ·
  exact ap_
 refine pure_ (i := 5) (N := some 23) (v := ?_) (a' := ?_) #[true, true, true, true, true, true, false, false] rfl rfl (by kernel_rfl) (fun _ _ _ h => h) (Or.inl ⟨(by rfl), ?_⟩) ?_ ?_
 rotate_left
 ·
  intro w'
  go_simp
  with_reducible rfl
 rotate_left
 ·
  exact ap_
 refine one_ (i := 6) (N := some 24) #[true, true, true, true, true, true, true, false] rfl rfl (by kernel_rfl) (by decide) (fun K hK => ?_)
 refine value_ (w1 := ?_) (v := ?_) (by rfl) rfl ?_ ?_
 rotate_left 2
 ·
  go_simp
  constructor
  ·
   rfl
  ·
   rfl
 refine hK.out _ _ trivial (fun hHeld => ?_)
 clear hK K
 refine norm_ (a' := ?_) ?_ ?_
 rotate_left
 ·
  show Act.put _ (some 24) _ = _
  exact ap_
 refine pure_ (i := 7) (N := some 2) (v := ?_) (a' := ?_) #[true, true, true, true, true, true, true, true] rfl rfl (by kernel_rfl) (fun _ _ _ h => h) (Or.inl ⟨(by rfl), ?_⟩) ?_ ?_
 rotate_left
 ·
  intro w'
  go_simp
  with_reducible rfl
 rotate_left
 ·
  exact ap_
 refine done_ (by kernel_rfl) ?_
 try go_wp2
 go_ret
 refine ⟨some ⟨w.heap.size, 0, none⟩, 2, rfl, fun i h => ⟨w.heap.size, rfl, ?_⟩, below_alloc (below_drew1 (Below.refl _ _)) _⟩
 have h2 : i < 2 := h
 rcases (show i = 0 ∨ i = 1 by omega) with rfl | rfl <;> exact World.cell?_alloc_new _ _ _ _
set_option maxHeartbeats 8000000 in
set_option maxRecDepth 100000 in
theorem impl_Gate_nums.two5 (g : Nat) (a b kk : Int) (w : World) (hb : w.heap[g]? = some (.cells #[.int .i64 5, .int .i64 a, .int .i64 b, .int .i64 kk] 30 (0, 0))) :
  Calls Tryd.prog 15 #[.pointer (some ⟨g, 0, none⟩)] w (impl_Gate_nums.Post g 5 w) := by
 have hu30 := Tryd.underlying30
 have hz : w.cell? ⟨g, 0, none⟩ = some (.int .i64 5) := (blk_cell hb 0).trans rfl
 have hf := blk_frozen hb 0
 go_enter Tryd.func15, Tryd.ntmps15
 go_wp2
 refine start_ (n := 8) (S := fun _ => True) (ds := []) #[false, false, false, false, false, false, false, false] (by kernel_rfl) rfl rfl trivial (fun hHeld => ?_)
 refine pure_ (i := 0) (N := some 18) (v := ?_) (a' := ?_) #[true, false, false, false, false, false, false, false] rfl rfl (by kernel_rfl) (fun _ _ _ h => h) (Or.inl ⟨(by rfl), ?_⟩) ?_ ?_
 rotate_left
 ·
  intro w'
  go_simp
  with_reducible rfl
 rotate_left
 ·
  exact ap_
 refine pure_ (i := 1) (N := some 19) (v := ?_) (a' := ?_) #[true, true, false, false, false, false, false, false] rfl rfl (by kernel_rfl) (fun _ _ _ h => h) (Or.inl ⟨(by rfl), ?_⟩) ?_ ?_
 rotate_left
 ·
  intro w'
  go_simp
  with_reducible rfl
 rotate_left
 ·
  exact ap_
 refine pure_ (i := 2) (N := some 20) (v := ?_) (a' := ?_) #[true, true, true, false, false, false, false, false] rfl rfl (by kernel_rfl) (fun _ _ _ h => h) (Or.inl ⟨(by rfl), ?_⟩) ?_ ?_
 rotate_left
 ·
  intro w'
  go_simp
  with_reducible rfl
 rotate_left
 ·
  exact ap_
 refine pure_ (i := 3) (N := some 21) (v := ?_) (a' := ?_) #[true, true, true, true, false, false, false, false] rfl rfl (by kernel_rfl) (fun _ _ _ h => h) (Or.inl ⟨(by rfl), ?_⟩) ?_ ?_
 rotate_left
 ·
  intro w'
  go_simp
  with_reducible rfl
 rotate_left
 ·
  exact ap_
 refine pure_ (i := 4) (N := some 22) (v := ?_) (a' := ?_) #[true, true, true, true, true, false, false, false] rfl rfl (by kernel_rfl) (fun _ _ _ h => h) (Or.inl ⟨(by rfl), ?_⟩) ?_ ?_
 rotate_left
 ·
  intro w'
  go_simp
  with_reducible rfl
 rotate_left
 ·
  exact ap_
 refine pure_ (i := 5) (N := some 23) (v := ?_) (a' := ?_) #[true, true, true, true, true, true, false, false] rfl rfl (by kernel_rfl) (fun _ _ _ h => h) (Or.inl ⟨(by rfl), ?_⟩) ?_ ?_
 rotate_left
 ·
  intro w'
  go_simp
  with_reducible rfl
 rotate_left
 ·
  exact ap_
 refine one_ (i := 6) (N := some 24) #[true, true, true, true, true, true, true, false] rfl rfl (by kernel_rfl) (by decide) (fun K hK => ?_)
 refine value_ (w1 := ?_) (v := ?_) (by rfl) rfl ?_ ?_
 rotate_left 2
 ·
  go_simp
  constructor
  ·
   rfl
  ·
   rfl
 refine hK.out _ _ trivial (fun hHeld => ?_)
 clear hK K
 refine norm_ (a' := ?_) ?_ ?_
 rotate_left
 ·
  show Act.put _ (some 24) _ = _
  exact ap_
 refine pure_ (i := 7) (N := some 2) (v := ?_) (a' := ?_) #[true, true, true, true, true, true, true, true] rfl rfl (by kernel_rfl) (fun _ _ _ h => h) (Or.inl ⟨(by rfl), ?_⟩) ?_ ?_
 rotate_left
 ·
  intro w'
  go_simp
  with_reducible rfl
 rotate_left
 ·
  exact ap_
 refine done_ (by kernel_rfl) ?_
 try go_wp2
 go_ret
 refine ⟨some ⟨w.heap.size, 0, none⟩, 2, rfl, fun i h => ⟨w.heap.size, rfl, ?_⟩, below_alloc (below_drew1 (Below.refl _ _)) _⟩
 have h2 : i < 2 := h
 rcases (show i = 0 ∨ i = 1 by omega) with rfl | rfl <;> exact World.cell?_alloc_new _ _ _ _
set_option maxHeartbeats 8000000 in
set_option maxRecDepth 100000 in
theorem impl_Gate_nums.two6 (g : Nat) (a b kk : Int) (w : World) (hb : w.heap[g]? = some (.cells #[.int .i64 6, .int .i64 a, .int .i64 b, .int .i64 kk] 30 (0, 0))) :
  Calls Tryd.prog 15 #[.pointer (some ⟨g, 0, none⟩)] w (impl_Gate_nums.Post g 6 w) := by
 have hu30 := Tryd.underlying30
 have hz : w.cell? ⟨g, 0, none⟩ = some (.int .i64 6) := (blk_cell hb 0).trans rfl
 have hf := blk_frozen hb 0
 go_enter Tryd.func15, Tryd.ntmps15
 go_wp2
 refine start_ (n := 8) (S := fun _ => True) (ds := []) #[false, false, false, false, false, false, false, false] (by kernel_rfl) rfl rfl trivial (fun hHeld => ?_)
 refine pure_ (i := 0) (N := some 18) (v := ?_) (a' := ?_) #[true, false, false, false, false, false, false, false] rfl rfl (by kernel_rfl) (fun _ _ _ h => h) (Or.inl ⟨(by rfl), ?_⟩) ?_ ?_
 rotate_left
 ·
  intro w'
  go_simp
  with_reducible rfl
 rotate_left
 ·
  exact ap_
 refine pure_ (i := 1) (N := some 19) (v := ?_) (a' := ?_) #[true, true, false, false, false, false, false, false] rfl rfl (by kernel_rfl) (fun _ _ _ h => h) (Or.inl ⟨(by rfl), ?_⟩) ?_ ?_
 rotate_left
 ·
  intro w'
  go_simp
  with_reducible rfl
 rotate_left
 ·
  exact ap_
 refine pure_ (i := 2) (N := some 20) (v := ?_) (a' := ?_) #[true, true, true, false, false, false, false, false] rfl rfl (by kernel_rfl) (fun _ _ _ h => h) (Or.inl ⟨(by rfl), ?_⟩) ?_ ?_
 rotate_left
 ·
  intro w'
  go_simp
  with_reducible rfl
 rotate_left
 ·
  exact ap_
 refine pure_ (i := 3) (N := some 21) (v := ?_) (a' := ?_) #[true, true, true, true, false, false, false, false] rfl rfl (by kernel_rfl) (fun _ _ _ h => h) (Or.inl ⟨(by rfl), ?_⟩) ?_ ?_
 rotate_left
 ·
  intro w'
  go_simp
  with_reducible rfl
 rotate_left
 ·
  exact ap_
 refine pure_ (i := 4) (N := some 22) (v := ?_) (a' := ?_) #[true, true, true, true, true, false, false, false] rfl rfl (by kernel_rfl) (fun _ _ _ h => h) (Or.inl ⟨(by rfl), ?_⟩) ?_ ?_
 rotate_left
 ·
  intro w'
  go_simp
  with_reducible rfl
 rotate_left
 ·
  exact ap_
 refine pure_ (i := 5) (N := some 23) (v := ?_) (a' := ?_) #[true, true, true, true, true, true, false, false] rfl rfl (by kernel_rfl) (fun _ _ _ h => h) (Or.inl ⟨(by rfl), ?_⟩) ?_ ?_
 rotate_left
 ·
  intro w'
  go_simp
  with_reducible rfl
 rotate_left
 ·
  exact ap_
 refine one_ (i := 6) (N := some 24) #[true, true, true, true, true, true, true, false] rfl rfl (by kernel_rfl) (by decide) (fun K hK => ?_)
 refine value_ (w1 := ?_) (v := ?_) (by rfl) rfl ?_ ?_
 rotate_left 2
 ·
  go_simp
  constructor
  ·
   rfl
  ·
   rfl
 refine hK.out _ _ trivial (fun hHeld => ?_)
 clear hK K
 refine norm_ (a' := ?_) ?_ ?_
 rotate_left
 ·
  show Act.put _ (some 24) _ = _
  exact ap_
 refine pure_ (i := 7) (N := some 2) (v := ?_) (a' := ?_) #[true, true, true, true, true, true, true, true] rfl rfl (by kernel_rfl) (fun _ _ _ h => h) (Or.inl ⟨(by rfl), ?_⟩) ?_ ?_
 rotate_left
 ·
  intro w'
  go_simp
  with_reducible rfl
 rotate_left
 ·
  exact ap_
 refine done_ (by kernel_rfl) ?_
 try go_wp2
 go_ret
 refine ⟨some ⟨w.heap.size, 0, none⟩, 2, rfl, fun i h => ⟨w.heap.size, rfl, ?_⟩, below_alloc (below_drew1 (Below.refl _ _)) _⟩
 have h2 : i < 2 := h
 rcases (show i = 0 ∨ i = 1 by omega) with rfl | rfl <;> exact World.cell?_alloc_new _ _ _ _
set_option maxHeartbeats 8000000 in
set_option maxRecDepth 100000 in
theorem impl_Gate_nums.two7 (g : Nat) (a b kk : Int) (w : World) (hb : w.heap[g]? = some (.cells #[.int .i64 7, .int .i64 a, .int .i64 b, .int .i64 kk] 30 (0, 0))) :
  Calls Tryd.prog 15 #[.pointer (some ⟨g, 0, none⟩)] w (impl_Gate_nums.Post g 7 w) := by
 have hu30 := Tryd.underlying30
 have hz : w.cell? ⟨g, 0, none⟩ = some (.int .i64 7) := (blk_cell hb 0).trans rfl
 have hf := blk_frozen hb 0
 go_enter Tryd.func15, Tryd.ntmps15
 go_wp2
 refine start_ (n := 8) (S := fun _ => True) (ds := []) #[false, false, false, false, false, false, false, false] (by kernel_rfl) rfl rfl trivial (fun hHeld => ?_)
 refine pure_ (i := 0) (N := some 18) (v := ?_) (a' := ?_) #[true, false, false, false, false, false, false, false] rfl rfl (by kernel_rfl) (fun _ _ _ h => h) (Or.inl ⟨(by rfl), ?_⟩) ?_ ?_
 rotate_left
 ·
  intro w'
  go_simp
  with_reducible rfl
 rotate_left
 ·
  exact ap_
 refine pure_ (i := 1) (N := some 19) (v := ?_) (a' := ?_) #[true, true, false, false, false, false, false, false] rfl rfl (by kernel_rfl) (fun _ _ _ h => h) (Or.inl ⟨(by rfl), ?_⟩) ?_ ?_
 rotate_left
 ·
  intro w'
  go_simp
  with_reducible rfl
 rotate_left
 ·
  exact ap_
 refine pure_ (i := 2) (N := some 20) (v := ?_) (a' := ?_) #[true, true, true, false, false, false, false, false] rfl rfl (by kernel_rfl) (fun _ _ _ h => h) (Or.inl ⟨(by rfl), ?_⟩) ?_ ?_
 rotate_left
 ·
  intro w'
  go_simp
  with_reducible rfl
 rotate_left
 ·
  exact ap_
 refine pure_ (i := 3) (N := some 21) (v := ?_) (a' := ?_) #[true, true, true, true, false, false, false, false] rfl rfl (by kernel_rfl) (fun _ _ _ h => h) (Or.inl ⟨(by rfl), ?_⟩) ?_ ?_
 rotate_left
 ·
  intro w'
  go_simp
  with_reducible rfl
 rotate_left
 ·
  exact ap_
 refine pure_ (i := 4) (N := some 22) (v := ?_) (a' := ?_) #[true, true, true, true, true, false, false, false] rfl rfl (by kernel_rfl) (fun _ _ _ h => h) (Or.inl ⟨(by rfl), ?_⟩) ?_ ?_
 rotate_left
 ·
  intro w'
  go_simp
  with_reducible rfl
 rotate_left
 ·
  exact ap_
 refine pure_ (i := 5) (N := some 23) (v := ?_) (a' := ?_) #[true, true, true, true, true, true, false, false] rfl rfl (by kernel_rfl) (fun _ _ _ h => h) (Or.inl ⟨(by rfl), ?_⟩) ?_ ?_
 rotate_left
 ·
  intro w'
  go_simp
  with_reducible rfl
 rotate_left
 ·
  exact ap_
 refine one_ (i := 6) (N := some 24) #[true, true, true, true, true, true, true, false] rfl rfl (by kernel_rfl) (by decide) (fun K hK => ?_)
 refine value_ (w1 := ?_) (v := ?_) (by rfl) rfl ?_ ?_
 rotate_left 2
 ·
  go_simp
  constructor
  ·
   rfl
  ·
   rfl
 refine hK.out _ _ trivial (fun hHeld => ?_)
 clear hK K
 refine norm_ (a' := ?_) ?_ ?_
 rotate_left
 ·
  show Act.put _ (some 24) _ = _
  exact ap_
 refine pure_ (i := 7) (N := some 2) (v := ?_) (a' := ?_) #[true, true, true, true, true, true, true, true] rfl rfl (by kernel_rfl) (fun _ _ _ h => h) (Or.inl ⟨(by rfl), ?_⟩) ?_ ?_
 rotate_left
 ·
  intro w'
  go_simp
  with_reducible rfl
 rotate_left
 ·
  exact ap_
 refine done_ (by kernel_rfl) ?_
 try go_wp2
 go_ret
 refine ⟨some ⟨w.heap.size, 0, none⟩, 2, rfl, fun i h => ⟨w.heap.size, rfl, ?_⟩, below_alloc (below_drew1 (Below.refl _ _)) _⟩
 have h2 : i < 2 := h
 rcases (show i = 0 ∨ i = 1 by omega) with rfl | rfl <;> exact World.cell?_alloc_new _ _ _ _
set_option maxHeartbeats 8000000 in
set_option maxRecDepth 100000 in
theorem impl_Gate_nums.none_ (g : Nat) (op a b kk : Int) (w : World) (hb : w.heap[g]? = some (.cells #[.int .i64 op, .int .i64 a, .int .i64 b, .int .i64 kk] 30 (0, 0))) (h1 : op ≠ 3) (h2 : ¬ (4 ≤ op ∧ op ≤ 7)) (h3 : op ≠ 8) :
  Calls Tryd.prog 15 #[.pointer (some ⟨g, 0, none⟩)] w (impl_Gate_nums.Post g op w) := by
 have hu30 := Tryd.underlying30
 have hz : w.cell? ⟨g, 0, none⟩ = some (.int .i64 op) := (blk_cell hb 0).trans rfl
 have hf := blk_frozen hb 0
 have e3 : (op == 3) = false := beq_eq_false_iff_ne.mpr (by omega)
 have e4 : (op == 4) = false := beq_eq_false_iff_ne.mpr (by omega)
 have e5 : (op == 5) = false := beq_eq_false_iff_ne.mpr (by omega)
 have e6 : (op == 6) = false := beq_eq_false_iff_ne.mpr (by omega)
 have e7 : (op == 7) = false := beq_eq_false_iff_ne.mpr (by omega)
 have e8 : (op == 8) = false := beq_eq_false_iff_ne.mpr (by omega)
 have ho : impl_Gate_nums.offs op = [] := by unfold impl_Gate_nums.offs; rw [if_neg h1, if_neg h2, if_neg h3]
 go_enter Tryd.func15, Tryd.ntmps15
 go_wp2
 go_ret
 unfold impl_Gate_nums.Post
 rw [ho]
 exact ⟨none, 0, rfl, fun i h => absurd h (by simp), Below.refl _ _⟩
theorem impl_Gate_nums.calls (g : Nat) (op a b kk : Int) (w : World) (hb : w.heap[g]? = some (.cells #[.int .i64 op, .int .i64 a, .int .i64 b, .int .i64 kk] 30 (0, 0))) :
  Calls Tryd.prog 15 #[.pointer (some ⟨g, 0, none⟩)] w (impl_Gate_nums.Post g op w) := by
 by_cases h1 : op = 3
 ·
  subst h1; exact impl_Gate_nums.const g a b kk w hb
 by_cases h2 : 4 ≤ op ∧ op ≤ 7
 ·
  rcases (show op = 4 ∨ op = 5 ∨ op = 6 ∨ op = 7 by omega) with rfl | rfl | rfl | rfl
  ·
   exact impl_Gate_nums.two4 g a b kk w hb
  ·
   exact impl_Gate_nums.two5 g a b kk w hb
  ·
   exact impl_Gate_nums.two6 g a b kk w hb
  ·
   exact impl_Gate_nums.two7 g a b kk w hb
 by_cases h3 : op = 8
 ·
  subst h3; exact impl_Gate_nums.bit g a b kk w hb
 exact impl_Gate_nums.none_ g op a b kk w hb h1 h2 h3
def impl_opWords.f  : Option (List ByteArray) := some (([(⟨#[105, 110, 112, 117, 116]⟩ : ByteArray), (⟨#[112, 117, 98, 108, 105, 99]⟩ : ByteArray), (⟨#[99, 111, 110, 115, 116]⟩ : ByteArray), (⟨#[97, 100, 100]⟩ : ByteArray), (⟨#[115, 117, 98]⟩ : ByteArray), (⟨#[109, 117, 108]⟩ : ByteArray), (⟨#[101, 113, 117, 97, 108]⟩ : ByteArray), (⟨#[98, 105, 116]⟩ : ByteArray)] : List ByteArray))
set_option maxHeartbeats 8000000 in
set_option maxRecDepth 100000 in
theorem impl_opWords.calls  (r : List ByteArray) (w : World) (h : impl_opWords.f  = some r) :
  Calls Tryd.prog 14 #[] w fun e w' => ∃ v0_ : Value, e = .returned (v0_) ∧ Kd.R Kd.string 9 w' w.heap.size (fun _ => True) v0_ r ∧ Below w.heap.size w w' := by
 have HB := am_ (Below.refl w.heap.size w)
 have H : (some (([(⟨#[105, 110, 112, 117, 116]⟩ : ByteArray), (⟨#[112, 117, 98, 108, 105, 99]⟩ : ByteArray), (⟨#[99, 111, 110, 115, 116]⟩ : ByteArray), (⟨#[97, 100, 100]⟩ : ByteArray), (⟨#[115, 117, 98]⟩ : ByteArray), (⟨#[109, 117, 108]⟩ : ByteArray), (⟨#[101, 113, 117, 97, 108]⟩ : ByteArray), (⟨#[98, 105, 116]⟩ : ByteArray)] : List ByteArray))) = some r := h
 clear h
 obtain ⟨y101, hy101⟩ : ∃ y_ : List ByteArray, y_ = (([(⟨#[105, 110, 112, 117, 116]⟩ : ByteArray), (⟨#[112, 117, 98, 108, 105, 99]⟩ : ByteArray), (⟨#[99, 111, 110, 115, 116]⟩ : ByteArray), (⟨#[97, 100, 100]⟩ : ByteArray), (⟨#[115, 117, 98]⟩ : ByteArray), (⟨#[109, 117, 108]⟩ : ByteArray), (⟨#[101, 113, 117, 97, 108]⟩ : ByteArray), (⟨#[98, 105, 116]⟩ : ByteArray)] : List ByteArray)) := ⟨_, rfl⟩
 replace H : (some y101) = some r := by first | (rw [hy101]; with_reducible exact H) | (have H2_ := (Option.bind_some _ _).symm.trans H; rw [hy101]; with_reducible exact H2_) | (have H2_ := (Option.bind_some _ _).symm.trans H; with_reducible exact H2_) | with_reducible exact H | (rw [hy101]; exact H) | exact H
 have Ny101 := am_ hy101
 clear hy101
 obtain rfl := Option.some.inj H
 go_enter Tryd.func14, Tryd.ntmps14
 go_wp2_with (first | ((with_reducible refine gate_dst (N := 1) rfl ?_); refine Kd.R_lit Kd.string _ 9 ?hg (N := 1) ?hd (xs := ([(⟨#[105, 110, 112, 117, 116]⟩ : ByteArray), (⟨#[112, 117, 98, 108, 105, 99]⟩ : ByteArray), (⟨#[99, 111, 110, 115, 116]⟩ : ByteArray), (⟨#[97, 100, 100]⟩ : ByteArray), (⟨#[115, 117, 98]⟩ : ByteArray), (⟨#[109, 117, 108]⟩ : ByteArray), (⟨#[101, 113, 117, 97, 108]⟩ : ByteArray), (⟨#[98, 105, 116]⟩ : ByteArray)] : List ByteArray)) (inner := [.string (⟨#[105, 110, 112, 117, 116]⟩ : ByteArray), .string (⟨#[112, 117, 98, 108, 105, 99]⟩ : ByteArray), .string (⟨#[99, 111, 110, 115, 116]⟩ : ByteArray), .string (⟨#[97, 100, 100]⟩ : ByteArray), .string (⟨#[115, 117, 98]⟩ : ByteArray), .string (⟨#[109, 117, 108]⟩ : ByteArray), .string (⟨#[101, 113, 117, 97, 108]⟩ : ByteArray), .string (⟨#[98, 105, 116]⟩ : ByteArray)]) (ok := fun _ => True) (okp := fun _ => True) ?hr ?hp (fun _ hk => hk) trivial (Below.refl _ _) (Nat.le_refl _) (by simp) ?_; (case hd => rfl); (case hg => rfl); (case hr => first | (go_simp; done) | (go_simp; rfl)); (case hp => exact (Reps.one (show Kd.M Kd.string _ _ _ (⟨#[105, 110, 112, 117, 116]⟩ : ByteArray) [.string (⟨#[105, 110, 112, 117, 116]⟩ : ByteArray)] from rfl) (Reps.one (show Kd.M Kd.string _ _ _ (⟨#[112, 117, 98, 108, 105, 99]⟩ : ByteArray) [.string (⟨#[112, 117, 98, 108, 105, 99]⟩ : ByteArray)] from rfl) (Reps.one (show Kd.M Kd.string _ _ _ (⟨#[99, 111, 110, 115, 116]⟩ : ByteArray) [.string (⟨#[99, 111, 110, 115, 116]⟩ : ByteArray)] from rfl) (Reps.one (show Kd.M Kd.string _ _ _ (⟨#[97, 100, 100]⟩ : ByteArray) [.string (⟨#[97, 100, 100]⟩ : ByteArray)] from rfl) (Reps.one (show Kd.M Kd.string _ _ _ (⟨#[115, 117, 98]⟩ : ByteArray) [.string (⟨#[115, 117, 98]⟩ : ByteArray)] from rfl) (Reps.one (show Kd.M Kd.string _ _ _ (⟨#[109, 117, 108]⟩ : ByteArray) [.string (⟨#[109, 117, 108]⟩ : ByteArray)] from rfl) (Reps.one (show Kd.M Kd.string _ _ _ (⟨#[101, 113, 117, 97, 108]⟩ : ByteArray) [.string (⟨#[101, 113, 117, 97, 108]⟩ : ByteArray)] from rfl) (Reps.one (show Kd.M Kd.string _ _ _ (⟨#[98, 105, 116]⟩ : ByteArray) [.string (⟨#[98, 105, 116]⟩ : ByteArray)] from rfl) (Reps.none _ _)))))))))); intro v102 w1 ho2 hb hg_ hnew_; clear hg_ hnew_; (first | rw [← Ny101.out] at ho2 | (simp only [Int.reduceToNat] at ho2; rw [← Ny101.out] at ho2)); have n0_ := am_ (Kd.R_lower ho2 (below_size qz3_)); have n1_ := am_ (below_step qz3_ hb); clear HB; have HO103 := n0_; have HB := n1_; clear n0_ n1_; clear hb ho2))
 go_ret
 exact ⟨_, qz5_, (by (with_reducible repeat (first | apply Kd.R_alloc | apply Kd.R_drewN | apply Kd.R_drew)); exact HO103.out), qz3_⟩

def slices_Index_string_string.l0 : Nat → List ByteArray → ByteArray → Int → Int → Option (Int)
 | 0, _, _, _, _ => none
 | k + 1, x0, x1, x7, x8 => if x8 < x7 then (if 0 ≤ x8 then (if x8 < (x0.length : Int) then (if x1.toList = (rdOf ByteArray.empty x0 x8).toList then (some x8) else (slices_Index_string_string.l0 k x0 x1 x7 (wrap64 (x8 + 1)))) else (none)) else (none)) else (some (-1))
def slices_Index_string_string.f (k : Nat) (l0 : List ByteArray) (a1 : ByteArray) : Option (Int) := slices_Index_string_string.l0 k l0 a1 (l0.length : Int) 0
theorem slices_Index_string_string.mono_l : ∀ k, (∀ y0 y1 y2 y3, LeO (slices_Index_string_string.l0 k y0 y1 y2 y3) (slices_Index_string_string.l0 (k + 1) y0 y1 y2 y3))
 | 0 => fun _ _ _ _ r h => by simp [slices_Index_string_string.l0] at h
 | k + 1 => by
  have ih0 := slices_Index_string_string.mono_l k
  ·
   intro y0 y1 y2 y3
   unfold slices_Index_string_string.l0
   repeat' first
   | (with_reducible exact ih0 _ _ _ _)
   | (with_reducible exact LeO.refl _)
   | (with_reducible exact LeO.none _)
   | (with_reducible refine LeO.ite ?_ ?_)
   | (with_reducible refine LeO.bind ?_ (fun _ => ?_))
   | exact ih0 _ _ _ _
   | exact LeO.none _
   | refine LeO.ite ?_ ?_
   | refine LeO.bind ?_ (fun _ => ?_)
theorem slices_Index_string_string.mono : ∀ a0 a1 k, LeO (slices_Index_string_string.f k a0 a1) (slices_Index_string_string.f (k + 1) a0 a1) := by
 intro a0 a1 k
 have ih0 := slices_Index_string_string.mono_l k
 unfold slices_Index_string_string.f
 repeat' first
   | (with_reducible exact ih0 _ _ _ _)
   | (with_reducible exact LeO.refl _)
   | (with_reducible exact LeO.none _)
   | (with_reducible refine LeO.ite ?_ ?_)
   | (with_reducible refine LeO.bind ?_ (fun _ => ?_))
   | exact ih0 _ _ _ _
   | exact LeO.none _
   | refine LeO.ite ?_ ?_
   | refine LeO.bind ?_ (fun _ => ?_)
set_option maxHeartbeats 8000000 in
set_option maxRecDepth 100000 in
theorem slices_Index_string_string.calls (k : Nat) (A0 : Option Addr) (c0 : Nat) (l0 : List ByteArray) (a1 : ByteArray) (r : Int) (w : World) (hr0 : Kd.C Kd.string w A0 l0.length l0) (hc0 : l0.length ≤ c0) (h : slices_Index_string_string.f k l0 a1 = some r) :
  Calls Tryd.prog 34 #[.slice A0 l0.length c0, .string a1] w fun e w' => e = .returned (.int .i64 r) ∧ Drawn0 w w' := by
 have HR0 := am_ hr0
 have HC0 := am_ hc0
 clear hr0 hc0
 have H : (slices_Index_string_string.l0 k l0 a1 (l0.length : Int) 0) = some r := h
 clear h
 have H' := am_ H
 clear H
 go_enter Tryd.func34, Tryd.ntmps34
 go_wp2
 go_loopg [8] k (fun kq v8 w' => ∃ (x8_1 : Int), v8 = .int .i64 x8_1 ∧ Aside0 (slices_Index_string_string.l0 kq l0 a1 (l0.length : Int) x8_1 = some r) ∧ Aside0 (kq ≤ k) ∧ Drawn0 w w')
 case atStart => exact ⟨(0), qz0_, H', ⟨Nat.le_refl _⟩, by repeat (first | exact Drawn0.refl _ | apply Drawn0.step)⟩
 case round =>
  clear H'
  try clear p2
  obtain ⟨x8_1, rfl, HA, HK1, ⟨m1, rfl⟩⟩ := hrel
  cases gk with
  | zero => exact absurd HA.out (by simp [slices_Index_string_string.l0])
  | succ k1 =>
   have H := HA.out
   clear HA
   simp only [slices_Index_string_string.l0] at H
   by_cases c3 : x8_1 < (l0.length : Int)
   ·
    rw [if_pos c3] at H
    have c3b0 : decide (x8_1 < (l0.length : Int)) = true := decide_eq_true c3
    clear c3
    by_cases c4 : 0 ≤ x8_1
    ·
     rw [if_pos c4] at H
     have c4b0 : decide (0 ≤ x8_1) = true := decide_eq_true c4
     clear c4
     by_cases c5 : x8_1 < (l0.length : Int)
     ·
      rw [if_pos c5] at H
      have c5b0 : decide (x8_1 < (l0.length : Int)) = true := decide_eq_true c5
      clear c5
      by_cases c6 : a1.toList = (rdOf ByteArray.empty l0 x8_1).toList
      ·
       rw [if_pos c6] at H
       have c6b0 : (a1.toList == (rdOf ByteArray.empty l0 x8_1).toList) = true := beq_iff_eq.mpr c6
       have c6b1 : (a1.toList != (rdOf ByteArray.empty l0 x8_1).toList) = false := bne_eq_false_iff_eq.mpr c6
       clear c6
       obtain rfl := Option.some.inj H
       have p101 : 0 ≤ (x8_1 : Int) := of_decide_eq_true qz11_
       have q101 : x8_1 < (l0.length : Int) := of_decide_eq_true qz11_
       obtain ⟨ad101, e101, hx101_0⟩ := Kd.at_string HR0.out x8_1 p101 q101
       cases e101
       replace p101 := eq_true p101
       replace q101 := eq_true q101
       go_wp2
       go_ret
       exact ⟨qz0_, qz1_⟩
      ·
       rw [if_neg c6] at H
       have c6b0 : (a1.toList == (rdOf ByteArray.empty l0 x8_1).toList) = false := beq_eq_false_iff_ne.mpr c6
       have c6b1 : (a1.toList != (rdOf ByteArray.empty l0 x8_1).toList) = true := bne_iff_ne.mpr c6
       have H' := am_ H
       clear H
       have p101 : 0 ≤ (x8_1 : Int) := of_decide_eq_true qz11_
       have q101 : x8_1 < (l0.length : Int) := of_decide_eq_true qz11_
       obtain ⟨ad101, e101, hx101_0⟩ := Kd.at_string HR0.out x8_1 p101 q101
       cases e101
       replace p101 := eq_true p101
       replace q101 := eq_true q101
       go_wp2
       go_roundg k1
       case measure => have := HK1.out; omega
       case rel => exact ⟨(wrap64 (x8_1 + 1)), qz0_, H', ⟨(by have := HK1.out; omega)⟩, by repeat (first | exact Drawn0.refl _ | apply Drawn0.step)⟩
     ·
      rw [if_neg c5] at H
      exact absurd H (by simp)
    ·
     rw [if_neg c4] at H
     exact absurd H (by simp)
   ·
    rw [if_neg c3] at H
    have c3b0 : decide (x8_1 < (l0.length : Int)) = false := decide_eq_false c3
    clear c3
    obtain rfl := Option.some.inj H
    go_wp2
    go_ret
    exact ⟨qz0_, qz1_⟩

end Go.Proofs.YtokljkneflejdaaDoor.PT
end
section
/- What readGate returns: the gate that words tell. -/
namespace Go.Proofs.YtokljkneflejdaaDoor.PT
open Go Go.RowKit Go.Lib Go.Proofs.YtokljkneflejdaaDoorW.PrintWords Go.Proofs.YtokljkneflejdaaDoorW.PrintLast Go.Proofs.YtokljkneflejdaaDoorW.PrintMore
set_option linter.unusedVariables false
set_option linter.unusedSimpArgs false
theorem rowR {α : Type} {d : Kd α} {e b : Nat} {v : Value} {xs : List α} {S : Nat → Prop} {W : World} (h : (row d e b v xs S).A W) : d.R e W b S v xs := h
theorem gifA {c : Bool} {g : Grp} {W : World} (h : (gif c g).A W) (hc : c = true) : g.A W := h hc
def ptrsIn (A : Option Addr) (g : Nat) (l : List Nat) (w : World) : Prop := ∀ i (h : i < l.length), ∃ q, A = some ⟨q, 0, none⟩ ∧ w.cell? ⟨q, i, none⟩ = some (.pointer (some ⟨g, l[i], none⟩))
theorem no_ptr {w : World} {g t : Nat} {x0 x1 x2 x3 : Int} (h : w.heap[g]? = some (.cells #[.int .i64 x0, .int .i64 x1, .int .i64 x2, .int .i64 x3] t (0, 0))) (i : Nat) {p : Option Addr} (hc : w.cell? ⟨g, i, none⟩ = some (.pointer p)) : False := by
 rw [blk_cell h i] at hc
 rcases (show i = 0 ∨ i = 1 ∨ i = 2 ∨ i = 3 ∨ 4 ≤ i by omega) with rfl | rfl | rfl | rfl | h4
 ·
  cases hc
 ·
  cases hc
 ·
  cases hc
 ·
  cases hc
 ·
  rw [Array.getElem?_eq_none (by simpa using h4)] at hc; cases hc
theorem Inv.ptrs {w0 w : World} {P : Nat → Prop} {F : World → Prop} {g g2 t : Nat} {x0 x1 x2 x3 y0 y1 y2 y3 : Int} {A : Option Addr} {l : List Nat} (h : Inv w0 P w [blk g t #[.int .i64 x0, .int .i64 x1, .int .i64 x2, .int .i64 x3], blk g2 t #[.int .i64 y0, .int .i64 y1, .int .i64 y2, .int .i64 y3]] F) (hp : ptrsIn A g l w) : Inv w0 P w [blk g t #[.int .i64 x0, .int .i64 x1, .int .i64 x2, .int .i64 x3], blk g2 t #[.int .i64 y0, .int .i64 y1, .int .i64 y2, .int .i64 y3]] (fun W => ptrsIn A g l W ∧ F W) :=
 h.addF _ (fun w' hw i hi => by
  obtain ⟨q, e, hc⟩ := hp i hi
  refine ⟨q, e, hw.cell hc ?_⟩
  rintro ⟨b, hb, hk⟩
  simp only [List.mem_cons, List.not_mem_nil, or_false] at hb
  rcases hb with rfl | rfl
  ·
   obtain rfl : q = g := hk
   exact no_ptr h.blk0 i hc
  ·
   obtain rfl : q = g2 := hk
   exact no_ptr (h.get 1 rfl) i hc)
theorem offs_mem {op : Int} {j : Nat} (h : j ∈ impl_Gate_nums.offs op) : j = 1 ∨ j = 2 ∨ j = 3 := by
 unfold impl_Gate_nums.offs at h
 split at h
 ·
  simp at h; omega
 ·
  split at h
  ·
   simp at h; omega
  ·
   split at h
   ·
    simp at h; omega
   ·
    cases h
def impl_readGate.put (a b c : Int) (o : Nat) (v : Int) : Int × Int × Int := if o = 1 then (v, b, c) else if o = 2 then (a, v, c) else (a, b, v)
def impl_readGate.go (k : Nat) (op : Int) : List Nat → List ByteArray → Int → Int → Int → Option (Int × Int × Int × Int × Bool)
 | [], [], a, b, c => (impl_isGate.f k op a b c 15).bind fun t => some (op, a, b, c, t)
 | o :: os, x :: xs, a, b, c => (match numA x.data.toList with
  | none => some (0, 0, 0, 0, false)
  | some v => impl_readGate.go k op os xs (impl_readGate.put a b c o v).1 (impl_readGate.put a b c o v).2.1 (impl_readGate.put a b c o v).2.2)
 | _, _, _, _, _ => none
def impl_readGate.f (k : Nat) : List ByteArray → Option (Int × Int × Int × Int × Bool)
 | [] => some (0, 0, 0, 0, false)
 | x :: xs => (impl_opWords.f).bind fun nl => (slices_Index_string_string.f k nl x).bind fun i => if (impl_Gate_nums.offs (wrap64 (i + 1))).length = xs.length then impl_readGate.go k (wrap64 (i + 1)) (impl_Gate_nums.offs (wrap64 (i + 1))) xs 0 0 0 else some (0, 0, 0, 0, false)
def impl_readGate.T3 : Bool × List (List Nat × List Nat) := (true, [([], []), ([], []), ([1], [1]), ([2], [2]), ([0, 3, 0], [0, 3]), ([4], [4]), ([5], [5]), ([], []), ([7, 6, 4, 0, 1, 2, 3, 4, 5, 6, 7], [6, 7])])
def impl_readGate.B3 : List Nat := [0, 0, 2, 6, 15, 31, 63, 0, 255]
theorem impl_readGate.tab3 : rtab .any (opsOf Tryd.f22 3) = impl_readGate.T3 := by kernel_rfl
theorem impl_readGate.bits3 : waitsOk impl_readGate.T3.2 impl_readGate.B3 = true := by kernel_rfl
set_option maxHeartbeats 8000000 in
set_option maxRecDepth 100000 in
theorem impl_readGate.nil (q : Option Addr) (c0 : Nat) (w : World) : Calls Tryd.prog 22 #[.slice q 0 c0] w fun e w' => e = .returned (.tuple #[.agg #[.int .i64 0, .int .i64 0, .int .i64 0, .int .i64 0], .bool false]) ∧ Below w.heap.size w w' := by
 have hu30 := Tryd.underlying30
 have HI := am_ (Inv.start w (fun _ => True) (fun _ _ => trivial))
 go_enter Tryd.func22, Tryd.ntmps22
 go_wp2_with (first | ((with_reducible refine gate_dst (N := 2) rfl ?_); refine box_event ?hg (N := 2) ?hd (cs := #[.int .i64 0, .int .i64 0, .int .i64 0, .int .i64 0]) (t := 30) ?hr ?_; (case hd => rfl); (case hg => rfl); (case hr => first | (go_simp; done) | (go_simp; rfl)); intro g2 hg w1 hbox hb; have HI_ := am_ ((HI.out).box hg hbox hb); clear HI; have HI := HI_; clear HI_; clear hb hbox hg) | ((with_reducible refine gate_store (p := 2) (v := (.tmp 13)) (t := 30) rfl ?_); go_must (refine wpList_store_row rfl 30 _ _ rfl g2 (#[.int .i64 0, .int .i64 0, .int .i64 0, .int .i64 0]) rfl (by first | rfl | (go_simp; rfl)) 30 (#[.int .i64 0, .int .i64 0, .int .i64 0, .int .i64 0]) (Inv.blk0 (HI.out)) (by kernel_rfl) (by rfl) qz12_ ?_; have HI_ := am_ (Inv.put0 (HI.out) (#[.int .i64 0, .int .i64 0, .int .i64 0, .int .i64 0])); clear HI; have HI := HI_; clear HI_; generalize World.setRow _ g2 (#[.int .i64 0, .int .i64 0, .int .i64 0, .int .i64 0]) = w13 at HI ⊢)))
 refine bodyPost_ret (results_ct rfl _ _ g2 30 (#[.int .i64 0, .int .i64 0, .int .i64 0, .int .i64 0]) (0, 0) _ rfl (HI.out.blk0) Tryd.underlying30 rfl (by kernel_rfl)) rfl ?_
 exact ⟨rfl, HI.out.below⟩
set_option maxHeartbeats 8000000 in
set_option maxRecDepth 100000 in
theorem impl_readGate.calls (k : Nat) (b0 o0 c0 : Nat) (ws : List ByteArray) (x0 : ByteArray) (xs : List ByteArray) (hws : ws = x0 :: xs) (hcap : ws.length ≤ c0) (hbig : ws.length ≤ 1000000) (hsz : ∀ x ∈ ws, x.size ≤ 281474976710656) (r1 r2 r3 r4 : Int) (r5 : Bool) (w : World) (hw : wordsIn (some ⟨b0, o0, none⟩) ws w) (hg : RG w) (h : impl_readGate.f k ws = some (r1, r2, r3, r4, r5)) :
  Calls Tryd.prog 22 #[.slice (some ⟨b0, o0, none⟩) ws.length c0] w fun e w' => e = .returned (.tuple #[.agg #[.int .i64 r1, .int .i64 r2, .int .i64 r3, .int .i64 r4], .bool r5]) ∧ Below w.heap.size w w' := by
 have hu30 := Tryd.underlying30
 rw [hws] at h
 unfold impl_readGate.f at h
 obtain ⟨nl, hnl, h⟩ := Option.bind_eq_some_iff.mp h
 obtain ⟨ix, hix, h⟩ := Option.bind_eq_some_iff.mp h
 have HNL := am_ hnl
 have HIX := am_ hix
 have H := am_ h
 clear hnl hix h
 have hlen : ws.length = xs.length + 1 := by rw [hws]; rfl
 have HX0 := am_ (show ∀ W, wordsIn (some ⟨b0, o0, none⟩) ws W → W.cell? ⟨b0, o0, none⟩ = some (.string x0) from fun W hW => by
  obtain ⟨b, o, e, hc⟩ := hW 0 (by omega)
  cases e
  rw [Nat.add_zero] at hc
  rw [hc]; simp [hws])
 have HXS := am_ (show ∀ W, wordsIn (some ⟨b0, o0, none⟩) ws W → ∀ j (hj : j < xs.length), W.cell? ⟨b0, o0 + 1 + j, none⟩ = some (.string xs[j]) from fun W hW j hj => by
  obtain ⟨b, o, e, hc⟩ := hW (j + 1) (by omega)
  cases e
  rw [show o0 + 1 + j = o0 + (j + 1) by omega, hc]; simp [hws])
 have HI := am_ (Inv.start w (fun W => wordsIn (some ⟨b0, o0, none⟩) ws W ∧ RG W) (fun W hb => ⟨hw.below hb, hg.below hb⟩))
 have HSZ := am_ hsz
 clear hw hg hsz
 have n0 : ((ws.length : Int) == 0) = false := beq_eq_false_iff_ne.mpr (by omega)
 have n1 : (ws.length == 0) = false := beq_eq_false_iff_ne.mpr (by omega)
 have p1 : (0 : Int) < (ws.length : Int) := by omega
 have p2 : 0 < ws.length := by omega
 have hwn := am_ hws
 clear hws
 go_enter Tryd.func22, Tryd.ntmps22
 go_wp2_with (first | ((with_reducible refine gate_dst (N := 2) rfl ?_); refine box_event ?hg (N := 2) ?hd (cs := #[.int .i64 0, .int .i64 0, .int .i64 0, .int .i64 0]) (t := 30) ?hr ?_; (case hd => rfl); (case hg => rfl); (case hr => first | (go_simp; done) | (go_simp; rfl)); intro g2 hg w1 hbox hb; have HI_ := am_ ((HI.out).box hg hbox hb); clear HI; have HI := HI_; clear HI_; clear hb hbox hg))
 refine start_ (n := 9) (S := fun w' => True) (ds := []) #[false, false, false, false, false, false, false, false, false] (by kernel_rfl) rfl rfl trivial (fun hHeld => ?_)
 refine with_tabW impl_readGate.tab3 impl_readGate.bits3 (fun HT_ HW_ => ?_)
 have HI_ := am_ (HI.out.drew); clear HI; have HI := HI_; clear HI_
 generalize World.drew _ = wd3 at HI ⊢
 refine pure_ (i := 1) (N := some 15) (v := ?_) (a' := ?_) #[false, true, false, false, false, false, false, false, false] rfl rfl (any_of HT_.out (by kernel_rfl)) (fun _ _ _ h => h) (Or.inl ⟨(by rfl), ?_⟩) ?_ ?_
 rotate_left
 ·
  intro w'
  go_simp
  with_reducible rfl
 rotate_left
 ·
  exact ap_
 refine pure_ (i := 2) (N := some 16) (v := ?_) (a' := ?_) #[false, true, true, false, false, false, false, false, false] rfl rfl (any_of HT_.out (by kernel_rfl)) (fun _ _ _ h => h) (Or.inl ⟨(by rfl), ?_⟩) ?_ ?_
 rotate_left
 ·
  intro w'
  go_simp
  with_reducible rfl
 rotate_left
 ·
  exact ap_
 refine inv_at [0, 3, 4, 5, 6, 7, 8] (fun a0_ b a w' => ∃ (XA : Option Addr) (Xc : Nat) (G4 : Nat) (SX : Nat → Prop) (m0_ : Value) (m7_ : Value), a = putSel a0_ b [(0, 14, m0_), (3, 17, .string x0), (4, 18, .int .i64 ix), (5, 19, .int .i64 (wrap64 (ix + 1))), (6, 20, .agg #[.int .i64 (wrap64 (ix + 1)), .int .i64 0, .int .i64 0, .int .i64 0]), (7, 4, m7_)] ∧ (Inv w NoB w' [gif (b 7) (blk G4 30 (cond (b 8) (#[.int .i64 (wrap64 (ix + 1)), .int .i64 0, .int .i64 0, .int .i64 0]) (#[.int .i64 0, .int .i64 0, .int .i64 0, .int .i64 0]))), gif (b 0) (row Kd.string 9 w.heap.size (.slice XA nl.length Xc) nl SX), blk g2 30 #[.int .i64 0, .int .i64 0, .int .i64 0, .int .i64 0]] (fun W => wordsIn (some ⟨b0, o0, none⟩) ws W ∧ RG W)) ∧ (b 0 = true → (m0_ : Value) = .slice XA nl.length Xc) ∧ (b 7 = true → (m7_ : Value) = .pointer (some ⟨G4, 0, none⟩))) HT_.out HW_.out (by kernel_rfl) (by kernel_rfl) ?_ ?_ ?_
 ·
  exact ⟨none, 0, 0, fun _ => False, .bool false, .bool false, (by simp only [putSel, Bool.false_eq_true, if_false]), Inv.off (Inv.off (HI.out)), fun h_ => absurd h_ (by decide), fun h_ => absurd h_ (by decide)⟩
 ·
  skip
  clear HI
  refine steps_cons ?_ ?_
  ·
   rintro b a w' ⟨XA, Xc, G4, SX, m0_, m7_, ha, Q_HI, Q_X0_, Q_X7_⟩ hb_ hon hoff
   refine ⟨_, rfl, fun K hK => ?_⟩
   replace ha := am_ ha
   have HI := am_ Q_HI
   refine goes_ Tryd.func14 (by kernel_rfl) rfl #[] (by rfl) rfl rfl (by first | (simp only [List.map_toArray, List.map_cons, List.map_nil, Act.eval, Array.getD_eq_getD_getElem?, Option.getD_some]; done) | (simp only [List.map_toArray, List.map_cons, List.map_nil, Act.eval, Array.getD_eq_getD_getElem?, Option.getD_some]; rfl)) ?_
   with_reducible refine (impl_opWords.calls nl _ HNL.out).mono ?_
   rintro e wt ⟨v0_, rfl, hR, hb⟩
   obtain ⟨X_n, c_n, ex_⟩ := Kd.R_slice hR
   subst ex_
   refine ⟨_, rfl, ?_⟩
   have HI2 := am_ (Inv.fill true (HI.out.rowPush hb hR) 1 rfl)
   refine hK.out _ _ ⟨X_n, c_n, G4, (fun k => w'.heap.size ≤ k ∧ k < wt.heap.size), (.slice X_n nl.length c_n), m7_, (by rw [ha.out]; exact putSel_upk 0 hb_ rfl rfl rfl), HI2.out, fun _ => rfl, Q_X7_⟩
  refine steps_cons ?_ ?_
  ·
   rintro b a w' ⟨XA, Xc, G4, SX, m0_, m7_, ha, Q_HI, Q_X0_, Q_X7_⟩ hb_ hon hoff
   refine ⟨_, rfl, fun K hK => ?_⟩
   have e16 : a.tmps[16]? = some (.pointer (some ⟨b0, o0, none⟩)) := by rw [ha]; exact (putSel_off rfl).trans rfl
   replace ha := am_ ha
   have HI := am_ Q_HI
   have y_0 : w'.cell? ⟨b0, o0, none⟩ = some (.string x0) := HX0.out w' HI.out.now.1
   refine value_ (w1 := w') (v := .string x0) (by rfl) rfl ?_ ?_
   ·
    go_simp
    (try simp only [i64_w])
    try rfl
   refine hK.out _ _ ⟨XA, Xc, G4, SX, m0_, m7_, (by rw [ha.out]; exact putSel_upk 1 hb_ rfl rfl rfl), Q_HI, Q_X0_, Q_X7_⟩
  refine steps_cons ?_ ?_
  ·
   rintro b a w' ⟨XA, Xc, G4, SX, m0_, m7_, ha, Q_HI, Q_X0_, Q_X7_⟩ hb_ hon hoff
   refine ⟨_, rfl, fun K hK => ?_⟩
   have e14 : a.tmps[14]? = some (m0_) := by rw [ha]; exact putSel_on (e := (0, 14, m0_)) 0 rfl rfl (hon 0 (by kernel_rfl)) rfl
   rw [Q_X0_ (hon 0 (by kernel_rfl))] at e14
   have e17 : a.tmps[17]? = some (.string x0) := by rw [ha]; exact putSel_on (e := (3, 17, .string x0)) 1 rfl rfl (hon 3 (by kernel_rfl)) rfl
   replace ha := am_ ha
   have HI := am_ Q_HI
   refine goes_ Tryd.func34 (by kernel_rfl) rfl #[.slice XA nl.length Xc, .string x0] (by rfl) rfl rfl (by first | (simp only [List.map_toArray, List.map_cons, List.map_nil, Act.eval, Array.getD_eq_getD_getElem?, Option.getD_some, e14, e17]; done) | (simp only [List.map_toArray, List.map_cons, List.map_nil, Act.eval, Array.getD_eq_getD_getElem?, Option.getD_some, e14, e17]; rfl)) ?_
   have hQ_ := Kd.R_reads' (rowR (gifA (HI.out.at_ (gif (b 0) (row Kd.string 9 w.heap.size (.slice XA nl.length Xc) nl SX)) (by repeat (first | exact List.mem_cons_self | apply List.mem_cons_of_mem))) (hon 0 (by kernel_rfl))))
   with_reducible refine (slices_Index_string_string.calls k XA Xc nl x0 ix _ hQ_.2.2 hQ_.2.1 HIX.out).mono ?_
   rintro e wt ⟨rfl, ⟨nd, rfl⟩⟩
   refine ⟨_, rfl, ?_⟩
   have HI2 := am_ (HI.out.drewN nd)
   refine hK.out _ _ ⟨XA, Xc, G4, SX, m0_, m7_, (by rw [ha.out]; exact putSel_upk 2 hb_ rfl rfl rfl), HI2.out, Q_X0_, Q_X7_⟩
  refine steps_cons ?_ ?_
  ·
   rintro b a w' ⟨XA, Xc, G4, SX, m0_, m7_, ha, Q_HI, Q_X0_, Q_X7_⟩ hb_ hon hoff
   refine ⟨_, rfl, fun K hK => ?_⟩
   have e18 : a.tmps[18]? = some (.int .i64 ix) := by rw [ha]; exact putSel_on (e := (4, 18, .int .i64 ix)) 2 rfl rfl (hon 4 (by kernel_rfl)) rfl
   replace ha := am_ ha
   have HI := am_ Q_HI
   refine value_ (w1 := w') (v := .int .i64 (wrap64 (ix + 1))) (by rfl) rfl ?_ ?_
   ·
    go_simp
    (try simp only [i64_w])
    try rfl
   refine hK.out _ _ ⟨XA, Xc, G4, SX, m0_, m7_, (by rw [ha.out]; exact putSel_upk 3 hb_ rfl rfl rfl), Q_HI, Q_X0_, Q_X7_⟩
  refine steps_cons ?_ ?_
  ·
   rintro b a w' ⟨XA, Xc, G4, SX, m0_, m7_, ha, Q_HI, Q_X0_, Q_X7_⟩ hb_ hon hoff
   refine ⟨_, rfl, fun K hK => ?_⟩
   have e19 : a.tmps[19]? = some (.int .i64 (wrap64 (ix + 1))) := by rw [ha]; exact putSel_on (e := (5, 19, .int .i64 (wrap64 (ix + 1)))) 3 rfl rfl (hon 5 (by kernel_rfl)) rfl
   replace ha := am_ ha
   have HI := am_ Q_HI
   refine value_ (w1 := w') (v := .agg #[.int .i64 (wrap64 (ix + 1)), .int .i64 0, .int .i64 0, .int .i64 0]) (by rfl) rfl ?_ ?_
   ·
    go_simp
    (try simp only [i64_w])
    try rfl
   refine hK.out _ _ ⟨XA, Xc, G4, SX, m0_, m7_, (by rw [ha.out]; exact putSel_upk 4 hb_ rfl rfl rfl), Q_HI, Q_X0_, Q_X7_⟩
  refine steps_cons ?_ ?_
  ·
   rintro b a w' ⟨XA, Xc, G4, SX, m0_, m7_, ha, Q_HI, Q_X0_, Q_X7_⟩ hb_ hon hoff
   refine ⟨_, rfl, fun K hK => ?_⟩
   replace ha := am_ ha
   have HI := am_ Q_HI
   refine value_ (w1 := w'.alloc (.cells #[.int .i64 0, .int .i64 0, .int .i64 0, .int .i64 0] 30)) (v := .pointer (some ⟨w'.heap.size, 0, none⟩)) (by rfl) rfl ?_ ?_
   ·
    first | (go_simp; done) | (go_simp; rfl)
   have HI2 := am_ (Inv.fill true (Inv.cellsEq (HI.out.allocBox 30 (#[.int .i64 0, .int .i64 0, .int .i64 0, .int .i64 0])) (cs' := cond (b 8) (#[.int .i64 (wrap64 (ix + 1)), .int .i64 0, .int .i64 0, .int .i64 0]) (#[.int .i64 0, .int .i64 0, .int .i64 0, .int .i64 0])) (by rw [hoff 8 (by kernel_rfl)]; rfl)) 0 rfl)
   refine hK.out _ _ ⟨XA, Xc, w'.heap.size, SX, m0_, (.pointer (some ⟨w'.heap.size, 0, none⟩)), (by rw [ha.out]; exact putSel_upk 5 hb_ rfl rfl rfl), HI2.out, Q_X0_, fun _ => rfl⟩
  refine steps_cons ?_ ?_
  ·
   rintro b a w' ⟨XA, Xc, G4, SX, m0_, m7_, ha, Q_HI, Q_X0_, Q_X7_⟩ hb_ hon hoff
   refine ⟨_, rfl, fun K hK => ?_⟩
   have e4 : a.tmps[4]? = some (m7_) := by rw [ha]; exact putSel_on (e := (7, 4, m7_)) 5 rfl rfl (hon 7 (by kernel_rfl)) rfl
   rw [Q_X7_ (hon 7 (by kernel_rfl))] at e4
   have e20 : a.tmps[20]? = some (.agg #[.int .i64 (wrap64 (ix + 1)), .int .i64 0, .int .i64 0, .int .i64 0]) := by rw [ha]; exact putSel_on (e := (6, 20, .agg #[.int .i64 (wrap64 (ix + 1)), .int .i64 0, .int .i64 0, .int .i64 0])) 4 rfl rfl (hon 6 (by kernel_rfl)) rfl
   replace ha := am_ ha
   have HI := am_ Q_HI
   rw [if_pos (by rfl)]
   have HI3 := am_ (Inv.cellsEq (Inv.take HI.out 0 rfl (hon 7 (by kernel_rfl))) (cs' := #[.int .i64 0, .int .i64 0, .int .i64 0, .int .i64 0]) (by rw [hb_]; rfl))
   refine wp_store_row 30 _ _ rfl G4 (#[.int .i64 (wrap64 (ix + 1)), .int .i64 0, .int .i64 0, .int .i64 0]) (eval_of e4) (eval_of e20) 30 (#[.int .i64 0, .int .i64 0, .int .i64 0, .int .i64 0]) HI3.out.blk0 (by kernel_rfl) rfl qz12_ ?_
   have HI2 := am_ (Inv.fill (b 7) (HI3.out.put0 (#[.int .i64 (wrap64 (ix + 1)), .int .i64 0, .int .i64 0, .int .i64 0])) 0 rfl)
   refine hK.out _ _ ⟨XA, Xc, G4, SX, m0_, m7_, (by rw [ha.out]; exact putSel_none (v := undef) rfl), HI2.out, Q_X0_, Q_X7_⟩
  exact steps_nil
 rintro b a w' hall ⟨XA, Xc, G4, SX, m0_, m7_, ha, Q_HI, Q_X0_, Q_X7_⟩
 clear HI
 have hb0_ := hall 0 (by kernel_rfl)
 have hb3_ := hall 3 (by kernel_rfl)
 have hb4_ := hall 4 (by kernel_rfl)
 have hb5_ := hall 5 (by kernel_rfl)
 have hb6_ := hall 6 (by kernel_rfl)
 have hb7_ := hall 7 (by kernel_rfl)
 have hb8_ := hall 8 (by kernel_rfl)
 subst ha
 obtain rfl := Q_X0_ hb0_
 obtain rfl := Q_X7_ hb7_
 simp only [putSel, hb0_, hb3_, hb4_, hb5_, hb6_, hb7_, hb8_, if_true, Act.put, List.setIfInBounds_toArray, List.set_cons_zero, List.set_cons_succ]
 have HI := am_ Q_HI
 have HI_ := am_ (Inv.take HI.out 0 rfl hb7_); clear HI; have HI := HI_; clear HI_
 have HI_ := am_ (Inv.cellsEq HI.out (cs' := #[.int .i64 (wrap64 (ix + 1)), .int .i64 0, .int .i64 0, .int .i64 0]) (by rw [hb8_]; rfl)); clear HI; have HI := HI_; clear HI_
 have HI_ := am_ (HI.out.swap.drop); clear HI; have HI := HI_; clear HI_
 have HI_ := am_ (HI.out.swap.drop); clear HI; have HI := HI_; clear HI_
 clear Q_HI
 clear hall hb0_ hb3_ hb4_ hb5_ hb6_ hb7_ hb8_
 generalize wrap64 (ix + 1) = op0 at H HI ⊢
 generalize hps : impl_Gate_nums.offs op0 = ps at H
 have HPS := am_ hps
 have HOFF := am_ (show ∀ j ∈ ps, j = 1 ∨ j = 2 ∨ j = 3 from fun j hj => offs_mem (op := op0) (hps ▸ hj))
 clear hps
 by_cases hl : ps.length = xs.length
 ·
  have HR := am_ (show impl_readGate.go k op0 (ps.drop 0) (xs.drop 0) 0 0 0 = some (r1, r2, r3, r4, r5) by have := H.out; rw [if_pos hl] at this; exact this)
  clear H
  have m1 : ((ps.length : Int) != (xs.length : Int)) = false := by rw [hl]; simp
  have wl : wrap64 (xs.length : Int) = (xs.length : Int) := by unfold wrap64; omega
  have m2 : xs.length + 1 ≤ c0 := by omega
  have m3 : 1 ≤ c0 := by omega
  have HBG := am_ (show xs.length ≤ 1000000 by omega)
  clear hbig
  go_wp2_with ((go_at_call 15; (with_reducible refine (impl_Gate_nums.calls G4 op0 0 0 0 _ HI.out.blk0).mono ?_); rintro e w21 ⟨A, cN, rfl, hcells, hb⟩; rw [HPS.out] at hcells ⊢; have HI_ := am_ (Inv.ptrs (HI.out.grow hb) hcells); clear HI; have HI := HI_; clear HI_; clear hcells hb))
  ·
   go_loopg [32] xs.length (fun kq v32 w' => ∃ (j : Nat) (a b c : Int), v32 = .int .i64 j ∧ Aside0 (j + kq = xs.length) ∧ Aside0 (impl_readGate.go k op0 (ps.drop j) (xs.drop j) a b c = some (r1, r2, r3, r4, r5)) ∧ Aside0 (Inv w NoB w' [blk G4 30 #[.int .i64 op0, .int .i64 a, .int .i64 b, .int .i64 c], blk g2 30 #[.int .i64 0, .int .i64 0, .int .i64 0, .int .i64 0]] (fun W => ptrsIn A G4 ps W ∧ wordsIn (some ⟨b0, o0, none⟩) ws W ∧ RG W)))
   case atStart => exact ⟨0, 0, 0, 0, rfl, ⟨(by omega)⟩, HR, HI⟩
   case round =>
    clear HR HI
    obtain ⟨j, a, b, c, rfl, HJ, HR, HI⟩ := hrel
    have hj := HJ.out
    cases gk with
    | zero =>
     have c1 : decide ((j : Int) < (xs.length : Int)) = false := decide_eq_false (by omega)
     have c2 : decide (j < xs.length) = false := decide_eq_false (by omega)
     have hR := HR.out
     rw [List.drop_eq_nil_of_le (by omega), List.drop_eq_nil_of_le (by omega)] at hR
     obtain ⟨t5, ht5, hR⟩ := Option.bind_eq_some_iff.mp hR
     have HT5 := am_ ht5
     simp only [Option.some.injEq, Prod.mk.injEq] at hR
     obtain ⟨rfl, rfl, rfl, rfl, rfl⟩ := hR
     clear HR HJ hj ht5
     go_wp2
     refine start_ (n := 5) (S := fun w' => w'.cell? ⟨G4, 0, none⟩ = some (.int .i64 op0) ∧ w'.cell? ⟨G4, 1, none⟩ = some (.int .i64 a) ∧ w'.cell? ⟨G4, 2, none⟩ = some (.int .i64 b) ∧ w'.cell? ⟨G4, 3, none⟩ = some (.int .i64 c)) (ds := []) #[false, false, false, false, false] (by kernel_rfl) rfl rfl ⟨(blk_cell HI.out.drew.blk0 0).trans rfl, (blk_cell HI.out.drew.blk0 1).trans rfl, (blk_cell HI.out.drew.blk0 2).trans rfl, (blk_cell HI.out.drew.blk0 3).trans rfl⟩ (fun hHeld => ?_)
     have HI_ := am_ (HI.out.drew); clear HI; have HI := HI_; clear HI_
     generalize World.drew _ = wd15 at HI hHeld ⊢
     refine take_ (i := 0) (N := some 52) (v := ?_) (a' := ?_) #[true, false, false, false, false] rfl rfl (by kernel_rfl) (fun _ _ _ h => h) (Or.inl ⟨(by rfl), ?_⟩) hHeld ?_ ?_
     rotate_left
     ·
      rintro w' ⟨s0, s1, s2, s3⟩
      go_simp
      with_reducible rfl
     rotate_left
     ·
      exact ap_
     refine take_ (i := 1) (N := some 53) (v := ?_) (a' := ?_) #[true, true, false, false, false] rfl rfl (by kernel_rfl) (fun _ _ _ h => h) (Or.inl ⟨(by rfl), ?_⟩) hHeld ?_ ?_
     rotate_left
     ·
      rintro w' ⟨s0, s1, s2, s3⟩
      go_simp
      with_reducible rfl
     rotate_left
     ·
      exact ap_
     refine one_ (i := 2) (N := some 54) #[true, true, true, false, false] rfl rfl (by kernel_rfl) (by decide) (fun K hK => ?_)
     refine goes_ Tryd.func13 (by kernel_rfl) rfl #[.agg #[.int .i64 op0, .int .i64 a, .int .i64 b, .int .i64 c], .int .i64 15] (by rfl) rfl rfl qz13_ ?_
     with_reducible refine (impl_isGate.calls k op0 a b c 15 t5 _ HT5.out).mono ?_
     rintro e w54 ⟨rfl, hb⟩
     have HI_ := am_ (HI.out.grow hb); clear HI; have HI := HI_; clear HI_
     clear hb
     refine ⟨_, rfl, ?_⟩
     refine hK.out _ _ ⟨(blk_cell HI.out.blk0 0).trans rfl, (blk_cell HI.out.blk0 1).trans rfl, (blk_cell HI.out.blk0 2).trans rfl, (blk_cell HI.out.blk0 3).trans rfl⟩ (fun hHeld => ?_)
     clear hK K
     refine norm_ (a' := ?_) ?_ ?_
     rotate_left
     ·
      show Act.put _ (some 54) _ = _
      exact ap_
     refine one_ (i := 3) (N := none) #[true, true, true, true, false] rfl rfl (by kernel_rfl) (by decide) (fun K hK => ?_)
     rw [if_pos (by rfl)]
     refine wp_store_row 30 _ _ rfl g2 (#[.int .i64 op0, .int .i64 a, .int .i64 b, .int .i64 c]) rfl (by first | rfl | (go_simp; rfl)) 30 (#[.int .i64 0, .int .i64 0, .int .i64 0, .int .i64 0]) HI.out.swap.blk0 (by kernel_rfl) rfl qz12_ ?_
     have HI_ := am_ ((HI.out.swap.put0 (#[.int .i64 op0, .int .i64 a, .int .i64 b, .int .i64 c])).swap); clear HI; have HI := HI_; clear HI_
     generalize World.setRow _ g2 (#[.int .i64 op0, .int .i64 a, .int .i64 b, .int .i64 c]) = w55 at HI ⊢
     refine hK.out _ _ ⟨(blk_cell HI.out.blk0 0).trans rfl, (blk_cell HI.out.blk0 1).trans rfl, (blk_cell HI.out.blk0 2).trans rfl, (blk_cell HI.out.blk0 3).trans rfl⟩ (fun hHeld => ?_)
     clear hK K
     refine norm_ (a' := ?_) ?_ ?_
     rotate_left
     ·
      show Act.put _ (none) _ = _
      exact ap_
     refine pure_ (i := 4) (N := some 3) (v := ?_) (a' := ?_) #[true, true, true, true, true] rfl rfl (by kernel_rfl) (fun _ _ _ h => h) (Or.inl ⟨(by rfl), ?_⟩) ?_ ?_
     rotate_left
     ·
      intro w'
      go_simp
      with_reducible rfl
     rotate_left
     ·
      exact ap_
     refine done_ (by kernel_rfl) ?_
     try go_wp2
     refine bodyPost_ret (results_ct rfl _ _ g2 30 (#[.int .i64 op0, .int .i64 a, .int .i64 b, .int .i64 c]) (0, 0) _ rfl (HI.out.swap.blk0) Tryd.underlying30 rfl (by kernel_rfl)) rfl ?_
     exact ⟨rfl, HI.out.below⟩
    | succ k1 =>
     exfalso; omega
  ·
   go_loopg [32] xs.length (fun kq v32 w' => ∃ (j : Nat) (a b c : Int), v32 = .int .i64 j ∧ Aside0 (j + kq = xs.length) ∧ Aside0 (impl_readGate.go k op0 (ps.drop j) (xs.drop j) a b c = some (r1, r2, r3, r4, r5)) ∧ Aside0 (Inv w NoB w' [blk G4 30 #[.int .i64 op0, .int .i64 a, .int .i64 b, .int .i64 c], blk g2 30 #[.int .i64 0, .int .i64 0, .int .i64 0, .int .i64 0]] (fun W => ptrsIn A G4 ps W ∧ wordsIn (some ⟨b0, o0, none⟩) ws W ∧ RG W)))
   case atStart => exact ⟨0, 0, 0, 0, rfl, ⟨(by omega)⟩, HR, HI⟩
   case round =>
    clear HR HI
    obtain ⟨j, a, b, c, rfl, HJ, HR, HI⟩ := hrel
    have hj := HJ.out
    cases gk with
    | zero =>
     have c1 : decide ((j : Int) < (xs.length : Int)) = false := decide_eq_false (by omega)
     have c2 : decide (j < xs.length) = false := decide_eq_false (by omega)
     have hR := HR.out
     rw [List.drop_eq_nil_of_le (by omega), List.drop_eq_nil_of_le (by omega)] at hR
     obtain ⟨t5, ht5, hR⟩ := Option.bind_eq_some_iff.mp hR
     have HT5 := am_ ht5
     simp only [Option.some.injEq, Prod.mk.injEq] at hR
     obtain ⟨rfl, rfl, rfl, rfl, rfl⟩ := hR
     clear HR HJ hj ht5
     go_wp2
     refine start_ (n := 5) (S := fun w' => w'.cell? ⟨G4, 0, none⟩ = some (.int .i64 op0) ∧ w'.cell? ⟨G4, 1, none⟩ = some (.int .i64 a) ∧ w'.cell? ⟨G4, 2, none⟩ = some (.int .i64 b) ∧ w'.cell? ⟨G4, 3, none⟩ = some (.int .i64 c)) (ds := []) #[false, false, false, false, false] (by kernel_rfl) rfl rfl ⟨(blk_cell HI.out.drew.blk0 0).trans rfl, (blk_cell HI.out.drew.blk0 1).trans rfl, (blk_cell HI.out.drew.blk0 2).trans rfl, (blk_cell HI.out.drew.blk0 3).trans rfl⟩ (fun hHeld => ?_)
     have HI_ := am_ (HI.out.drew); clear HI; have HI := HI_; clear HI_
     generalize World.drew _ = wd15 at HI hHeld ⊢
     refine take_ (i := 0) (N := some 52) (v := ?_) (a' := ?_) #[true, false, false, false, false] rfl rfl (by kernel_rfl) (fun _ _ _ h => h) (Or.inl ⟨(by rfl), ?_⟩) hHeld ?_ ?_
     rotate_left
     ·
      rintro w' ⟨s0, s1, s2, s3⟩
      go_simp
      with_reducible rfl
     rotate_left
     ·
      exact ap_
     refine take_ (i := 1) (N := some 53) (v := ?_) (a' := ?_) #[true, true, false, false, false] rfl rfl (by kernel_rfl) (fun _ _ _ h => h) (Or.inl ⟨(by rfl), ?_⟩) hHeld ?_ ?_
     rotate_left
     ·
      rintro w' ⟨s0, s1, s2, s3⟩
      go_simp
      with_reducible rfl
     rotate_left
     ·
      exact ap_
     refine one_ (i := 2) (N := some 54) #[true, true, true, false, false] rfl rfl (by kernel_rfl) (by decide) (fun K hK => ?_)
     refine goes_ Tryd.func13 (by kernel_rfl) rfl #[.agg #[.int .i64 op0, .int .i64 a, .int .i64 b, .int .i64 c], .int .i64 15] (by rfl) rfl rfl qz13_ ?_
     with_reducible refine (impl_isGate.calls k op0 a b c 15 t5 _ HT5.out).mono ?_
     rintro e w54 ⟨rfl, hb⟩
     have HI_ := am_ (HI.out.grow hb); clear HI; have HI := HI_; clear HI_
     clear hb
     refine ⟨_, rfl, ?_⟩
     refine hK.out _ _ ⟨(blk_cell HI.out.blk0 0).trans rfl, (blk_cell HI.out.blk0 1).trans rfl, (blk_cell HI.out.blk0 2).trans rfl, (blk_cell HI.out.blk0 3).trans rfl⟩ (fun hHeld => ?_)
     clear hK K
     refine norm_ (a' := ?_) ?_ ?_
     rotate_left
     ·
      show Act.put _ (some 54) _ = _
      exact ap_
     refine one_ (i := 3) (N := none) #[true, true, true, true, false] rfl rfl (by kernel_rfl) (by decide) (fun K hK => ?_)
     rw [if_pos (by rfl)]
     refine wp_store_row 30 _ _ rfl g2 (#[.int .i64 op0, .int .i64 a, .int .i64 b, .int .i64 c]) rfl (by first | rfl | (go_simp; rfl)) 30 (#[.int .i64 0, .int .i64 0, .int .i64 0, .int .i64 0]) HI.out.swap.blk0 (by kernel_rfl) rfl qz12_ ?_
     have HI_ := am_ ((HI.out.swap.put0 (#[.int .i64 op0, .int .i64 a, .int .i64 b, .int .i64 c])).swap); clear HI; have HI := HI_; clear HI_
     generalize World.setRow _ g2 (#[.int .i64 op0, .int .i64 a, .int .i64 b, .int .i64 c]) = w55 at HI ⊢
     refine hK.out _ _ ⟨(blk_cell HI.out.blk0 0).trans rfl, (blk_cell HI.out.blk0 1).trans rfl, (blk_cell HI.out.blk0 2).trans rfl, (blk_cell HI.out.blk0 3).trans rfl⟩ (fun hHeld => ?_)
     clear hK K
     refine norm_ (a' := ?_) ?_ ?_
     rotate_left
     ·
      show Act.put _ (none) _ = _
      exact ap_
     refine pure_ (i := 4) (N := some 3) (v := ?_) (a' := ?_) #[true, true, true, true, true] rfl rfl (by kernel_rfl) (fun _ _ _ h => h) (Or.inl ⟨(by rfl), ?_⟩) ?_ ?_
     rotate_left
     ·
      intro w'
      go_simp
      with_reducible rfl
     rotate_left
     ·
      exact ap_
     refine done_ (by kernel_rfl) ?_
     try go_wp2
     refine bodyPost_ret (results_ct rfl _ _ g2 30 (#[.int .i64 op0, .int .i64 a, .int .i64 b, .int .i64 c]) (0, 0) _ rfl (HI.out.swap.blk0) Tryd.underlying30 rfl (by kernel_rfl)) rfl ?_
     exact ⟨rfl, HI.out.below⟩
    | succ k1 =>
     have hjl : j < xs.length := by omega
     have hjp : j < ps.length := by omega
     have c1 : decide ((j : Int) < (xs.length : Int)) = true := decide_eq_true (by omega)
     have c2 : decide (j < xs.length) = true := decide_eq_true hjl
     have p5 : 0 ≤ (j : Int) := by omega
     have q5 : (j : Int) < (xs.length : Int) := by omega
     have hx := HXS.out _ HI.out.now.2.1 j hjl
     obtain ⟨qA, eA, hp⟩ := HI.out.now.1 j hjp
     subst eA
     have hR := HR.out
     rw [List.drop_eq_getElem_cons hjp, List.drop_eq_getElem_cons hjl] at hR
     have hsx : xs[j].size ≤ 281474976710656 := HSZ.out _ (by rw [hwn.out]; exact List.mem_cons_of_mem _ (List.getElem_mem hjl))
     generalize xs[j] = x at hx hR hsx
     have ho := HOFF.out _ (List.getElem_mem hjp)
     clear HR hp
     unfold impl_readGate.go at hR
     have HSX := am_ hsx
     clear hsx
     cases hnum : numA x.data.toList with
     | none =>
      rw [hnum] at hR
      simp only [Option.some.injEq, Prod.mk.injEq] at hR
      obtain ⟨rfl, rfl, rfl, rfl, rfl⟩ := hR
      have HRN := am_ (show ∀ W, RG W → Calls Tryd.prog 35 #[.string x] W fun e w' => (∃ n, e = .returned (.tuple #[.int .i64 n, .bool false])) ∧ Below W.heap.size W w' from fun W hW => (impl_readNumber.calls x W HSX.out hW).mono (fun e w' ⟨⟨n, he, _⟩, hb⟩ => ⟨⟨n, (by rw [he, hnum]; rfl)⟩, hb⟩))
      clear hnum ho
      go_wp2_with (first | (go_at_call 35; refine (HRN.out _ HI.out.now.2.2).mono ?_; rintro e w39 ⟨⟨n, rfl⟩, hb⟩; have HI_ := am_ (HI.out.grow hb); clear HI; have HI := HI_; clear HI_; clear hb) | ((with_reducible refine gate_store (p := 2) (v := (.tmp 44)) (t := 30) rfl ?_); go_must (refine wpList_store_row rfl 30 _ _ rfl g2 (#[.int .i64 0, .int .i64 0, .int .i64 0, .int .i64 0]) rfl (by first | rfl | (go_simp; rfl)) 30 (#[.int .i64 0, .int .i64 0, .int .i64 0, .int .i64 0]) (Inv.blk0 (HI.out.swap)) (by kernel_rfl) (by rfl) qz12_ ?_; have HI_ := am_ (Inv.put0 (HI.out.swap) (#[.int .i64 0, .int .i64 0, .int .i64 0, .int .i64 0])); clear HI; have HI := HI_; clear HI_; generalize World.setRow _ g2 (#[.int .i64 0, .int .i64 0, .int .i64 0, .int .i64 0]) = w44 at HI ⊢)))
      refine bodyPost_ret (results_ct rfl _ _ g2 30 (#[.int .i64 0, .int .i64 0, .int .i64 0, .int .i64 0]) (0, 0) _ rfl (HI.out.blk0) Tryd.underlying30 rfl (by kernel_rfl)) rfl ?_
      exact ⟨rfl, HI.out.below⟩
     | some v =>
      rw [hnum] at hR
      have HRN := am_ (show ∀ W, RG W → Calls Tryd.prog 35 #[.string x] W fun e w' => e = .returned (.tuple #[.int .i64 v, .bool true]) ∧ Below W.heap.size W w' from fun W hW => (impl_readNumber.calls x W HSX.out hW).mono (fun e w' ⟨⟨n, he, hv⟩, hb⟩ => ⟨(by rw [he, hnum, hv v hnum]; rfl), hb⟩))
      clear hnum
      rcases ho with ho | ho | ho
      ·
       rw [ho] at hR
       have HR := am_ (show impl_readGate.go k op0 (ps.drop (j + 1)) (xs.drop (j + 1)) v b c = some (r1, r2, r3, r4, r5) from hR)
       have HO := am_ ho
       clear hR ho
       go_wp2_with (go_at_call 35; refine (HRN.out _ HI.out.now.2.2).mono ?_; rintro e w39 ⟨rfl, hb⟩; have HI_ := am_ (HI.out.grow hb); clear HI; have HI := HI_; clear HI_; clear hb; obtain ⟨qB, eB, hp2⟩ := HI.out.now.1 j hjp; rw [HO.out] at hp2; cases eB; have hc4 : w39.cell? ⟨G4, 1, none⟩ = some (.int .i64 a) := (blk_cell HI.out.blk0 1).trans rfl; have hf4 := blk_frozen HI.out.blk0 1)
       go_roundg k1
       case measure => omega
       case rel =>
        have hB := HBG.out
        have wj : wrap64 ((j : Int) + 1) = ((j + 1 : Nat) : Int) := by unfold wrap64; omega
        exact ⟨j + 1, v, b, c, by first | rfl | rw [wj], ⟨(by have := HJ.out; omega)⟩, HR, ⟨Inv.cellsEq (HI.out.set0 1 (.int .i64 v)) rfl⟩⟩
      ·
       rw [ho] at hR
       have HR := am_ (show impl_readGate.go k op0 (ps.drop (j + 1)) (xs.drop (j + 1)) a v c = some (r1, r2, r3, r4, r5) from hR)
       have HO := am_ ho
       clear hR ho
       go_wp2_with (go_at_call 35; refine (HRN.out _ HI.out.now.2.2).mono ?_; rintro e w39 ⟨rfl, hb⟩; have HI_ := am_ (HI.out.grow hb); clear HI; have HI := HI_; clear HI_; clear hb; obtain ⟨qB, eB, hp2⟩ := HI.out.now.1 j hjp; rw [HO.out] at hp2; cases eB; have hc4 : w39.cell? ⟨G4, 2, none⟩ = some (.int .i64 b) := (blk_cell HI.out.blk0 2).trans rfl; have hf4 := blk_frozen HI.out.blk0 2)
       go_roundg k1
       case measure => omega
       case rel =>
        have hB := HBG.out
        have wj : wrap64 ((j : Int) + 1) = ((j + 1 : Nat) : Int) := by unfold wrap64; omega
        exact ⟨j + 1, a, v, c, by first | rfl | rw [wj], ⟨(by have := HJ.out; omega)⟩, HR, ⟨Inv.cellsEq (HI.out.set0 2 (.int .i64 v)) rfl⟩⟩
      ·
       rw [ho] at hR
       have HR := am_ (show impl_readGate.go k op0 (ps.drop (j + 1)) (xs.drop (j + 1)) a b v = some (r1, r2, r3, r4, r5) from hR)
       have HO := am_ ho
       clear hR ho
       go_wp2_with (go_at_call 35; refine (HRN.out _ HI.out.now.2.2).mono ?_; rintro e w39 ⟨rfl, hb⟩; have HI_ := am_ (HI.out.grow hb); clear HI; have HI := HI_; clear HI_; clear hb; obtain ⟨qB, eB, hp2⟩ := HI.out.now.1 j hjp; rw [HO.out] at hp2; cases eB; have hc4 : w39.cell? ⟨G4, 3, none⟩ = some (.int .i64 c) := (blk_cell HI.out.blk0 3).trans rfl; have hf4 := blk_frozen HI.out.blk0 3)
       go_roundg k1
       case measure => omega
       case rel =>
        have hB := HBG.out
        have wj : wrap64 ((j : Int) + 1) = ((j + 1 : Nat) : Int) := by unfold wrap64; omega
        exact ⟨j + 1, a, b, v, by first | rfl | rw [wj], ⟨(by have := HJ.out; omega)⟩, HR, ⟨Inv.cellsEq (HI.out.set0 3 (.int .i64 v)) rfl⟩⟩
 ·
  have HR := H.out
  rw [if_neg hl] at HR
  clear H
  have m1 : ((ps.length : Int) != (xs.length : Int)) = true := by simp; omega
  simp only [Option.some.injEq, Prod.mk.injEq] at HR
  obtain ⟨rfl, rfl, rfl, rfl, rfl⟩ := HR
  go_wp2_with (first | (go_at_call 15; (with_reducible refine (impl_Gate_nums.calls G4 op0 0 0 0 _ HI.out.blk0).mono ?_); rintro e w21 ⟨A, cN, rfl, hcells, hb⟩; rw [HPS.out] at hcells ⊢; have HI_ := am_ (Inv.ptrs (HI.out.grow hb) hcells); clear HI; have HI := HI_; clear HI_; clear hcells hb) | ((with_reducible refine gate_store (p := 2) (v := (.tmp 28)) (t := 30) rfl ?_); go_must (refine wpList_store_row rfl 30 _ _ rfl g2 (#[.int .i64 0, .int .i64 0, .int .i64 0, .int .i64 0]) rfl (by first | rfl | (go_simp; rfl)) 30 (#[.int .i64 0, .int .i64 0, .int .i64 0, .int .i64 0]) (Inv.blk0 (HI.out.swap)) (by kernel_rfl) (by rfl) qz12_ ?_; have HI_ := am_ (Inv.put0 (HI.out.swap) (#[.int .i64 0, .int .i64 0, .int .i64 0, .int .i64 0])); clear HI; have HI := HI_; clear HI_; generalize World.setRow _ g2 (#[.int .i64 0, .int .i64 0, .int .i64 0, .int .i64 0]) = w28 at HI ⊢)))
  refine bodyPost_ret (results_ct rfl _ _ g2 30 (#[.int .i64 0, .int .i64 0, .int .i64 0, .int .i64 0]) (0, 0) _ rfl (HI.out.blk0) Tryd.underlying30 rfl (by kernel_rfl)) rfl ?_
  exact ⟨rfl, HI.out.below⟩
end Go.Proofs.YtokljkneflejdaaDoor.PT
end
section
/- What wordsOf returns: the runs of bytes that are not blanks. -/
namespace Go.Proofs.YtokljkneflejdaaDoor.PT
open Go Go.RowKit Go.Lib Go.Proofs.YtokljkneflejdaaDoorW.PrintWords Go.Proofs.YtokljkneflejdaaDoorW.PrintLast Go.Proofs.YtokljkneflejdaaDoorW.PrintMore
set_option linter.unusedVariables false
set_option linter.unusedSimpArgs false
def piecesB (t : ByteArray) : List ByteArray := splitB ⟨#[32]⟩ 0 (countB t ⟨#[32]⟩) t
def emptyB (x : ByteArray) : Bool := x.toList.isEmpty
def wordsB (t : ByteArray) : List ByteArray := (piecesB t).filter fun x => !emptyB x
theorem pieces_size (t : ByteArray) : (piecesB t).toArray.size = countB t ⟨#[32]⟩ + 1 := by
 rw [List.size_toArray]
 exact splitB_all ⟨#[32]⟩ (by decide) 0 _ t rfl
theorem empty_gives (W : World) (x : ByteArray) : FnGives Tryd.prog 38 #[] #[.string x] (.bool (emptyB x)) W := by
 unfold FnGives
 go_enter Tryd.func38, Tryd.ntmps38
 go_wp2
 all_goals (go_ret; exact ⟨rfl, 0, rfl⟩)
set_option maxHeartbeats 4000000 in
set_option maxRecDepth 100000 in
theorem impl_wordsOf.calls (t : ByteArray) (w : World) (hs : t.size < 4294967281) (hg : RG w) : Calls Tryd.prog 23 #[.string t] w fun e w' => ∃ q c, e = .returned (.slice q (wordsB t).length c) ∧ (wordsB t).length ≤ c ∧ wordsIn q (wordsB t) w' ∧ Below w.heap.size w w' := by
 obtain ⟨m, hm⟩ := hg.max
 have hsp := Tryd.strings_Split t ⟨#[32]⟩ m w hs hm (by decide)
 have hz := pieces_size t
 have eg : ∀ args w, (callFunc 38 args).run Tryd.prog w = .ok (.enter 38 args) w := _root_.Go.Proofs.enters_of Tryd.func38 (by kernel_rfl) rfl
 have hsz : (piecesB t).toArray.size ≤ 9223372036854775807 := by
  rw [hz]
  have := countB_le ⟨#[32]⟩ (by decide) t.size t (Nat.le_refl _)
  omega
 obtain ⟨ob, hob⟩ : ∃ ob : Obj, ob = .cells ((piecesB t).map Value.string).toArray 9 := ⟨_, rfl⟩
 have hH : Sort.Holds Value.string (w.alloc ob) w.heap.size 0 (piecesB t).toArray := fun j hj => by
  subst hob
  have hj' : j < (piecesB t).length := by simpa using hj
  have e : (piecesB t).toArray[j]! = (piecesB t)[j] := by rw [getElem!_pos _ j hj]; simp
  rw [e]
  constructor
  ·
   rw [Nat.zero_add, World.cell?_alloc_new]; simp [hj']
  ·
   exact World.frozen?_alloc_new _ _ _ _
 have hcon := Tryd.slices_DeleteFunc Value.string (fun _ => rfl) emptyB 38 #[] eg ByteArray.empty Tryd.zeroValue9 w.heap.size 0 (countB t ⟨#[32]⟩ + 1) (piecesB t).toArray (w.alloc ob) (fun W x _ => empty_gives W x) (fun n os dk x _ => empty_gives _ x) hH hsz (by rw [hz]; exact Nat.le_refl _)
 rw [hz] at hcon
 rw [show ((piecesB t).toArray.toList.filter fun x => !emptyB x) = wordsB t from rfl] at hcon
 have hle : (wordsB t).length ≤ countB t ⟨#[32]⟩ + 1 := by rw [← hz, List.size_toArray]; exact List.length_filter_le _ _
 have hsp2 := hsp.mono (R' := fun e w' => e = .returned (.slice (some ⟨w.heap.size, 0, none⟩) (countB t ⟨#[32]⟩ + 1) (countB t ⟨#[32]⟩ + 1)) ∧ w' = w.alloc ob) (fun e w' h => by subst hob; exact h)
 generalize hws : wordsB t = ws at hcon hle ⊢
 generalize countB t ⟨#[32]⟩ + 1 = n at hcon hsp2 hle hz
 have HC := am_ hcon
 have HP := am_ hsp2
 have HH := am_ hH
 have HZ := am_ hz
 clear hcon hsp hsp2 hm hH hz hob hws hsz
 go_enter Tryd.func23, Tryd.ntmps23
 go_wp2_with (first | (go_at_call 37; refine HP.out.mono ?_; rintro e w1 ⟨rfl, rfl⟩) | (go_at_call 36; refine HC.out.mono ?_; rintro e w2 ⟨rfl, q, rfl⟩))
 go_ret
 refine ⟨some ⟨w.heap.size, 0, none⟩, n, rfl, hle, fun j hj => ⟨w.heap.size, 0, rfl, ?_⟩, below_putRow (below_alloc (Below.refl _ _) _) (Nat.le_refl _)⟩
 have hss : (ws ++ List.replicate (n - ws.length) ByteArray.empty).toArray.size = (piecesB t).toArray.size := by rw [HZ.out]; simp; omega
 have hg2 := (Sort.holds_putRow Value.string (Sort.ahead (w.alloc ob) q) w.heap.size 0 (piecesB t).toArray _ (Sort.holds_ahead Value.string _ q _ _ _ HH.out) hss j (by rw [hss, HZ.out]; omega)).1
 rw [hg2, getElem!_pos _ j (by rw [hss, HZ.out]; omega)]
 simp [hj]
def impl_isLong.f (a0 : ByteArray) : Option (Bool) := some (decide ((a0.size : Int) > 65536))
set_option maxHeartbeats 8000000 in
set_option maxRecDepth 100000 in
theorem impl_isLong.calls (a0 : ByteArray) (r : Bool) (w : World) (h : impl_isLong.f a0 = some r) :
  Calls Tryd.prog 21 #[.string a0] w fun e w' => e = .returned (.bool r) ∧ Drawn0 w w' := by
 have H : (some (decide ((a0.size : Int) > 65536))) = some r := h
 clear h
 obtain rfl := Option.some.inj H
 go_enter Tryd.func21, Tryd.ntmps21
 go_wp2
 go_ret
 exact ⟨qz0_, qz1_⟩

end Go.Proofs.YtokljkneflejdaaDoor.PT
end
section
/- What ReadGate returns. -/
namespace Go.Proofs.YtokljkneflejdaaDoor.PT
open Go Go.RowKit Go.Lib Go.Proofs.YtokljkneflejdaaDoorW.PrintWords Go.Proofs.YtokljkneflejdaaDoorW.PrintLast Go.Proofs.YtokljkneflejdaaDoorW.PrintMore
set_option linter.unusedVariables false
set_option linter.unusedSimpArgs false
theorem splitB_le (sep : ByteArray) : ∀ (k : Nat) (s : ByteArray), ∀ x ∈ splitB sep 0 k s, x.size ≤ s.size
 | 0, s, x, hx => by
  rw [splitB, List.mem_singleton] at hx
  subst hx
  exact Nat.le_refl _
 | k + 1, s, x, hx => by
  rw [splitB] at hx
  split at hx
  ·
   rw [List.mem_singleton] at hx; subst hx; exact Nat.le_refl _
  ·
   rcases List.mem_cons.1 hx with e | h
   ·
    subst e
    rw [ByteArray.size_extract]; omega
   ·
    have := splitB_le sep k _ x h
    rw [ByteArray.size_extract] at this
    omega
theorem words_size {t x : ByteArray} (h : x ∈ wordsB t) : x.size ≤ t.size := splitB_le _ _ _ _ (List.mem_filter.1 h).1
theorem words_length (t : ByteArray) : (wordsB t).length ≤ t.size + 1 := by
 have h1 : (wordsB t).length ≤ (piecesB t).length := List.length_filter_le _ _
 have h2 := pieces_size t
 have h3 := countB_le ⟨#[32]⟩ (by decide) t.size t (Nat.le_refl _)
 rw [List.size_toArray] at h2
 omega
theorem impl_readGate.any (k : Nat) (q : Option Addr) (c0 : Nat) (ws : List ByteArray) (hcap : ws.length ≤ c0) (hbig : ws.length ≤ 1000000) (hsz : ∀ x ∈ ws, x.size ≤ 281474976710656) (r1 r2 r3 r4 : Int) (r5 : Bool) (w : World) (hw : wordsIn q ws w) (hg : RG w) (h : impl_readGate.f k ws = some (r1, r2, r3, r4, r5)) :
  Calls Tryd.prog 22 #[.slice q ws.length c0] w fun e w' => e = .returned (.tuple #[.agg #[.int .i64 r1, .int .i64 r2, .int .i64 r3, .int .i64 r4], .bool r5]) ∧ Below w.heap.size w w' := by
 cases ws with
 | nil =>
  have h2 : some ((0 : Int), (0 : Int), (0 : Int), (0 : Int), false) = some (r1, r2, r3, r4, r5) := h
  simp only [Option.some.injEq, Prod.mk.injEq] at h2
  obtain ⟨rfl, rfl, rfl, rfl, rfl⟩ := h2
  exact impl_readGate.nil q c0 w
 | cons x xs =>
  obtain ⟨b0, o0, rfl, _⟩ := hw 0 (by simp)
  exact impl_readGate.calls k b0 o0 c0 (x :: xs) x xs rfl hcap hbig hsz r1 r2 r3 r4 r5 w hw hg h
def impl_ReadGate.f (k : Nat) (t : ByteArray) : Option (Int × Int × Int × Int × Int) := if (t.size : Int) > 65536 then some (0, 0, 0, 0, 2) else (impl_readGate.f k (wordsB t)).bind fun r => if r.2.2.2.2 = true then some (r.1, r.2.1, r.2.2.1, r.2.2.2.1, 0) else some (0, 0, 0, 0, 3)
set_option maxHeartbeats 8000000 in
set_option maxRecDepth 100000 in
theorem impl_ReadGate.calls (k : Nat) (t : ByteArray) (r1 r2 r3 r4 r5 : Int) (w : World) (hg : RG w) (h : impl_ReadGate.f k t = some (r1, r2, r3, r4, r5)) : Calls Tryd.prog 8 #[.string t] w fun e w' => e = .returned (.tuple #[.agg #[.int .i64 r1, .int .i64 r2, .int .i64 r3, .int .i64 r4], .int .i64 r5]) ∧ Below w.heap.size w w' := by
 have hu30 := Tryd.underlying30
 have HI := am_ (Inv.start w RG (fun W hb => hg.below hb))
 unfold impl_ReadGate.f at h
 clear hg
 by_cases c1 : (t.size : Int) > 65536
 ·
  rw [if_pos c1] at h
  simp only [Option.some.injEq, Prod.mk.injEq] at h
  obtain ⟨rfl, rfl, rfl, rfl, rfl⟩ := h
  have HL := am_ (show impl_isLong.f t = some true by unfold impl_isLong.f; rw [decide_eq_true c1])
  clear c1
  go_enter Tryd.func8, Tryd.ntmps8
  go_wp2_with (first | ((with_reducible refine gate_dst (N := 2) rfl ?_); refine box_event ?hg (N := 2) ?hd (cs := #[.int .i64 0, .int .i64 0, .int .i64 0, .int .i64 0]) (t := 30) ?hr ?_; (case hd => rfl); (case hg => rfl); (case hr => first | (go_simp; done) | (go_simp; rfl)); intro g2 hg w1 hbox hb; have HI_ := am_ ((HI.out).box hg hbox hb); clear HI; have HI := HI_; clear HI_; clear hb hbox hg) | (go_at_call 21; refine (impl_isLong.calls t true _ HL.out).mono ?_; rintro e w7 ⟨rfl, ⟨nd, rfl⟩⟩; have HI_ := am_ (HI.out.drewN nd); clear HI; have HI := HI_; clear HI_) | ((with_reducible refine gate_store (p := 2) (v := (.tmp 8)) (t := 30) rfl ?_); go_must (refine wpList_store_row rfl 30 _ _ rfl g2 (#[.int .i64 0, .int .i64 0, .int .i64 0, .int .i64 0]) rfl (by first | rfl | (go_simp; rfl)) 30 (#[.int .i64 0, .int .i64 0, .int .i64 0, .int .i64 0]) (Inv.blk0 (HI.out)) (by kernel_rfl) (by rfl) qz12_ ?_; have HI_ := am_ (Inv.put0 (HI.out) (#[.int .i64 0, .int .i64 0, .int .i64 0, .int .i64 0])); clear HI; have HI := HI_; clear HI_; generalize World.setRow _ g2 (#[.int .i64 0, .int .i64 0, .int .i64 0, .int .i64 0]) = w8 at HI ⊢)))
  refine bodyPost_ret (results_ct rfl _ _ g2 30 (#[.int .i64 0, .int .i64 0, .int .i64 0, .int .i64 0]) (0, 0) _ rfl (HI.out.blk0) Tryd.underlying30 rfl (by kernel_rfl)) rfl ?_
  exact ⟨rfl, HI.out.below⟩
 ·
  rw [if_neg c1] at h
  have HL := am_ (show impl_isLong.f t = some false by unfold impl_isLong.f; rw [decide_eq_false c1])
  obtain ⟨⟨t1, t2, t3, t4, t5⟩, hf, h⟩ := Option.bind_eq_some_iff.mp h
  have HF := am_ hf
  have HS := am_ (show t.size < 4294967281 by omega)
  have HBIG := am_ (show (wordsB t).length ≤ 1000000 by have := words_length t; omega)
  have HSZ := am_ (show ∀ x ∈ wordsB t, x.size ≤ 281474976710656 from fun x hx => by have := words_size hx; omega)
  clear c1 hf
  cases t5 with
  | true =>
   rw [if_pos rfl] at h
   simp only [Option.some.injEq, Prod.mk.injEq] at h
   obtain ⟨rfl, rfl, rfl, rfl, rfl⟩ := h
   go_enter Tryd.func8, Tryd.ntmps8
   go_wp2_with (first | ((with_reducible refine gate_dst (N := 2) rfl ?_); refine box_event ?hg (N := 2) ?hd (cs := #[.int .i64 0, .int .i64 0, .int .i64 0, .int .i64 0]) (t := 30) ?hr ?_; (case hd => rfl); (case hg => rfl); (case hr => first | (go_simp; done) | (go_simp; rfl)); intro g2 hg w1 hbox hb; have HI_ := am_ ((HI.out).box hg hbox hb); clear HI; have HI := HI_; clear HI_; clear hb hbox hg) | (go_at_call 21; refine (impl_isLong.calls t false _ HL.out).mono ?_; rintro e w7 ⟨rfl, ⟨nd, rfl⟩⟩; have HI_ := am_ (HI.out.drewN nd); clear HI; have HI := HI_; clear HI_) | (go_at_call 23; refine (impl_wordsOf.calls t _ HS.out HI.out.now).mono ?_; rintro e w11 ⟨q, c, rfl, hcap, hwi, hb⟩; have HI_ := am_ (HI.out.grow hb); clear HI; have HI := HI_; clear HI_; have HWI := am_ hwi; have HCP := am_ hcap; clear hb hcap hwi) | (go_at_call 22; refine (impl_readGate.any k q c (wordsB t) HCP.out HBIG.out HSZ.out t1 t2 t3 t4 true _ HWI.out HI.out.now HF.out).mono ?_; rintro e w12 ⟨rfl, hb⟩; have HI_ := am_ (HI.out.grow hb); clear HI; have HI := HI_; clear HI_; clear hb HWI) | ((with_reducible refine gate_dst (N := 4) rfl ?_); refine box_event ?hg (N := 4) ?hd (cs := #[.int .i64 0, .int .i64 0, .int .i64 0, .int .i64 0]) (t := 30) ?hr ?_; (case hd => rfl); (case hg => rfl); (case hr => first | (go_simp; done) | (go_simp; rfl)); intro g4 hg w4 hbox hb; have HI_ := am_ ((HI.out).box hg hbox hb); clear HI; have HI := HI_; clear HI_; clear hb hbox hg) | ((with_reducible refine gate_store (p := 4) (v := (.tmp 13)) (t := 30) rfl ?_); go_must (refine wpList_store_row rfl 30 _ _ rfl g4 (#[.int .i64 t1, .int .i64 t2, .int .i64 t3, .int .i64 t4]) rfl (by first | rfl | (go_simp; rfl)) 30 (#[.int .i64 0, .int .i64 0, .int .i64 0, .int .i64 0]) (Inv.blk0 (HI.out)) (by kernel_rfl) (by rfl) qz12_ ?_; have HI_ := am_ (Inv.put0 (HI.out) (#[.int .i64 t1, .int .i64 t2, .int .i64 t3, .int .i64 t4])); clear HI; have HI := HI_; clear HI_; generalize World.setRow _ g4 (#[.int .i64 t1, .int .i64 t2, .int .i64 t3, .int .i64 t4]) = w5 at HI ⊢)) | ((with_reducible refine gate_dst (N := 18) rfl ?_); go_must (refine wpList_load_row rfl 30 _ rfl g4 rfl 30 (#[.int .i64 t1, .int .i64 t2, .int .i64 t3, .int .i64 t4]) (0, 0) _ (HI.out.blk0) hu30 rfl (by kernel_rfl) ?_)) | ((with_reducible refine gate_store (p := 2) (v := (.tmp 18)) (t := 30) rfl ?_); go_must (refine wpList_store_row rfl 30 _ _ rfl g2 (#[.int .i64 t1, .int .i64 t2, .int .i64 t3, .int .i64 t4]) rfl (by first | rfl | (go_simp; rfl)) 30 (#[.int .i64 0, .int .i64 0, .int .i64 0, .int .i64 0]) (Inv.blk0 (HI.out.swap)) (by kernel_rfl) (by rfl) qz12_ ?_; have HI_ := am_ (Inv.put0 (HI.out.swap) (#[.int .i64 t1, .int .i64 t2, .int .i64 t3, .int .i64 t4])); clear HI; have HI := HI_; clear HI_; generalize World.setRow _ g2 (#[.int .i64 t1, .int .i64 t2, .int .i64 t3, .int .i64 t4]) = w18 at HI ⊢)))
   refine bodyPost_ret (results_ct rfl _ _ g2 30 (#[.int .i64 t1, .int .i64 t2, .int .i64 t3, .int .i64 t4]) (0, 0) _ rfl (HI.out.blk0) Tryd.underlying30 rfl (by kernel_rfl)) rfl ?_
   exact ⟨rfl, HI.out.below⟩
  | false =>
   rw [if_neg (by simp)] at h
   simp only [Option.some.injEq, Prod.mk.injEq] at h
   obtain ⟨rfl, rfl, rfl, rfl, rfl⟩ := h
   go_enter Tryd.func8, Tryd.ntmps8
   go_wp2_with (first | ((with_reducible refine gate_dst (N := 2) rfl ?_); refine box_event ?hg (N := 2) ?hd (cs := #[.int .i64 0, .int .i64 0, .int .i64 0, .int .i64 0]) (t := 30) ?hr ?_; (case hd => rfl); (case hg => rfl); (case hr => first | (go_simp; done) | (go_simp; rfl)); intro g2 hg w1 hbox hb; have HI_ := am_ ((HI.out).box hg hbox hb); clear HI; have HI := HI_; clear HI_; clear hb hbox hg) | (go_at_call 21; refine (impl_isLong.calls t false _ HL.out).mono ?_; rintro e w7 ⟨rfl, ⟨nd, rfl⟩⟩; have HI_ := am_ (HI.out.drewN nd); clear HI; have HI := HI_; clear HI_) | (go_at_call 23; refine (impl_wordsOf.calls t _ HS.out HI.out.now).mono ?_; rintro e w11 ⟨q, c, rfl, hcap, hwi, hb⟩; have HI_ := am_ (HI.out.grow hb); clear HI; have HI := HI_; clear HI_; have HWI := am_ hwi; have HCP := am_ hcap; clear hb hcap hwi) | (go_at_call 22; refine (impl_readGate.any k q c (wordsB t) HCP.out HBIG.out HSZ.out t1 t2 t3 t4 false _ HWI.out HI.out.now HF.out).mono ?_; rintro e w12 ⟨rfl, hb⟩; have HI_ := am_ (HI.out.grow hb); clear HI; have HI := HI_; clear HI_; clear hb HWI) | ((with_reducible refine gate_dst (N := 4) rfl ?_); refine box_event ?hg (N := 4) ?hd (cs := #[.int .i64 0, .int .i64 0, .int .i64 0, .int .i64 0]) (t := 30) ?hr ?_; (case hd => rfl); (case hg => rfl); (case hr => first | (go_simp; done) | (go_simp; rfl)); intro g4 hg w4 hbox hb; have HI_ := am_ ((HI.out).box hg hbox hb); clear HI; have HI := HI_; clear HI_; clear hb hbox hg) | ((with_reducible refine gate_store (p := 4) (v := (.tmp 13)) (t := 30) rfl ?_); go_must (refine wpList_store_row rfl 30 _ _ rfl g4 (#[.int .i64 t1, .int .i64 t2, .int .i64 t3, .int .i64 t4]) rfl (by first | rfl | (go_simp; rfl)) 30 (#[.int .i64 0, .int .i64 0, .int .i64 0, .int .i64 0]) (Inv.blk0 (HI.out)) (by kernel_rfl) (by rfl) qz12_ ?_; have HI_ := am_ (Inv.put0 (HI.out) (#[.int .i64 t1, .int .i64 t2, .int .i64 t3, .int .i64 t4])); clear HI; have HI := HI_; clear HI_; generalize World.setRow _ g4 (#[.int .i64 t1, .int .i64 t2, .int .i64 t3, .int .i64 t4]) = w5 at HI ⊢)) | ((with_reducible refine gate_store (p := 2) (v := (.tmp 17)) (t := 30) rfl ?_); go_must (refine wpList_store_row rfl 30 _ _ rfl g2 (#[.int .i64 0, .int .i64 0, .int .i64 0, .int .i64 0]) rfl (by first | rfl | (go_simp; rfl)) 30 (#[.int .i64 0, .int .i64 0, .int .i64 0, .int .i64 0]) (Inv.blk0 (HI.out.swap)) (by kernel_rfl) (by rfl) qz12_ ?_; have HI_ := am_ (Inv.put0 (HI.out.swap) (#[.int .i64 0, .int .i64 0, .int .i64 0, .int .i64 0])); clear HI; have HI := HI_; clear HI_; generalize World.setRow _ g2 (#[.int .i64 0, .int .i64 0, .int .i64 0, .int .i64 0]) = w17 at HI ⊢)))
   refine bodyPost_ret (results_ct rfl _ _ g2 30 (#[.int .i64 0, .int .i64 0, .int .i64 0, .int .i64 0]) (0, 0) _ rfl (HI.out.blk0) Tryd.underlying30 rfl (by kernel_rfl)) rfl ?_
   exact ⟨rfl, HI.out.below⟩
end Go.Proofs.YtokljkneflejdaaDoor.PT
end
section
/- What the reference reads out of a text: its words and their numbers, as the library tells them. -/
namespace Go.Proofs.YtokljkneflejdaaDoor.PT
open Go Go.RowKit Go.Lib Go.Proofs.YtokljkneflejdaaDoorW.PrintWords Go.Proofs.YtokljkneflejdaaDoorW.PrintLast Go.Proofs.YtokljkneflejdaaDoorW.PrintMore
set_option linter.unusedVariables false
set_option linter.unusedSimpArgs false
def nonE (x : List UInt8) : Bool := !x.isEmpty
theorem map_data_inj : ∀ (a b : List ByteArray), a.map (·.data.toList) = b.map (·.data.toList) → a = b
 | [], [], _ => rfl
 | [], _ :: _, h => by simp at h
 | _ :: _, [], h => by simp at h
 | x :: a, y :: b, h => by
  simp only [List.map_cons, List.cons.injEq] at h
  have e : x = y := ByteArray.ext (Array.toList_inj.1 h.1)
  rw [e, map_data_inj a b h.2]
theorem wordsB_data (t : ByteArray) : (wordsB t).map (·.data.toList) = wordsL t.data.toList := by
 have e : ∀ x : ByteArray, (!emptyB x) = nonE x.data.toList := fun x => by unfold emptyB nonE; rw [toList_data]
 have h1 : wordsB t = (piecesB t).filter fun x => nonE x.data.toList := by
  unfold wordsB
  congr 1
  funext x
  exact e x
 have h2 : ((piecesB t).filter fun x => nonE x.data.toList).map (·.data.toList) = ((piecesB t).map (·.data.toList)).filter nonE := by
  rw [List.filter_map]; rfl
 rw [h1, h2]
 unfold piecesB
 rw [splitB_data]
 exact splitK_words t.data.toList
def spec_l11Names.f  : Option (List ByteArray) := some (([(⟨#[]⟩ : ByteArray), (⟨#[105, 110, 112, 117, 116]⟩ : ByteArray), (⟨#[112, 117, 98, 108, 105, 99]⟩ : ByteArray), (⟨#[99, 111, 110, 115, 116]⟩ : ByteArray), (⟨#[97, 100, 100]⟩ : ByteArray), (⟨#[115, 117, 98]⟩ : ByteArray), (⟨#[109, 117, 108]⟩ : ByteArray), (⟨#[101, 113, 117, 97, 108]⟩ : ByteArray), (⟨#[98, 105, 116]⟩ : ByteArray)] : List ByteArray))
set_option maxHeartbeats 8000000 in
set_option maxRecDepth 100000 in
theorem spec_l11Names.calls  (r : List ByteArray) (w : World) (h : spec_l11Names.f  = some r) :
  Calls Tryd.prog 18 #[] w fun e w' => ∃ v0_ : Value, e = .returned (v0_) ∧ Kd.R Kd.string 9 w' w.heap.size (fun _ => True) v0_ r ∧ Below w.heap.size w w' := by
 have HB := am_ (Below.refl w.heap.size w)
 have H : (some (([(⟨#[]⟩ : ByteArray), (⟨#[105, 110, 112, 117, 116]⟩ : ByteArray), (⟨#[112, 117, 98, 108, 105, 99]⟩ : ByteArray), (⟨#[99, 111, 110, 115, 116]⟩ : ByteArray), (⟨#[97, 100, 100]⟩ : ByteArray), (⟨#[115, 117, 98]⟩ : ByteArray), (⟨#[109, 117, 108]⟩ : ByteArray), (⟨#[101, 113, 117, 97, 108]⟩ : ByteArray), (⟨#[98, 105, 116]⟩ : ByteArray)] : List ByteArray))) = some r := h
 clear h
 obtain ⟨y101, hy101⟩ : ∃ y_ : List ByteArray, y_ = (([(⟨#[]⟩ : ByteArray), (⟨#[105, 110, 112, 117, 116]⟩ : ByteArray), (⟨#[112, 117, 98, 108, 105, 99]⟩ : ByteArray), (⟨#[99, 111, 110, 115, 116]⟩ : ByteArray), (⟨#[97, 100, 100]⟩ : ByteArray), (⟨#[115, 117, 98]⟩ : ByteArray), (⟨#[109, 117, 108]⟩ : ByteArray), (⟨#[101, 113, 117, 97, 108]⟩ : ByteArray), (⟨#[98, 105, 116]⟩ : ByteArray)] : List ByteArray)) := ⟨_, rfl⟩
 replace H : (some y101) = some r := by first | (rw [hy101]; with_reducible exact H) | (have H2_ := (Option.bind_some _ _).symm.trans H; rw [hy101]; with_reducible exact H2_) | (have H2_ := (Option.bind_some _ _).symm.trans H; with_reducible exact H2_) | with_reducible exact H | (rw [hy101]; exact H) | exact H
 have Ny101 := am_ hy101
 clear hy101
 obtain rfl := Option.some.inj H
 go_enter Tryd.func18, Tryd.ntmps18
 go_wp2_with (first | ((with_reducible refine gate_dst (N := 1) rfl ?_); refine Kd.R_lit Kd.string _ 9 ?hg (N := 1) ?hd (xs := ([(⟨#[]⟩ : ByteArray), (⟨#[105, 110, 112, 117, 116]⟩ : ByteArray), (⟨#[112, 117, 98, 108, 105, 99]⟩ : ByteArray), (⟨#[99, 111, 110, 115, 116]⟩ : ByteArray), (⟨#[97, 100, 100]⟩ : ByteArray), (⟨#[115, 117, 98]⟩ : ByteArray), (⟨#[109, 117, 108]⟩ : ByteArray), (⟨#[101, 113, 117, 97, 108]⟩ : ByteArray), (⟨#[98, 105, 116]⟩ : ByteArray)] : List ByteArray)) (inner := [.string (⟨#[]⟩ : ByteArray), .string (⟨#[105, 110, 112, 117, 116]⟩ : ByteArray), .string (⟨#[112, 117, 98, 108, 105, 99]⟩ : ByteArray), .string (⟨#[99, 111, 110, 115, 116]⟩ : ByteArray), .string (⟨#[97, 100, 100]⟩ : ByteArray), .string (⟨#[115, 117, 98]⟩ : ByteArray), .string (⟨#[109, 117, 108]⟩ : ByteArray), .string (⟨#[101, 113, 117, 97, 108]⟩ : ByteArray), .string (⟨#[98, 105, 116]⟩ : ByteArray)]) (ok := fun _ => True) (okp := fun _ => True) ?hr ?hp (fun _ hk => hk) trivial (Below.refl _ _) (Nat.le_refl _) (by simp) ?_; (case hd => rfl); (case hg => rfl); (case hr => first | (go_simp; done) | (go_simp; rfl)); (case hp => exact (Reps.one (show Kd.M Kd.string _ _ _ (⟨#[]⟩ : ByteArray) [.string (⟨#[]⟩ : ByteArray)] from rfl) (Reps.one (show Kd.M Kd.string _ _ _ (⟨#[105, 110, 112, 117, 116]⟩ : ByteArray) [.string (⟨#[105, 110, 112, 117, 116]⟩ : ByteArray)] from rfl) (Reps.one (show Kd.M Kd.string _ _ _ (⟨#[112, 117, 98, 108, 105, 99]⟩ : ByteArray) [.string (⟨#[112, 117, 98, 108, 105, 99]⟩ : ByteArray)] from rfl) (Reps.one (show Kd.M Kd.string _ _ _ (⟨#[99, 111, 110, 115, 116]⟩ : ByteArray) [.string (⟨#[99, 111, 110, 115, 116]⟩ : ByteArray)] from rfl) (Reps.one (show Kd.M Kd.string _ _ _ (⟨#[97, 100, 100]⟩ : ByteArray) [.string (⟨#[97, 100, 100]⟩ : ByteArray)] from rfl) (Reps.one (show Kd.M Kd.string _ _ _ (⟨#[115, 117, 98]⟩ : ByteArray) [.string (⟨#[115, 117, 98]⟩ : ByteArray)] from rfl) (Reps.one (show Kd.M Kd.string _ _ _ (⟨#[109, 117, 108]⟩ : ByteArray) [.string (⟨#[109, 117, 108]⟩ : ByteArray)] from rfl) (Reps.one (show Kd.M Kd.string _ _ _ (⟨#[101, 113, 117, 97, 108]⟩ : ByteArray) [.string (⟨#[101, 113, 117, 97, 108]⟩ : ByteArray)] from rfl) (Reps.one (show Kd.M Kd.string _ _ _ (⟨#[98, 105, 116]⟩ : ByteArray) [.string (⟨#[98, 105, 116]⟩ : ByteArray)] from rfl) (Reps.none _ _))))))))))); intro v102 w1 ho2 hb hg_ hnew_; clear hg_ hnew_; (first | rw [← Ny101.out] at ho2 | (simp only [Int.reduceToNat] at ho2; rw [← Ny101.out] at ho2)); have n0_ := am_ (Kd.R_lower ho2 (below_size qz3_)); have n1_ := am_ (below_step qz3_ hb); clear HB; have HO103 := n0_; have HB := n1_; clear n0_ n1_; clear hb ho2))
 go_ret
 exact ⟨_, qz5_, (by (with_reducible repeat (first | apply Kd.R_alloc | apply Kd.R_drewN | apply Kd.R_drew)); exact HO103.out), qz3_⟩

end Go.Proofs.YtokljkneflejdaaDoor.PT
end
section
/- ReadGate: both sides read the same gate. -/
namespace Go.Proofs.YtokljkneflejdaaDoor.PT
open Go Go.RowKit Go.Lib Go.Proofs.YtokljkneflejdaaDoorW.PrintWords Go.Proofs.YtokljkneflejdaaDoorW.PrintLast Go.Proofs.YtokljkneflejdaaDoorW.PrintMore
set_option linter.unusedVariables false
set_option linter.unusedSimpArgs false
def opNames : List ByteArray := [(⟨#[105, 110, 112, 117, 116]⟩ : ByteArray), (⟨#[112, 117, 98, 108, 105, 99]⟩ : ByteArray), (⟨#[99, 111, 110, 115, 116]⟩ : ByteArray), (⟨#[97, 100, 100]⟩ : ByteArray), (⟨#[115, 117, 98]⟩ : ByteArray), (⟨#[109, 117, 108]⟩ : ByteArray), (⟨#[101, 113, 117, 97, 108]⟩ : ByteArray), (⟨#[98, 105, 116]⟩ : ByteArray)]
theorem names_impl : impl_opWords.f = some opNames := rfl
def lastM (names : List ByteArray) (x : List UInt8) : Nat → Nat → Int → Int
 | 0, _, op => op
 | d + 1, i, op => lastM names x d (i + 1) (if (names.getD i ByteArray.empty).data.toList = x then (i : Int) else op)
def firstM (names : List ByteArray) (x : List UInt8) : Nat → Nat → Int
 | 0, _ => -1
 | d + 1, i => if x = (names.getD i ByteArray.empty).data.toList then (i : Int) else firstM names x d (i + 1)
theorem firstM_l0 (names : List ByteArray) (x : ByteArray) (hn : names.length ≤ 100) (k d : Nat) : ∀ (i : Nat), i + d = names.length → slices_Index_string_string.l0 (k + d + 1) names x (names.length : Int) (i : Int) = some (firstM names x.data.toList d i) := by
 induction d with
 | zero =>
  intro i hi
  rw [slices_Index_string_string.l0, if_neg (by omega)]
  rfl
 | succ d ih =>
  intro i hi
  rw [show k + (d + 1) + 1 = (k + d + 1) + 1 by omega, slices_Index_string_string.l0, if_pos (by omega), if_pos (by omega), if_pos (by omega)]
  rw [show rdOf ByteArray.empty names (i : Int) = names.getD i ByteArray.empty by unfold rdOf; rw [Int.toNat_natCast], toList_data, toList_data, w64 (n := (i : Int) + 1) (by omega) (by omega), show (i : Int) + 1 = ((i + 1 : Nat) : Int) by omega, firstM]
  by_cases h : x.data.toList = (names.getD i ByteArray.empty).data.toList
  ·
   rw [if_pos h, if_pos h]
  ·
   rw [if_neg h, if_neg h, ih (i + 1) (by omega)]
def opOf (x : List UInt8) : Int := firstM opNames x 8 0 + 1
theorem opOf_last (x : List UInt8) : lastM ((⟨#[]⟩ : ByteArray) :: opNames) x 8 1 0 = opOf x ∧ 0 ≤ opOf x ∧ opOf x ≤ 8 := by
 have key : ∀ l : List UInt8, lastM ((⟨#[]⟩ : ByteArray) :: opNames) l 8 1 0 = opOf l ∧ 0 ≤ opOf l ∧ opOf l ≤ 8 ∨ ∀ w ∈ opNames, l ≠ w.data.toList := by
  intro l
  by_cases h : ∃ w ∈ opNames, l = w.data.toList
  ·
   obtain ⟨w, hw, rfl⟩ := h
   left
   simp only [opNames, List.mem_cons, List.not_mem_nil, or_false] at hw
   rcases hw with rfl | rfl | rfl | rfl | rfl | rfl | rfl | rfl <;> decide
  ·
   right
   intro w hw e
   exact h ⟨w, hw, e⟩
 rcases key x with h | h
 ·
  exact h
 ·
  have h0 : ∀ i, i < 8 → x ≠ (opNames.getD i ByteArray.empty).data.toList := fun i hi => by
   have hl : i < opNames.length := hi
   rw [List.getD_eq_getElem?_getD, List.getElem?_eq_getElem hl, Option.getD_some]
   exact h _ (List.getElem_mem hl)
  have h1 : ∀ i, 1 ≤ i → i < 9 → (((⟨#[]⟩ : ByteArray) :: opNames).getD i ByteArray.empty).data.toList ≠ x := fun i h1 h9 e => by
   obtain ⟨j, rfl⟩ : ∃ j, i = j + 1 := ⟨i - 1, (by omega)⟩
   rw [List.getD_cons_succ] at e
   exact h0 j (by omega) e.symm
  have e1 : firstM opNames x 8 0 = -1 := by
   simp only [firstM]
   rw [if_neg (h0 0 (by omega)), if_neg (h0 1 (by omega)), if_neg (h0 2 (by omega)), if_neg (h0 3 (by omega)), if_neg (h0 4 (by omega)), if_neg (h0 5 (by omega)), if_neg (h0 6 (by omega)), if_neg (h0 7 (by omega))]
  have e2 : lastM ((⟨#[]⟩ : ByteArray) :: opNames) x 8 1 0 = 0 := by
   simp only [lastM]
   rw [if_neg (h1 1 (by omega) (by omega)), if_neg (h1 2 (by omega) (by omega)), if_neg (h1 3 (by omega) (by omega)), if_neg (h1 4 (by omega) (by omega)), if_neg (h1 5 (by omega) (by omega)), if_neg (h1 6 (by omega) (by omega)), if_neg (h1 7 (by omega) (by omega)), if_neg (h1 8 (by omega) (by omega))]
  unfold opOf
  rw [e1, e2]
  decide
def numsOf : List ByteArray → Option (List Int)
 | [] => some []
 | x :: xs => (numA x.data.toList).bind fun v => (numsOf xs).map fun vs => v :: vs
def usesN (op : Int) : Nat := if op = 3 then 1 else if 4 ≤ op ∧ op ≤ 7 then 2 else if op = 8 then 1 else 0
theorem offs_len (op : Int) : (impl_Gate_nums.offs op).length = usesN op := by
 unfold impl_Gate_nums.offs usesN
 split
 ·
  rfl
 ·
  split
  ·
   rfl
  ·
   split <;> rfl
def gateOf (op : Int) (vs : List Int) : S30 := if op = 3 then ⟨op, 0, 0, vs.getD 0 0⟩ else if 4 ≤ op ∧ op ≤ 7 then ⟨op, vs.getD 0 0, vs.getD 1 0, 0⟩ else if op = 8 then ⟨op, vs.getD 0 0, 0, 0⟩ else ⟨op, 0, 0, 0⟩
def gateEnd (g : S30) : Int × Int × Int × Int × Bool := (g.f0, g.f1, g.f2, g.f3, gateB g 15)
theorem isG (a b c d : Int) {k : Nat} (hk : 0 < k) : impl_isGate.f k a b c d 15 = some (gateB ⟨a, b, c, d⟩ 15) := isGate_eq ⟨a, b, c, d⟩ (by omega) (by omega) hk
theorem numsOf_length : ∀ (xs : List ByteArray) (vs : List Int), numsOf xs = some vs → vs.length = xs.length
 | [], vs, h => by cases h; rfl
 | x :: xs, vs, h => by
  obtain ⟨v, _, h⟩ := Option.bind_eq_some_iff.1 h
  obtain ⟨us, hu, rfl⟩ := Option.map_eq_some_iff.1 h
  simp [numsOf_length xs us hu]
theorem go_none (k : Nat) (op : Int) : ∀ (os : List Nat) (xs : List ByteArray) (a b c : Int), os.length = xs.length → numsOf xs = none → impl_readGate.go k op os xs a b c = some (0, 0, 0, 0, false)
 | [], [], _, _, _, _, h => by cases h
 | [], _ :: _, _, _, _, h, _ => by simp at h
 | _ :: _, [], _, _, _, h, _ => by simp at h
 | o :: os, x :: xs, a, b, c, hl, h => by
  unfold impl_readGate.go
  cases hA : numA x.data.toList with
  | none => rfl
  | some v =>
   have h2 : numsOf xs = none := by
    rw [numsOf, hA] at h
    cases hn : numsOf xs with
    | none => rfl
    | some us => rw [hn] at h; cases h
   exact go_none k op os xs _ _ _ (by simpa using hl) h2
theorem go_nil (k : Nat) (op a b c : Int) (hk : 0 < k) : impl_readGate.go k op [] [] a b c = some (gateEnd ⟨op, a, b, c⟩) := by
 unfold impl_readGate.go
 rw [isG _ _ _ _ hk]
 rfl
theorem go_cons (k : Nat) (op : Int) (o : Nat) (os : List Nat) (x : ByteArray) (xs : List ByteArray) (a b c : Int) {v : Int} (h : numA x.data.toList = some v) : impl_readGate.go k op (o :: os) (x :: xs) a b c = impl_readGate.go k op os xs (impl_readGate.put a b c o v).1 (impl_readGate.put a b c o v).2.1 (impl_readGate.put a b c o v).2.2 := by
 rw [impl_readGate.go, h]
theorem nums_one {x : ByteArray} {vs : List Int} (h : numsOf [x] = some vs) : ∃ v, vs = [v] ∧ numA x.data.toList = some v := by
 obtain ⟨v, hv, h⟩ := Option.bind_eq_some_iff.1 h
 cases h
 exact ⟨v, rfl, hv⟩
theorem nums_two {x y : ByteArray} {vs : List Int} (h : numsOf [x, y] = some vs) : ∃ u v, vs = [u, v] ∧ numA x.data.toList = some u ∧ numA y.data.toList = some v := by
 obtain ⟨u, hu, h⟩ := Option.bind_eq_some_iff.1 h
 obtain ⟨us, h2, rfl⟩ := Option.map_eq_some_iff.1 h
 obtain ⟨v, rfl, hv⟩ := nums_one h2
 exact ⟨u, v, rfl, hu, hv⟩
theorem list1 {α : Type} {l : List α} (h : l.length = 1) : ∃ a, l = [a] := by
 match l, h with
 | [a], _ => exact ⟨a, rfl⟩
theorem list2 {α : Type} {l : List α} (h : l.length = 2) : ∃ a b, l = [a, b] := by
 match l, h with
 | [a, b], _ => exact ⟨a, b, rfl⟩
theorem go_some (k : Nat) (hk : 0 < k) (op : Int) (xs : List ByteArray) (vs : List Int) (hl : xs.length = usesN op) (h : numsOf xs = some vs) : impl_readGate.go k op (impl_Gate_nums.offs op) xs 0 0 0 = some (gateEnd (gateOf op vs)) := by
 by_cases c3 : op = 3
 ·
  subst c3
  obtain ⟨x, rfl⟩ := list1 (hl.trans (show usesN 3 = 1 by decide))
  obtain ⟨v, rfl, hv⟩ := nums_one h
  rw [show impl_Gate_nums.offs 3 = [3] from rfl, go_cons k 3 3 [] x [] 0 0 0 hv, go_nil _ _ _ _ _ hk]
  rfl
 ·
  by_cases c4 : 4 ≤ op ∧ op ≤ 7
  ·
   have hu : usesN op = 2 := by unfold usesN; rw [if_neg c3, if_pos c4]
   obtain ⟨x, y, rfl⟩ := list2 (hl.trans hu)
   obtain ⟨u, v, rfl, h1, h2⟩ := nums_two h
   rw [show impl_Gate_nums.offs op = [1, 2] by unfold impl_Gate_nums.offs; rw [if_neg c3, if_pos c4], go_cons k op 1 [2] x [y] 0 0 0 h1, go_cons k op 2 [] y [] _ _ _ h2, go_nil _ _ _ _ _ hk]
   unfold gateOf
   rw [if_neg c3, if_pos c4]
   rfl
  ·
   by_cases c8 : op = 8
   ·
    subst c8
    obtain ⟨x, rfl⟩ := list1 (hl.trans (show usesN 8 = 1 by decide))
    obtain ⟨v, rfl, hv⟩ := nums_one h
    rw [show impl_Gate_nums.offs 8 = [1] from rfl, go_cons k 8 1 [] x [] 0 0 0 hv, go_nil _ _ _ _ _ hk]
    rfl
   ·
    have hu : usesN op = 0 := by unfold usesN; rw [if_neg c3, if_neg c4, if_neg c8]
    obtain rfl : xs = [] := List.eq_nil_of_length_eq_zero (hl.trans hu)
    cases h
    rw [show impl_Gate_nums.offs op = [] by unfold impl_Gate_nums.offs; rw [if_neg c3, if_neg c4, if_neg c8], go_nil _ _ _ _ _ hk]
    unfold gateOf
    rw [if_neg c3, if_neg c4, if_neg c8]
def readW : List ByteArray → Option S30
 | [] => none
 | x :: xs => (numsOf xs).bind fun vs => if opOf x.data.toList = 0 ∨ vs.length ≠ usesN (opOf x.data.toList) then none else if gateB (gateOf (opOf x.data.toList) vs) 15 = true then some (gateOf (opOf x.data.toList) vs) else none
theorem readW_none {x : ByteArray} {xs : List ByteArray} (h : numsOf xs = none) : readW (x :: xs) = none := by
 simp only [readW, h, Option.bind_none]
theorem readW_some {x : ByteArray} {xs : List ByteArray} {vs : List Int} (h : numsOf xs = some vs) : readW (x :: xs) = if opOf x.data.toList = 0 ∨ vs.length ≠ usesN (opOf x.data.toList) then none else if gateB (gateOf (opOf x.data.toList) vs) 15 = true then some (gateOf (opOf x.data.toList) vs) else none := by
 simp only [readW, h, Option.bind_some]
def readEnd : Option S30 → Int × Int × Int × Int × Int
 | some g => (g.f0, g.f1, g.f2, g.f3, 0)
 | none => (0, 0, 0, 0, 3)
def lastEnd (r : Int × Int × Int × Int × Bool) : Option (Int × Int × Int × Int × Int) := if r.2.2.2.2 = true then some (r.1, r.2.1, r.2.2.1, r.2.2.2.1, 0) else some (0, 0, 0, 0, 3)
theorem lastEnd_gate (g : S30) : lastEnd (gateEnd g) = some (readEnd (if gateB g 15 = true then some g else none)) := by
 unfold lastEnd gateEnd
 simp only
 by_cases h : gateB g 15 = true
 ·
  rw [if_pos h, if_pos h]; rfl
 ·
  rw [if_neg h, if_neg h]; rfl
theorem impl_read (ws : List ByteArray) {k : Nat} (hk : 30 ≤ k) : ∃ r, impl_readGate.f k ws = some r ∧ lastEnd r = some (readEnd (readW ws)) := by
 cases ws with
 | nil => exact ⟨_, rfl, rfl⟩
 | cons x xs =>
  obtain ⟨m, rfl⟩ : ∃ m, k = m + 8 + 1 := ⟨k - 9, (by omega)⟩
  obtain ⟨e1, e2, e3⟩ := opOf_last x.data.toList
  have hidx : slices_Index_string_string.f (m + 8 + 1) opNames x = some (firstM opNames x.data.toList 8 0) := firstM_l0 opNames x (by decide) m 8 0 rfl
  unfold impl_readGate.f
  rw [names_impl]
  simp only [bS]
  rw [hidx]
  simp only [bS]
  rw [show wrap64 (firstM opNames x.data.toList 8 0 + 1) = opOf x.data.toList from w64 (n := opOf x.data.toList) (by omega) (by omega), offs_len]
  by_cases hl : usesN (opOf x.data.toList) = xs.length
  ·
   rw [if_pos hl]
   cases hn : numsOf xs with
   | none =>
    rw [go_none _ _ _ _ _ _ _ ((offs_len _).trans hl) hn, readW_none hn]
    exact ⟨_, rfl, rfl⟩
   | some vs =>
    rw [go_some _ (by omega) _ _ _ hl.symm hn, readW_some hn]
    refine ⟨_, rfl, ?_⟩
    rw [lastEnd_gate]
    have hv := numsOf_length xs vs hn
    by_cases h0 : opOf x.data.toList = 0
    ·
     rw [if_pos (show opOf x.data.toList = 0 ∨ vs.length ≠ usesN (opOf x.data.toList) from .inl h0)]
     have hg : gateB (gateOf (opOf x.data.toList) vs) 15 = false := by
      rw [h0]
      rfl
     rw [hg, if_neg (by decide)]
    ·
     rw [if_neg (show ¬ (opOf x.data.toList = 0 ∨ vs.length ≠ usesN (opOf x.data.toList)) from fun h => h.elim h0 (fun h => h (hv.trans hl.symm)))]
  ·
   rw [if_neg hl]
   refine ⟨_, rfl, ?_⟩
   cases hn : numsOf xs with
   | none => rw [readW_none hn]; rfl
   | some vs =>
    rw [readW_some hn, if_pos (.inr (fun h => hl (h.symm.trans (numsOf_length xs vs hn))))]
    rfl
theorem impl_at (t : ByteArray) {k : Nat} (hk : 30 ≤ k) : impl_ReadGate.f k t = some (if (t.size : Int) > 65536 then (0, 0, 0, 0, 2) else readEnd (readW (wordsB t))) := by
 unfold impl_ReadGate.f
 by_cases h : (t.size : Int) > 65536
 ·
  rw [if_pos h, if_pos h]
 ·
  rw [if_neg h, if_neg h]
  obtain ⟨r, e1, e2⟩ := impl_read (wordsB t) hk
  rw [e1]
  simp only [bS]
  exact e2
end Go.Proofs.YtokljkneflejdaaDoor.PT
end
section
/- What GateText returns: a gate's word and its numbers, each behind a blank. -/
namespace Go.Proofs.YtokljkneflejdaaDoor.PT
open Go.RowKit Go.Proofs.YtokljkneflejdaaDoorW.PrintWords Go.Proofs.YtokljkneflejdaaDoorW.PrintLast Go.Proofs.YtokljkneflejdaaDoorW.PrintMore
set_option linter.unusedVariables false
set_option linter.unusedSimpArgs false
theorem tab_below {P : Program} {w w' : World} {nm : String} {k : IntKind} {zs : List Int} (h : Go.Lib.TabIs P w nm k zs) (hb : Below w.heap.size w w') : Go.Lib.TabIs P w' nm k zs := by
 unfold Go.Lib.TabIs World.var? at *
 cases hg : P.globalNamed nm with
 | none => rw [hg] at h; cases h
 | some g =>
  rw [hg] at h
  simp only [Option.bind_some] at h ⊢
  cases ho : w.heap[g]? with
  | none => rw [ho] at h; cases h
  | some o =>
   rw [hb.block g (Array.getElem?_eq_some_iff.1 ho).1, ho]
   rw [ho] at h
   exact h
def impl_GateText.step (t : ByteArray) (n : Int) : Option ByteArray := if -9223372036854775808 ≤ n ∧ n ≤ 9223372036854775807 then (if 1 + (⟨(Go.Lib.itoa n).toArray⟩ : ByteArray).size ≤ 9223372036854775807 then (if t.size + (1 + (⟨(Go.Lib.itoa n).toArray⟩ : ByteArray).size) ≤ 9223372036854775807 then some (t ++ ((⟨#[32]⟩ : ByteArray) ++ (⟨(Go.Lib.itoa n).toArray⟩ : ByteArray))) else none) else none) else none
def impl_GateText.val (a b kk : Int) (j : Nat) : Int := if j = 1 then a else if j = 2 then b else kk
def impl_GateText.go (a b kk : Int) : List Nat → ByteArray → Option ByteArray
 | [], t => some t
 | j :: js, t => (impl_GateText.step t (impl_GateText.val a b kk j)).bind fun t' => impl_GateText.go a b kk js t'
def impl_GateText.f (k : Nat) (a0_0 : Int) (a0_1 : Int) (a0_2 : Int) (a0_3 : Int) : Option (ByteArray × Int) := (impl_isGate.f k a0_0 a0_1 a0_2 a0_3 15).bind fun t102 => if t102 = true then ((impl_opWords.f).bind fun t103 => (if 0 ≤ (wrap64 (a0_0 - 1)) then (if (wrap64 (a0_0 - 1)) < (t103.length : Int) then ((impl_GateText.go a0_1 a0_2 a0_3 (impl_Gate_nums.offs a0_0) (rdOf ByteArray.empty t103 (wrap64 (a0_0 - 1)))).bind fun t => some (t, 0)) else (none)) else (none))) else (some ((⟨#[]⟩ : ByteArray), 1))
theorem impl_Gate_nums.offs_mem {op : Int} {j : Nat} (h : j ∈ impl_Gate_nums.offs op) : j = 1 ∨ j = 2 ∨ j = 3 := by
 unfold impl_Gate_nums.offs at h
 split at h
 ·
  simp at h; omega
 ·
  split at h
  ·
   simp at h; omega
  ·
   split at h
   ·
    simp at h; omega
   ·
    cases h
set_option maxHeartbeats 8000000 in
set_option maxRecDepth 100000 in
theorem impl_GateText.calls (k : Nat) (a0_0 : Int) (a0_1 : Int) (a0_2 : Int) (a0_3 : Int) (r1 : ByteArray) (r2 : Int) (w : World) (htab : Go.Lib.TabIs Tryd.prog w "internal/strconv.uint64pow10" .u64 Go.Lib.pow10Tab) (h : impl_GateText.f k a0_0 a0_1 a0_2 a0_3 = some (r1, r2)) :
  Calls Tryd.prog 6 #[.agg #[.int .i64 a0_0, .int .i64 a0_1, .int .i64 a0_2, .int .i64 a0_3]] w fun e w' => e = .returned (.tuple #[.string r1, .int .i64 r2]) ∧ Below w.heap.size w w' := by
 have hu30 := Tryd.underlying30
 have HB := am_ (Below.refl w.heap.size w)
 have HTAB := am_ htab
 unfold impl_GateText.f at h
 clear htab
 obtain ⟨t102, A20, h⟩ := Option.bind_eq_some_iff.mp h
 have A2 := am_ A20
 clear A20
 cases t102 with
 | true =>
  rw [if_pos rfl] at h
  obtain ⟨t103, A40, h⟩ := Option.bind_eq_some_iff.mp h
  have A4 := am_ A40
  clear A40
  obtain ⟨ji5, hji5⟩ : ∃ j_ : Int, (wrap64 (a0_0 - 1)) = j_ := ⟨_, rfl⟩
  rw [hji5] at h
  have hji5w : (IntKind.i64.wrap (a0_0 - 1)) = ji5 := (i64_w _).trans hji5
  by_cases c6 : 0 ≤ ji5
  ·
   rw [if_pos c6] at h
   have c6b0 : decide (0 ≤ (ji5)) = true := decide_eq_true c6
   clear c6
   by_cases c7 : ji5 < (t103.length : Int)
   ·
    rw [if_pos c7] at h
    have c7b0 : decide ((ji5) < (t103.length : Int)) = true := decide_eq_true c7
    clear c7
    obtain ⟨t0, G0, h⟩ := Option.bind_eq_some_iff.mp h
    simp only [Option.some.injEq, Prod.mk.injEq] at h
    obtain ⟨rfl, rfl⟩ := h
    have HG := am_ (show impl_GateText.go a0_1 a0_2 a0_3 ((impl_Gate_nums.offs a0_0).drop 0) (rdOf ByteArray.empty t103 ji5) = some t0 from G0)
    clear G0
    go_enter Tryd.func6, Tryd.ntmps6
    try go_wp2_with (first | ((with_reducible refine gate_dst (N := 1) rfl ?_); refine box_event ?hg (N := 1) ?hd (cs := #[.int .i64 a0_0, .int .i64 a0_1, .int .i64 a0_2, .int .i64 a0_3]) (t := 30) ?hr ?_; (case hd => rfl); (case hg => rfl); (case hr => first | (go_simp; done) | (go_simp; rfl)); intro gb101 hg w8 hbox hb; have n0_ := am_ (below_step qz3_ hb); have n1_ := am_ (hbox); have n2_ := am_ ((by rw [hg]; exact (below_size qz3_) : w.heap.size ≤ gb101)); have n3_ := am_ ((by rw [hg]; exact (below_size qz3_) : w.heap.size ≤ gb101)); clear HB; have HB := n0_; have BK101 := n1_; have GW101 := n2_; have GE101 := n3_; clear n0_ n1_ n2_ n3_; clear hb hbox hg; have hcz9_0 : w8.cell? ⟨gb101, 0, none⟩ = some (.int .i64 a0_0) := (blk_cell BK101.out 0).trans rfl; have hcz9_1 : w8.cell? ⟨gb101, 1, none⟩ = some (.int .i64 a0_1) := (blk_cell BK101.out 1).trans rfl; have hcz9_2 : w8.cell? ⟨gb101, 2, none⟩ = some (.int .i64 a0_2) := (blk_cell BK101.out 2).trans rfl; have hcz9_3 : w8.cell? ⟨gb101, 3, none⟩ = some (.int .i64 a0_3) := (blk_cell BK101.out 3).trans rfl; have hfz9_0 := blk_frozen BK101.out 0; have hfz9_1 := blk_frozen BK101.out 1; have hfz9_2 := blk_frozen BK101.out 2; have hfz9_3 := blk_frozen BK101.out 3) | ((with_reducible refine gate_callee (f := 13) rfl ?_); refine goesL_ (some 8) rfl rfl Tryd.func13 (by kernel_rfl) rfl #[.agg #[.int .i64 a0_0, .int .i64 a0_1, .int .i64 a0_2, .int .i64 a0_3], .int .i64 15] rfl qz2_ ?_; (with_reducible refine (impl_isGate.calls k a0_0 a0_1 a0_2 a0_3 15 true _ A2.out).mono ?_); rintro e w10 ⟨rfl, hb⟩; refine ⟨_, rfl, ?_⟩; have n0_ := am_ (blk_below (g := gb101) (o := .cells #[.int .i64 a0_0, .int .i64 a0_1, .int .i64 a0_2, .int .i64 a0_3] 30 (0, 0)) qz4_ hb); have n1_ := am_ (below_step qz9_ hb); clear BK101; clear HB; have BK101 := n0_; have HB := n1_; clear n0_ n1_; (try clear hb); (try clear hb2); (try clear hk); (try clear hi)))
    have n0_ := am_ (blk_drew BK101.out)
    have n1_ := am_ (below_drew1 HB.out)
    clear BK101
    clear HB
    have BK101 := n0_
    have HB := n1_
    clear n0_ n1_
    refine start_ (n := 7) (S := fun w' => w'.cell? ⟨gb101, 0, none⟩ = some (.int .i64 a0_0) ∧ w'.cell? ⟨gb101, 1, none⟩ = some (.int .i64 a0_1) ∧ w'.cell? ⟨gb101, 2, none⟩ = some (.int .i64 a0_2) ∧ w'.cell? ⟨gb101, 3, none⟩ = some (.int .i64 a0_3)) (ds := []) #[false, false, false, false, false, false, false] (by kernel_rfl) rfl rfl ⟨(blk_cell BK101.out 0).trans rfl, (blk_cell BK101.out 1).trans rfl, (blk_cell BK101.out 2).trans rfl, (blk_cell BK101.out 3).trans rfl⟩ (fun hHeld => ?_)
    generalize w10.drew = w11 at BK101 HB hHeld ⊢
    refine pure_ (i := 1) (N := some 11) (v := ?_) (a' := ?_) #[false, true, false, false, false, false, false] rfl rfl (by kernel_rfl) (fun _ _ _ h => h) (Or.inl ⟨(by rfl), ?_⟩) ?_ ?_
    rotate_left
    ·
     intro w'
     go_simp
     with_reducible rfl
    rotate_left
    ·
     exact ap_
    refine take_ (i := 2) (N := some 12) (v := ?_) (a' := ?_) #[false, true, true, false, false, false, false] rfl rfl (by kernel_rfl) (fun _ _ _ h => h) (Or.inl ⟨(by rfl), ?_⟩) hHeld ?_ ?_
    rotate_left
    ·
     rintro w' ⟨s0, s1, s2, s3⟩
     go_simp
     with_reducible rfl
    rotate_left
    ·
     exact ap_
    refine pure_ (i := 3) (N := some 13) (v := ?_) (a' := ?_) #[false, true, true, true, false, false, false] rfl rfl (by kernel_rfl) (fun _ _ _ h => h) (Or.inl ⟨(by rfl), ?_⟩) ?_ ?_
    rotate_left
    ·
     intro w'
     go_simp
     with_reducible rfl
    rotate_left
    ·
     exact ap_
    refine one_ (i := 0) (N := some 10) #[true, true, true, true, false, false, false] rfl rfl (by kernel_rfl) (by decide) (fun K hK => ?_)
    refine goes_ Tryd.func14 (by kernel_rfl) rfl #[] (by rfl) rfl rfl qz2_ ?_
    with_reducible refine (impl_opWords.calls  t103 _ A4.out).mono ?_
    rintro e w12 ⟨v104, rfl, ho0, hb⟩
    refine ⟨_, rfl, ?_⟩
    have n0_ := am_ (Kd.R_lower ho0 (below_size qz9_))
    have n1_ := am_ (blk_below (g := gb101) (o := .cells #[.int .i64 a0_0, .int .i64 a0_1, .int .i64 a0_2, .int .i64 a0_3] 30 (0, 0)) qz4_ hb)
    have n2_ := am_ (below_step qz9_ hb)
    clear BK101
    clear HB
    have HO105 := n0_
    have BK101 := n1_
    have HB := n2_
    clear n0_ n1_ n2_
    (try clear hb)
    (try clear hb2)
    (try clear hk)
    (try clear hi)
    (try clear ho0)
    obtain ⟨Ao13, co13, eo13⟩ := Kd.R_slice HO105.out
    (first | subst eo13 | (injection eo13 with f1_ f2_ f3_; have f4_ := f1_.symm; have f5_ := f3_.symm; clear f1_ f2_ f3_; subst f4_; subst f5_))
    have p106 : 0 ≤ ((ji5) : Int) := of_decide_eq_true qz11_
    have q106 : (ji5) < (t103.length : Int) := of_decide_eq_true qz11_
    obtain ⟨ad106, e106, hx106_0⟩ := Kd.at_string (Kd.R_reads' HO105.out).2.2 (ji5) p106 q106
    cases e106
    replace p106 := eq_true p106
    replace q106 := eq_true q106
    refine hK.out _ _ ⟨(blk_cell BK101.out 0).trans rfl, (blk_cell BK101.out 1).trans rfl, (blk_cell BK101.out 2).trans rfl, (blk_cell BK101.out 3).trans rfl⟩ (fun hHeld => ?_)
    clear hK K
    refine norm_ (a' := ?_) ?_ ?_
    rotate_left
    ·
     show Act.put _ (some 10) _ = _
     exact ap_
    refine pure_ (i := 4) (N := some 14) (v := ?_) (a' := ?_) #[true, true, true, true, true, false, false] rfl rfl (by kernel_rfl) (fun _ _ _ h => h) (Or.inl ⟨(by rfl), ?_⟩) ?_ ?_
    rotate_left
    ·
     intro w'
     go_simp
     with_reducible rfl
    rotate_left
    ·
     exact ap_
    refine one_ (i := 5) (N := some 15) #[true, true, true, true, true, true, false] rfl rfl (by kernel_rfl) (by decide) (fun K hK => ?_)
    refine value_ (w1 := ?_) (v := ?_) (by rfl) rfl ?_ ?_
    rotate_left 2
    ·
     go_simp
     constructor
     ·
      rfl
     ·
      rfl
    refine hK.out _ _ hHeld (fun hHeld => ?_)
    clear hK K
    refine norm_ (a' := ?_) ?_ ?_
    rotate_left
    ·
     show Act.put _ (some 15) _ = _
     exact ap_
    refine pure_ (i := 6) (N := some 4) (v := ?_) (a' := ?_) #[true, true, true, true, true, true, true] rfl rfl (by kernel_rfl) (fun _ _ _ h => h) (Or.inl ⟨(by rfl), ?_⟩) ?_ ?_
    rotate_left
    ·
     intro w'
     go_simp
     with_reducible rfl
    rotate_left
    ·
     exact ap_
    refine done_ (by kernel_rfl) ?_
    go_wp2_with (go_at_call 15; (refine (impl_Gate_nums.calls gb101 a0_0 a0_1 a0_2 a0_3 _ qz4_).mono ?_); rintro e w15 ⟨A, c, rfl, hcells, hb⟩; have n0_ := am_ (blk_below (g := gb101) (o := .cells #[.int .i64 a0_0, .int .i64 a0_1, .int .i64 a0_2, .int .i64 a0_3] 30 (0, 0)) qz4_ hb); have n1_ := am_ (below_step qz9_ hb); have HCE := am_ hcells; clear BK101 HB hcells hb; have BK101 := n0_; have HB := n1_; clear n0_ n1_)
    generalize hps : impl_Gate_nums.offs a0_0 = ps at HG HCE ⊢
    have HM := am_ (show ∀ j ∈ ps, j = 1 ∨ j = 2 ∨ j = 3 from fun j hj => impl_Gate_nums.offs_mem (op := a0_0) (hps ▸ hj))
    have HL := am_ (show ps.length ≤ 2 by rw [← hps]; unfold impl_Gate_nums.offs; split <;> (try split) <;> (try split) <;> simp)
    clear hps
    go_loopg [4, 18] ps.length (fun kq v4 v18 w' => ∃ (t : ByteArray) (j : Nat), v4 = .string t ∧ v18 = .int .i64 j ∧ Aside0 (j + kq = ps.length) ∧ Aside0 (impl_GateText.go a0_1 a0_2 a0_3 (ps.drop j) t = some t0) ∧ Aside0 (w'.heap[gb101]? = some (.cells #[.int .i64 a0_0, .int .i64 a0_1, .int .i64 a0_2, .int .i64 a0_3] 30 (0, 0))) ∧ Aside0 (Below w.heap.size w w') ∧ Aside0 (Below w15.heap.size w15 w'))
    case atStart => exact ⟨_, 0, rfl, rfl, ⟨(by omega)⟩, HG, ⟨qz4_⟩, ⟨qz9_⟩, ⟨(by repeat (first | exact Below.refl _ _ | apply below_alloc | apply pw_below_drewN | apply below_drew1))⟩⟩
    case round =>
     clear HG BK101 HB
     obtain ⟨t, j, rfl, rfl, HJ, HG, BK101, HB, HX⟩ := hrel
     cases gk with
     | zero =>
      have hj := HJ.out
      have c1 : decide ((j : Int) < (ps.length : Int)) = false := decide_eq_false (by omega)
      have c2 : decide (j < ps.length) = false := decide_eq_false (by omega)
      have hG := HG.out
      rw [List.drop_eq_nil_of_le (by omega)] at hG
      obtain rfl : t = t0 := Option.some.inj hG
      clear hG HG HJ hj
      go_wp2
      go_ret2
      exact ⟨(by first | rfl | simp), qz9_⟩
     | succ k1 =>
      have hj := HJ.out
      have hL := HL.out
      have hjl : j < ps.length := by omega
      have c1 : decide ((j : Int) < (ps.length : Int)) = true := decide_eq_true (by omega)
      have c2 : decide (j < ps.length) = true := decide_eq_true hjl
      have p5 : 0 ≤ (j : Int) := by omega
      have q5 : (j : Int) < (ps.length : Int) := by omega
      have p6 := eq_true p5
      have q6 := eq_true q5
      obtain ⟨q, hA, hc⟩ := HCE.out j hjl
      subst hA
      have hx : wr.cell? ⟨q, j, none⟩ = some (.pointer (some ⟨gb101, ps[j], none⟩)) := (HX.out.cell (World.block_lt_of_cell? _ _ hc)).trans hc
      have hv : wr.cell? ⟨gb101, ps[j], none⟩ = some (.int .i64 (impl_GateText.val a0_1 a0_2 a0_3 ps[j])) := by
       rcases HM.out _ (List.getElem_mem hjl) with e | e | e <;> rw [e]
       ·
        exact (blk_cell BK101.out 1).trans rfl
       ·
        exact (blk_cell BK101.out 2).trans rfl
       ·
        exact (blk_cell BK101.out 3).trans rfl
      have hG := HG.out
      rw [List.drop_eq_getElem_cons hjl] at hG
      obtain ⟨t', s0, hG2⟩ := Option.bind_eq_some_iff.mp hG
      generalize ps[j] = x at hx hv s0
      generalize impl_GateText.val a0_1 a0_2 a0_3 x = n at hv s0
      unfold impl_GateText.step at s0
      have HG2 := am_ (show impl_GateText.go a0_1 a0_2 a0_3 (ps.drop (j + 1)) t' = some t0 from hG2)
      clear hG HG hG2 hc
      by_cases d1 : -9223372036854775808 ≤ n ∧ n ≤ 9223372036854775807
      ·
       rw [if_pos d1] at s0
       obtain ⟨s, hs⟩ : ∃ s : ByteArray, s = (⟨(Go.Lib.itoa n).toArray⟩ : ByteArray) := ⟨_, rfl⟩
       rw [← hs] at s0
       by_cases d2 : 1 + s.size ≤ 9223372036854775807
       ·
        rw [if_pos d2] at s0
        by_cases d3 : t.size + (1 + s.size) ≤ 9223372036854775807
        ·
         rw [if_pos d3] at s0
         obtain rfl : t ++ ((⟨#[32]⟩ : ByteArray) ++ s) = t' := Option.some.inj s0
         have d2b : (9223372036854775807 < 1 + s.size) = False := eq_false (Nat.not_lt.2 d2)
         have d3b : (9223372036854775807 < t.size + (1 + s.size)) = False := eq_false (Nat.not_lt.2 d3)
         have HS := am_ hs
         have HD := am_ d1
         clear s0 d1 d2 d3 hs
         go_wp2_with (go_at_call 16; (refine (Tryd.strconv_Itoa n HD.out.1 HD.out.2 _ (tab_below HTAB.out qz9_)).mono ?_); rintro e w20 ⟨he, kd, os, hw⟩; rw [← HS.out] at he; subst he; have hb : Below wr.heap.size wr w20 := (by rw [hw]; exact Go.Lib.below_grow _ _ (Nat.le_refl _) _ _); clear hw; have n0_ := am_ (blk_below (g := gb101) (o := .cells #[.int .i64 a0_0, .int .i64 a0_1, .int .i64 a0_2, .int .i64 a0_3] 30 (0, 0)) BK101.out hb); have n1_ := am_ (below_step qz9_ hb); have n2_ := am_ (HX.out.trans (hb.mono HX.out.size)); clear BK101 HB HX hb; have BK101 := n0_; have HB := n1_; have HX := n2_; clear n0_ n1_ n2_)
         go_roundg k1
         case measure => omega
         case rel => exact ⟨_, j + 1, rfl, by first | rfl | go_num, ⟨(by omega)⟩, HG2, ⟨qz4_⟩, ⟨qz9_⟩, ⟨(by repeat (first | exact HX.out | apply below_alloc | apply pw_below_drewN | apply below_drew1))⟩⟩
        ·
         rw [if_neg d3] at s0; exact absurd s0 (by simp)
       ·
        rw [if_neg d2] at s0; exact absurd s0 (by simp)
      ·
       rw [if_neg d1] at s0; exact absurd s0 (by simp)
   ·
    rw [if_neg c7] at h
    exact absurd h (by simp)
  ·
   rw [if_neg c6] at h
   exact absurd h (by simp)
 | false =>
  rw [if_neg (by decide)] at h
  simp only [Option.some.injEq, Prod.mk.injEq] at h
  obtain ⟨rfl, rfl⟩ := h
  go_enter Tryd.func6, Tryd.ntmps6
  go_wp2_with (first | ((with_reducible refine gate_dst (N := 1) rfl ?_); refine box_event ?hg (N := 1) ?hd (cs := #[.int .i64 a0_0, .int .i64 a0_1, .int .i64 a0_2, .int .i64 a0_3]) (t := 30) ?hr ?_; (case hd => rfl); (case hg => rfl); (case hr => first | (go_simp; done) | (go_simp; rfl)); intro gb101 hg w14 hbox hb; have n0_ := am_ (below_step qz3_ hb); have n1_ := am_ (hbox); have n2_ := am_ ((by rw [hg]; exact (below_size qz3_) : w.heap.size ≤ gb101)); have n3_ := am_ ((by rw [hg]; exact (below_size qz3_) : w.heap.size ≤ gb101)); clear HB; have HB := n0_; have BK101 := n1_; have GW101 := n2_; have GE101 := n3_; clear n0_ n1_ n2_ n3_; clear hb hbox hg; have hcz15_0 : w14.cell? ⟨gb101, 0, none⟩ = some (.int .i64 a0_0) := (blk_cell BK101.out 0).trans rfl; have hcz15_1 : w14.cell? ⟨gb101, 1, none⟩ = some (.int .i64 a0_1) := (blk_cell BK101.out 1).trans rfl; have hcz15_2 : w14.cell? ⟨gb101, 2, none⟩ = some (.int .i64 a0_2) := (blk_cell BK101.out 2).trans rfl; have hcz15_3 : w14.cell? ⟨gb101, 3, none⟩ = some (.int .i64 a0_3) := (blk_cell BK101.out 3).trans rfl; have hfz15_0 := blk_frozen BK101.out 0; have hfz15_1 := blk_frozen BK101.out 1; have hfz15_2 := blk_frozen BK101.out 2; have hfz15_3 := blk_frozen BK101.out 3) | ((with_reducible refine gate_callee (f := 13) rfl ?_); refine goesL_ (some 8) rfl rfl Tryd.func13 (by kernel_rfl) rfl #[.agg #[.int .i64 a0_0, .int .i64 a0_1, .int .i64 a0_2, .int .i64 a0_3], .int .i64 15] rfl qz2_ ?_; (with_reducible refine (impl_isGate.calls k a0_0 a0_1 a0_2 a0_3 15 false _ A2.out).mono ?_); rintro e w16 ⟨rfl, hb⟩; refine ⟨_, rfl, ?_⟩; have n0_ := am_ (blk_below (g := gb101) (o := .cells #[.int .i64 a0_0, .int .i64 a0_1, .int .i64 a0_2, .int .i64 a0_3] 30 (0, 0)) qz4_ hb); have n1_ := am_ (below_step qz9_ hb); clear BK101; clear HB; have BK101 := n0_; have HB := n1_; clear n0_ n1_; (try clear hb); (try clear hb2); (try clear hk); (try clear hi)))
  go_ret2
  exact ⟨qz5_, qz9_⟩
def spec_l00Digits.f : Nat → Int → Option (ByteArray)
 | 0, _ => none
 | k + 1, a0 => if a0 = (-9223372036854775808) then (some (⟨#[45, 57, 50, 50, 51, 51, 55, 50, 48, 51, 54, 56, 53, 52, 55, 55, 53, 56, 48, 56]⟩ : ByteArray)) else (if a0 < 0 then ((spec_l00Digits.f k (wrap64 (-a0))).bind fun t101 => (if 1 + t101.size ≤ 9223372036854775807 then (some ((⟨#[45]⟩ : ByteArray) ++ t101)) else (none))) else (if a0 < 10 then (some (strOfNums (([(wrap64 (48 + a0)) % 256] : List Int)))) else ((spec_l00Digits.f k (wrap64 (Int.tdiv a0 10))).bind fun t105 => ((some (([(wrap64 (48 + (Int.tmod a0 10))) % 256] : List Int) : List Int)).bind fun y106 => (if t105.size + (strOfNums y106).size ≤ 9223372036854775807 then (some (t105 ++ (strOfNums y106))) else (none))))))
theorem spec_l00Digits.mono_l : ∀ k, (∀ y0, LeO (spec_l00Digits.f k y0) (spec_l00Digits.f (k + 1) y0))
 | 0 => fun _ r h => by simp [spec_l00Digits.f] at h
 | k + 1 => by
  have ih0 := spec_l00Digits.mono_l k
  ·
   intro y0
   unfold spec_l00Digits.f
   repeat' first
   | (with_reducible exact ih0 _)
   | (with_reducible exact LeO.refl _)
   | (with_reducible exact LeO.none _)
   | (with_reducible refine LeO.ite ?_ ?_)
   | (with_reducible refine LeO.bind ?_ (fun _ => ?_))
   | exact ih0 _
   | exact LeO.none _
   | refine LeO.ite ?_ ?_
   | refine LeO.bind ?_ (fun _ => ?_)
theorem spec_l00Digits.mono : ∀ a0 k, LeO (spec_l00Digits.f k a0) (spec_l00Digits.f (k + 1) a0) := by
 intro a0 k
 have ih0 := spec_l00Digits.mono_l k
 exact ih0 a0
def spec_l00Digits.T7 : Bool × List (List Nat × List Nat) := (true, [([], []), ([0], [0]), ([1], [1]), ([], []), ([3], [3]), ([4], [4]), ([5], [5]), ([6], [6]), ([7], [7]), ([2, 8], [2, 8]), ([9, 2, 0, 1, 2, 3, 4, 5, 6, 7, 8, 9], [9])])
def spec_l00Digits.B7 : List Nat := [0, 1, 3, 0, 8, 24, 56, 120, 248, 511, 1023]
theorem spec_l00Digits.tab7 : rtab .any (opsOf Tryd.f20 7) = spec_l00Digits.T7 := by kernel_rfl
theorem spec_l00Digits.bits7 : waitsOk spec_l00Digits.T7.2 spec_l00Digits.B7 = true := by kernel_rfl
set_option maxHeartbeats 8000000 in
set_option maxRecDepth 100000 in
theorem spec_l00Digits.calls (k : Nat) : ∀ (a0 : Int) (r : ByteArray) (w : World) (h : spec_l00Digits.f k a0 = some r),
  Calls Tryd.prog 20 #[.int .i64 a0] w fun e w' => e = .returned (.string r) ∧ Below w.heap.size w w' := by
 induction k using Nat.strongRecOn with
 | _ k ih =>
 intro a0 r w h
 cases k with
 | zero => exact absurd h (by simp [spec_l00Digits.f])
 | succ k =>
 simp only [spec_l00Digits.f] at h
 have HB := am_ (Below.refl w.heap.size w)
 have H : (if a0 = (-9223372036854775808) then (some (⟨#[45, 57, 50, 50, 51, 51, 55, 50, 48, 51, 54, 56, 53, 52, 55, 55, 53, 56, 48, 56]⟩ : ByteArray)) else (if a0 < 0 then ((spec_l00Digits.f k (wrap64 (-a0))).bind fun t101 => (if 1 + t101.size ≤ 9223372036854775807 then (some ((⟨#[45]⟩ : ByteArray) ++ t101)) else (none))) else (if a0 < 10 then (some (strOfNums (([(wrap64 (48 + a0)) % 256] : List Int)))) else ((spec_l00Digits.f k (wrap64 (Int.tdiv a0 10))).bind fun t105 => ((some (([(wrap64 (48 + (Int.tmod a0 10))) % 256] : List Int) : List Int)).bind fun y106 => (if t105.size + (strOfNums y106).size ≤ 9223372036854775807 then (some (t105 ++ (strOfNums y106))) else (none))))))) = some r := h
 clear h
 by_cases c2 : a0 = (-9223372036854775808)
 ·
  rw [if_pos c2] at H
  have c2b0 : (a0 == (-9223372036854775808)) = true := beq_iff_eq.mpr c2
  have c2b1 : (a0 != (-9223372036854775808)) = false := bne_eq_false_iff_eq.mpr c2
  clear c2
  obtain rfl := Option.some.inj H
  go_enter Tryd.func20, Tryd.ntmps20
  go_wp2
  go_ret
  exact ⟨qz5_, qz3_⟩
 ·
  rw [if_neg c2] at H
  have c2b0 : (a0 == (-9223372036854775808)) = false := beq_eq_false_iff_ne.mpr c2
  have c2b1 : (a0 != (-9223372036854775808)) = true := bne_iff_ne.mpr c2
  by_cases c3 : a0 < 0
  ·
   rw [if_pos c3] at H
   have c3b0 : decide (a0 < 0) = true := decide_eq_true c3
   clear c3
   replace H := Option.bind_eq_some_iff.mp H
   obtain ⟨t101, A40, H⟩ := H
   replace H : (if 1 + t101.size ≤ 9223372036854775807 then (some ((⟨#[45]⟩ : ByteArray) ++ t101)) else (none)) = some r := H
   have A4 := am_ A40
   clear A40
   by_cases c5 : 1 + t101.size ≤ 9223372036854775807
   ·
    rw [if_pos c5] at H
    have c5b0 := eq_true c5
    have c5b1 : decide (1 + t101.size ≤ 9223372036854775807) = true := decide_eq_true c5
    try have c5b2 : (9223372036854775807 < 1 + t101.size) = False := eq_false (Nat.not_lt.2 c5)
    obtain rfl := Option.some.inj H
    go_enter Tryd.func20, Tryd.ntmps20
    go_wp2_with (first | ((with_reducible refine gate_callee (f := 20) rfl ?_); refine goesL_ (some 9) rfl rfl Tryd.func20 (by kernel_rfl) rfl #[.int .i64 (wrap64 (-a0))] rfl qz2_ ?_; (with_reducible refine (ih k (by omega) (wrap64 (-a0)) t101 _ A4.out).mono ?_); rintro e w6 ⟨rfl, hb⟩; refine ⟨_, rfl, ?_⟩; have n0_ := am_ (below_step qz3_ hb); clear HB; have HB := n0_; clear n0_; (try clear hb); (try clear hb2); (try clear hk); (try clear hi)))
    go_ret
    exact ⟨qz5_, qz3_⟩
   ·
    rw [if_neg c5] at H
    exact absurd H (by simp)
  ·
   rw [if_neg c3] at H
   have c3b0 : decide (a0 < 0) = false := decide_eq_false c3
   clear c3
   by_cases c7 : a0 < 10
   ·
    rw [if_pos c7] at H
    have c7b0 : decide (a0 < 10) = true := decide_eq_true c7
    clear c7
    obtain ⟨y102, hy102⟩ : ∃ y_ : List Int, y_ = (([(wrap64 (48 + a0)) % 256] : List Int)) := ⟨_, rfl⟩
    replace H : (some (strOfNums y102)) = some r := by first | (rw [hy102]; with_reducible exact H) | (have H2_ := (Option.bind_some _ _).symm.trans H; rw [hy102]; with_reducible exact H2_) | (have H2_ := (Option.bind_some _ _).symm.trans H; with_reducible exact H2_) | with_reducible exact H | (rw [hy102]; exact H) | exact H
    have Ny102 := am_ hy102
    clear hy102
    obtain rfl := Option.some.inj H
    go_enter Tryd.func20, Tryd.ntmps20
    go_wp2_with (first | ((with_reducible refine gate_dst (N := 16) rfl ?_); refine Kd.R_lit (Kd.int .u8) _ 5 ?hg (N := 16) ?hd (xs := ([(wrap64 (48 + a0)) % 256] : List Int)) (inner := [.int .u8 ((wrap64 (48 + a0)) % 256)]) (ok := fun _ => True) (okp := fun _ => True) ?hr ?hp (fun _ hk => hk) trivial (Below.refl _ _) (Nat.le_refl _) (by simp) ?_; (case hd => rfl); (case hg => rfl); (case hr => first | (go_simp; done) | (go_simp; rfl)); (case hp => exact (Reps.one (show Kd.M (Kd.int .u8) _ _ _ ((wrap64 (48 + a0)) % 256) [.int .u8 ((wrap64 (48 + a0)) % 256)] from rfl) (Reps.none _ _))); intro v103 w8 ho9 hb hg_ hnew_; clear hg_ hnew_; (first | rw [← Ny102.out] at ho9 | (simp only [Int.reduceToNat] at ho9; rw [← Ny102.out] at ho9)); have n0_ := am_ (Kd.R_lower ho9 (below_size qz3_)); have n1_ := am_ (below_step qz3_ hb); clear HB; have HO104 := n0_; have HB := n1_; clear n0_ n1_; clear hb ho9; have hcv10 := own_string (P := Tryd.prog) Tryd.underlying22 Tryd.underlying5 Tryd.underlying9 (Kd.own_of_R HO104.out)))
    go_ret
    exact ⟨qz5_, qz3_⟩
   ·
    rw [if_neg c7] at H
    have c7b0 : decide (a0 < 10) = false := decide_eq_false c7
    clear c7
    replace H := Option.bind_eq_some_iff.mp H
    obtain ⟨t105, A110, H⟩ := H
    replace H : ((some (([(wrap64 (48 + (Int.tmod a0 10))) % 256] : List Int) : List Int)).bind fun y106 => (if t105.size + (strOfNums y106).size ≤ 9223372036854775807 then (some (t105 ++ (strOfNums y106))) else (none))) = some r := H
    have A11 := am_ A110
    clear A110
    obtain ⟨y106, hy106⟩ : ∃ y_ : List Int, y_ = (([(wrap64 (48 + (Int.tmod a0 10))) % 256] : List Int)) := ⟨_, rfl⟩
    replace H : (if t105.size + (strOfNums y106).size ≤ 9223372036854775807 then (some (t105 ++ (strOfNums y106))) else (none)) = some r := by first | (rw [hy106]; with_reducible exact H) | (have H2_ := (Option.bind_some _ _).symm.trans H; rw [hy106]; with_reducible exact H2_) | (have H2_ := (Option.bind_some _ _).symm.trans H; with_reducible exact H2_) | with_reducible exact H | (rw [hy106]; exact H) | exact H
    have Ny106 := am_ hy106
    clear hy106
    by_cases c12 : t105.size + (strOfNums y106).size ≤ 9223372036854775807
    ·
     rw [if_pos c12] at H
     have c12b0 := eq_true c12
     have c12b1 : decide (t105.size + (strOfNums y106).size ≤ 9223372036854775807) = true := decide_eq_true c12
     try have c12b2 : (9223372036854775807 < t105.size + (strOfNums y106).size) = False := eq_false (Nat.not_lt.2 c12)
     obtain rfl := Option.some.inj H
     go_enter Tryd.func20, Tryd.ntmps20
     try go_wp2
     have n0_ := am_ (below_drew1 HB.out)
     clear HB
     have HB := n0_
     clear n0_
     refine start_ (n := 11) (S := fun w' => True) (ds := []) #[false, false, false, false, false, false, false, false, false, false, false] (by kernel_rfl) rfl rfl trivial (fun hHeld => ?_); refine with_tabW spec_l00Digits.tab7 spec_l00Digits.bits7 (fun HT_ HW_ => ?_)
     generalize w.drew = w13 at HB hHeld ⊢
     refine pure_ (i := 0) (N := some 18) (v := ?_) (a' := ?_) #[true, false, false, false, false, false, false, false, false, false, false] rfl rfl (any_of HT_.out (by kernel_rfl)) (fun _ _ _ h => h) (Or.inl ⟨(by rfl), ?_⟩) ?_ ?_
     rotate_left
     ·
      intro w'
      go_simp
      with_reducible rfl
     rotate_left
     ·
      exact ap_
     refine pure_ (i := 1) (N := some 19) (v := ?_) (a' := ?_) #[true, true, false, false, false, false, false, false, false, false, false] rfl rfl (any_of HT_.out (by kernel_rfl)) (fun _ _ _ h => h) (Or.inl ⟨(by rfl), ?_⟩) ?_ ?_
     rotate_left
     ·
      intro w'
      go_simp
      with_reducible rfl
     rotate_left
     ·
      exact ap_
     refine pure_ (i := 3) (N := some 21) (v := ?_) (a' := ?_) #[true, true, false, true, false, false, false, false, false, false, false] rfl rfl (any_of HT_.out (by kernel_rfl)) (fun _ _ _ h => h) (Or.inl ⟨(by rfl), ?_⟩) ?_ ?_
     rotate_left
     ·
      intro w'
      go_simp
      with_reducible rfl
     rotate_left
     ·
      exact ap_
     refine pure_ (i := 4) (N := some 22) (v := ?_) (a' := ?_) #[true, true, false, true, true, false, false, false, false, false, false] rfl rfl (any_of HT_.out (by kernel_rfl)) (fun _ _ _ h => h) (Or.inl ⟨(by rfl), ?_⟩) ?_ ?_
     rotate_left
     ·
      intro w'
      go_simp
      with_reducible rfl
     rotate_left
     ·
      exact ap_
     refine pure_ (i := 5) (N := some 23) (v := ?_) (a' := ?_) #[true, true, false, true, true, true, false, false, false, false, false] rfl rfl (any_of HT_.out (by kernel_rfl)) (fun _ _ _ h => h) (Or.inl ⟨(by rfl), ?_⟩) ?_ ?_
     rotate_left
     ·
      intro w'
      go_simp
      with_reducible rfl
     rotate_left
     ·
      exact ap_
     refine pure_ (i := 6) (N := some 24) (v := ?_) (a' := ?_) #[true, true, false, true, true, true, true, false, false, false, false] rfl rfl (any_of HT_.out (by kernel_rfl)) (fun _ _ _ h => h) (Or.inl ⟨(by rfl), ?_⟩) ?_ ?_
     rotate_left
     ·
      intro w'
      go_simp
      with_reducible rfl
     rotate_left
     ·
      exact ap_
     refine join_ (σ := Value) 2 #[true, true, true, true, true, true, true, true, true, false, false] (fun s_ => [(20, .string t105), (25, s_), (26, .string (strOfNums y106))]) (fun s_ w' => (Kd.R (Kd.int .u8) 5 w' w.heap.size (fun _ => True) s_ y106) ∧ (Below w.heap.size w w')) ?_ ?_
     rotate_left
     ·
      intro hCont
      refine two_ (i := 2) (j := 7) (Ni := some 20) (Nj := some 25) #[true, true, true, true, true, true, true, false, false, false, false] #[true, true, false, true, true, true, true, true, false, false, false] rfl rfl rfl rfl (two_of HT_.out (by kernel_rfl)) (by decide) (by decide) (fun K hK => ?_) (fun K hK => ?_)
      ·
       skip
       refine goes_ Tryd.func20 (by kernel_rfl) rfl #[.int .i64 (wrap64 (Int.tdiv a0 10))] (by rfl) rfl rfl qz2_ ?_
       with_reducible refine (ih k (by omega) (wrap64 (Int.tdiv a0 10)) t105 _ A11.out).mono ?_
       rintro e w14 ⟨rfl, hb⟩
       refine ⟨_, rfl, ?_⟩
       have n0_ := am_ (below_step qz3_ hb)
       clear HB
       have HB := n0_
       clear n0_
       (try clear hb)
       (try clear hb2)
       (try clear hk)
       (try clear hi)
       refine hK.out _ _ trivial (fun hHeld => ?_)
       clear hK K
       refine norm_ (a' := ?_) ?_ ?_
       rotate_left
       ·
        show Act.put _ (some 20) _ = _
        exact ap_
       refine one_ (i := 7) (N := some 25) #[true, true, true, true, true, true, true, true, false, false, false] rfl rfl (one_of HT_.out (by kernel_rfl)) (by decide) (fun K hK => ?_)
       refine Kd.R_lit_step (Kd.int .u8) _ 5 ?hg (N := 25) ?hd (xs := ([(wrap64 (48 + (Int.tmod a0 10))) % 256] : List Int)) (inner := [.int .u8 ((wrap64 (48 + (Int.tmod a0 10))) % 256)]) (ok := fun _ => True) (okp := fun _ => True) ?hr ?hp (fun _ hk => hk) trivial (Below.refl _ _) (Nat.le_refl _) (by simp) ?_; (case hd => rfl); (case hg => rfl); (case hr => first | (go_simp; done) | (go_simp; rfl)); (case hp => exact (Reps.one (show Kd.M (Kd.int .u8) _ _ _ ((wrap64 (48 + (Int.tmod a0 10))) % 256) [.int .u8 ((wrap64 (48 + (Int.tmod a0 10))) % 256)] from rfl) (Reps.none _ _)))
       intro v107 w15 ho16 hb hg_ hnew_
       clear hg_ hnew_
       (first | rw [← Ny106.out] at ho16 | (simp only [Int.reduceToNat] at ho16; rw [← Ny106.out] at ho16))
       have n0_ := am_ (Kd.R_lower ho16 (below_size qz3_))
       have n1_ := am_ (below_step qz3_ hb)
       clear HB
       have HO108 := n0_
       have HB := n1_
       clear n0_ n1_
       clear hb ho16
       refine hK.out _ _ trivial (fun hHeld => ?_)
       clear hK K
       refine norm_ (a' := ?_) ?_ ?_
       rotate_left
       ·
        show Act.put _ (some 25) _ = _
        exact ap_
       refine one_ (i := 8) (N := some 26) #[true, true, true, true, true, true, true, true, true, false, false] rfl rfl (one_of HT_.out (by kernel_rfl)) (by decide) (fun K hK => ?_)
       have hcv17 := own_string (P := Tryd.prog) Tryd.underlying22 Tryd.underlying5 Tryd.underlying9 (Kd.own_of_R HO108.out)
       refine value_ (w1 := ?_) (v := ?_) (by rfl) rfl ?_ ?_
       rotate_left 2
       ·
        go_simp
        constructor
        ·
         rfl
        ·
         rfl
       clear hcv17
       refine hK.out _ _ trivial (fun hHeld => ?_)
       clear hK K
       refine norm_ (a' := ?_) ?_ ?_
       rotate_left
       ·
        show Act.put _ (some 26) _ = _
        exact ap_
       exact norm_ (by simp only [putAll, Act.put, List.setIfInBounds_toArray, List.set_cons_zero, List.set_cons_succ]) (hCont (v107) _ ⟨(by (with_reducible repeat (first | apply Kd.R_alloc | apply Kd.R_drewN | apply Kd.R_drew)); exact HO108.out), qz3_⟩)
      ·
       skip
       refine Kd.R_lit_step (Kd.int .u8) _ 5 ?hg (N := 25) ?hd (xs := ([(wrap64 (48 + (Int.tmod a0 10))) % 256] : List Int)) (inner := [.int .u8 ((wrap64 (48 + (Int.tmod a0 10))) % 256)]) (ok := fun _ => True) (okp := fun _ => True) ?hr ?hp (fun _ hk => hk) trivial (Below.refl _ _) (Nat.le_refl _) (by simp) ?_; (case hd => rfl); (case hg => rfl); (case hr => first | (go_simp; done) | (go_simp; rfl)); (case hp => exact (Reps.one (show Kd.M (Kd.int .u8) _ _ _ ((wrap64 (48 + (Int.tmod a0 10))) % 256) [.int .u8 ((wrap64 (48 + (Int.tmod a0 10))) % 256)] from rfl) (Reps.none _ _)))
       intro v107 w14 ho15 hb hg_ hnew_
       clear hg_ hnew_
       (first | rw [← Ny106.out] at ho15 | (simp only [Int.reduceToNat] at ho15; rw [← Ny106.out] at ho15))
       have n0_ := am_ (Kd.R_lower ho15 (below_size qz3_))
       have n1_ := am_ (below_step qz3_ hb)
       clear HB
       have HO108 := n0_
       have HB := n1_
       clear n0_ n1_
       clear hb ho15
       refine hK.out _ _ trivial (fun hHeld => ?_)
       clear hK K
       refine norm_ (a' := ?_) ?_ ?_
       rotate_left
       ·
        show Act.put _ (some 25) _ = _
        exact ap_
       refine two_ (i := 2) (j := 8) (Ni := some 20) (Nj := some 26) #[true, true, true, true, true, true, true, true, false, false, false] #[true, true, false, true, true, true, true, true, true, false, false] rfl rfl rfl rfl (two_of HT_.out (by kernel_rfl)) (by decide) (by decide) (fun K hK => ?_) (fun K hK => ?_)
       ·
        skip
        refine goes_ Tryd.func20 (by kernel_rfl) rfl #[.int .i64 (wrap64 (Int.tdiv a0 10))] (by rfl) rfl rfl qz2_ ?_
        with_reducible refine (ih k (by omega) (wrap64 (Int.tdiv a0 10)) t105 _ A11.out).mono ?_
        rintro e w16 ⟨rfl, hb⟩
        refine ⟨_, rfl, ?_⟩
        have n0_ := am_ (Kd.R_below (by (with_reducible repeat (first | apply Kd.R_alloc | apply Kd.R_drewN | apply Kd.R_drew)); exact HO108.out) hb)
        have n1_ := am_ (below_step qz3_ hb)
        clear HO108
        clear HB
        have HO108 := n0_
        have HB := n1_
        clear n0_ n1_
        (try clear hb)
        (try clear hb2)
        (try clear hk)
        (try clear hi)
        refine hK.out _ _ trivial (fun hHeld => ?_)
        clear hK K
        refine norm_ (a' := ?_) ?_ ?_
        rotate_left
        ·
         show Act.put _ (some 20) _ = _
         exact ap_
        refine one_ (i := 8) (N := some 26) #[true, true, true, true, true, true, true, true, true, false, false] rfl rfl (one_of HT_.out (by kernel_rfl)) (by decide) (fun K hK => ?_)
        have hcv17 := own_string (P := Tryd.prog) Tryd.underlying22 Tryd.underlying5 Tryd.underlying9 (Kd.own_of_R HO108.out)
        refine value_ (w1 := ?_) (v := ?_) (by rfl) rfl ?_ ?_
        rotate_left 2
        ·
         go_simp
         constructor
         ·
          rfl
         ·
          rfl
        clear hcv17
        refine hK.out _ _ trivial (fun hHeld => ?_)
        clear hK K
        refine norm_ (a' := ?_) ?_ ?_
        rotate_left
        ·
         show Act.put _ (some 26) _ = _
         exact ap_
        exact norm_ (by simp only [putAll, Act.put, List.setIfInBounds_toArray, List.set_cons_zero, List.set_cons_succ]) (hCont (v107) _ ⟨(by (with_reducible repeat (first | apply Kd.R_alloc | apply Kd.R_drewN | apply Kd.R_drew)); exact HO108.out), qz3_⟩)
       ·
        skip
        have hcv16 := own_string (P := Tryd.prog) Tryd.underlying22 Tryd.underlying5 Tryd.underlying9 (Kd.own_of_R HO108.out)
        refine value_ (w1 := ?_) (v := ?_) (by rfl) rfl ?_ ?_
        rotate_left 2
        ·
         go_simp
         constructor
         ·
          rfl
         ·
          rfl
        clear hcv16
        refine hK.out _ _ trivial (fun hHeld => ?_)
        clear hK K
        refine norm_ (a' := ?_) ?_ ?_
        rotate_left
        ·
         show Act.put _ (some 26) _ = _
         exact ap_
        refine one_ (i := 2) (N := some 20) #[true, true, true, true, true, true, true, true, true, false, false] rfl rfl (one_of HT_.out (by kernel_rfl)) (by decide) (fun K hK => ?_)
        refine goes_ Tryd.func20 (by kernel_rfl) rfl #[.int .i64 (wrap64 (Int.tdiv a0 10))] (by rfl) rfl rfl qz2_ ?_
        with_reducible refine (ih k (by omega) (wrap64 (Int.tdiv a0 10)) t105 _ A11.out).mono ?_
        rintro e w17 ⟨rfl, hb⟩
        refine ⟨_, rfl, ?_⟩
        have n0_ := am_ (Kd.R_below (by (with_reducible repeat (first | apply Kd.R_alloc | apply Kd.R_drewN | apply Kd.R_drew)); exact HO108.out) hb)
        have n1_ := am_ (below_step qz3_ hb)
        clear HO108
        clear HB
        have HO108 := n0_
        have HB := n1_
        clear n0_ n1_
        (try clear hb)
        (try clear hb2)
        (try clear hk)
        (try clear hi)
        refine hK.out _ _ trivial (fun hHeld => ?_)
        clear hK K
        refine norm_ (a' := ?_) ?_ ?_
        rotate_left
        ·
         show Act.put _ (some 20) _ = _
         exact ap_
        exact norm_ (by simp only [putAll, Act.put, List.setIfInBounds_toArray, List.set_cons_zero, List.set_cons_succ]) (hCont (v107) _ ⟨(by (with_reducible repeat (first | apply Kd.R_alloc | apply Kd.R_drewN | apply Kd.R_drew)); exact HO108.out), qz3_⟩)
     rintro v107 w18 ⟨h0_, h1_⟩
     have n0_ : Aside0 (Kd.R (Kd.int .u8) 5 w18 w.heap.size (fun _ => True) v107 y106) := ⟨h0_⟩
     have n1_ : Aside0 (Below w.heap.size w w18) := ⟨h1_⟩
     clear HB
     clear h0_ h1_
     have HO108 := n0_
     have HB := n1_
     clear n0_ n1_
     have hHeld := trivial
     refine norm_ (a' := ?_) ?_ ?_
     rotate_left
     ·
      simp only [putAll, Act.put, List.setIfInBounds_toArray, List.set_cons_zero, List.set_cons_succ]
      rfl
     refine pure_ (i := 9) (N := some 27) (v := ?_) (a' := ?_) #[true, true, true, true, true, true, true, true, true, true, false] rfl rfl (any_of HT_.out (by kernel_rfl)) (fun _ _ _ h => h) (Or.inl ⟨(by rfl), ?_⟩) ?_ ?_
     rotate_left
     ·
      intro w'
      go_simp
      with_reducible rfl
     rotate_left
     ·
      exact ap_
     refine pure_ (i := 10) (N := some 2) (v := ?_) (a' := ?_) #[true, true, true, true, true, true, true, true, true, true, true] rfl rfl (any_of HT_.out (by kernel_rfl)) (fun _ _ _ h => h) (Or.inl ⟨(by rfl), ?_⟩) ?_ ?_
     rotate_left
     ·
      intro w'
      go_simp
      with_reducible rfl
     rotate_left
     ·
      exact ap_
     refine done_ (done_of HT_.out (by kernel_rfl)) ?_
     try go_wp2
     go_ret
     exact ⟨qz5_, qz3_⟩
    ·
     rw [if_neg c12] at H
     exact absurd H (by simp)

end Go.Proofs.YtokljkneflejdaaDoor.PT
end
