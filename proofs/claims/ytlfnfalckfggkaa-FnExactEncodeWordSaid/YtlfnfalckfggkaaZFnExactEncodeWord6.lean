/- Part 6 of the proof of FnExactEncodeWord: what functions compute, shown step by step, and what that says (the claim's last text states the law). -/
import Derived.Test.YtlfnfalckfggkaaProg
import Derived.Test.YtlfnfalckfggkaaVMore
import Derived.Test.YtlfnfalckfggkaaVWords
import Derived.Test.YtlfnfalckfggkaaVLast
import Derived.Test.YtlfnfalckfggkaaVTab
import Derived.Test.YtlfnfalckfggkaaVQPut
import Derived.Test.YtlfnfalckfggkaaVApart
import Derived.Test.YtlfnfalckfggkaaVArr
import Derived.Test.YtlfnfalckfggkaaVZeros
import Derived.Test.YtlfnfalckfggkaaVFoot
import Derived.Test.YtlfnfalckfggkaaVKept
import Derived.Test.YtlfnfalckfggkaaVShare
import Derived.Test.YtlfnfalckfggkaaVN
import Derived.Test.YtlfnfalckfggkaaVRepsOne
import Derived.Test.YtlfnfalckfggkaaVGuard
import Derived.Test.YtlfnfalckfggkaaVNEv
import Derived.Test.YtlfnfalckfggkaaRows
import Derived.JoinedOf
import Derived.WalkKit
import Derived.ProofKit
import Derived.Below
import Derived.Deep.Draws
import Derived.Deep.AppendLies
import Derived.Maps.AppendAt
import Derived.OwnWalk
import Derived.Laws.BytesArg
import Derived.Laws.MakeOwn
import Derived.Laws.OwnMore
import Derived.Deep.OwnRows
import Derived.Tactics
import Derived.Lib.ConvBytes
import Derived.Laws.Slices
import Derived.KernelRfl
import Derived.RowKit3
import Derived.Deep.LoopGhost
import Derived.Deep.QuietTactic
import Derived.BigQuiet
import Derived.WideLaws
import Derived.Deep.DeepCutAuto
import Derived.Deep.CutBlock
import Derived.Deep.RegionHeld3
import Derived.Laws.Rows
import Derived.Lib.AppendStr
import Derived.ArgAppend
import Derived.Laws.IdiomCopy
import Derived.OrdersHeld
import Derived.Laws.BitsLemmas
import Derived.RowKit
import Derived.Shelf.Small.Bits
import Derived.Shelf.Strconv.Itoa0
import Derived.Lib.BufferMore
import Derived.Lib.SliceRun
import Derived.OpenShut
import Derived.ShutString
import Derived.ChangeOld
import Derived.SizedLaws
import Derived.Deep.Slices
import Derived.ChangeArms
import Derived.Test.YtlfnfalckfggkaaZFnExactEncodeWord5
section
/- Words: their transform, its inverse, and a word folded: both sides walk the same numbers. -/
namespace Go.Proofs.Ytlfnfalckfggkaa.PT
open Go.RowKit Go.Proofs.YtlfnfalckfggkaaW.PrintWords Go.Proofs.YtlfnfalckfggkaaW.PrintLast Go.Proofs.YtlfnfalckfggkaaW.PrintMore
set_option linter.unusedVariables false
set_option linter.unusedSimpArgs false
def wordC (l : List E) : Int := if 4096 < l.length then 2 else if okLB l = true then (if pow2B l.length 512 = true then 0 else 8) else 1
theorem impl_wordCode_eq (l : List E) : impl_wordCode.f l = some (wordC l) := by
  unfold impl_wordCode.f wordC
  by_cases h : 4096 < l.length
  · rw [if_pos (by omega), if_pos h]
  · rw [if_neg (by omega), if_neg h, impl_are_eq]
    simp only [bS]
    by_cases h2 : okLB l = true
    · rw [if_pos h2, if_pos h2, impl_isPower_eq (by omega)]
      simp only [bS]
      by_cases h3 : pow2B (l.length : Int) 512 = true
      · rw [if_pos h3, if_pos h3]
      · rw [if_neg h3, if_neg h3]
    · rw [if_neg h2, if_neg h2]
theorem l07Ask_eq {l : List E} {k : Nat} (hk : l.length + 20 < k) : spec_l07Ask.f k l = some (wordC l) := by
  unfold spec_l07Ask.f wordC
  by_cases h : 4096 < l.length
  · rw [if_pos (by omega), if_pos h]
  · rw [if_neg (by omega), if_neg h, spec_l02List_eq (by omega) (by omega)]
    simp only [bS]
    by_cases h2 : okLB l = true
    · rw [if_pos h2, if_pos h2]
      unfold spec_l07Size.f
      rw [spec_l04Power_eq (by omega) (by omega)]
      simp only [bS]
      by_cases h3 : pow2B (l.length : Int) 512 = true
      · rw [if_pos h3, if_pos h3]
      · rw [if_neg h3, if_neg h3]
    · rw [if_neg h2, if_neg h2]
theorem wordC_zero {l : List E} (h : wordC l = 0) : okL l ∧ ∃ t, t ≤ 9 ∧ l.length = 2 ^ t := by
  unfold wordC at h
  by_cases h1 : 4096 < l.length
  · rw [if_pos h1] at h; omega
  · rw [if_neg h1] at h
    by_cases h2 : okLB l = true
    · rw [if_pos h2] at h
      by_cases h3 : pow2B (l.length : Int) 512 = true
      · refine ⟨(okLB_iff l).1 h2, ?_⟩
        rcases pow2B_512 h3 with h | h | h | h | h | h | h | h | h | h
        · exact ⟨0, by omega, by omega⟩
        · exact ⟨1, by omega, by omega⟩
        · exact ⟨2, by omega, by omega⟩
        · exact ⟨3, by omega, by omega⟩
        · exact ⟨4, by omega, by omega⟩
        · exact ⟨5, by omega, by omega⟩
        · exact ⟨6, by omega, by omega⟩
        · exact ⟨7, by omega, by omega⟩
        · exact ⟨8, by omega, by omega⟩
        · exact ⟨9, by omega, by omega⟩
      · rw [if_neg h3] at h; omega
    · rw [if_neg h2] at h; omega
theorem u64w {n : Int} (h0 : 0 ≤ n) (h1 : n ≤ 4611686018427387904) : IntKind.u64.wrap n = n := by
  simp only [IntKind.wrap, IntKind.bits, IntKind.signed]; simp; omega
/-! logarithms and roots -/
theorem logOf0 : ∀ t : Fin 10, impl_logOf.f ((2 ^ t.val : Nat) : Int) = some (t.val : Int) := by decide +kernel
theorem logOf_eq {t : Nat} (h : t ≤ 9) : impl_logOf.f ((2 ^ t : Nat) : Int) = some (t : Int) := logOf0 ⟨t, by omega⟩
theorem vars_l0 (t : Nat) (ht : t ≤ 9) (d : Nat) : ∀ (k j : Nat), j + d = t → d < k → spec_l06Vars.l0 k ((2 ^ t : Nat) : Int) j = some (t : Int) := by
  induction d with
  | zero =>
    intro k j hj hk
    obtain ⟨k, rfl⟩ : ∃ m, k = m + 1 := ⟨k - 1, by omega⟩
    obtain rfl : j = t := by omega
    simp only [spec_l06Vars.l0]
    rw [u64w (by omega) (by omega), if_pos (by omega), shl_small (by omega), if_neg (by omega)]
  | succ d ih =>
    intro k j hj hk
    obtain ⟨k, rfl⟩ : ∃ m, k = m + 1 := ⟨k - 1, by omega⟩
    have hp : 2 ^ j < 2 ^ t := Nat.pow_lt_pow_right (by omega) (by omega)
    simp only [spec_l06Vars.l0]
    rw [u64w (by omega) (by omega), if_pos (by omega), shl_small (by omega), if_pos (by omega), w64 (by omega) (by omega), show (j : Int) + 1 = ((j + 1 : Nat) : Int) by omega]
    exact ih k (j + 1) (by omega) (by omega)
theorem vars_eq {t : Nat} (h : t ≤ 9) {k : Nat} (hk : 20 < k) : spec_l06Vars.f k ((2 ^ t : Nat) : Int) = some (t : Int) := vars_l0 t h t k 0 (by omega) (by omega)
def rootE (t : Nat) : Nat := 127 * 2 ^ (24 - t)
theorem rootE0 : ∀ t : Fin 10, shl .i64 127 (24 - (t.val : Int)) = (rootE t.val : Int) ∧ rootE t.val < 2 ^ 40 := by decide +kernel
def rootOf (t : Nat) : Int := fpow 3 (rootE t)
theorem inF_root (t : Nat) : inF (rootOf t) := inF_pow _ _
theorem impl_root_eq {t : Nat} (h : t ≤ 9) {k : Nat} (hk : 40 < k) : impl_root.f k (t : Int) = some (rootOf t) := by
  have e := rootE0 ⟨t, by omega⟩
  simp only at e
  unfold impl_root.f rootOf
  rw [w64 (by omega) (by omega), if_pos (by omega), e.1, (pow_both inF_3 e.2 hk).1]; rfl
theorem l01Root_eq {t : Nat} (h : t ≤ 9) {k : Nat} (hk : 40 < k) : spec_l01Root.f k (t : Int) = some (rootOf t) := by
  have e := rootE0 ⟨t, by omega⟩
  simp only at e
  unfold spec_l01Root.f rootOf
  rw [w64 (by omega) (by omega), u64w (by omega) (by omega), if_pos (by omega), e.1, (pow_both inF_3 e.2 hk).2]; rfl
/-! a pair folded -/
/-! the transform -/
theorem ntt_split (l : List E) (hl : okL l) (n : Nat) (hn : l.length = 2 * n) (hb : n ≤ 256) (w : Int) (d : Nat) : ∀ (i : Nat) (a b : List E), i + 2 * d = l.length → 2 * a.length = i → b.length = a.length → okL a → okL b →
    ∃ a' b', (okL a' ∧ okL b' ∧ a'.length = n ∧ b'.length = n) ∧ ∀ k, d < k →
      impl_values.l0 k l w a b i = impl_values.l0 (k - d) l w a' b' (l.length : Int) ∧ spec_l07Ntt.l0 k l w (l.length : Int) a b i = spec_l07Ntt.l0 (k - d) l w (l.length : Int) a' b' (l.length : Int) := by
  induction d with
  | zero =>
    intro i a b hi ha hb' hoa hob
    refine ⟨a, b, ⟨hoa, hob, by omega, by omega⟩, fun k hk => ?_⟩
    obtain rfl : i = l.length := by omega
    exact ⟨rfl, rfl⟩
  | succ d ih =>
    intro i a b hi ha hb' hoa hob
    have w1 : wrap64 ((i : Int) + 1) = (i : Int) + 1 := w64 (by omega) (by omega)
    have w2 : wrap64 ((i : Int) + 2) = ((i + 2 : Nat) : Int) := by rw [w64 (by omega) (by omega)]; omega
    have h1 : okE (rd_T42 l i) := okL_rd hl (by omega) (by omega)
    have h2 : okE (rd_T42 l ((i : Int) + 1)) := okL_rd hl (by omega) (by omega)
    obtain ⟨a', b', hq, h⟩ := ih (i + 2) (a ++ [rd_T42 l i]) (b ++ [rd_T42 l ((i : Int) + 1)]) (by omega) (by simp; omega) (by simp; omega) (okL_app hoa (okL_one h1)) (okL_app hob (okL_one h2))
    refine ⟨a', b', hq, fun k hk => ?_⟩
    obtain ⟨k, rfl⟩ : ∃ m, k = m + 1 := ⟨k - 1, by omega⟩
    have e : k + 1 - (d + 1) = k - d := by omega
    rw [e]
    simp only [impl_values.l0, spec_l07Ntt.l0]
    rw [w1, w2, if_pos (show (i : Int) < (l.length : Int) by omega), if_pos (show 0 ≤ (i : Int) by omega)]
    simp only [bS, List.length_cons, List.length_nil]
    rw [if_pos (by omega), if_pos (show 0 ≤ (i : Int) + 1 by omega), if_pos (show (i : Int) + 1 < (l.length : Int) by omega), if_pos (by omega),
      if_pos (show (i : Int) < (l.length : Int) by omega), if_pos (show 0 ≤ (i : Int) by omega), if_pos (show (i : Int) < (l.length : Int) by omega), if_pos (by omega), if_pos (show 0 ≤ (i : Int) + 1 by omega), if_pos (show (i : Int) + 1 < (l.length : Int) by omega), if_pos (by omega), etaE, etaE]
    exact h k (by omega)
theorem ntt_join (u v : List E) (hu : okL u) (hv : okL v) (n : Nat) (hn : u.length = n) (hm : v.length = n) (hb : n ≤ 256) (w : Int) (hw : inF w) (d : Nat) : ∀ (j : Nat) (p : Int) (o : List E), j + d = n → inF p → okL o → o.length = 2 * n →
    ∃ q, (okL q ∧ q.length = 2 * n) ∧ ∀ k, d < k → impl_values.l1 k w u v (n : Int) p o (n : Int) j = some q ∧ spec_l07Ntt.l1 k w ((2 * n : Nat) : Int) u v o p j = some q := by
  have hw2 : wrap64 (((2 * n : Nat) : Int) / 2) = (n : Int) := by rw [w64 (by omega) (by omega)]; omega
  induction d with
  | zero =>
    intro j p o hj hp ho hl
    refine ⟨o, ⟨ho, hl⟩, fun k hk => ?_⟩
    obtain ⟨k, rfl⟩ : ∃ m, k = m + 1 := ⟨k - 1, by omega⟩
    simp only [impl_values.l1, spec_l07Ntt.l1]
    rw [hw2, if_neg (by omega), if_neg (by omega)]; exact ⟨rfl, rfl⟩
  | succ d ih =>
    intro j p o hj hp ho hl
    have h1 : okE (rd_T42 u j) := okL_rd hu (by omega) (by omega)
    have h2 : okE (rd_T42 v j) := okL_rd hv (by omega) (by omega)
    obtain ⟨q, hq, h⟩ := ih (j + 1) (fmul p w) ((o.set j (eadd (rd_T42 u j) (escale (rd_T42 v j) p))).set (j + n) (esub (rd_T42 u j) (escale (rd_T42 v j) p))) (by omega) (inF_mul _ _) (okL_set (okL_set ho (ok_add _ _)) (ok_sub _ _)) (by rw [List.length_set, List.length_set]; exact hl)
    refine ⟨q, hq, fun k hk => ?_⟩
    obtain ⟨k, rfl⟩ : ∃ m, k = m + 1 := ⟨k - 1, by omega⟩
    have hjn : wrap64 ((j : Int) + (n : Int)) = (j : Int) + (n : Int) := w64 (by omega) (by omega)
    have e2 : ((j : Int) + (n : Int)).toNat = j + n := by omega
    simp only [impl_values.l1, spec_l07Ntt.l1]
    rw [hw2, hjn, if_pos (show (j : Int) < (n : Int) by omega), if_pos (show 0 ≤ (j : Int) by omega), if_pos (show (j : Int) < (v.length : Int) by omega), impl_scaled_eq h2 hp,
      if_pos (show (j : Int) < (n : Int) by omega), if_pos (show 0 ≤ (j : Int) by omega), if_pos (show (j : Int) < (v.length : Int) by omega), spec_l02Of_eq]
    simp only [bS]
    rw [if_pos (show (j : Int) < (u.length : Int) by omega), impl_plus_eq h1 (ok_scale _ _), spec_l02Mul_eq h2 (ok_of hp), emul_of]
    simp only [bS]
    rw [impl_minus_eq h1 (ok_scale _ _), if_pos (show (j : Int) < (u.length : Int) by omega), spec_l02Add_eq h1 (ok_scale _ _)]
    simp only [bS]
    rw [if_pos (show (j : Int) < (o.length : Int) by omega), if_pos (show 0 ≤ (j : Int) + (n : Int) by omega), if_pos (show (j : Int) + (n : Int) < (o.length : Int) by omega), impl_mul_eq hp hw,
      if_pos (show (j : Int) < (o.length : Int) by omega), spec_l02Sub_eq h1 (ok_scale _ _)]
    simp only [bS]
    rw [if_pos (show 0 ≤ (j : Int) + (n : Int) by omega), if_pos (show (j : Int) + (n : Int) < (o.length : Int) by omega), spec_l01Mul_eq hp hw]
    simp only [bS]
    rw [w64 (n := (j : Int) + 1) (by omega) (by omega), show (j : Int) + 1 = ((j + 1 : Nat) : Int) by omega, e2, Int.toNat_natCast, etaE, etaE]
    exact h k (by omega)
theorem okL_rep (n : Nat) : okL (List.replicate n zE) := by
  intro y hy
  rw [(List.mem_replicate.mp hy).2]
  exact ok_zero
theorem ntt_same (t : Nat) : ∀ (l : List E) (w : Int), t ≤ 9 → okL l → l.length = 2 ^ t → inF w →
    ∃ q, (okL q ∧ q.length = 2 ^ t) ∧ ∀ k, 600 * (t + 1) < k → impl_values.f k l w = some q ∧ spec_l07Ntt.f k l w = some q := by
  induction t with
  | zero =>
    intro l w ht hl hn hw
    refine ⟨l, ⟨hl, hn⟩, fun k hk => ?_⟩
    obtain ⟨k, rfl⟩ : ∃ m, k = m + 1 := ⟨k - 1, by omega⟩
    have h1 : l.length = 1 := hn
    simp only [impl_values.f, spec_l07Ntt.f]
    rw [if_pos (by omega), if_pos (by omega)]
    simp only [bS, impl_Ext_195.f, List.nil_append, List.length_nil]
    rw [if_pos (by omega), if_pos (by omega)]
    exact ⟨rfl, rfl⟩
  | succ t ih =>
    intro l w ht hl hn hw
    have hh : 2 ^ (t + 1) = 2 * 2 ^ t := by rw [Nat.pow_succ, Nat.mul_comm]
    have hb : 2 ^ t ≤ 256 := Nat.le_trans (Nat.pow_le_pow_right (by omega) (show t ≤ 8 by omega)) (by decide)
    have hp : 0 < 2 ^ t := Nat.two_pow_pos t
    obtain ⟨a, b, ⟨ha, hb2, hla, hlb⟩, hs⟩ := ntt_split l hl (2 ^ t) (by omega) hb w (2 ^ t) 0 [] [] (by omega) rfl rfl okL_nil okL_nil
    obtain ⟨u, ⟨hu, hlu⟩, hus⟩ := ih a (fmul w w) (by omega) ha hla (inF_mul _ _)
    obtain ⟨v, ⟨hv, hlv⟩, hvs⟩ := ih b (fmul w w) (by omega) hb2 hlb (inF_mul _ _)
    obtain ⟨q, hq, hj⟩ := ntt_join u v hu hv (2 ^ t) hlu hlv hb w hw (2 ^ t) 0 1 (List.replicate (2 * 2 ^ t) zE) (by omega) inF_1 (okL_rep _) (by simp)
    refine ⟨q, ⟨hq.1, by omega⟩, fun k hk => ?_⟩
    obtain ⟨k, rfl⟩ : ∃ m, k = m + 1 := ⟨k - 1, by omega⟩
    obtain ⟨s1, s2⟩ := hs k (by omega)
    obtain ⟨m, hm⟩ : ∃ m, k - 2 ^ t = m + 1 := ⟨k - 2 ^ t - 1, by omega⟩
    obtain ⟨u1, u2⟩ := hus m (by omega)
    obtain ⟨v1, v2⟩ := hvs m (by omega)
    obtain ⟨j1, j2⟩ := hj m (by omega)
    rw [hm] at s1 s2
    rw [Int.natCast_zero] at s1 s2 j1 j2
    simp only [impl_values.f, spec_l07Ntt.f]
    rw [if_neg (by omega), if_neg (by omega), s1, s2]
    simp only [impl_values.l0, spec_l07Ntt.l0]
    have e1 : wrap64 (2 * (u.length : Int)) = ((2 * 2 ^ t : Nat) : Int) := by rw [w64 (by omega) (by omega)]; omega
    have e2 : (l.length : Int) = ((2 * 2 ^ t : Nat) : Int) := by omega
    have e3 : (u.length : Int) = ((2 ^ t : Nat) : Int) := by omega
    rw [if_neg (by omega), if_neg (by omega), impl_mul_eq hw hw, spec_l01Mul_eq hw hw]
    simp only [bS]
    rw [u1, u2]
    simp only [bS]
    rw [v1, v2]
    simp only [bS]
    rw [e1, if_pos (by omega), e2, if_pos (by omega), Int.toNat_natCast, if_pos (by omega), if_pos (by omega), e3]
    exact ⟨j1, j2⟩
end Go.Proofs.Ytlfnfalckfggkaa.PT
end
section
/- The inverse transform and the words of a code: both sides walk the same numbers. -/
namespace Go.Proofs.Ytlfnfalckfggkaa.PT
open Go.RowKit Go.Proofs.YtlfnfalckfggkaaW.PrintWords Go.Proofs.YtlfnfalckfggkaaW.PrintLast Go.Proofs.YtlfnfalckfggkaaW.PrintMore
set_option linter.unusedVariables false
set_option linter.unusedSimpArgs false
end Go.Proofs.Ytlfnfalckfggkaa.PT
end
section
/- The word of coefficients, alike on both sides, held apart and untouched. -/
namespace Go.Proofs.Ytlfnfalckfggkaa.fnExactEncodeWord
open Go.Proofs.Ytlfnfalckfggkaa.PT Go.RowKit Go.Proofs.YtlfnfalckfggkaaO Go.Proofs.YtlfnfalckfggkaaW.PrintWords Go.Proofs.YtlfnfalckfggkaaW.PrintLast Go.Proofs.YtlfnfalckfggkaaW.PrintMore
set_option linter.unusedSimpArgs false
theorem shl_pow0 : ∀ t s : Fin 10, shl .i64 ((2 ^ t.val : Nat) : Int) (s.val : Int) = ((2 ^ (t.val + s.val) : Nat) : Int) := by decide +kernel
theorem shl_pow {t s : Nat} (ht : t ≤ 9) (hs : s ≤ 9) : shl .i64 ((2 ^ t : Nat) : Int) (s : Int) = ((2 ^ (t + s) : Nat) : Int) := shl_pow0 ⟨t, by omega⟩ ⟨s, by omega⟩
theorem same (l : List E) (a : Int) (hl : l.length ≤ 1048576) : ∃ (B : Nat) (r : List E × Int), B ≤ 100000 ∧ r.1.length ≤ 4096 ∧ ∀ k, l.length + 5000 + B ≤ k → spec_EncodeWord.f k l a = some r ∧ impl_EncodeWord.f k l a = some r := by
  by_cases h0 : wordC l = 0
  · obtain ⟨hok, t, ht, hn⟩ := wordC_zero h0
    have hb : 2 ^ t ≤ 512 := Nat.le_trans (Nat.pow_le_pow_right (by omega) ht) (by decide)
    have h4 : ¬ (l.length : Int) > 4096 := by omega
    have en : (l.length : Int) = ((2 ^ t : Nat) : Int) := by omega
    by_cases h9 : 0 ≤ a ∧ a ≤ 9
    · obtain ⟨s, hs, rfl⟩ : ∃ s : Nat, s ≤ 9 ∧ a = (s : Int) := ⟨a.toNat, by omega, by omega⟩
      have hu : IntKind.u64.wrap (s : Int) = (s : Int) := u64w (by omega) (by omega)
      have hsh := shl_pow ht hs
      by_cases hbig : ((2 ^ (t + s) : Nat) : Int) > 512
      · refine ⟨10000, ([], 4), by omega, by simp, fun k hk => ?_⟩
        unfold spec_EncodeWord.f impl_EncodeWord.f
        rw [if_neg h4, l07Ask_eq (by omega), impl_wordCode_eq, h0]
        simp only [bS, if_true]
        rw [spec_l01In_eq, impl_in_eq, decide_eq_true h9]
        simp only [bS, if_true]
        rw [hu, if_pos h9.1, if_pos h9.1, en, hsh, if_pos hbig, if_pos hbig]
        exact ⟨rfl, rfl⟩
      · have hts : t + s ≤ 9 := by
          apply Decidable.byContradiction
          intro hc
          have : 2 ^ 10 ≤ 2 ^ (t + s) := Nat.pow_le_pow_right (by omega) (by omega)
          have e : (2 : Nat) ^ 10 = 1024 := by decide
          omega
        have hpw : 2 ^ (t + s) = 2 ^ t * 2 ^ s := Nat.pow_add 2 t s
        have hle : 2 ^ t ≤ 2 ^ (t + s) := Nat.pow_le_pow_right (by omega) (by omega)
        obtain ⟨L, hLe⟩ : ∃ L : List E, L = l ++ List.replicate (2 ^ (t + s) - 2 ^ t) zE := ⟨_, rfl⟩
        have hLok : okL L := by rw [hLe]; exact okL_app hok (okL_rep _)
        have hLn : L.length = 2 ^ (t + s) := by rw [hLe, List.length_append, List.length_replicate]; omega
        obtain ⟨q, hq, hk3⟩ := ntt_same (t + s) L (rootOf (t + s)) hts hLok hLn (inF_root _)
        have enL : (L.length : Int) = ((2 ^ (t + s) : Nat) : Int) := by omega
        refine ⟨10000, (q, 0), by omega, by show q.length ≤ 4096; omega, fun k hk => ?_⟩
        obtain ⟨e1, e2⟩ := hk3 k (by omega)
        unfold spec_EncodeWord.f impl_EncodeWord.f impl_encoded.f spec_l07Encode.f
        rw [if_neg h4, l07Ask_eq (by omega), impl_wordCode_eq, h0]
        simp only [bS, if_true]
        rw [spec_l01In_eq, impl_in_eq, decide_eq_true h9]
        simp only [bS, if_true]
        have hl512 : l.length ≤ 512 := by omega
        simp only [hu, if_pos h9.1, if_pos h9.2, if_pos hl512]
        rw [en, hsh, if_neg hbig, if_neg hbig]
        rw [w64 (n := ((2 ^ (t + s) : Nat) : Int) - ((2 ^ t : Nat) : Int)) (by omega) (by omega), show (((2 ^ (t + s) : Nat) : Int) - ((2 ^ t : Nat) : Int)).toNat = 2 ^ (t + s) - 2 ^ t by omega]
        simp only [List.nil_append, List.length_nil, Nat.zero_add]
        rw [if_pos (by omega), if_pos (show 0 ≤ ((2 ^ (t + s) : Nat) : Int) - ((2 ^ t : Nat) : Int) by omega), if_pos (by omega), vars_eq hts (by omega)]
        simp only [bS]
        rw [l01Root_eq hts (by omega)]
        simp only [bS]
        rw [show List.replicate (2 ^ (t + s) - 2 ^ t) z42 = List.replicate (2 ^ (t + s) - 2 ^ t) zE from rfl, ← hLe, e2]
        simp only [bS]
        refine ⟨trivial, ?_⟩
        rw [Int.toNat_natCast, hn, ← hpw, ← hLe]
        unfold impl_ntt.f
        rw [enL, logOf_eq hts]
        simp only [bS]
        rw [impl_root_eq hts (by omega)]
        simp only [bS]
        rw [e1]
        rfl
    · refine ⟨10000, ([], 4), by omega, by simp, fun k hk => ?_⟩
      unfold spec_EncodeWord.f impl_EncodeWord.f
      rw [if_neg h4, l07Ask_eq (by omega), impl_wordCode_eq, h0]
      simp only [bS, if_true]
      rw [spec_l01In_eq, impl_in_eq, decide_eq_false h9]
      exact ⟨rfl, rfl⟩
  · refine ⟨10000, ([], wordC l), by omega, by simp, fun k hk => ?_⟩
    unfold spec_EncodeWord.f impl_EncodeWord.f
    rw [l07Ask_eq (by omega), impl_wordCode_eq]
    simp only [bS]
    rw [if_neg h0, if_neg h0]
    by_cases h1 : (l.length : Int) > 4096
    · have : wordC l = 2 := by unfold wordC; rw [if_pos (by omega)]
      rw [if_pos h1, this]; exact ⟨rfl, rfl⟩
    · rw [if_neg h1]; exact ⟨rfl, rfl⟩
theorem pureFnExactEncodeWord : Pure := by
  intro x a hx _
  by_cases h : (x.length : Int) ≤ 1048576
  · have hl := convL_length x
    obtain ⟨B, r, hB, hr, hsame⟩ := same (convL x) a (by omega)
    refine ⟨(x.length + 5000 + B) + 1 + 1 + 1, ?_⟩
    unfold laws_FnExactEncodeWord.f
    generalize hK : x.length + 5000 + B = K
    have s3 := hsame (K + 1 + 1 + 1) (by omega)
    have s1 := hsame (K + 1) (by omega)
    rw [szExtS_fit (by omega) h]
    simp only [bS]
    rw [if_neg (by omega), toExtS_eq (k := K + 1 + 1 + 1) (by omega) (by omega)]
    simp only [bS]
    rw [s3.1, s3.2]
    simp only [bS]
    rw [eqExtS_refl (k := K + 1 + 1 + 1) (by omega) (by omega)]
    simp only [bS, if_true, bne_self_eq_false, laws_FnExactEncodeWord.j0, Bool.false_eq_true, if_false]
    rw [toExtS_eq (k := K + 1 + 1) (by omega) (by omega)]
    simp only [bS]
    rw [eqExtS_refl (k := K + 1 + 1) (by omega) (by omega)]
    simp only [bS, if_true]
    rw [markExtS_eq (k := K + 1 + 1) (by omega) (by omega) (by omega) (by omega)]
    simp only [bS]
    rw [if_neg (by omega), eqExtS_refl (k := K + 1 + 1) (by omega) (by omega)]
    simp only [bS, if_true, bne_self_eq_false, laws_FnExactEncodeWord.j1, Bool.false_eq_true, if_false]
    rw [markExtS_eq (k := K + 1) (by omega) (by omega) (by omega) (by omega)]
    simp only [bS]
    rw [heldExtS_eq (k := K + 1) (by omega) (by omega) (by omega) (by omega)]
    simp only [bS]
    rw [if_neg (by omega), if_true, toExtS_eq (k := K + 1) (by omega) (by omega)]
    simp only [bS]
    rw [s1.2]
    simp only [bS]
    rw [eqExtS_refl (k := K + 1) (by omega) (by omega)]
    simp only [bS, if_true, bne_self_eq_false, laws_FnExactEncodeWord.j2, Bool.false_eq_true, if_false]
    rw [heldExtS_eq (k := K) (by omega) (by omega) (by omega) (by omega)]
    simp only [bS]
    rw [if_neg (by omega), if_true]
  · refine ⟨1, ?_⟩
    unfold laws_FnExactEncodeWord.f
    rw [szExtS_big (by omega) (by omega) hx.1 (by omega)]
    simp
end Go.Proofs.Ytlfnfalckfggkaa.fnExactEncodeWord
end
