/- Part 0 of the proof of FnExactSumProve: what functions compute, shown step by step, and what that says (the claim's last text states the law). -/
import Derived.Test.YtgookagndlfehaaGreatProg
import Derived.Test.YtgookagndlfehaaGreatVMore
import Derived.Test.YtgookagndlfehaaGreatVWords
import Derived.Test.YtgookagndlfehaaGreatVLast
import Derived.Test.YtgookagndlfehaaGreatVTab
import Derived.Test.YtgookagndlfehaaGreatVFour
import Derived.Test.YtgookagndlfehaaGreatVQPut
import Derived.Test.YtgookagndlfehaaGreatVApart
import Derived.Test.YtgookagndlfehaaGreatVArr
import Derived.Test.YtgookagndlfehaaGreatVZeros
import Derived.Test.YtgookagndlfehaaGreatVFoot
import Derived.Test.YtgookagndlfehaaGreatVKept
import Derived.Test.YtgookagndlfehaaGreatVShare
import Derived.Test.YtgookagndlfehaaGreatVN
import Derived.Test.YtgookagndlfehaaGreatVFootNe
import Derived.Test.YtgookagndlfehaaGreatVAt
import Derived.Test.YtgookagndlfehaaGreatVRepsOne
import Derived.Test.YtgookagndlfehaaGreatVInv
import Derived.Test.YtgookagndlfehaaGreatVInvWords
import Derived.Test.YtgookagndlfehaaGreatVGuard
import Derived.Test.YtgookagndlfehaaGreatVNEv
import Derived.Test.YtgookagndlfehaaGreatRows
import Derived.JoinedOf
import Derived.WalkKit
import Derived.ProofKit
import Derived.Below
import Derived.Deep.Draws
import Derived.Deep.AppendLies
import Derived.Maps.AppendAt
import Derived.OwnWalk
import Derived.Laws.BytesArg
import Derived.Laws.MakeOwn
import Derived.Laws.OwnMore
import Derived.Deep.OwnRows
import Derived.Tactics
import Derived.Lib.ConvBytes
import Derived.Laws.Slices
import Derived.KernelRfl
import Derived.RowKit3
import Derived.Deep.LoopGhost
import Derived.Deep.QuietTactic
import Derived.BigQuiet
import Derived.WideLaws
import Derived.Deep.DeepCutAuto
import Derived.Deep.CutBlock
import Derived.Deep.RegionHeld3
import Derived.Laws.Rows
import Derived.Lib.AppendStr
import Derived.ArgAppend
import Derived.Laws.IdiomCopy
import Derived.OrdersHeld
import Derived.Laws.BitsLemmas
import Derived.RowKit
import Derived.Deep.DeepMust
import Derived.Laws.CopyOwn
import Derived.Lib.BufferMore
import Derived.Lib.SliceRun
import Derived.OpenShut
import Derived.ShutString
import Derived.ChangeOld
import Derived.SizedLaws
import Derived.Deep.Slices
import Derived.ChangeArms
import Derived.Shelf.Small.Bits
import Derived.Shelf.Strconv.Itoa0
import Derived.Laws.Bits64b
set_option maxRecDepth 100000
set_option maxHeartbeats 8000000
namespace Go.Proofs
theorem qz0_ {p:Prop} (h:p:=by first|rfl|(simp;done)|(simp [*];done)):p:=h
theorem qz1_ {p:Prop} (h:p:=by repeat(first|exact zbx.refl _|apply zbx.step)):p:=h
theorem qz2_ {p:Prop} (h:p:=by repeat(first|(with_reducible first|exact HB.out|apply za5|apply zaw|apply zao)|exact HB.out)):p:=h
theorem qz3_ {p:Prop} (h:p:=by(try simp only [List.map_toArray,List.map_cons,List.map_nil]);first|done|rfl|(simp only [List.length_drop,List.length_take];rfl)):p:=h
theorem qz4_ {p:Prop} (h:p:=by first|rfl|(simp [zc9,zda] <;> rfl)|(simp [*,zc9,zda] <;> rfl)):p:=h
theorem qz5_ {p:Prop} (h:p:=by repeat(first|(with_reducible first|exact HB.out|apply za5|apply zaw|apply zao|refine za6 ?_ GE101.out)|exact HB.out)):p:=h
theorem qz6_ {p:Prop} (h:p:=by(with_reducible repeat(first|refine zah ?_ _|refine zae ?_|refine zai ?_ _));exact BK101.out):p:=h
theorem qz7_ {p:Prop} (h:p:=by(with_reducible repeat(first|refine zah ?_ _|refine zae ?_|refine zai ?_ _));exact BK102.out):p:=h
theorem qz8_ {p:Prop} (h:p:=by repeat(first|(with_reducible first|exact HB.out|apply za5|apply zaw|apply zao|refine za6 ?_ GE101.out|refine za6 ?_ GE102.out)|exact HB.out)):p:=h
theorem qz9_ {p:Prop} (h:p:=by repeat(first|(with_reducible first|exact HB.out|apply za5|apply zaw|apply zao|refine za6 ?_ GE101.out|refine za6 ?_ GE102.out|refine za6 ?_ GE103.out)|exact HB.out)):p:=h
theorem qz10_ {p:Prop} (h:p:=by first|(with_reducible assumption)|assumption):p:=h
theorem qz11_ {p:Prop} (h:p:=by(with_reducible repeat(first|apply Kd.zbm|apply Kd.zbl|apply Kd.zbt));exact HO103.out):p:=h
theorem qz12_ {p:Prop} (h:p:=by(with_reducible repeat(first|apply Kd.zbm|apply Kd.zbl|apply Kd.zbt));exact HO_3.out):p:=h
theorem qz13_ {p:Prop} (h:p:=by have:=HK1.out;omega):p:=h
theorem qz14_ {p:Prop} (h:p:=by(with_reducible repeat(first|refine zah ?_ _|refine zae ?_|refine zai ?_ _));exact BK103.out):p:=h
theorem qz15_ {p:Prop} (h:p:=by repeat(first|(with_reducible first|exact HK.out|apply Kept.alloc|apply Kept.drewN|apply Kept.drew)|exact HK.out)):p:=h
theorem qz16_ {p:Prop} (h:p:=by(with_reducible repeat(first|apply Kd.zbm|apply Kd.zbl|apply Kd.zbt));exact HO0_0.out):p:=h
theorem qz17_ {p:Prop} (h:p:=by first|exact HK.out.1|exact(show Kept w _ (fun k_=>P0_0_ k_) from by repeat(first|(with_reducible first|exact HK.out|apply Kept.alloc|apply Kept.drewN|apply Kept.drew)|exact HK.out)).1):p:=h
theorem qz18_ {p:Prop} (h:p:=by repeat(first|(with_reducible first|exact HK.out|apply Kept.alloc|apply Kept.drewN|apply Kept.drew|refine Kept.setCell ?_ (.inr GW101.out) _)|exact HK.out)):p:=h
theorem qz19_ {p:Prop} (h:p:=by(try simp only [List.map_toArray,List.map_cons,List.map_nil]);first|done|rfl):p:=h
theorem qz20_ {p:Prop} (h:p:=by(with_reducible repeat(first|refine zah ?_ _|refine zae ?_|refine zai ?_ _));refine za9 (cs:=#[.int .i64 t104,.int .i64 0]) ?_ 1 _ rfl;(with_reducible repeat(first|refine zah ?_ _|refine zae ?_|refine zai ?_ _));refine za9 (cs:=#[.int .i64 0,.int .i64 0]) ?_ 0 _ rfl;(with_reducible repeat(first|refine zah ?_ _|refine zae ?_|refine zai ?_ _));exact BK103.out):p:=h
theorem qz21_ {p:Prop} (h:p:=by repeat(first|(with_reducible first|exact HB.out|apply za5|apply zaw|apply zao|refine za6 ?_ GE101.out|refine za6 ?_ GE102.out|refine za6 ?_ GE103.out|refine za6 ?_ GE104.out)|exact HB.out)):p:=h
theorem qz22_ {p:Prop} (h:p:=by(with_reducible repeat(first|apply Kd.zbm|apply Kd.zbl|apply Kd.zbt));exact HO_5.out):p:=h
theorem qz23_ {p:Prop} (h:p:=by have:=World.block_lt_of_cell? _ _ hw102_0;first|rwa [add_block] at this|exact this):p:=h
theorem qz24_ {p:Prop} (h:p:=by have:=World.block_lt_of_cell? _ _ hw102_1;first|rwa [add_block] at this|exact this):p:=h
theorem qz25_ {p:Prop} (h:p:=by have:=World.block_lt_of_cell? _ _ hw103_0;first|rwa [add_block] at this|exact this):p:=h
theorem qz26_ {p:Prop} (h:p:=by have:=World.block_lt_of_cell? _ _ hw103_1;first|rwa [add_block] at this|exact this):p:=h
theorem qz27_ {p:Prop} (h:p:=by have:=World.block_lt_of_cell? _ _ hw106_0;first|rwa [add_block] at this|exact this):p:=h
theorem qz28_ {p:Prop} (h:p:=by have:=World.block_lt_of_cell? _ _ hw106_1;first|rwa [add_block] at this|exact this):p:=h
theorem qz29_ {p:Prop} (h:p:=by have:=World.block_lt_of_cell? _ _ hw107_0;first|rwa [add_block] at this|exact this):p:=h
theorem qz30_ {p:Prop} (h:p:=by have:=World.block_lt_of_cell? _ _ hw107_1;first|rwa [add_block] at this|exact this):p:=h
theorem qz31_ {p:Prop} (h:p:=by have:=World.block_lt_of_cell? _ _ hw108_0;first|rwa [add_block] at this|exact this):p:=h
theorem qz32_ {p:Prop} (h:p:=by have:=World.block_lt_of_cell? _ _ hw108_1;first|rwa [add_block] at this|exact this):p:=h
theorem qz33_ {p:Prop} (h:p:=by have:=World.block_lt_of_cell? _ _ hw111_0;first|rwa [add_block] at this|exact this):p:=h
theorem qz34_ {p:Prop} (h:p:=by have:=World.block_lt_of_cell? _ _ hw111_1;first|rwa [add_block] at this|exact this):p:=h
theorem qz35_ {p:Prop} (h:p:=by(with_reducible repeat(first|refine zah ?_ _|refine zae ?_|refine zai ?_ _));refine zb8 ?_ NB101_102.out _;(with_reducible repeat(first|refine zah ?_ _|refine zae ?_|refine zai ?_ _));refine zb8 ?_ NB101_102.out _;(with_reducible repeat(first|refine zah ?_ _|refine zae ?_|refine zai ?_ _));exact BK101.out):p:=h
theorem qz36_ {p:Prop} (h:p:=by first|rfl|(go_simp;rfl)):p:=h
theorem qz37_ {p:Prop} (h:p:=by first|rfl|(rw [zb7,zb7];first|omega|(simp only [zcg];rfl))):p:=h
theorem qz38_ {p:Prop} (h:p:=by first|(go_simp;done)|(go_simp;rfl)):p:=h
theorem qz39_ {p:Prop} (h:p:=by first|rfl|simp [Value.oneCell']):p:=h
theorem qz40_ {p:Prop} (h:p:=by repeat(first|(with_reducible first|exact HK.out|apply zbn.set_|apply zob|apply zo2|apply zol)|exact HK.out)):p:=h
theorem qz41_ {p:Prop} (h:p:=by repeat(first|exact List.Sublist.slnil|apply List.Sublist.cons_cons|apply List.Sublist.cons)):p:=h
theorem qz42_ {p:Prop} (h:p:=by first|exact HK.out.1|exact(show Kept w _ (fun k_=>P0_0_ k_) from by repeat(first|(with_reducible first|exact HK.out|apply Kept.alloc|apply Kept.drewN|apply Kept.drew|refine Kept.setCell ?_ (.inr GW101.out) _)|exact HK.out)).1):p:=h
theorem qz43_ {p:Prop} (h:p:=by first|exact HK.out.1|exact(show Kept w _ (fun k_=>P0_0_ k_) from by repeat(first|(with_reducible first|exact HK.out|apply Kept.alloc|apply Kept.drewN|apply Kept.drew|refine Kept.setCell ?_ (.inr GW101.out) _|refine Kept.setCell ?_ (.inr GW102.out) _)|exact HK.out)).1):p:=h
theorem qz44_ {p:Prop} (h:p:=by repeat(first|(with_reducible first|exact HK.out|apply Kept.alloc|apply Kept.drewN|apply Kept.drew|refine Kept.setCell ?_ (.inr GW101.out) _|refine Kept.setCell ?_ (.inr GW102.out) _)|exact HK.out)):p:=h
theorem qz45_ {p:Prop} (h:p:=by repeat(first|(with_reducible first|exact HK.out|apply Kept.alloc|apply Kept.drewN|apply Kept.drew|refine Kept.setCell ?_ (.inr GW101.out) _|refine Kept.setCell ?_ (.inr GW102.out) _|refine Kept.setCell ?_ (.inr GW103.out) _)|exact HK.out)):p:=h
theorem qz46_ {p:Prop} (h:p:=by first|exact Kd.zjz (Kd.zh5 HO0_0.out (fun _ hk=>hk.2))|(rw [add_block];exact Kd.zjz (Kd.zh5 HO0_0.out (fun _ hk=>hk.2)))|(show (Addr.add _ _).block≠_;rw [add_block];exact Kd.zjz (Kd.zh5 HO0_0.out (fun _ hk=>hk.2)))|(dsimp only;exact Kd.zjz (Kd.zh5 HO0_0.out (fun _ hk=>hk.2)))):p:=h
theorem qz47_ {p:Prop} (h:p:=by with_reducible repeat(first|exact List.mem_cons_self|apply List.mem_cons_of_mem)):p:=h
theorem qz48_ {p:Prop} (h:p:=by first|exact Nat.ne_of_lt (Nat.lt_of_lt_of_le qz23_ GW101.out)|(rw [add_block];exact Nat.ne_of_lt (Nat.lt_of_lt_of_le qz23_ GW101.out))|(show (Addr.add _ _).block≠_;rw [add_block];exact Nat.ne_of_lt (Nat.lt_of_lt_of_le qz23_ GW101.out))|(dsimp only;exact Nat.ne_of_lt (Nat.lt_of_lt_of_le qz23_ GW101.out))):p:=h
theorem qz49_ {p:Prop} (h:p:=by first|exact Nat.ne_of_lt (Nat.lt_of_lt_of_le qz24_ GW101.out)|(rw [add_block];exact Nat.ne_of_lt (Nat.lt_of_lt_of_le qz24_ GW101.out))|(show (Addr.add _ _).block≠_;rw [add_block];exact Nat.ne_of_lt (Nat.lt_of_lt_of_le qz24_ GW101.out))|(dsimp only;exact Nat.ne_of_lt (Nat.lt_of_lt_of_le qz24_ GW101.out))):p:=h
theorem qz50_ {p:Prop} (h:p:=by first|exact Nat.ne_of_lt (Nat.lt_of_lt_of_le qz25_ GW101.out)|(rw [add_block];exact Nat.ne_of_lt (Nat.lt_of_lt_of_le qz25_ GW101.out))|(show (Addr.add _ _).block≠_;rw [add_block];exact Nat.ne_of_lt (Nat.lt_of_lt_of_le qz25_ GW101.out))|(dsimp only;exact Nat.ne_of_lt (Nat.lt_of_lt_of_le qz25_ GW101.out))):p:=h
theorem qz51_ {p:Prop} (h:p:=by first|exact Nat.ne_of_lt (Nat.lt_of_lt_of_le qz26_ GW101.out)|(rw [add_block];exact Nat.ne_of_lt (Nat.lt_of_lt_of_le qz26_ GW101.out))|(show (Addr.add _ _).block≠_;rw [add_block];exact Nat.ne_of_lt (Nat.lt_of_lt_of_le qz26_ GW101.out))|(dsimp only;exact Nat.ne_of_lt (Nat.lt_of_lt_of_le qz26_ GW101.out))):p:=h
theorem qz52_ {p:Prop} (h:p:=by first|exact Nat.ne_of_lt (Nat.lt_of_lt_of_le qz27_ GW101.out)|(rw [add_block];exact Nat.ne_of_lt (Nat.lt_of_lt_of_le qz27_ GW101.out))|(show (Addr.add _ _).block≠_;rw [add_block];exact Nat.ne_of_lt (Nat.lt_of_lt_of_le qz27_ GW101.out))|(dsimp only;exact Nat.ne_of_lt (Nat.lt_of_lt_of_le qz27_ GW101.out))):p:=h
theorem qz53_ {p:Prop} (h:p:=by first|exact Nat.ne_of_lt (Nat.lt_of_lt_of_le qz28_ GW101.out)|(rw [add_block];exact Nat.ne_of_lt (Nat.lt_of_lt_of_le qz28_ GW101.out))|(show (Addr.add _ _).block≠_;rw [add_block];exact Nat.ne_of_lt (Nat.lt_of_lt_of_le qz28_ GW101.out))|(dsimp only;exact Nat.ne_of_lt (Nat.lt_of_lt_of_le qz28_ GW101.out))):p:=h
theorem qz54_ {p:Prop} (h:p:=by first|exact Nat.ne_of_lt (Nat.lt_of_lt_of_le qz29_ GW101.out)|(rw [add_block];exact Nat.ne_of_lt (Nat.lt_of_lt_of_le qz29_ GW101.out))|(show (Addr.add _ _).block≠_;rw [add_block];exact Nat.ne_of_lt (Nat.lt_of_lt_of_le qz29_ GW101.out))|(dsimp only;exact Nat.ne_of_lt (Nat.lt_of_lt_of_le qz29_ GW101.out))):p:=h
theorem qz55_ {p:Prop} (h:p:=by first|exact Nat.ne_of_lt (Nat.lt_of_lt_of_le qz30_ GW101.out)|(rw [add_block];exact Nat.ne_of_lt (Nat.lt_of_lt_of_le qz30_ GW101.out))|(show (Addr.add _ _).block≠_;rw [add_block];exact Nat.ne_of_lt (Nat.lt_of_lt_of_le qz30_ GW101.out))|(dsimp only;exact Nat.ne_of_lt (Nat.lt_of_lt_of_le qz30_ GW101.out))):p:=h
theorem qz56_ {p:Prop} (h:p:=by first|exact Nat.ne_of_lt (Nat.lt_of_lt_of_le qz31_ GW101.out)|(rw [add_block];exact Nat.ne_of_lt (Nat.lt_of_lt_of_le qz31_ GW101.out))|(show (Addr.add _ _).block≠_;rw [add_block];exact Nat.ne_of_lt (Nat.lt_of_lt_of_le qz31_ GW101.out))|(dsimp only;exact Nat.ne_of_lt (Nat.lt_of_lt_of_le qz31_ GW101.out))):p:=h
theorem qz57_ {p:Prop} (h:p:=by first|exact Nat.ne_of_lt (Nat.lt_of_lt_of_le qz32_ GW101.out)|(rw [add_block];exact Nat.ne_of_lt (Nat.lt_of_lt_of_le qz32_ GW101.out))|(show (Addr.add _ _).block≠_;rw [add_block];exact Nat.ne_of_lt (Nat.lt_of_lt_of_le qz32_ GW101.out))|(dsimp only;exact Nat.ne_of_lt (Nat.lt_of_lt_of_le qz32_ GW101.out))):p:=h
theorem qz58_ {p:Prop} (h:p:=by first|exact Nat.ne_of_lt (Nat.lt_of_lt_of_le qz33_ GW101.out)|(rw [add_block];exact Nat.ne_of_lt (Nat.lt_of_lt_of_le qz33_ GW101.out))|(show (Addr.add _ _).block≠_;rw [add_block];exact Nat.ne_of_lt (Nat.lt_of_lt_of_le qz33_ GW101.out))|(dsimp only;exact Nat.ne_of_lt (Nat.lt_of_lt_of_le qz33_ GW101.out))):p:=h
theorem qz59_ {p:Prop} (h:p:=by first|exact Nat.ne_of_lt (Nat.lt_of_lt_of_le qz34_ GW101.out)|(rw [add_block];exact Nat.ne_of_lt (Nat.lt_of_lt_of_le qz34_ GW101.out))|(show (Addr.add _ _).block≠_;rw [add_block];exact Nat.ne_of_lt (Nat.lt_of_lt_of_le qz34_ GW101.out))|(dsimp only;exact Nat.ne_of_lt (Nat.lt_of_lt_of_le qz34_ GW101.out))):p:=h
theorem qc_ {p q:Prop} (h:p) (e:p→q:=by intro h_;repeat(first|exact h_|(with_reducible refine Kd.zm7 ?_ _)|(with_reducible refine Kd.zqi ?_ _)|(with_reducible refine Kd.zpg ?_))):q:=e h
theorem qd1_ {w:World} {m n:Nat}:(w.drewN m).drewN n=w.drewN (m + n):=World.drewN_drewN _ _ _
theorem qd2_ {w:World} {a b c:Nat}:(w.drewN (a + b)).drewN c=w.drewN (a + (b + c)):=Eq.trans (World.drewN_drewN _ _ _) (congrArg (World.drewN _) (Nat.add_assoc _ _ _))
theorem am_ {p:Prop} (h:p):Go.Proofs.YtgookagndlfehaaGreatW.PrintWords.zal p:=⟨h⟩
theorem ap_ {α:Sort _} {a b:α} (h:a=b:=by simp only [Act.put,List.setIfInBounds_toArray,List.set_cons_zero,List.set_cons_succ,Go.Proofs.YtgookagndlfehaaGreatW.PrintLast.i64_w,Go.Proofs.YtgookagndlfehaaGreatW.PrintLast.i32_w];rfl):a=b:=h
section
open Go.RowKit Go.Proofs.YtgookagndlfehaaGreatW.PrintWords Go.Proofs.YtgookagndlfehaaGreatW.PrintLast Go.Proofs.YtgookagndlfehaaGreatW.PrintMore
@[reducible] def bs_ (n m : Nat) : Array Bool := ((List.range n).map fun i => m.testBit i).toArray
theorem bx_ {p : Prop} (h : p := by first | (go_simp; done) | (go_simp; rfl)) : p := h
theorem ab_ {b : Bool} {p : Prop} (h : b = false) (k : b = true) : p := absurd (h.symm.trans k) (by decide)
theorem pu_ {P : Program} {ops : Array Oper} {Q : Exit → Act → World → Prop} {md : Region.Mode} {S : World → Prop} {ds : List Nat} {fuel : Nat} {l : Array Bool} {a a' : Act} {w : World} {oi : Oper} {v : Value} (i : Nat) (n : Tmp) (l' : Array Bool)
    (h : zat P md ops Q S ds fuel l' a' w) (hi : ops[i]? = some oi := by rfl) (hN : oi.dst = some n := by rfl) (hc : anyB md ops l l' i = true := by kernel_rfl) (hQ : ∀ c a w, Q (.panic c) (a.put oi.dst v) w → Q (.panic c) a w := by exact fun _ _ _ h => h)
    (hy : Yields P ops oi v a := by exact Or.inl ⟨by rfl, by intro w'; go_simp; with_reducible rfl⟩) (ha : a.put (some n) v = a' := by exact ap_) : zat P md ops Q S ds (fuel + 1) l a w := pure_ (i := i) (N := some n) (v := v) (a' := a') l' hi hN hc hQ hy ha h
theorem pt_ {P : Program} {ops : Array Oper} {Q : Exit → Act → World → Prop} {md : Region.Mode} {S : World → Prop} {ds : List Nat} {fuel : Nat} {l : Array Bool} {a a' : Act} {w : World} {oi : Oper} {v : Value} {T : Bool × List (List Nat × List Nat)} (hT : rtab md ops = T) (i : Nat) (n : Tmp) (l' : Array Bool)
    (h : zat P md ops Q S ds fuel l' a' w) (hc : anyT T l.toList l'.toList i = true := by kernel_rfl) (hi : ops[i]? = some oi := by rfl) (hN : oi.dst = some n := by rfl) (hQ : ∀ c a w, Q (.panic c) (a.put oi.dst v) w → Q (.panic c) a w := by exact fun _ _ _ h => h)
    (hy : Yields P ops oi v a := by exact Or.inl ⟨by rfl, by intro w'; go_simp; with_reducible rfl⟩) (ha : a.put (some n) v = a' := by exact ap_) : zat P md ops Q S ds (fuel + 1) l a w := pure_ (i := i) (N := some n) (v := v) (a' := a') l' hi hN (any_of hT hc) hQ hy ha h
end
section
open Go.RowKit Go.Proofs.YtgookagndlfehaaGreatW.PrintWords Go.Proofs.YtgookagndlfehaaGreatW.PrintLast Go.Proofs.YtgookagndlfehaaGreatW.PrintMore
theorem tk_ {P:Program} {ops:Array Oper} {Q:Exit→Act→World→Prop} {md:Region.Mode} {S:World→Prop} {ds:List Nat} {fuel:Nat} {l:Array Bool} {a a':Act} {w:World} {oi:Oper} {v:Value} {n:Tmp} (i:Nat) (l':Array Bool) (hS:S w)
    (h:zat P md ops Q S ds fuel l' a' w) (hc:takeB md ops ds l l' i=true:=by kernel_rfl) (hi:ops[i]?=some oi:=by rfl) (hN:oi.dst=some n:=by rfl) (hQ:∀ c a w,Q (.panic c) (a.put oi.dst v) w→Q (.panic c) a w:=by exact fun _ _ _ h=>h)
    (hy:YieldsIf P ops S oi v a:=by exact Or.inl ⟨by rfl,by intro w' hS_;(repeat(have h_:=And.left hS_;replace hS_:=And.right hS_));go_simp;with_reducible rfl⟩) (ha:a.put (some n) v=a':=by exact ap_):zat P md ops Q S ds (fuel + 1) l a w:=take_ (i:=i) (N:=some n) (v:=v) (a':=a') l' hi hN hc hQ hy hS ha h
theorem tt_ {P:Program} {ops:Array Oper} {Q:Exit→Act→World→Prop} {md:Region.Mode} {S:World→Prop} {ds:List Nat} {fuel:Nat} {l:Array Bool} {a a':Act} {w:World} {oi:Oper} {v:Value} {n:Tmp} {T:Bool × List (List Nat × List Nat)} {B:List Nat} (hT:zal (rtab md ops=T)) (hW:zal (zcu T.2 B=true)) (i:Nat) (l':Array Bool) (hS:S w)
    (h:zat P md ops Q S ds fuel l' a' w) (hc:takeW T B ds l.toList l'.toList i=true:=by kernel_rfl) (hi:ops[i]?=some oi:=by rfl) (hN:oi.dst=some n:=by rfl) (hQ:∀ c a w,Q (.panic c) (a.put oi.dst v) w→Q (.panic c) a w:=by exact fun _ _ _ h=>h)
    (hy:YieldsIf P ops S oi v a:=by exact Or.inl ⟨by rfl,by intro w' hS_;(repeat(have h_:=And.left hS_;replace hS_:=And.right hS_));go_simp;with_reducible rfl⟩) (ha:a.put (some n) v=a':=by exact ap_):zat P md ops Q S ds (fuel + 1) l a w:=take_ (i:=i) (N:=some n) (v:=v) (a':=a') l' hi hN (take_ofW hT.out hW.out hc) hQ hy hS ha h
theorem nm_ {P:Program} {ops:Array Oper} {Q:Exit→Act→World→Prop} {md:Region.Mode} {S:World→Prop} {ds:List Nat} {fuel:Nat} {l:Array Bool} {a a':Act} {w:World} {v:Value} (n:Tmp) (h:zat P md ops Q S ds fuel l a' w) (ha:a.put (some n) v=a':=by exact ap_):zat P md ops Q S ds fuel l (a.put (some n) v) w:=norm_ ha h
theorem on_ {P:Program} {ops:Array Oper} {Q:Exit→Act→World→Prop} {md:Region.Mode} {S:World→Prop} {ds:List Nat} {oi:Oper} {fuel:Nat} {l:Array Bool} {a:Act} {w:World} (i:Nat) (N:Option Tmp) (l':Array Bool)
    (h:∀ K:Act→World→Prop,Shut (∀ a' w',S w'→(S w'→zat P md ops Q S ds fuel l' a' w')→K a' w')→if Region.wanted oi (yielded ops a.tmps)=true then Oper.wp P oi a w K Q else K (a.put N undef) w)
    (hi:ops[i]?=some oi:=by rfl) (hN:oi.dst=N:=by rfl) (hc:zi1 md ops l l' i=true:=by kernel_rfl) (hd:i∉ds:=by decide):zat P md ops Q S ds (fuel + 1) l a w:=one_ l' hi hN hc hd h
theorem ot_ {P:Program} {ops:Array Oper} {Q:Exit→Act→World→Prop} {md:Region.Mode} {S:World→Prop} {ds:List Nat} {oi:Oper} {fuel:Nat} {l:Array Bool} {a:Act} {w:World} {T:Bool × List (List Nat × List Nat)} (hT:zal (rtab md ops=T)) (i:Nat) (N:Option Tmp) (l':Array Bool)
    (h:∀ K:Act→World→Prop,Shut (∀ a' w',S w'→(S w'→zat P md ops Q S ds fuel l' a' w')→K a' w')→if Region.wanted oi (yielded ops a.tmps)=true then Oper.wp P oi a w K Q else K (a.put N undef) w)
    (hi:ops[i]?=some oi:=by rfl) (hN:oi.dst=N:=by rfl) (hc:(ziq T.2 l.toList == [i] && l.toList.set i true == l'.toList)=true:=by kernel_rfl) (hd:i∉ds:=by decide):zat P md ops Q S ds (fuel + 1) l a w:=one_ l' hi hN (one_of hT.out hc) hd h
theorem go_ {P:Program} {ops:Array Oper} {Q:Exit→Act→World→Prop} {oi:Oper} {N:Option Tmp} {a:Act} {w:World} {K:Act→World→Prop} {f:FuncId} {fn:Func} (hf:P.funcs[f]?=some fn) {az:Array Operand} {ts:Array TypeId} (args:Array Value)
    (h:Calls P f args w fun e w'=>∃ v,e=.returned v∧K (a.put N v) w') (hw:Region.wanted oi (yielded ops a.tmps)=true:=by rfl) (hN:oi.dst=N:=by rfl) (hop:oi.op=.call { callee:=.value (.func f),args:=az,argTypes:=ts }:=by rfl)
    (hargs : az.map a.eval = args := by (try simp only [List.map_toArray, List.map_cons, List.map_nil]); first | done | rfl | (simp only [List.length_drop, List.length_take]; rfl)) (hname : (fn.name == "runtime.NumGoroutine") = false := by kernel_rfl) (hb : fn.body.isSome = true := by rfl) :
    if Region.wanted oi (yielded ops a.tmps)=true then Oper.wp P oi a w K Q else K (a.put N undef) w:=goes_ hf hname hb args hw hN hop hargs h
theorem gl_ {P:Program} {ops:Array Oper} {Q:Exit→Act→World→Prop} {rest:List Oper} {oi:Oper} {a:Act} {w:World} (N:Option Tmp) {f:FuncId} {fn:Func} (hf:P.funcs[f]?=some fn) {az:Array Operand} {ts:Array TypeId} (args:Array Value)
    (h:Calls P f args w fun e w'=>∃ v,e=.returned v∧wpList P ops Q rest (a.put N v) w') (hop:oi.op=.call { callee:=.value (.func f),args:=az,argTypes:=ts }:=by rfl) (hd:oi.dst=N:=by rfl) (hg:oi.guard=none:=by rfl)
    (hargs : az.map a.eval = args := by (try simp only [List.map_toArray, List.map_cons, List.map_nil]); first | done | rfl | (simp only [List.length_drop, List.length_take]; rfl)) (hname : (fn.name == "runtime.NumGoroutine") = false := by kernel_rfl) (hb : fn.body.isSome = true := by rfl) :
    wpList P ops Q (oi::rest) a w:=goesL_ N hd hg hf hname hb args hop hargs h
theorem bx1_ {w:World} {g:Nat} {t:TypeId} {v0:Value} (h:w.heap[g]?=some (.cells #[v0] t (0,0))):w.cell? ⟨g,0,none⟩=some v0:=(zaa h 0).trans rfl
theorem bf1_ {w:World} {g:Nat} {t:TypeId} {v0:Value} (h:w.heap[g]?=some (.cells #[v0] t (0,0))):w.cell? ⟨g,0,none⟩=some v0∧w.frozen? ⟨g,0,none⟩=false:=⟨(zaa h 0).trans rfl,zbu h 0⟩
theorem bx2_ {w:World} {g:Nat} {t:TypeId} {v0 v1:Value} (h:w.heap[g]?=some (.cells #[v0,v1] t (0,0))):w.cell? ⟨g,0,none⟩=some v0∧w.cell? ⟨g,1,none⟩=some v1:=⟨(zaa h 0).trans rfl,(zaa h 1).trans rfl⟩
theorem bf2_ {w:World} {g:Nat} {t:TypeId} {v0 v1:Value} (h:w.heap[g]?=some (.cells #[v0,v1] t (0,0))):w.cell? ⟨g,0,none⟩=some v0∧w.cell? ⟨g,1,none⟩=some v1∧w.frozen? ⟨g,0,none⟩=false∧w.frozen? ⟨g,1,none⟩=false:=⟨(zaa h 0).trans rfl,(zaa h 1).trans rfl,zbu h 0,zbu h 1⟩
theorem bx3_ {w:World} {g:Nat} {t:TypeId} {v0 v1 v2:Value} (h:w.heap[g]?=some (.cells #[v0,v1,v2] t (0,0))):w.cell? ⟨g,0,none⟩=some v0∧w.cell? ⟨g,1,none⟩=some v1∧w.cell? ⟨g,2,none⟩=some v2:=⟨(zaa h 0).trans rfl,(zaa h 1).trans rfl,(zaa h 2).trans rfl⟩
theorem bf3_ {w:World} {g:Nat} {t:TypeId} {v0 v1 v2:Value} (h:w.heap[g]?=some (.cells #[v0,v1,v2] t (0,0))):w.cell? ⟨g,0,none⟩=some v0∧w.cell? ⟨g,1,none⟩=some v1∧w.cell? ⟨g,2,none⟩=some v2∧w.frozen? ⟨g,0,none⟩=false∧w.frozen? ⟨g,1,none⟩=false∧w.frozen? ⟨g,2,none⟩=false:=⟨(zaa h 0).trans rfl,(zaa h 1).trans rfl,(zaa h 2).trans rfl,zbu h 0,zbu h 1,zbu h 2⟩
theorem bx4_ {w:World} {g:Nat} {t:TypeId} {v0 v1 v2 v3:Value} (h:w.heap[g]?=some (.cells #[v0,v1,v2,v3] t (0,0))):w.cell? ⟨g,0,none⟩=some v0∧w.cell? ⟨g,1,none⟩=some v1∧w.cell? ⟨g,2,none⟩=some v2∧w.cell? ⟨g,3,none⟩=some v3:=⟨(zaa h 0).trans rfl,(zaa h 1).trans rfl,(zaa h 2).trans rfl,(zaa h 3).trans rfl⟩
theorem bf4_ {w:World} {g:Nat} {t:TypeId} {v0 v1 v2 v3:Value} (h:w.heap[g]?=some (.cells #[v0,v1,v2,v3] t (0,0))):w.cell? ⟨g,0,none⟩=some v0∧w.cell? ⟨g,1,none⟩=some v1∧w.cell? ⟨g,2,none⟩=some v2∧w.cell? ⟨g,3,none⟩=some v3∧w.frozen? ⟨g,0,none⟩=false∧w.frozen? ⟨g,1,none⟩=false∧w.frozen? ⟨g,2,none⟩=false∧w.frozen? ⟨g,3,none⟩=false:=⟨(zaa h 0).trans rfl,(zaa h 1).trans rfl,(zaa h 2).trans rfl,(zaa h 3).trans rfl,zbu h 0,zbu h 1,zbu h 2,zbu h 3⟩
theorem bi_ {w:World} {g:Nat} {t:TypeId} {cs:Array Value} {v:Value} (h:w.heap[g]?=some (.cells cs t (0,0))) (i:Nat) (e:cs[i]?=some v:=by rfl):w.cell? ⟨g,i,none⟩=some v∧w.frozen? ⟨g,i,none⟩=false:=⟨(zaa h i).trans e,zbu h i⟩
end
end Go.Proofs
section
/- The closed facts of the program's head row, each by its own. -/
namespace Go.Proofs.YtgookagndlfehaaGreat
open Go.RowKit
theorem zfa (r:List Char):∀ w:List Char,w.all (fun c=>c != Char.ofNat 32)=true→wordsSigns (w++Char.ofNat 32::r)=w::wordsSigns r
 | [],_=>by rfl
 | c::w,h=>by
  simp only [List.all_cons,Bool.and_eq_true,bne_iff_ne,ne_eq] at h
  rw [List.cons_append,wordsSigns]
  ·
   rw [zfa r w h.2]
  ·
   intro e;exact h.1 e
theorem zpr {P:Program} {s r:List Char} (hs:s.all (fun c=>c != Char.ofNat 32)=true) (hsum:isSumSigns s=true)
  (h:P.initOrder=String.ofList ([104,97,114,110,101,115,115].map Char.ofNat++Char.ofNat 32::(s++Char.ofNat 32::([99,117,116].map Char.ofNat++Char.ofNat 32::r)))) :
  behindMainWord (wordsSigns P.initOrder.toList)=[99,117,116].map Char.ofNat::wordsSigns r:=by
 rw [h,String.toList_ofList,zfa _ _ (by decide),zfa _ _ hs,zfa _ _ (by decide),behindMainWord,if_pos]
 rw [hsum]
 decide
set_option maxRecDepth 100000
def znx:List Char:=List.map Char.ofNat [97,116,32,108,111,111,112,46,101,120,97,109,112,108,101,47,103,48,48,51,52,56,47,108,97,119,115,46,70,110,69,120,97,99,116,79,112,101,110,84,97,98,108,101,32,108,111,111,112,46,101,120,97,109,112,108,101,47,103,48,48,51,52,56,47,108,97,119,115,46,70,110,69,120,97,99,116,83,117,109,80,114,111,118,101]
theorem order:Tryz.prog.initOrder=String.ofList ([104,97,114,110,101,115,115].map Char.ofNat++Char.ofNat 32::((List.map Char.ofNat [54,56,57,52,56,97,100,97,55,49,48,55,99,100,57,100,50,51,52,50,50,48,49,48,100,50,98,102,101,55,102,54,50,50,53,53,54,56,52,98,54,98,54,50,52,99,57,55,56,57,98,51,54,55,50,48,56,48,52,48,48,50,99,99])++Char.ofNat 32::([99,117,116].map Char.ofNat++Char.ofNat 32::znx))):=by kernel_rfl
theorem zpp:behindMainWord (wordsSigns Tryz.prog.initOrder.toList)=[99,117,116].map Char.ofNat::wordsSigns znx:=zpr (by decide +kernel) (by decide +kernel) order
theorem enters_of {P:Program} {ws:List (List Char)} (h:behindMainWord (wordsSigns P.initOrder.toList)=[99,117,116].map Char.ofNat::ws) (h1:P.laysLater=false) (h2:P.bearsReflect=false) (h3:P.doorFits []=true):P.mayEnter=true:=by
 have e:stripLifts liftWords ([99,117,116].map Char.ofNat::ws)=([],[99,117,116].map Char.ofNat::ws):=rfl
 unfold Program.mayEnter
 rw [h]
 simp only [e,h1,h2,h3]
 rfl
theorem znc {P:Program} {ws:List (List Char)} (h:behindMainWord (wordsSigns P.initOrder.toList)=[99,117,116].map Char.ofNat::ws):P.liftsFinal=false:=by
 have e:stripLifts liftWords ([99,117,116].map Char.ofNat::ws)=([],[99,117,116].map Char.ofNat::ws):=rfl
 unfold Program.liftsFinal Program.headLifts
 rw [h]
 simp only [e]
 rfl
theorem makes_of {P:Program} {ws:List (List Char)} (h:behindMainWord (wordsSigns P.initOrder.toList)=[99,117,116].map Char.ofNat::ws):P.make=some .cut:=by
 unfold Program.make
 rw [h]
 rfl
theorem allOf {b1 b2 b3 b4 b5 b6 b7 b8 b9 b10 b11 b12 b13 b14 b15 b16 b17 b18 b19 b20 b21 b22 b23 b24 b25 b26 b27 b28 b29 b30 b31 b32:Bool} (h1:b1=true) (h2:b2=true) (h3:b3=true) (h4:b4=true) (h5:b5=true) (h6:b6=true) (h7:b7=true) (h8:b8=true) (h9:b9=true) (h10:b10=true) (h11:b11=true) (h12:b12=true) (h13:b13=true) (h14:b14=true) (h15:b15=true) (h16:b16=true) (h17:b17=true) (h18:b18=true) (h19:b19=true) (h20:b20=true) (h21:b21=true) (h22:b22=true) (h23:b23=true) (h24:b24=true) (h25:b25=true) (h26:b26=true) (h27:b27=true) (h28:b28=true) (h29:b29=true) (h30:b30=true) (h31:b31=true) (h32:b32=true):(b1 && b2 && b3 && b4 && b5 && b6 && b7 && b8 && b9 && b10 && b11 && b12 && b13 && b14 && b15 && b16 && b17 && b18 && b19 && b20 && b21 && b22 && b23 && b24 && b25 && b26 && b27 && b28 && b29 && b30 && b31 && b32)=true:=by subst h1 h2 h3 h4 h5 h6 h7 h8 h9 h10 h11 h12 h13 h14 h15 h16 h17 h18 h19 h20 h21 h22 h23 h24 h25 h26 h27 h28 h29 h30 h31 h32;rfl
theorem sameNo {a b:Bool} (ha:a=false) (h:b=false):(a == b)=true:=by subst ha;subst h;rfl
theorem sameCut {x:Option Make} (h:x=some .cut):(x == some Make.cut)=true:=by subst h;rfl
theorem notMain {P : Program} {fn : Func} (h : decide (Check.packageOf fn.name = "main") = false) : fn.isWrapper P false "" := by
 unfold Func.isWrapper;rw [if_neg (of_decide_eq_false h)];exact⟨rfl,rfl⟩
theorem own:ownKnob Tryz.prog.godebug=none:=by kernel_rfl
theorem laidOut:laidOutB Tryz.prog=true:=by kernel_rfl
theorem mapsAre:mapsRowed Tryz.prog=true:=by kernel_rfl
theorem enters:Tryz.prog.mayEnter=true:=enters_of zpp (by as_aux_lemma=>kernel_rfl) (by as_aux_lemma=>kernel_rfl) (by as_aux_lemma=>kernel_rfl)
theorem liftsNot:Tryz.prog.liftsFinal=false:=znc zpp
theorem makes:Tryz.prog.make=some .cut:=makes_of zpp
end Go.Proofs.YtgookagndlfehaaGreat
end
section
/- A call of a function value that is known: words of this session beside the print's own (YtgookagndlfehaaGreat: the seat's name). -/
namespace Go.Proofs.YtgookagndlfehaaGreatW.PrintLast
open Go.RowKit Go.Proofs.YtgookagndlfehaaGreatW.PrintWords
section
variable {P:Program} {ops:Array Oper} {Q:Exit→Act→World→Prop}
theorem goesV_ {oi : Oper} {N : Option Tmp} {a : Act} {w : World} {K : Act → World → Prop} {f : FuncId} {fn : Func} {s : Operand} {ops_ : Array Operand} {ts : Array TypeId} (hf : P.funcs[f]? = some fn) (hname : (fn.name == "runtime.NumGoroutine") = false) (hb : fn.body.isSome = true) (args : Array Value)
  (hw:Region.wanted oi (yielded ops a.tmps)=true) (hN:oi.dst=N) (hop:oi.op=.call { callee:=.value s,args:=ops_,argTypes:=ts }) (hs:a.eval s=.func (.func f) #[] #[]) (hargs:ops_.map a.eval=args)
  (h:Calls P f args w fun e w'=>∃ v,e=.returned v∧K (a.put N v) w'):if Region.wanted oi (yielded ops a.tmps)=true then Oper.wp P oi a w K Q else K (a.put N undef) w:=by
 refine call_ f args hw hN ?_ h
 have he:=zms hf hname hb args w
 unfold execOp
 simp [hop,resolve,Deferred.ofValue,invoke,hs,hargs,he]
end
end Go.Proofs.YtgookagndlfehaaGreatW.PrintLast
end
section
namespace Go.Proofs.YtgookagndlfehaaGreat.PT
open Go.RowKit Go.Proofs.YtgookagndlfehaaGreatW.PrintWords Go.Proofs.YtgookagndlfehaaGreatW.PrintLast Go.Proofs.YtgookagndlfehaaGreatW.PrintMore
attribute [local go_sem] zez zey zfh zff zed zd9 zex zew   -- for this text's walks alone
set_option linter.unusedVariables false
set_option linter.unusedSimpArgs false
def errW:Option Int→Value
 | none=>.nilIface
 | some c=>.iface 0 (.int .i64 c)
theorem zc9:errW none=.nilIface:=rfl
theorem zda (c:Int):errW (some c)=.iface 0 (.int .i64 c):=rfl
theorem info5:(Tryz.prog.info? 5).map (fun i=>(i.zero,i.size,i.bytes))=some (some (.int .u8 0),1,1):=by kernel_rfl
theorem zgb:(Tryz.prog.info? 32).map (fun i=>(i.zero,i.size,i.bytes))=some (some (.agg #[(.int .i64 0),(.int .i64 0)]),2,16):=by kernel_rfl
theorem zmf:(Tryz.prog.info? 36).map (fun i=>(i.zero,i.size,i.bytes))=some (some (.slice none 0 0),1,24):=by kernel_rfl
structure S70 where
 f0:Int
 f1:Int
def z70:S70:=⟨(0:Int),(0:Int)⟩
def k70:Kd S70:=Kd.iso (Kd.pair (Kd.int .i64) (Kd.int .i64)) (fun x:S70=>(x.f0,x.f1))
theorem k70_open {w:World} {x:S70} {cs:List Value} (h:k70.K w x cs):cs=[.int .i64 x.f0,.int .i64 x.f1]:=by
 obtain⟨_,_,rfl,rfl,rfl⟩:=h
 exact rfl
def zhc (xs:List S70) (i:Int):S70:=xs.getD i.toNat z70
theorem at_T70 {w:World} {A:Option Addr} {n:Nat} {xs:List S70} (h:Kd.C k70 w A n xs) (i:Int) (h0:0≤i) (h1:i<n):∃ ad ,A=some ad∧w.cell? (ad.add (i.toNat * 2))=some (.int .i64 (zhc xs i).f0)∧w.cell? ⟨(ad.add (i.toNat * 2)).block,(ad.add (i.toNat * 2)).off + 1,none⟩=some (.int .i64 (zhc xs i).f1):=by
 obtain⟨ad,c,e,_,hK,hc0⟩:=Kd.C_get h z70 i h0 h1
 have hc:∀ j u,c[j]?=some u→w.cell? (ad.add (i.toNat * 2 + j))=some u:=hc0
 obtain rfl:=k70_open hK
 exact⟨ad,e,hc 0 _ rfl,(by rw [←zgy _ _ 1 (by omega)];exact hc 1 _ rfl)⟩
structure S32 where
 f0:Int
 f1:Int
def z32:S32:=⟨(0:Int),(0:Int)⟩
def k32:Kd S32:=Kd.iso (Kd.pair (Kd.int .i64) (Kd.int .i64)) (fun x:S32=>(x.f0,x.f1))
theorem k32_open {w:World} {x:S32} {cs:List Value} (h:k32.K w x cs):cs=[.int .i64 x.f0,.int .i64 x.f1]:=by
 obtain⟨_,_,rfl,rfl,rfl⟩:=h
 exact rfl
theorem zgd {w:World} {base:Nat} {ok:Nat→Prop} {x:S32} {cs:List Value} (h:k32.M w base ok x cs):cs=[.int .i64 x.f0,.int .i64 x.f1]:=by
 obtain⟨_,_,rfl,rfl,rfl⟩:=h
 exact rfl
theorem ze8 (w:World) (base:Nat) (ok:Nat→Prop) (x:S32) :k32.M w base ok x [.int .i64 x.f0,.int .i64 x.f1]:=⟨[.int .i64 x.f0],[.int .i64 x.f1],rfl,rfl,rfl⟩
def zac (xs:List S32) (i:Int):S32:=xs.getD i.toNat z32
theorem zdf {w:World} {A:Option Addr} {n:Nat} {xs:List S32} (h:Kd.C k32 w A n xs) (i:Int) (h0:0≤i) (h1:i<n):∃ ad ,A=some ad∧w.cell? (ad.add (i.toNat * 2))=some (.int .i64 (zac xs i).f0)∧w.cell? ⟨(ad.add (i.toNat * 2)).block,(ad.add (i.toNat * 2)).off + 1,none⟩=some (.int .i64 (zac xs i).f1):=by
 obtain⟨ad,c,e,_,hK,hc0⟩:=Kd.C_get h z32 i h0 h1
 have hc:∀ j u,c[j]?=some u→w.cell? (ad.add (i.toNat * 2 + j))=some u:=hc0
 obtain rfl:=k32_open hK
 exact⟨ad,e,hc 0 _ rfl,(by rw [←zgy _ _ 1 (by omega)];exact hc 1 _ rfl)⟩
def rd_L3 (xs:List (List S32)) (i:Int):(List S32):=xs.getD i.toNat ([]:List S32)
theorem at_L3 {w:World} {A:Option Addr} {n:Nat} {xs:List (List S32)} (h:Kd.C (Kd.slice 32 k32) w A n xs) (i:Int) (h0:0≤i) (h1:i<n):∃ ad A0 c0,A=some ad∧w.cell? (ad.add i.toNat)=some (.slice A0 (rd_L3 xs i).length c0)∧(rd_L3 xs i).length≤c0∧k32.C w A0 (rd_L3 xs i).length (rd_L3 xs i):=by
 obtain⟨ad,c,e,_,hK,hc0⟩:=Kd.C_get h ([]:List S32) i h0 h1
 have hc:∀ j u,c[j]?=some u→w.cell? (ad.add (i.toNat * 1 + j))=some u:=hc0
 obtain⟨A0,c0,rfl,l0,g0⟩:=hK
 exact⟨ad,A0,c0,e,(by have hq:=hc 0 _ rfl;rwa [Nat.mul_one,Nat.add_zero] at hq),l0,g0⟩
def rd_L9 (xs:List (List S70)) (i:Int):(List S70):=xs.getD i.toNat ([]:List S70)
theorem at_L9 {w:World} {A:Option Addr} {n:Nat} {xs:List (List S70)} (h:Kd.C (Kd.slice 70 k70) w A n xs) (i:Int) (h0:0≤i) (h1:i<n):∃ ad A0 c0,A=some ad∧w.cell? (ad.add i.toNat)=some (.slice A0 (rd_L9 xs i).length c0)∧(rd_L9 xs i).length≤c0∧k70.C w A0 (rd_L9 xs i).length (rd_L9 xs i):=by
 obtain⟨ad,c,e,_,hK,hc0⟩:=Kd.C_get h ([]:List S70) i h0 h1
 have hc:∀ j u,c[j]?=some u→w.cell? (ad.add (i.toNat * 1 + j))=some u:=hc0
 obtain⟨A0,c0,rfl,l0,g0⟩:=hK
 exact⟨ad,A0,c0,e,(by have hq:=hc 0 _ rfl;rwa [Nat.mul_one,Nat.add_zero] at hq),l0,g0⟩
def zno (xs:List (List (List S70))) (i:Int):(List (List S70)):=xs.getD i.toNat ([]:List (List S70))
theorem at_L10 {w:World} {A:Option Addr} {n:Nat} {xs:List (List (List S70))} (h:Kd.C (Kd.slice 22 (Kd.slice 70 k70)) w A n xs) (i:Int) (h0:0≤i) (h1:i<n):∃ ad A0 c0,A=some ad∧w.cell? (ad.add i.toNat)=some (.slice A0 (zno xs i).length c0)∧(zno xs i).length≤c0∧(Kd.slice 70 k70).C w A0 (zno xs i).length (zno xs i):=by
 obtain⟨ad,c,e,_,hK,hc0⟩:=Kd.C_get h ([]:List (List S70)) i h0 h1
 have hc:∀ j u,c[j]?=some u→w.cell? (ad.add (i.toNat * 1 + j))=some u:=hc0
 obtain⟨A0,c0,rfl,l0,g0⟩:=hK
 exact⟨ad,A0,c0,e,(by have hq:=hc 0 _ rfl;rwa [Nat.mul_one,Nat.add_zero] at hq),l0,g0⟩
structure S26 where
 f0:(List S70)
 f1:Int
 f2:ByteArray
 f3:Int
def z26:S26:=⟨([]:List S70),(0:Int),(⟨#[]⟩:ByteArray),(0:Int)⟩
def k26:Kd S26:=Kd.iso (Kd.pair (Kd.slice 70 k70) (Kd.pair (Kd.int .i64) (Kd.pair Kd.string (Kd.int .i64)))) (fun x:S26=>(x.f0,x.f1,x.f2,x.f3))
theorem zix {w:World} {x:S26} {cs:List Value} (h:k26.K w x cs):∃ A0 c0,cs=[.slice A0 x.f0.length c0,.int .i64 x.f1,.string x.f2,.int .i64 x.f3]∧x.f0.length≤c0∧k70.C w A0 x.f0.length x.f0:=by
 obtain⟨_,_,rfl,⟨A0,c0,rfl,l0,g0⟩,⟨_,_,rfl,rfl,⟨_,_,rfl,rfl,rfl⟩⟩⟩:=h
 exact⟨A0,c0,rfl,l0,g0⟩
theorem k26_openM {w:World} {base:Nat} {ok:Nat→Prop} {x:S26} {cs:List Value} (h:k26.M w base ok x cs):∃ v0,cs=[v0,.int .i64 x.f1,.string x.f2,.int .i64 x.f3]∧k70.R 70 w base ok v0 x.f0:=by
 obtain⟨_,_,rfl,⟨v0,rfl,g0⟩,⟨_,_,rfl,rfl,⟨_,_,rfl,rfl,rfl⟩⟩⟩:=h
 exact⟨v0,rfl,g0⟩
theorem k26_mk (w:World) (x:S26) {A0:Option Addr} {c0:Nat} (l0:x.f0.length≤c0) (g0:k70.C w A0 x.f0.length x.f0):k26.K w x [.slice A0 x.f0.length c0,.int .i64 x.f1,.string x.f2,.int .i64 x.f3]:=⟨[.slice A0 x.f0.length c0],[.int .i64 x.f1,.string x.f2,.int .i64 x.f3],rfl,⟨A0,c0,rfl,l0,g0⟩,⟨[.int .i64 x.f1],[.string x.f2,.int .i64 x.f3],rfl,rfl,⟨[.string x.f2],[.int .i64 x.f3],rfl,rfl,rfl⟩⟩⟩
theorem k26_mkM (w:World) (base:Nat) (ok:Nat→Prop) (x:S26) {v0:Value} (g0:k70.R 70 w base ok v0 x.f0):k26.M w base ok x [v0,.int .i64 x.f1,.string x.f2,.int .i64 x.f3]:=⟨[v0],[.int .i64 x.f1,.string x.f2,.int .i64 x.f3],rfl,⟨v0,rfl,g0⟩,⟨[.int .i64 x.f1],[.string x.f2,.int .i64 x.f3],rfl,rfl,⟨[.string x.f2],[.int .i64 x.f3],rfl,rfl,rfl⟩⟩⟩
theorem k26_openF {W:World} {ok:Nat→Prop} {x:S26} {cs:List Value} (h:Kd.FK k26 W ok x cs):∃ A0 c0,cs=[.slice A0 x.f0.length c0,.int .i64 x.f1,.string x.f2,.int .i64 x.f3]∧x.f0.length≤c0∧Kd.F k70 W ok A0 x.f0.length x.f0:=by
 obtain⟨A0,c0,rfl,l0,_⟩:=zix (Kd.FK_now h)
 exact⟨A0,c0,rfl,l0,(fun W' hW=>by obtain⟨A0_,c0_,he,l0_,g0_⟩:=zix (h W' hW);injection (Option.some.inj (show some (Value.slice A0 x.f0.length c0)=some (Value.slice A0_ x.f0.length c0_) from congrArg (fun l=>l[0]?) he)) with ha_ _ _;rw [ha_];exact g0_)⟩
theorem k26_mkF (W:World) (ok:Nat→Prop) (x:S26) {A0:Option Addr} {c0:Nat} (l0:x.f0.length≤c0) (g0:Kd.F k70 W ok A0 x.f0.length x.f0):Kd.FK k26 W ok x [.slice A0 x.f0.length c0,.int .i64 x.f1,.string x.f2,.int .i64 x.f3]:=fun W2 hW=>k26_mk W2 x l0 (g0 W2 hW)
def zji (xs:List S26) (i:Int):S26:=xs.getD i.toNat z26
theorem at_T26 {w:World} {A:Option Addr} {n:Nat} {xs:List S26} (h:Kd.C k26 w A n xs) (i:Int) (h0:0≤i) (h1:i<n):∃ ad A0 c0,A=some ad∧w.cell? (ad.add (i.toNat * 4))=some (.slice A0 (zji xs i).f0.length c0)∧w.cell? ⟨(ad.add (i.toNat * 4)).block,(ad.add (i.toNat * 4)).off + 1,none⟩=some (.int .i64 (zji xs i).f1)∧w.cell? ⟨(ad.add (i.toNat * 4)).block,(ad.add (i.toNat * 4)).off + 2,none⟩=some (.string (zji xs i).f2)∧w.cell? ⟨(ad.add (i.toNat * 4)).block,(ad.add (i.toNat * 4)).off + 3,none⟩=some (.int .i64 (zji xs i).f3)∧(zji xs i).f0.length≤c0∧k70.C w A0 (zji xs i).f0.length (zji xs i).f0:=by
 obtain⟨ad,c,e,_,hK,hc0⟩:=Kd.C_get h z26 i h0 h1
 have hc:∀ j u,c[j]?=some u→w.cell? (ad.add (i.toNat * 4 + j))=some u:=hc0
 obtain⟨A0,c0,rfl,l0,g0⟩:=zix hK
 exact⟨ad,A0,c0,e,hc 0 _ rfl,(by rw [←zgy _ _ 1 (by omega)];exact hc 1 _ rfl),(by rw [←zgy _ _ 2 (by omega)];exact hc 2 _ rfl),(by rw [←zgy _ _ 3 (by omega)];exact hc 3 _ rfl),l0,g0⟩
def zde.f (l0:List (S70)) (a1:Int):Option (Int):=if (wrap64 (a1 - (l0.length:Int)))<0 then(some (-1)) else(some (wrap64 (a1 - (l0.length:Int))))
theorem zde.calls (A0:Option Addr) (c0:Nat) (l0:List (S70)) (a1:Int) (r:Int) (w:World) (hr0:Kd.C k70 w A0 l0.length l0) (hc0:l0.length≤c0) (h:zde.f l0 a1=some r) :
  Calls Tryz.prog 5 #[.slice A0 l0.length c0,.int .i64 a1] w fun e w'=>e=.returned (.int .i64 r)∧zbx w w':=by
 have HR0:=am_ hr0
 have HC0:=am_ hc0
 clear hr0 hc0
 have H:(if (wrap64 (a1 - (l0.length:Int)))<0 then(some (-1)) else(some (wrap64 (a1 - (l0.length:Int)))))=some r:=h
 clear h
 by_cases c3:(wrap64 (a1 - (l0.length:Int)))<0
 ·
  rw [if_pos c3] at H
  have c3b0:decide ((wrap64 (a1 - (l0.length:Int)))<0)=true:=decide_eq_true c3
  clear c3
  obtain rfl:=Option.some.inj H
  go_enter Tryz.func5,Tryz.ntmps5
  go_wp2
  go_ret
  exact⟨qz0_,qz1_⟩
 ·
  rw [if_neg c3] at H
  have c3b0:decide ((wrap64 (a1 - (l0.length:Int)))<0)=false:=decide_eq_false c3
  clear c3
  obtain rfl:=Option.some.inj H
  go_enter Tryz.func5,Tryz.ntmps5
  go_wp2
  go_ret
  exact⟨qz0_,qz1_⟩
def zej.f (l0_0:List (S70)) (a0_1:Int) (a0_2:ByteArray) (a0_3:Int) (a1:Int):Option (Int):=(zde.f l0_0 a1).bind fun t102=>(if t102<0 then(some (-1)) else(if (wrap64 (t102 - (a0_2.size:Int)))<0 then(some (-1)) else(some (wrap64 (t102 - (a0_2.size:Int))))))
theorem zej.calls (A0_0:Option Addr) (c0_0:Nat) (l0_0:List (S70)) (a0_1:Int) (a0_2:ByteArray) (a0_3:Int) (a1:Int) (r:Int) (w:World) (hr0_0:Kd.C k70 w A0_0 l0_0.length l0_0) (hc0_0:l0_0.length≤c0_0) (h:zej.f l0_0 a0_1 a0_2 a0_3 a1=some r) :
  Calls Tryz.prog 6 #[.agg #[.slice A0_0 l0_0.length c0_0,.int .i64 a0_1,.string a0_2,.int .i64 a0_3],.int .i64 a1] w fun e w'=>e=.returned (.int .i64 r)∧Below w.heap.size w w':=by
 have hu26:=Tryz.underlying26
 have HR0_0:=am_ hr0_0
 have HC0_0:=am_ hc0_0
 clear hr0_0 hc0_0
 have HB:=am_ (Below.refl w.heap.size w)
 have H:((zde.f l0_0 a1).bind fun t102=>(if t102<0 then(some (-1)) else(if (wrap64 (t102 - (a0_2.size:Int)))<0 then(some (-1)) else(some (wrap64 (t102 - (a0_2.size:Int)))))))=some r:=h
 clear h
 replace H:=Option.bind_eq_some_iff.mp H
 obtain⟨t102,A30,H⟩:=H
 replace H:(if t102<0 then(some (-1)) else(if (wrap64 (t102 - (a0_2.size:Int)))<0 then(some (-1)) else(some (wrap64 (t102 - (a0_2.size:Int))))))=some r:=H
 have A3:=am_ A30
 clear A30
 by_cases c4:t102<0
 ·
  rw [if_pos c4] at H
  have c4b0:decide (t102<0)=true:=decide_eq_true c4
  clear c4
  obtain rfl:=Option.some.inj H
  go_enter Tryz.func6,Tryz.ntmps6
  go_wp2_with (first|((with_reducible refine zad (N:=2) rfl ?_);refine zaj rfl (N:=2) rfl (cs:=#[.slice A0_0 l0_0.length c0_0,.int .i64 a0_1,.string a0_2,.int .i64 a0_3]) (t:=26) bx_ ?_;intro gb101 hg w5 hbox hb;replace BK101:=am_ (hbox);replace GW101:=am_ ((by rw [hg];exact(zaf qz2_):w.heap.size≤gb101));replace GE101:=GW101;replace HB:=am_ (zab qz2_ hb);clear hb hbox hg;obtain⟨hcz6_0,hcz6_1,hcz6_2,hcz6_3,hfz6_0,hfz6_1,hfz6_2,hfz6_3⟩:=bf4_ BK101.out)|((with_reducible refine zan (f:=5) rfl ?_);refine gl_ (some 8) Tryz.func5 #[.slice A0_0 l0_0.length c0_0,.int .i64 a1] ?_;(with_reducible refine(zde.calls _ _ l0_0 a1 t102 _ ?side1 ?side2 A3.out).mono ?_);(case side1=>exact qc_ (Kd.zbi HR0_0.out HB.out));(case side2=>exact HC0_0.out);rintro e w' ⟨rfl,⟨nd,rfl⟩⟩;refine⟨_,rfl,?_⟩))
  go_ret
  exact⟨qz4_,qz5_⟩
 ·
  rw [if_neg c4] at H
  have c4b0:decide (t102<0)=false:=decide_eq_false c4
  clear c4
  by_cases c7:(wrap64 (t102 - (a0_2.size:Int)))<0
  ·
   rw [if_pos c7] at H
   have c7b0:decide ((wrap64 (t102 - (a0_2.size:Int)))<0)=true:=decide_eq_true c7
   clear c7
   obtain rfl:=Option.some.inj H
   go_enter Tryz.func6,Tryz.ntmps6
   go_wp2_with (first|((with_reducible refine zad (N:=2) rfl ?_);refine zaj rfl (N:=2) rfl (cs:=#[.slice A0_0 l0_0.length c0_0,.int .i64 a0_1,.string a0_2,.int .i64 a0_3]) (t:=26) bx_ ?_;intro gb101 hg w8 hbox hb;replace BK101:=am_ (hbox);replace GW101:=am_ ((by rw [hg];exact(zaf qz2_):w.heap.size≤gb101));replace GE101:=GW101;replace HB:=am_ (zab qz2_ hb);clear hb hbox hg;obtain⟨hcz9_0,hcz9_1,hcz9_2,hcz9_3,hfz9_0,hfz9_1,hfz9_2,hfz9_3⟩:=bf4_ BK101.out)|((with_reducible refine zan (f:=5) rfl ?_);refine gl_ (some 8) Tryz.func5 #[.slice A0_0 l0_0.length c0_0,.int .i64 a1] ?_;(with_reducible refine(zde.calls _ _ l0_0 a1 t102 _ ?side1 ?side2 A3.out).mono ?_);(case side1=>exact qc_ (Kd.zbi HR0_0.out HB.out));(case side2=>exact HC0_0.out);rintro e w' ⟨rfl,⟨nd,rfl⟩⟩;refine⟨_,rfl,?_⟩))
   go_ret
   exact⟨qz4_,qz5_⟩
  ·
   rw [if_neg c7] at H
   have c7b0:decide ((wrap64 (t102 - (a0_2.size:Int)))<0)=false:=decide_eq_false c7
   clear c7
   obtain rfl:=Option.some.inj H
   go_enter Tryz.func6,Tryz.ntmps6
   go_wp2_with (first|((with_reducible refine zad (N:=2) rfl ?_);refine zaj rfl (N:=2) rfl (cs:=#[.slice A0_0 l0_0.length c0_0,.int .i64 a0_1,.string a0_2,.int .i64 a0_3]) (t:=26) bx_ ?_;intro gb101 hg w10 hbox hb;replace BK101:=am_ (hbox);replace GW101:=am_ ((by rw [hg];exact(zaf qz2_):w.heap.size≤gb101));replace GE101:=GW101;replace HB:=am_ (zab qz2_ hb);clear hb hbox hg;obtain⟨hcz11_0,hcz11_1,hcz11_2,hcz11_3,hfz11_0,hfz11_1,hfz11_2,hfz11_3⟩:=bf4_ BK101.out)|((with_reducible refine zan (f:=5) rfl ?_);refine gl_ (some 8) Tryz.func5 #[.slice A0_0 l0_0.length c0_0,.int .i64 a1] ?_;(with_reducible refine(zde.calls _ _ l0_0 a1 t102 _ ?side1 ?side2 A3.out).mono ?_);(case side1=>exact qc_ (Kd.zbi HR0_0.out HB.out));(case side2=>exact HC0_0.out);rintro e w' ⟨rfl,⟨nd,rfl⟩⟩;refine⟨_,rfl,?_⟩))
   go_ret
   exact⟨qz4_,qz5_⟩
def zga.f (a0_0:Int) (a0_1:Int):Option (Int × Int):=some (a0_0,a0_1)
theorem zga.calls (a0_0:Int) (a0_1:Int) (r1:Int) (r2:Int) (w:World) (h:zga.f a0_0 a0_1=some (r1,r2)) :
  Calls Tryz.prog 36 #[.agg #[.int .i64 a0_0,.int .i64 a0_1]] w fun e w'=>e=.returned (.agg #[.int .i64 r1,.int .i64 r2])∧Below w.heap.size w w':=by
 have hu70:=Tryz.underlying70
 have hu32:=Tryz.underlying32
 have HB:=am_ (Below.refl w.heap.size w)
 have H:(some (a0_0,a0_1))=some (r1,r2):=h
 clear h
 simp only [Option.some.injEq,Prod.mk.injEq] at H
 obtain⟨rfl,rfl⟩:=H
 go_enter Tryz.func36,Tryz.ntmps36
 go_wp2_with (first|((with_reducible refine zad (N:=1) rfl ?_);refine zaj rfl (N:=1) rfl (cs:=#[.int .i64 a0_0,.int .i64 a0_1]) (t:=70) bx_ ?_;intro gb101 hg w2 hbox hb;replace BK101:=am_ (hbox);replace GW101:=am_ ((by rw [hg];exact(zaf qz2_):w.heap.size≤gb101));replace GE101:=GW101;replace HB:=am_ (zab qz2_ hb);clear hb hbox hg)|((with_reducible refine zad (N:=2) rfl ?_);refine zaj rfl (N:=2) rfl (cs:=#[.int .i64 0,.int .i64 0]) (t:=32) bx_ ?_;intro gb102 hg w3 hbox hb;replace BK102:=am_ (hbox);replace GW102:=am_ ((by rw [hg];exact(zaf qz5_):w.heap.size≤gb102));replace GE102:=GW102;replace HB:=am_ (zab qz5_ hb);replace NB101_102:=am_ ((by rw [hg];exact Nat.ne_of_lt (zar (g:=gb101) (o:=.cells #[.int .i64 a0_0,.int .i64 a0_1] 70 (0,0)) qz6_):gb101≠gb102));replace NB102_101:=am_ ((by rw [hg];exact Nat.ne_of_gt (zar (g:=gb101) (o:=.cells #[.int .i64 a0_0,.int .i64 a0_1] 70 (0,0)) qz6_):gb102≠gb101));replace BK101:=am_ (zak (g:=gb101) (o:=.cells #[.int .i64 a0_0,.int .i64 a0_1] 70 (0,0)) qz6_ hb);clear hb hbox hg)|((with_reducible refine zad (N:=3) rfl ?_);refine zaj rfl (N:=3) rfl (cs:=#[.int .i64 0,.int .i64 0]) (t:=32) bx_ ?_;intro gb103 hg w4 hbox hb;replace BK103:=am_ (hbox);replace GW103:=am_ ((by rw [hg];exact(zaf qz8_):w.heap.size≤gb103));replace GE103:=GW103;replace HB:=am_ (zab qz8_ hb);replace NB101_103:=am_ ((by rw [hg];exact Nat.ne_of_lt (zar (g:=gb101) (o:=.cells #[.int .i64 a0_0,.int .i64 a0_1] 70 (0,0)) qz6_):gb101≠gb103));replace NB103_101:=am_ ((by rw [hg];exact Nat.ne_of_gt (zar (g:=gb101) (o:=.cells #[.int .i64 a0_0,.int .i64 a0_1] 70 (0,0)) qz6_):gb103≠gb101));replace BK101:=am_ (zak (g:=gb101) (o:=.cells #[.int .i64 a0_0,.int .i64 a0_1] 70 (0,0)) qz6_ hb);replace NB102_103:=am_ ((by rw [hg];exact Nat.ne_of_lt (zar (g:=gb102) (o:=.cells #[.int .i64 0,.int .i64 0] 32 (0,0)) qz7_):gb102≠gb103));replace NB103_102:=am_ ((by rw [hg];exact Nat.ne_of_gt (zar (g:=gb102) (o:=.cells #[.int .i64 0,.int .i64 0] 32 (0,0)) qz7_):gb103≠gb102));replace BK102:=am_ (zak (g:=gb102) (o:=.cells #[.int .i64 0,.int .i64 0] 32 (0,0)) qz7_ hb);clear hb hbox hg;have hnb5:=NB101_102.out;have hnc5:=NB102_101.out;have hnb6:=NB101_103.out;have hnc6:=NB103_101.out;obtain⟨hcz7_0,hcz7_1,hfz7_0,hfz7_1⟩:=bf2_ BK101.out;have hnb8:=NB103_102.out;have hnc8:=NB102_103.out;obtain⟨hcz9_0,hcz9_1,hfz9_0,hfz9_1⟩:=bf2_ BK103.out;obtain⟨hcz10_0,hcz10_1,hfz10_0,hfz10_1⟩:=bf2_ BK102.out))
 refine bodyPost_ret (results_cell_row rfl _ _ gb102 32 #[.int .i64 a0_0,.int .i64 a0_1] (0,0) _ rfl (by(with_reducible repeat(first|refine zah ?_ _|refine zae ?_|refine zai ?_ _));refine za9 (cs:=#[.int .i64 a0_0,.int .i64 0]) ?_ 1 _ rfl;(with_reducible repeat(first|refine zah ?_ _|refine zae ?_|refine zai ?_ _));refine za9 (cs:=#[.int .i64 0,.int .i64 0]) ?_ 0 _ rfl;(with_reducible repeat(first|refine zah ?_ _|refine zae ?_|refine zai ?_ _));refine zb8 ?_ NB102_103.out _;(with_reducible repeat(first|refine zah ?_ _|refine zae ?_|refine zai ?_ _));refine zb8 ?_ NB102_103.out _;(with_reducible repeat(first|refine zah ?_ _|refine zae ?_|refine zai ?_ _));exact BK102.out) Tryz.underlying32 rfl (by kernel_rfl)) rfl ?_
 exact⟨qz4_,qz9_⟩
def zb3.l0:Nat→List (S70)→List (S32)→Int→Option ((List (S32)))
 | 0,_,_,_=>none
 | k + 1,x0,x3,x4=>if x4<(x0.length:Int) then(if 0≤x4 then((zga.f ((zhc x0 x4).f0) ((zhc x0 x4).f1)).bind fun bt105=>(if x4<(x3.length:Int) then(zb3.l0 k x0 (x3.set (x4:Int).toNat (⟨bt105.1,bt105.2⟩:S32)) (wrap64 (x4 + 1))) else(none))) else(none)) else(some x3)
def zb3.f (k:Nat) (l0:List (S70)):Option ((List (S32))):=if 0≤(l0.length:Int) then(if ((l0.length:Int):Int).toNat≤17592186044416 then(zb3.l0 k l0 (List.replicate ((l0.length:Int):Int).toNat z32) 0) else(none)) else(none)
theorem zb3.calls (k:Nat) (A0:Option Addr) (c0:Nat) (l0:List (S70)) (r:List (S32)) (w:World) (hr0:Kd.C k70 w A0 l0.length l0) (hc0:l0.length≤c0) (h:zb3.f k l0=some r) :
  Calls Tryz.prog 8 #[.slice A0 l0.length c0] w fun e w'=>∃ v0_:Value,e=.returned (v0_)∧Kd.R k32 32 w' w.heap.size (fun _=>True) v0_ r∧Below w.heap.size w w':=by
 have hu70:=Tryz.underlying70
 have hu32:=Tryz.underlying32
 have HR0:=am_ hr0
 have HC0:=am_ hc0
 clear hr0 hc0
 have HB:=am_ (Below.refl w.heap.size w)
 have H:(if 0≤(l0.length:Int) then(if ((l0.length:Int):Int).toNat≤17592186044416 then(zb3.l0 k l0 (List.replicate ((l0.length:Int):Int).toNat z32) 0) else(none)) else(none))=some r:=h
 clear h
 by_cases c2:0≤(l0.length:Int)
 ·
  rw [if_pos c2] at H
  have c2b0:=eq_true c2
  have c2b1:decide (0≤(l0.length:Int))=true:=decide_eq_true c2
  clear c2
  by_cases c3:((l0.length:Int):Int).toNat≤17592186044416
  ·
   rw [if_pos c3] at H
   have c3b0:=eq_true c3
   have c3b1:decide (((l0.length:Int):Int).toNat≤17592186044416)=true:=decide_eq_true c3
   clear c3
   obtain⟨y101,hy101⟩:∃ y_:List (S32),y_=(List.replicate ((l0.length:Int):Int).toNat z32):=⟨_,rfl⟩
   replace H:(zb3.l0 k l0 y101 0)=some r:=by first|(rw [hy101];with_reducible exact H)|(have H2_:=(Option.bind_some _ _).symm.trans H;rw [hy101];with_reducible exact H2_)|(have H2_:=(Option.bind_some _ _).symm.trans H;with_reducible exact H2_)|with_reducible exact H|(rw [hy101];exact H)|exact H
   have Ny101:=am_ hy101
   clear hy101
   have H':=am_ H
   clear H
   go_enter Tryz.func8,Tryz.ntmps8
   go_wp2_with (first|((with_reducible refine zad (N:=7) rfl ?_);refine Kd.R_make k32 _ 32 rfl (N:=7) rfl 36 _ _ rfl (l0.length:Int) rfl rfl Tryz.underlying36 (.agg #[(.int .i64 0),(.int .i64 0)]) 16 zgb rfl (by decide) (by omega) z32 (ok:=fun _=>True) (okp:=fun _=>True) (ze8 _ _ _ z32 ) (fun _ hk=>hk) trivial (of_decide_eq_true qz10_) (Nat.le_trans (Nat.mul_le_mul_right _ (of_decide_eq_true qz10_:(l0.length:Int).toNat≤17592186044416)) (by omega)) (Below.refl _ _) (Nat.le_refl _) ?_;intro v102 w4 ho5 hb hg_ hnew_;clear hg_ hnew_;(first|rw [←Ny101.out] at ho5|(simp only [Int.reduceToNat] at ho5;rw [←Ny101.out] at ho5));replace HO103:=am_ (Kd.zcw ho5 (zaf qz2_));replace HB:=am_ (zab qz2_ hb);clear hb ho5))
   go_loopg [4] k (fun kq v4 w'=>∃ (x3_1:List (S32)) (x4_1:Int),v4=.int .i64 x4_1∧zal (zb3.l0 kq l0 x3_1 x4_1=some r)∧zal (kq≤k)∧zal (Kd.R k32 32 w' w.heap.size (fun _=>True) v102 x3_1)∧zal (Below w.heap.size w w'))
   case atStart=>exact⟨(y101),(0),qz0_,H',⟨Nat.le_refl _⟩,⟨qz11_⟩,⟨qz2_⟩⟩
   case round=>
    clear H'
    try clear c2
    try clear c2b0
    try clear c2b1
    try clear p2
    try clear c3
    try clear c3b0
    try clear c3b1
    obtain⟨x3_1,x4_1,rfl,HA,HK1,HO_3,HB⟩:=hrel
    cases gk with
    | zero=>exact absurd HA.out (by simp [zb3.l0])
    | succ k1=>
     have H:=HA.out
     clear HA
     simp only [zb3.l0] at H
     by_cases c6:x4_1<(l0.length:Int)
     ·
      rw [if_pos c6] at H
      have c6b0:decide (x4_1<(l0.length:Int))=true:=decide_eq_true c6
      clear c6
      by_cases c7:0≤x4_1
      ·
       rw [if_pos c7] at H
       have c7b0:decide (0≤x4_1)=true:=decide_eq_true c7
       clear c7
       replace H:=Option.bind_eq_some_iff.mp H
       obtain⟨⟨t105,t106⟩,A80,H⟩:=H
       replace H:(if x4_1<(x3_1.length:Int) then(zb3.l0 k1 l0 (x3_1.set (x4_1:Int).toNat (⟨t105,t106⟩:S32)) (wrap64 (x4_1 + 1))) else(none))=some r:=H
       have A8:=am_ A80
       clear A80
       by_cases c9:x4_1<(x3_1.length:Int)
       ·
        rw [if_pos c9] at H
        have c9b0:decide (x4_1<(x3_1.length:Int))=true:=decide_eq_true c9
        clear c9
        obtain⟨y107,hy107⟩:∃ y_:List (S32),y_=(x3_1.set (x4_1:Int).toNat (⟨t105,t106⟩:S32)):=⟨_,rfl⟩
        replace H:(zb3.l0 k1 l0 y107 (wrap64 (x4_1 + 1)))=some r:=by first|(rw [hy107];with_reducible exact H)|(have H2_:=(Option.bind_some _ _).symm.trans H;rw [hy107];with_reducible exact H2_)|(have H2_:=(Option.bind_some _ _).symm.trans H;with_reducible exact H2_)|with_reducible exact H|(rw [hy107];exact H)|exact H
        have Ny107:=am_ hy107
        clear hy107
        have H':=am_ H
        clear H
        have p104:0≤(x4_1:Int):=of_decide_eq_true qz10_
        have q104:x4_1<(l0.length:Int):=of_decide_eq_true qz10_
        obtain⟨ad104,e104,hx104_0,hx104_1⟩:=at_T70 HR0.out x4_1 p104 q104
        cases e104
        replace hx104_0:=(HB.out.cell (World.block_lt_of_cell? w _ hx104_0)).trans hx104_0
        replace hx104_1:=(HB.out.cell (World.block_lt_of_cell? w _ hx104_1)).trans hx104_1
        replace p104:=eq_true p104
        replace q104:=eq_true q104
        go_wp2_with (first|((with_reducible refine zan (f:=36) rfl ?_);refine gl_ (some 20) Tryz.func36 #[.agg #[.int .i64 ((zhc l0 x4_1).f0),.int .i64 ((zhc l0 x4_1).f1)]] ?_;(with_reducible refine(zga.calls ((zhc l0 x4_1).f0) ((zhc l0 x4_1).f1) t105 t106 _ A8.out).mono ?_);rintro e w11 ⟨rfl,hb⟩;refine⟨_,rfl,?_⟩;replace HO_3:=am_ (Kd.zct qz12_ hb);replace HB:=am_ (zab qz2_ hb);(try clear hb);(try clear hb2);(try clear hk);(try clear hi);have p10:0≤(x4_1:Int):=of_decide_eq_true qz10_;have q10:(x4_1:Int)<((x3_1.length:Int):Int):=of_decide_eq_true qz10_;obtain⟨go10,co10,eo10,gb10,gl10,cl10,HG10⟩:=Kd.zl8 HO_3.out (by omega);(first|cases eo10|(injection eo10 with ea_ en_ ec_;(first|subst ea_|(injection ea_ with ea_;subst ea_));subst ec_;clear en_));have GB10:=am_ gb10;have GG10:=am_ HG10;clear gb10 gl10 HG10;obtain⟨ce10,hcl10,hM10,hcc10,hfr10⟩:=Kd.zi6 HO_3.out z32 (x4_1:Int) p10 q10;obtain rfl:=zgd hM10;have hx10_0:w11.cell? ⟨go10,(x4_1:Int).toNat * 2,none⟩=some (.int .i64 ((zac x3_1 x4_1).f0)):=hcc10 0 _ rfl;have hx10_1:w11.cell? ⟨go10,(x4_1:Int).toNat * 2 + 1,none⟩=some (.int .i64 ((zac x3_1 x4_1).f1)):=hcc10 1 _ rfl;have hf10_0:w11.frozen? ⟨go10,(x4_1:Int).toNat * 2,none⟩=false:=hfr10 0;have hf10_1:w11.frozen? ⟨go10,(x4_1:Int).toNat * 2 + 1,none⟩=false:=hfr10 1;(try clear hcl10);(try clear hcc10);(try clear hfr10);(try clear hM10);replace p10:=eq_true p10;replace q10:=eq_true q10;have HX12:=am_ (show Kd.R k32 32 w11 w.heap.size (fun _=>True) (.slice (some ⟨go10,0,none⟩) x3_1.length co10) x3_1 from qz12_);obtain⟨ce12,hcl12,hM12,hcc12,hfr12⟩:=Kd.zi6 HX12.out z32 (x4_1:Int) (of_decide_eq_true qz10_) (by have h_:(x4_1:Int)<((x3_1.length:Int):Int):=of_decide_eq_true qz10_;first|exact h_|(have e_:=(Kd.R_reads' HO_3.out).1;omega)|simpa using h_);obtain rfl:=zgd hM12;have HP12:=Kd.R_seg HX12.out (x4_1:Int) (of_decide_eq_true qz10_) (by have h_:(x4_1:Int)<((x3_1.length:Int):Int):=of_decide_eq_true qz10_;first|exact h_|(have e_:=(Kd.R_reads' HO_3.out).1;omega)|simpa using h_) (seg:=[.int .i64 t105,.int .i64 t106]) (j:=0) hcl12 hcc12 (show 2≤2 from by decide) (x':=(⟨t105,t106⟩:S32)) (ze8 _ _ _ (⟨t105,t106⟩:S32) ) (fun _ hk=>hk);have hx12_0:=hcc12 0 _ rfl;(try simp only [show (k32).sz=2 from rfl,Nat.mul_one,Nat.add_zero] at hx12_0);have hf12_0:=hfr12 0;(try simp only [show (k32).sz=2 from rfl,Nat.mul_one,Nat.add_zero] at hf12_0);have hx12_1:=hcc12 1 _ rfl;(try simp only [show (k32).sz=2 from rfl,Nat.mul_one,Nat.add_zero] at hx12_1);have hf12_1:=hfr12 1;(try simp only [show (k32).sz=2 from rfl,Nat.mul_one,Nat.add_zero] at hf12_1);(try clear hcl12);(try clear hcc12);(try clear hfr12);(try clear hM12))|((with_reducible refine za7 (t:=32) (p:=21) rfl ?_);refine zfd (t:=32) (p:=21) (v:=?vo_w13) (w1:=((w11.setCell ⟨go10,(x4_1:Int).toNat * 2,none⟩ (.int .i64 t105)).setCell ⟨go10,(x4_1:Int).toNat * 2 + 1,none⟩ (.int .i64 t106))) ?hg ?ho ?hn ?hr ?_;(case ho=>rfl);(case hg=>rfl);(case hn=>rfl);(case hr=>first|(go_simp;done)|(go_simp;rfl));intro w13 hw;have hg:w11.grownBy w13 (some go10):=(by rw [hw];exact HP12.2);have hp_:Kd.R k32 32 w13 w.heap.size (fun _=>True) (.slice (some ⟨go10,0,none⟩) x3_1.length co10) y107:=(by rw [hw,Ny107.out];exact HP12.1);clear HP12;replace HO_3:=am_ (hp_);replace HB:=am_ ((by rw [hw];exact za6 (za6 (HB.out) GB10.out) GB10.out:Below w.heap.size w w13));clear hg hw hp_))
        go_roundg k1
        case measure=>have:=HK1.out;omega
        case rel=>exact⟨(y107),(wrap64 (x4_1 + 1)),qz0_,H',⟨qz13_⟩,⟨qz12_⟩,⟨qz2_⟩⟩
       ·
        rw [if_neg c9] at H
        exact absurd H (by simp)
      ·
       rw [if_neg c7] at H
       exact absurd H (by simp)
     ·
      rw [if_neg c6] at H
      have c6b0:decide (x4_1<(l0.length:Int))=false:=decide_eq_false c6
      clear c6
      obtain rfl:=Option.some.inj H
      go_wp2
      go_ret
      exact⟨_,qz4_,qz12_,qz2_⟩
  ·
   rw [if_neg c3] at H
   exact absurd H (by simp)
 ·
  rw [if_neg c2] at H
  exact absurd H (by simp)
def zdj.f (k:Nat) (l0_0:List (S70)) (a0_1:Int) (a0_2:ByteArray) (a0_3:Int):Option ((List (S32)) × Int × ByteArray × Int):=(zb3.f k l0_0).bind fun t104=>(some (t104,a0_1,a0_2,a0_3))
theorem zdj.calls (k:Nat) (A0_0:Option Addr) (c0_0:Nat) (l0_0:List (S70)) (a0_1:Int) (a0_2:ByteArray) (a0_3:Int) (r1:List (S32)) (r2:Int) (r3:ByteArray) (r4:Int) (w:World) (hr0_0:Kd.C k70 w A0_0 l0_0.length l0_0) (hc0_0:l0_0.length≤c0_0) (h:zdj.f k l0_0 a0_1 a0_2 a0_3=some (r1,r2,r3,r4)) :
  Calls Tryz.prog 10 #[.agg #[.slice A0_0 l0_0.length c0_0,.int .i64 a0_1,.string a0_2,.int .i64 a0_3]] w fun e w'=>∃ v0_:Value,e=.returned (.agg #[v0_,.int .i64 r2,.string r3,.int .i64 r4])∧Kd.R k32 32 w' w.heap.size (fun _=>True) v0_ r1∧Below w.heap.size w w':=by
 have hu26:=Tryz.underlying26
 have hu38:=Tryz.underlying38
 have HR0_0:=am_ hr0_0
 have HC0_0:=am_ hc0_0
 clear hr0_0 hc0_0
 have HB:=am_ (Below.refl w.heap.size w)
 have H:((zb3.f k l0_0).bind fun t104=>(some (t104,a0_1,a0_2,a0_3)))=some (r1,r2,r3,r4):=h
 clear h
 replace H:=Option.bind_eq_some_iff.mp H
 obtain⟨t104,A20,H⟩:=H
 replace H:(some (t104,a0_1,a0_2,a0_3))=some (r1,r2,r3,r4):=H
 have A2:=am_ A20
 clear A20
 simp only [Option.some.injEq,Prod.mk.injEq] at H
 obtain⟨rfl,rfl,rfl,rfl⟩:=H
 go_enter Tryz.func10,Tryz.ntmps10
 go_wp2_with (first|((with_reducible refine zad (N:=1) rfl ?_);refine zaj rfl (N:=1) rfl (cs:=#[.slice A0_0 l0_0.length c0_0,.int .i64 a0_1,.string a0_2,.int .i64 a0_3]) (t:=26) bx_ ?_;intro gb101 hg w3 hbox hb;replace BK101:=am_ (hbox);replace GW101:=am_ ((by rw [hg];exact(zaf qz2_):w.heap.size≤gb101));replace GE101:=GW101;replace HB:=am_ (zab qz2_ hb);clear hb hbox hg)|((with_reducible refine zad (N:=2) rfl ?_);refine zaj rfl (N:=2) rfl (cs:=#[.slice none 0 0,.int .i64 0,.string (⟨#[]⟩:ByteArray),.int .i64 0]) (t:=38) bx_ ?_;intro gb102 hg w4 hbox hb;replace BK102:=am_ (hbox);replace GW102:=am_ ((by rw [hg];exact(zaf qz5_):w.heap.size≤gb102));replace GE102:=GW102;replace HB:=am_ (zab qz5_ hb);replace NB101_102:=am_ ((by rw [hg];exact Nat.ne_of_lt (zar (g:=gb101) (o:=.cells #[.slice A0_0 l0_0.length c0_0,.int .i64 a0_1,.string a0_2,.int .i64 a0_3] 26 (0,0)) qz6_):gb101≠gb102));replace NB102_101:=am_ ((by rw [hg];exact Nat.ne_of_gt (zar (g:=gb101) (o:=.cells #[.slice A0_0 l0_0.length c0_0,.int .i64 a0_1,.string a0_2,.int .i64 a0_3] 26 (0,0)) qz6_):gb102≠gb101));replace BK101:=am_ (zak (g:=gb101) (o:=.cells #[.slice A0_0 l0_0.length c0_0,.int .i64 a0_1,.string a0_2,.int .i64 a0_3] 26 (0,0)) qz6_ hb);clear hb hbox hg)|((with_reducible refine zad (N:=3) rfl ?_);refine zaj rfl (N:=3) rfl (cs:=#[.slice none 0 0,.int .i64 0,.string (⟨#[]⟩:ByteArray),.int .i64 0]) (t:=38) bx_ ?_;intro gb103 hg w5 hbox hb;replace BK103:=am_ (hbox);replace GW103:=am_ ((by rw [hg];exact(zaf qz8_):w.heap.size≤gb103));replace GE103:=GW103;replace HB:=am_ (zab qz8_ hb);replace NB101_103:=am_ ((by rw [hg];exact Nat.ne_of_lt (zar (g:=gb101) (o:=.cells #[.slice A0_0 l0_0.length c0_0,.int .i64 a0_1,.string a0_2,.int .i64 a0_3] 26 (0,0)) qz6_):gb101≠gb103));replace NB103_101:=am_ ((by rw [hg];exact Nat.ne_of_gt (zar (g:=gb101) (o:=.cells #[.slice A0_0 l0_0.length c0_0,.int .i64 a0_1,.string a0_2,.int .i64 a0_3] 26 (0,0)) qz6_):gb103≠gb101));replace BK101:=am_ (zak (g:=gb101) (o:=.cells #[.slice A0_0 l0_0.length c0_0,.int .i64 a0_1,.string a0_2,.int .i64 a0_3] 26 (0,0)) qz6_ hb);replace NB102_103:=am_ ((by rw [hg];exact Nat.ne_of_lt (zar (g:=gb102) (o:=.cells #[.slice none 0 0,.int .i64 0,.string (⟨#[]⟩:ByteArray),.int .i64 0] 38 (0,0)) qz7_):gb102≠gb103));replace NB103_102:=am_ ((by rw [hg];exact Nat.ne_of_gt (zar (g:=gb102) (o:=.cells #[.slice none 0 0,.int .i64 0,.string (⟨#[]⟩:ByteArray),.int .i64 0] 38 (0,0)) qz7_):gb103≠gb102));replace BK102:=am_ (zak (g:=gb102) (o:=.cells #[.slice none 0 0,.int .i64 0,.string (⟨#[]⟩:ByteArray),.int .i64 0] 38 (0,0)) qz7_ hb);clear hb hbox hg;have hnb6:=NB101_102.out;have hnc6:=NB102_101.out;have hnb7:=NB101_103.out;have hnc7:=NB103_101.out;obtain⟨hcz8_0,hcz8_1,hcz8_2,hcz8_3,hfz8_0,hfz8_1,hfz8_2,hfz8_3⟩:=bf4_ BK101.out)|((with_reducible refine zan (f:=8) rfl ?_);refine gl_ (some 6) Tryz.func8 #[.slice A0_0 l0_0.length c0_0] ?_;(with_reducible refine(zb3.calls k _ _ l0_0 t104 _ ?side1 ?side2 A2.out).mono ?_);(case side1=>exact qc_ (Kd.zbi HR0_0.out HB.out));(case side2=>exact HC0_0.out);rintro e w9 ⟨v105,rfl,ho0,hb⟩;refine⟨_,rfl,?_⟩;replace HO106:=am_ (Kd.zcw ho0 (zaf qz9_));replace BK101:=am_ (zak (g:=gb101) (o:=.cells #[.slice A0_0 l0_0.length c0_0,.int .i64 a0_1,.string a0_2,.int .i64 a0_3] 26 (0,0)) qz6_ hb);replace BK102:=am_ (zak (g:=gb102) (o:=.cells #[.slice none 0 0,.int .i64 0,.string (⟨#[]⟩:ByteArray),.int .i64 0] 38 (0,0)) qz7_ hb);replace BK103:=am_ (zak (g:=gb103) (o:=.cells #[.slice none 0 0,.int .i64 0,.string (⟨#[]⟩:ByteArray),.int .i64 0] 38 (0,0)) qz14_ hb);replace HB:=am_ (zab qz9_ hb);(try clear hb);(try clear hb2);(try clear hk);(try clear hi);(try clear ho0);obtain⟨Ao10,co10,eo10⟩:=Kd.zcb HO106.out;subst eo10;have hnb11:=NB103_102.out;have hnc11:=NB102_103.out;obtain⟨hcz12_0,hcz12_1,hcz12_2,hcz12_3,hfz12_0,hfz12_1,hfz12_2,hfz12_3⟩:=bf4_ BK103.out;obtain⟨hcz13_0,hcz13_1,hcz13_2,hcz13_3,hfz13_0,hfz13_1,hfz13_2,hfz13_3⟩:=bf4_ BK101.out;obtain⟨hcz14_0,hcz14_1,hcz14_2,hcz14_3,hfz14_0,hfz14_1,hfz14_2,hfz14_3⟩:=bf4_ BK102.out))
 refine bodyPost_ret (results_cell_row rfl _ _ gb102 38 #[.slice Ao10 t104.length co10,.int .i64 a0_1,.string a0_2,.int .i64 a0_3] (0,0) _ rfl (by(with_reducible repeat(first|refine zah ?_ _|refine zae ?_|refine zai ?_ _));refine za9 (cs:=#[.slice Ao10 t104.length co10,.int .i64 a0_1,.string a0_2,.int .i64 0]) ?_ 3 _ rfl;(with_reducible repeat(first|refine zah ?_ _|refine zae ?_|refine zai ?_ _));refine za9 (cs:=#[.slice Ao10 t104.length co10,.int .i64 a0_1,.string (⟨#[]⟩:ByteArray),.int .i64 0]) ?_ 2 _ rfl;(with_reducible repeat(first|refine zah ?_ _|refine zae ?_|refine zai ?_ _));refine za9 (cs:=#[.slice Ao10 t104.length co10,.int .i64 0,.string (⟨#[]⟩:ByteArray),.int .i64 0]) ?_ 1 _ rfl;(with_reducible repeat(first|refine zah ?_ _|refine zae ?_|refine zai ?_ _));refine za9 (cs:=#[.slice none 0 0,.int .i64 0,.string (⟨#[]⟩:ByteArray),.int .i64 0]) ?_ 0 _ rfl;(with_reducible repeat(first|refine zah ?_ _|refine zae ?_|refine zai ?_ _));refine zb8 ?_ NB102_103.out _;(with_reducible repeat(first|refine zah ?_ _|refine zae ?_|refine zai ?_ _));refine zb8 ?_ NB102_103.out _;(with_reducible repeat(first|refine zah ?_ _|refine zae ?_|refine zai ?_ _));refine zb8 ?_ NB102_103.out _;(with_reducible repeat(first|refine zah ?_ _|refine zae ?_|refine zai ?_ _));refine zb8 ?_ NB102_103.out _;(with_reducible repeat(first|refine zah ?_ _|refine zae ?_|refine zai ?_ _));exact BK102.out) Tryz.underlying38 rfl (by kernel_rfl)) rfl ?_
 exact⟨_,by first|rfl|(simp [zc9,zda] <;> rfl)|(simp [*,zc9,zda] <;> rfl),by(with_reducible repeat(first|apply Kd.zbm|apply Kd.zbl|apply Kd.zbt));exact Kd.zba (Kd.R_far (p:=⟨gb102,3,none⟩) (Kd.R_far (p:=⟨gb102,2,none⟩) (Kd.R_far (p:=⟨gb102,1,none⟩) (Kd.R_far (p:=⟨gb102,0,none⟩) (Kd.R_far (p:=⟨gb103,3,none⟩) (Kd.R_far (p:=⟨gb103,2,none⟩) (Kd.R_far (p:=⟨gb103,1,none⟩) (Kd.R_far (p:=⟨gb103,0,none⟩) (Kd.zeq (Kd.zeq HO106.out BK103.out (by decide)) BK102.out (by decide)) (fun _ hk=>hk.1.2) (.slice Ao10 t104.length co10)) (fun _ hk=>hk.1.2) (.int .i64 a0_1)) (fun _ hk=>hk.1.2) (.string a0_2)) (fun _ hk=>hk.1.2) (.int .i64 a0_3)) (fun _ hk=>hk.2) (.slice Ao10 t104.length co10)) (fun _ hk=>hk.2) (.int .i64 a0_1)) (fun _ hk=>hk.2) (.string a0_2)) (fun _ hk=>hk.2) (.int .i64 a0_3)) (fun _ hk=>trivial),by repeat(first|(with_reducible first|exact HB.out|apply za5|apply zaw|apply zao|refine za6 ?_ GE101.out|refine za6 ?_ GE102.out|refine za6 ?_ GE103.out)|exact HB.out)⟩
def zfc.f (a0_0:Int) (a0_1:Int) (a1_0:Int) (a1_1:Int):Option (Bool):=if a0_0=a1_0 then(if a0_1=a1_1 then(some true) else(some false)) else(some false)
theorem zfc.calls (a0_0:Int) (a0_1:Int) (a1_0:Int) (a1_1:Int) (r:Bool) (w:World) (h:zfc.f a0_0 a0_1 a1_0 a1_1=some r) :
  Calls Tryz.prog 45 #[.agg #[.int .i64 a0_0,.int .i64 a0_1],.agg #[.int .i64 a1_0,.int .i64 a1_1]] w fun e w'=>e=.returned (.bool r)∧Below w.heap.size w w':=by
 have hu32:=Tryz.underlying32
 have HB:=am_ (Below.refl w.heap.size w)
 have H:(if a0_0=a1_0 then(if a0_1=a1_1 then(some true) else(some false)) else(some false))=some r:=h
 clear h
 by_cases c3:a0_0=a1_0
 ·
  rw [if_pos c3] at H
  have c3b0:(a0_0 == a1_0)=true:=beq_iff_eq.mpr c3
  have c3b1:(a0_0 != a1_0)=false:=bne_eq_false_iff_eq.mpr c3
  clear c3
  by_cases c4:a0_1=a1_1
  ·
   rw [if_pos c4] at H
   have c4b0:(a0_1 == a1_1)=true:=beq_iff_eq.mpr c4
   have c4b1:(a0_1 != a1_1)=false:=bne_eq_false_iff_eq.mpr c4
   clear c4
   obtain rfl:=Option.some.inj H
   go_enter Tryz.func45,Tryz.ntmps45
   go_wp2_with (first|((with_reducible refine zad (N:=2) rfl ?_);refine zaj rfl (N:=2) rfl (cs:=#[.int .i64 a0_0,.int .i64 a0_1]) (t:=32) bx_ ?_;intro gb101 hg w5 hbox hb;replace BK101:=am_ (hbox);replace GW101:=am_ ((by rw [hg];exact(zaf qz2_):w.heap.size≤gb101));replace GE101:=GW101;replace HB:=am_ (zab qz2_ hb);clear hb hbox hg)|((with_reducible refine zad (N:=3) rfl ?_);refine zaj rfl (N:=3) rfl (cs:=#[.int .i64 a1_0,.int .i64 a1_1]) (t:=32) bx_ ?_;intro gb102 hg w6 hbox hb;replace BK102:=am_ (hbox);replace GW102:=am_ ((by rw [hg];exact(zaf qz5_):w.heap.size≤gb102));replace GE102:=GW102;replace HB:=am_ (zab qz5_ hb);replace NB101_102:=am_ ((by rw [hg];exact Nat.ne_of_lt (zar (g:=gb101) (o:=.cells #[.int .i64 a0_0,.int .i64 a0_1] 32 (0,0)) qz6_):gb101≠gb102));replace NB102_101:=am_ ((by rw [hg];exact Nat.ne_of_gt (zar (g:=gb101) (o:=.cells #[.int .i64 a0_0,.int .i64 a0_1] 32 (0,0)) qz6_):gb102≠gb101));replace BK101:=am_ (zak (g:=gb101) (o:=.cells #[.int .i64 a0_0,.int .i64 a0_1] 32 (0,0)) qz6_ hb);clear hb hbox hg;have hnb7:=NB101_102.out;have hnc7:=NB102_101.out;obtain⟨hcz8_0,hcz8_1,hfz8_0,hfz8_1⟩:=bf2_ BK101.out;obtain⟨hcz9_0,hcz9_1,hfz9_0,hfz9_1⟩:=bf2_ BK102.out))
   go_ret
   exact⟨qz4_,qz8_⟩
  ·
   rw [if_neg c4] at H
   have c4b0:(a0_1 == a1_1)=false:=beq_eq_false_iff_ne.mpr c4
   have c4b1:(a0_1 != a1_1)=true:=bne_iff_ne.mpr c4
   obtain rfl:=Option.some.inj H
   go_enter Tryz.func45,Tryz.ntmps45
   go_wp2_with (first|((with_reducible refine zad (N:=2) rfl ?_);refine zaj rfl (N:=2) rfl (cs:=#[.int .i64 a0_0,.int .i64 a0_1]) (t:=32) bx_ ?_;intro gb101 hg w10 hbox hb;replace BK101:=am_ (hbox);replace GW101:=am_ ((by rw [hg];exact(zaf qz2_):w.heap.size≤gb101));replace GE101:=GW101;replace HB:=am_ (zab qz2_ hb);clear hb hbox hg)|((with_reducible refine zad (N:=3) rfl ?_);refine zaj rfl (N:=3) rfl (cs:=#[.int .i64 a1_0,.int .i64 a1_1]) (t:=32) bx_ ?_;intro gb102 hg w11 hbox hb;replace BK102:=am_ (hbox);replace GW102:=am_ ((by rw [hg];exact(zaf qz5_):w.heap.size≤gb102));replace GE102:=GW102;replace HB:=am_ (zab qz5_ hb);replace NB101_102:=am_ ((by rw [hg];exact Nat.ne_of_lt (zar (g:=gb101) (o:=.cells #[.int .i64 a0_0,.int .i64 a0_1] 32 (0,0)) qz6_):gb101≠gb102));replace NB102_101:=am_ ((by rw [hg];exact Nat.ne_of_gt (zar (g:=gb101) (o:=.cells #[.int .i64 a0_0,.int .i64 a0_1] 32 (0,0)) qz6_):gb102≠gb101));replace BK101:=am_ (zak (g:=gb101) (o:=.cells #[.int .i64 a0_0,.int .i64 a0_1] 32 (0,0)) qz6_ hb);clear hb hbox hg;have hnb12:=NB101_102.out;have hnc12:=NB102_101.out;obtain⟨hcz13_0,hcz13_1,hfz13_0,hfz13_1⟩:=bf2_ BK101.out;obtain⟨hcz14_0,hcz14_1,hfz14_0,hfz14_1⟩:=bf2_ BK102.out))
   go_ret
   exact⟨qz4_,qz8_⟩
 ·
  rw [if_neg c3] at H
  have c3b0:(a0_0 == a1_0)=false:=beq_eq_false_iff_ne.mpr c3
  have c3b1:(a0_0 != a1_0)=true:=bne_iff_ne.mpr c3
  obtain rfl:=Option.some.inj H
  go_enter Tryz.func45,Tryz.ntmps45
  go_wp2_with (first|((with_reducible refine zad (N:=2) rfl ?_);refine zaj rfl (N:=2) rfl (cs:=#[.int .i64 a0_0,.int .i64 a0_1]) (t:=32) bx_ ?_;intro gb101 hg w15 hbox hb;replace BK101:=am_ (hbox);replace GW101:=am_ ((by rw [hg];exact(zaf qz2_):w.heap.size≤gb101));replace GE101:=GW101;replace HB:=am_ (zab qz2_ hb);clear hb hbox hg)|((with_reducible refine zad (N:=3) rfl ?_);refine zaj rfl (N:=3) rfl (cs:=#[.int .i64 a1_0,.int .i64 a1_1]) (t:=32) bx_ ?_;intro gb102 hg w16 hbox hb;replace BK102:=am_ (hbox);replace GW102:=am_ ((by rw [hg];exact(zaf qz5_):w.heap.size≤gb102));replace GE102:=GW102;replace HB:=am_ (zab qz5_ hb);replace NB101_102:=am_ ((by rw [hg];exact Nat.ne_of_lt (zar (g:=gb101) (o:=.cells #[.int .i64 a0_0,.int .i64 a0_1] 32 (0,0)) qz6_):gb101≠gb102));replace NB102_101:=am_ ((by rw [hg];exact Nat.ne_of_gt (zar (g:=gb101) (o:=.cells #[.int .i64 a0_0,.int .i64 a0_1] 32 (0,0)) qz6_):gb102≠gb101));replace BK101:=am_ (zak (g:=gb101) (o:=.cells #[.int .i64 a0_0,.int .i64 a0_1] 32 (0,0)) qz6_ hb);clear hb hbox hg;have hnb17:=NB101_102.out;have hnc17:=NB102_101.out;obtain⟨hcz18_0,hcz18_1,hfz18_0,hfz18_1⟩:=bf2_ BK101.out;obtain⟨hcz19_0,hcz19_1,hfz19_0,hfz19_1⟩:=bf2_ BK102.out))
  go_ret
  exact⟨qz4_,qz8_⟩
def zas.l0:Nat→List (S32)→List (S32)→Int→Option (Bool)
 | 0,_,_,_=>none
 | k + 1,x0,x1,x5=>if x5<(x0.length:Int) then(if 0≤x5 then(if x5<(x1.length:Int) then((zfc.f ((zac x0 x5).f0) ((zac x0 x5).f1) ((zac x1 x5).f0) ((zac x1 x5).f1)).bind fun t103=>(if t103=true then(zas.l0 k x0 x1 (wrap64 (x5 + 1))) else(some false))) else(none)) else(none)) else(some true)
def zas.f (k:Nat) (l0:List (S32)) (l1:List (S32)):Option (Bool):=if (l0.length:Int)=(l1.length:Int) then(zas.l0 k l0 l1 0) else(some false)
def zas.T6:Bool × List (List Nat × List Nat):=(true,[([],[]),([],[]),([0,1],[0,1]),([2],[2]),([],[]),([],[]),([4,5],[4,5]),([6],[6]),([3,7],[3,7]),([8],[8])])
def zas.B6:List Nat:=[0,0,3,7,0,0,48,112,255,511]
theorem zas.tab6:rtab .any (opsOf Tryz.f14 6)=zas.T6:=by kernel_rfl
theorem zas.bits6:zcu zas.T6.2 zas.B6=true:=by kernel_rfl
theorem zas.calls (k:Nat) (A0:Option Addr) (c0:Nat) (l0:List (S32)) (A1:Option Addr) (c1:Nat) (l1:List (S32)) (r:Bool) (w:World) (hr0:Kd.C k32 w A0 l0.length l0) (hc0:l0.length≤c0) (hr1:Kd.C k32 w A1 l1.length l1) (hc1:l1.length≤c1) (h:zas.f k l0 l1=some r) :
  Calls Tryz.prog 14 #[.slice A0 l0.length c0,.slice A1 l1.length c1] w fun e w'=>e=.returned (.bool r)∧Below w.heap.size w w':=by
 have hu32:=Tryz.underlying32
 have HR0:=am_ hr0
 have HC0:=am_ hc0
 clear hr0 hc0
 have HR1:=am_ hr1
 have HC1:=am_ hc1
 clear hr1 hc1
 have HB:=am_ (Below.refl w.heap.size w)
 have H:(if (l0.length:Int)=(l1.length:Int) then(zas.l0 k l0 l1 0) else(some false))=some r:=h
 clear h
 by_cases c3:(l0.length:Int)=(l1.length:Int)
 ·
  rw [if_pos c3] at H
  have c3b0:((l0.length:Int) == (l1.length:Int))=true:=beq_iff_eq.mpr c3
  have c3b1:((l0.length:Int) != (l1.length:Int))=false:=bne_eq_false_iff_eq.mpr c3
  have c3b2:(l0.length == l1.length)=true:=by first|simpa using c3|(simp at c3 ⊢;omega)
  clear c3
  have H':=am_ H
  clear H
  go_enter Tryz.func14,Tryz.ntmps14
  go_wp2
  go_loopg [5] k (fun kq v5 w'=>∃ (x5_1:Int),v5=.int .i64 x5_1∧zal (zas.l0 kq l0 l1 x5_1=some r)∧zal (kq≤k)∧zal (Below w.heap.size w w'))
  case atStart=>exact⟨(0),qz0_,H',⟨Nat.le_refl _⟩,⟨qz2_⟩⟩
  case round=>
   clear H'
   try clear c1
   try clear p2
   try clear c3
   try clear c3b0
   try clear c3b1
   try clear c3b2
   obtain⟨x5_1,rfl,HA,HK1,HB⟩:=hrel
   cases gk with
   | zero=>exact absurd HA.out (by simp [zas.l0])
   | succ k1=>
    have H:=HA.out
    clear HA
    simp only [zas.l0] at H
    by_cases c4:x5_1<(l0.length:Int)
    ·
     rw [if_pos c4] at H
     have c4b0:decide (x5_1<(l0.length:Int))=true:=decide_eq_true c4
     clear c4
     by_cases c5:0≤x5_1
     ·
      rw [if_pos c5] at H
      have c5b0:decide (0≤x5_1)=true:=decide_eq_true c5
      clear c5
      by_cases c6:x5_1<(l1.length:Int)
      ·
       rw [if_pos c6] at H
       have c6b0:decide (x5_1<(l1.length:Int))=true:=decide_eq_true c6
       clear c6
       replace H:=Option.bind_eq_some_iff.mp H
       obtain⟨t103,A70,H⟩:=H
       replace H:(if t103=true then(zas.l0 k1 l0 l1 (wrap64 (x5_1 + 1))) else(some false))=some r:=H
       have A7:=am_ A70
       clear A70
       by_cases c8:t103=true
       ·
        subst c8
        have H1:(zas.l0 k1 l0 l1 (wrap64 (x5_1 + 1)))=some r:=by rw [if_pos rfl] at H;exact H
        clear H
        have H:=H1
        clear H1
        have H':=am_ H
        clear H
        try go_wp2
        replace HB:=am_ (zao HB.out)
        have p101:0≤(x5_1:Int):=of_decide_eq_true qz10_
        have q101:x5_1<(l0.length:Int):=of_decide_eq_true qz10_
        obtain⟨ad101,e101,hx101_0,hx101_1⟩:=zdf HR0.out x5_1 p101 q101
        have hw101_1:=hx101_1
        have hw101_0:=hx101_0
        cases e101
        replace hx101_0:=(HB.out.cell (World.block_lt_of_cell? w _ hx101_0)).trans hx101_0
        replace hx101_1:=(HB.out.cell (World.block_lt_of_cell? w _ hx101_1)).trans hx101_1
        replace p101:=eq_true p101
        replace q101:=eq_true q101
        have p102:0≤(x5_1:Int):=of_decide_eq_true qz10_
        have q102:x5_1<(l1.length:Int):=of_decide_eq_true qz10_
        obtain⟨ad102,e102,hx102_0,hx102_1⟩:=zdf HR1.out x5_1 p102 q102
        have hw102_1:=hx102_1
        have hw102_0:=hx102_0
        cases e102
        replace hx102_0:=(HB.out.cell (World.block_lt_of_cell? w _ hx102_0)).trans hx102_0
        replace hx102_1:=(HB.out.cell (World.block_lt_of_cell? w _ hx102_1)).trans hx102_1
        replace p102:=eq_true p102
        replace q102:=eq_true q102
        refine zcn (n:=10) (S:=fun w'=>w'.cell? (ad101.add ((x5_1).toNat * 2))=some (.int .i64 ((zac l0 x5_1).f0))∧w'.cell? ⟨(ad101.add ((x5_1).toNat * 2)).block,(ad101.add ((x5_1).toNat * 2)).off + 1,none⟩=some (.int .i64 ((zac l0 x5_1).f1))∧w'.cell? (ad102.add ((x5_1).toNat * 2))=some (.int .i64 ((zac l1 x5_1).f0))∧w'.cell? ⟨(ad102.add ((x5_1).toNat * 2)).block,(ad102.add ((x5_1).toNat * 2)).off + 1,none⟩=some (.int .i64 ((zac l1 x5_1).f1))) (ds:=[]) (bs_ 10 0) (by kernel_rfl) rfl rfl ⟨((HB.out.cell (World.block_lt_of_cell? w _ hw101_0)).trans hw101_0),((HB.out.cell (World.block_lt_of_cell? w _ hw101_1)).trans hw101_1),((HB.out.cell (World.block_lt_of_cell? w _ hw102_0)).trans hw102_0),((HB.out.cell (World.block_lt_of_cell? w _ hw102_1)).trans hw102_1)⟩ (fun hHeld=>?_);refine zcj zas.tab6 zas.bits6 (fun HT_ HW_=>?_)
        generalize wr.drew=w9 at HB hx101_0 hx101_1 hx102_0 hx102_1 hHeld ⊢
        refine pt_ HT_.out 0 17 (bs_ 10 1) ?_
        refine pt_ HT_.out 1 18 (bs_ 10 3) ?_
        refine pt_ HT_.out 2 19 (bs_ 10 7) ?_
        refine pt_ HT_.out 4 21 (bs_ 10 23) ?_
        refine pt_ HT_.out 5 22 (bs_ 10 55) ?_
        refine pt_ HT_.out 6 23 (bs_ 10 119) ?_
        refine tt_ HT_ HW_ 3 (bs_ 10 127) hHeld ?_
        refine tt_ HT_ HW_ 7 (bs_ 10 255) hHeld ?_
        refine ot_ HT_ 8 (some 25) (bs_ 10 511) (fun K hK=>?_)
        refine go_ Tryz.func45 #[.agg #[.int .i64 ((zac l0 x5_1).f0),.int .i64 ((zac l0 x5_1).f1)],.agg #[.int .i64 ((zac l1 x5_1).f0),.int .i64 ((zac l1 x5_1).f1)]] ?_
        with_reducible refine(zfc.calls ((zac l0 x5_1).f0) ((zac l0 x5_1).f1) ((zac l1 x5_1).f0) ((zac l1 x5_1).f1) true _ A7.out).mono ?_
        rintro e w10 ⟨rfl,hb⟩
        refine⟨_,rfl,?_⟩
        replace HB:=am_ (zab qz2_ hb)
        (try clear hb)
        (try clear hb2)
        (try clear hk)
        (try clear hi)
        refine hK.out _ _ ⟨((HB.out.cell (World.block_lt_of_cell? w _ hw101_0)).trans hw101_0),((HB.out.cell (World.block_lt_of_cell? w _ hw101_1)).trans hw101_1),((HB.out.cell (World.block_lt_of_cell? w _ hw102_0)).trans hw102_0),((HB.out.cell (World.block_lt_of_cell? w _ hw102_1)).trans hw102_1)⟩ (fun hHeld=>?_)
        clear hK K
        refine nm_ 25 ?_
        refine pt_ HT_.out 9 26 (bs_ 10 1023) ?_
        refine done_ (zdr HT_.out (by kernel_rfl)) ?_
        try go_wp2
        go_roundg k1
        case measure=>have:=HK1.out;omega
        case rel=>exact⟨(wrap64 (x5_1 + 1)),qz0_,H',⟨qz13_⟩,⟨qz2_⟩⟩
       ·
        replace c8:=Bool.eq_false_iff.mpr c8
        subst c8
        have H1:(some false)=some r:=by rw [if_neg (show ¬(false=true) by decide)] at H;exact H
        clear H
        have H:=H1
        clear H1
        obtain rfl:=Option.some.inj H
        try go_wp2
        replace HB:=am_ (zao HB.out)
        have p101:0≤(x5_1:Int):=of_decide_eq_true qz10_
        have q101:x5_1<(l0.length:Int):=of_decide_eq_true qz10_
        obtain⟨ad101,e101,hx101_0,hx101_1⟩:=zdf HR0.out x5_1 p101 q101
        have hw101_1:=hx101_1
        have hw101_0:=hx101_0
        cases e101
        replace hx101_0:=(HB.out.cell (World.block_lt_of_cell? w _ hx101_0)).trans hx101_0
        replace hx101_1:=(HB.out.cell (World.block_lt_of_cell? w _ hx101_1)).trans hx101_1
        replace p101:=eq_true p101
        replace q101:=eq_true q101
        have p102:0≤(x5_1:Int):=of_decide_eq_true qz10_
        have q102:x5_1<(l1.length:Int):=of_decide_eq_true qz10_
        obtain⟨ad102,e102,hx102_0,hx102_1⟩:=zdf HR1.out x5_1 p102 q102
        have hw102_1:=hx102_1
        have hw102_0:=hx102_0
        cases e102
        replace hx102_0:=(HB.out.cell (World.block_lt_of_cell? w _ hx102_0)).trans hx102_0
        replace hx102_1:=(HB.out.cell (World.block_lt_of_cell? w _ hx102_1)).trans hx102_1
        replace p102:=eq_true p102
        replace q102:=eq_true q102
        refine zcn (n:=10) (S:=fun w'=>w'.cell? (ad101.add ((x5_1).toNat * 2))=some (.int .i64 ((zac l0 x5_1).f0))∧w'.cell? ⟨(ad101.add ((x5_1).toNat * 2)).block,(ad101.add ((x5_1).toNat * 2)).off + 1,none⟩=some (.int .i64 ((zac l0 x5_1).f1))∧w'.cell? (ad102.add ((x5_1).toNat * 2))=some (.int .i64 ((zac l1 x5_1).f0))∧w'.cell? ⟨(ad102.add ((x5_1).toNat * 2)).block,(ad102.add ((x5_1).toNat * 2)).off + 1,none⟩=some (.int .i64 ((zac l1 x5_1).f1))) (ds:=[]) (bs_ 10 0) (by kernel_rfl) rfl rfl ⟨((HB.out.cell (World.block_lt_of_cell? w _ hw101_0)).trans hw101_0),((HB.out.cell (World.block_lt_of_cell? w _ hw101_1)).trans hw101_1),((HB.out.cell (World.block_lt_of_cell? w _ hw102_0)).trans hw102_0),((HB.out.cell (World.block_lt_of_cell? w _ hw102_1)).trans hw102_1)⟩ (fun hHeld=>?_);refine zcj zas.tab6 zas.bits6 (fun HT_ HW_=>?_)
        generalize wr.drew=w11 at HB hx101_0 hx101_1 hx102_0 hx102_1 hHeld ⊢
        refine pt_ HT_.out 0 17 (bs_ 10 1) ?_
        refine pt_ HT_.out 1 18 (bs_ 10 3) ?_
        refine pt_ HT_.out 2 19 (bs_ 10 7) ?_
        refine pt_ HT_.out 4 21 (bs_ 10 23) ?_
        refine pt_ HT_.out 5 22 (bs_ 10 55) ?_
        refine pt_ HT_.out 6 23 (bs_ 10 119) ?_
        refine tt_ HT_ HW_ 3 (bs_ 10 127) hHeld ?_
        refine tt_ HT_ HW_ 7 (bs_ 10 255) hHeld ?_
        refine ot_ HT_ 8 (some 25) (bs_ 10 511) (fun K hK=>?_)
        refine go_ Tryz.func45 #[.agg #[.int .i64 ((zac l0 x5_1).f0),.int .i64 ((zac l0 x5_1).f1)],.agg #[.int .i64 ((zac l1 x5_1).f0),.int .i64 ((zac l1 x5_1).f1)]] ?_
        with_reducible refine(zfc.calls ((zac l0 x5_1).f0) ((zac l0 x5_1).f1) ((zac l1 x5_1).f0) ((zac l1 x5_1).f1) false _ A7.out).mono ?_
        rintro e w12 ⟨rfl,hb⟩
        refine⟨_,rfl,?_⟩
        replace HB:=am_ (zab qz2_ hb)
        (try clear hb)
        (try clear hb2)
        (try clear hk)
        (try clear hi)
        refine hK.out _ _ ⟨((HB.out.cell (World.block_lt_of_cell? w _ hw101_0)).trans hw101_0),((HB.out.cell (World.block_lt_of_cell? w _ hw101_1)).trans hw101_1),((HB.out.cell (World.block_lt_of_cell? w _ hw102_0)).trans hw102_0),((HB.out.cell (World.block_lt_of_cell? w _ hw102_1)).trans hw102_1)⟩ (fun hHeld=>?_)
        clear hK K
        refine nm_ 25 ?_
        refine pt_ HT_.out 9 26 (bs_ 10 1023) ?_
        refine done_ (zdr HT_.out (by kernel_rfl)) ?_
        try go_wp2
        go_ret
        exact⟨qz4_,qz2_⟩
      ·
       rw [if_neg c6] at H
       exact absurd H (by simp)
     ·
      rw [if_neg c5] at H
      exact absurd H (by simp)
    ·
     rw [if_neg c4] at H
     have c4b0:decide (x5_1<(l0.length:Int))=false:=decide_eq_false c4
     clear c4
     obtain rfl:=Option.some.inj H
     go_wp2
     go_ret
     exact⟨qz4_,qz2_⟩
 ·
  rw [if_neg c3] at H
  have c3b0:((l0.length:Int) == (l1.length:Int))=false:=beq_eq_false_iff_ne.mpr c3
  have c3b1:((l0.length:Int) != (l1.length:Int))=true:=bne_iff_ne.mpr c3
  have c3b2:(l0.length == l1.length)=false:=by first|simpa using c3|(simp at c3 ⊢;omega)
  obtain rfl:=Option.some.inj H
  go_enter Tryz.func14,Tryz.ntmps14
  go_wp2
  go_ret
  exact⟨qz4_,qz2_⟩
def za2.l0:Nat→List (List (S32))→List (List (S32))→Int→Option (Bool)
 | 0,_,_,_=>none
 | k + 1,x0,x1,x5=>if x5<(x0.length:Int) then(if 0≤x5 then(if x5<(x1.length:Int) then((zas.f k (rd_L3 x0 x5) (rd_L3 x1 x5)).bind fun t103=>(if t103=true then(za2.l0 k x0 x1 (wrap64 (x5 + 1))) else(some false))) else(none)) else(none)) else(some true)
def za2.f (k:Nat) (l0:List (List (S32))) (l1:List (List (S32))):Option (Bool):=if (l0.length:Int)=(l1.length:Int) then(za2.l0 k l0 l1 0) else(some false)
def za2.T6:Bool × List (List Nat × List Nat):=(true,[([],[]),([],[]),([0,1],[0,1]),([2],[2]),([],[]),([],[]),([4,5],[4,5]),([6],[6]),([3,7],[3,7]),([8],[8])])
def za2.B6:List Nat:=[0,0,3,7,0,0,48,112,255,511]
theorem za2.tab6:rtab .any (opsOf Tryz.f24 6)=za2.T6:=by kernel_rfl
theorem za2.bits6:zcu za2.T6.2 za2.B6=true:=by kernel_rfl
theorem za2.calls (k:Nat) (A0:Option Addr) (c0:Nat) (l0:List (List (S32))) (A1:Option Addr) (c1:Nat) (l1:List (List (S32))) (r:Bool) (w:World) (hr0:Kd.C (Kd.slice 32 k32) w A0 l0.length l0) (hc0:l0.length≤c0) (hr1:Kd.C (Kd.slice 32 k32) w A1 l1.length l1) (hc1:l1.length≤c1) (h:za2.f k l0 l1=some r) :
  Calls Tryz.prog 24 #[.slice A0 l0.length c0,.slice A1 l1.length c1] w fun e w'=>e=.returned (.bool r)∧Below w.heap.size w w':=by
 have HR0:=am_ hr0
 have HC0:=am_ hc0
 clear hr0 hc0
 have HR1:=am_ hr1
 have HC1:=am_ hc1
 clear hr1 hc1
 have HB:=am_ (Below.refl w.heap.size w)
 have H:(if (l0.length:Int)=(l1.length:Int) then(za2.l0 k l0 l1 0) else(some false))=some r:=h
 clear h
 by_cases c3:(l0.length:Int)=(l1.length:Int)
 ·
  rw [if_pos c3] at H
  have c3b0:((l0.length:Int) == (l1.length:Int))=true:=beq_iff_eq.mpr c3
  have c3b1:((l0.length:Int) != (l1.length:Int))=false:=bne_eq_false_iff_eq.mpr c3
  have c3b2:(l0.length == l1.length)=true:=by first|simpa using c3|(simp at c3 ⊢;omega)
  clear c3
  have H':=am_ H
  clear H
  go_enter Tryz.func24,Tryz.ntmps24
  go_wp2
  go_loopg [5] k (fun kq v5 w'=>∃ (x5_1:Int),v5=.int .i64 x5_1∧zal (za2.l0 kq l0 l1 x5_1=some r)∧zal (kq≤k)∧zal (Below w.heap.size w w'))
  case atStart=>exact⟨(0),qz0_,H',⟨Nat.le_refl _⟩,⟨qz2_⟩⟩
  case round=>
   clear H'
   try clear c1
   try clear c2
   try clear p2
   try clear c3
   try clear c3b0
   try clear c3b1
   try clear c3b2
   obtain⟨x5_1,rfl,HA,HK1,HB⟩:=hrel
   cases gk with
   | zero=>exact absurd HA.out (by simp [za2.l0])
   | succ k1=>
    have H:=HA.out
    clear HA
    simp only [za2.l0] at H
    by_cases c4:x5_1<(l0.length:Int)
    ·
     rw [if_pos c4] at H
     have c4b0:decide (x5_1<(l0.length:Int))=true:=decide_eq_true c4
     clear c4
     by_cases c5:0≤x5_1
     ·
      rw [if_pos c5] at H
      have c5b0:decide (0≤x5_1)=true:=decide_eq_true c5
      clear c5
      by_cases c6:x5_1<(l1.length:Int)
      ·
       rw [if_pos c6] at H
       have c6b0:decide (x5_1<(l1.length:Int))=true:=decide_eq_true c6
       clear c6
       replace H:=Option.bind_eq_some_iff.mp H
       obtain⟨t103,A70,H⟩:=H
       replace H:(if t103=true then(za2.l0 k1 l0 l1 (wrap64 (x5_1 + 1))) else(some false))=some r:=H
       have A7:=am_ A70
       clear A70
       by_cases c8:t103=true
       ·
        subst c8
        have H1:(za2.l0 k1 l0 l1 (wrap64 (x5_1 + 1)))=some r:=by rw [if_pos rfl] at H;exact H
        clear H
        have H:=H1
        clear H1
        have H':=am_ H
        clear H
        try go_wp2
        replace HB:=am_ (zao HB.out)
        have p101:0≤(x5_1:Int):=of_decide_eq_true qz10_
        have q101:x5_1<(l0.length:Int):=of_decide_eq_true qz10_
        obtain⟨ad101,A101_0,c101_0,e101,hx101_0,hl101_0,hi101_0⟩:=at_L3 HR0.out x5_1 p101 q101
        have hw101_0:=hx101_0
        cases e101
        replace hx101_0:=(HB.out.cell (World.block_lt_of_cell? w _ hx101_0)).trans hx101_0
        have HR101_0:=am_ hi101_0
        have HC101_0:=am_ hl101_0
        clear hi101_0 hl101_0
        replace p101:=eq_true p101
        replace q101:=eq_true q101
        have p102:0≤(x5_1:Int):=of_decide_eq_true qz10_
        have q102:x5_1<(l1.length:Int):=of_decide_eq_true qz10_
        obtain⟨ad102,A102_0,c102_0,e102,hx102_0,hl102_0,hi102_0⟩:=at_L3 HR1.out x5_1 p102 q102
        have hw102_0:=hx102_0
        cases e102
        replace hx102_0:=(HB.out.cell (World.block_lt_of_cell? w _ hx102_0)).trans hx102_0
        have HR102_0:=am_ hi102_0
        have HC102_0:=am_ hl102_0
        clear hi102_0 hl102_0
        replace p102:=eq_true p102
        replace q102:=eq_true q102
        refine zcn (n:=10) (S:=fun w'=>w'.cell? (ad101.add (x5_1).toNat)=some (.slice A101_0 (rd_L3 l0 x5_1).length c101_0)∧w'.cell? (ad102.add (x5_1).toNat)=some (.slice A102_0 (rd_L3 l1 x5_1).length c102_0)) (ds:=[]) (bs_ 10 0) (by kernel_rfl) rfl rfl ⟨((HB.out.cell (World.block_lt_of_cell? w _ hw101_0)).trans hw101_0),((HB.out.cell (World.block_lt_of_cell? w _ hw102_0)).trans hw102_0)⟩ (fun hHeld=>?_);refine zcj za2.tab6 za2.bits6 (fun HT_ HW_=>?_)
        generalize wr.drew=w9 at HB HR101_0 HR102_0 hx101_0 hx102_0 hHeld ⊢
        refine pt_ HT_.out 0 17 (bs_ 10 1) ?_
        refine pt_ HT_.out 1 18 (bs_ 10 3) ?_
        refine pt_ HT_.out 2 19 (bs_ 10 7) ?_
        refine pt_ HT_.out 4 21 (bs_ 10 23) ?_
        refine pt_ HT_.out 5 22 (bs_ 10 55) ?_
        refine pt_ HT_.out 6 23 (bs_ 10 119) ?_
        refine tt_ HT_ HW_ 3 (bs_ 10 127) hHeld ?_
        refine tt_ HT_ HW_ 7 (bs_ 10 255) hHeld ?_
        refine ot_ HT_ 8 (some 25) (bs_ 10 511) (fun K hK=>?_)
        refine go_ Tryz.func14 #[.slice A101_0 (rd_L3 l0 x5_1).length c101_0,.slice A102_0 (rd_L3 l1 x5_1).length c102_0] ?_
        with_reducible refine(zas.calls k1 _ _ (rd_L3 l0 x5_1) _ _ (rd_L3 l1 x5_1) true _ ?side1 ?side2 ?side3 ?side4 A7.out).mono ?_
        (case side1=>exact qc_ (Kd.zbi HR101_0.out HB.out))
        (case side2=>exact HC101_0.out)
        (case side3=>exact qc_ (Kd.zbi HR102_0.out HB.out))
        (case side4=>exact HC102_0.out)
        rintro e w10 ⟨rfl,hb⟩
        refine⟨_,rfl,?_⟩
        replace HB:=am_ (zab qz2_ hb)
        (try clear hb)
        (try clear hb2)
        (try clear hk)
        (try clear hi)
        refine hK.out _ _ ⟨((HB.out.cell (World.block_lt_of_cell? w _ hw101_0)).trans hw101_0),((HB.out.cell (World.block_lt_of_cell? w _ hw102_0)).trans hw102_0)⟩ (fun hHeld=>?_)
        clear hK K
        refine nm_ 25 ?_
        refine pt_ HT_.out 9 26 (bs_ 10 1023) ?_
        refine done_ (zdr HT_.out (by kernel_rfl)) ?_
        try go_wp2
        go_roundg k1
        case measure=>have:=HK1.out;omega
        case rel=>exact⟨(wrap64 (x5_1 + 1)),qz0_,H',⟨qz13_⟩,⟨qz2_⟩⟩
       ·
        replace c8:=Bool.eq_false_iff.mpr c8
        subst c8
        have H1:(some false)=some r:=by rw [if_neg (show ¬(false=true) by decide)] at H;exact H
        clear H
        have H:=H1
        clear H1
        obtain rfl:=Option.some.inj H
        try go_wp2
        replace HB:=am_ (zao HB.out)
        have p101:0≤(x5_1:Int):=of_decide_eq_true qz10_
        have q101:x5_1<(l0.length:Int):=of_decide_eq_true qz10_
        obtain⟨ad101,A101_0,c101_0,e101,hx101_0,hl101_0,hi101_0⟩:=at_L3 HR0.out x5_1 p101 q101
        have hw101_0:=hx101_0
        cases e101
        replace hx101_0:=(HB.out.cell (World.block_lt_of_cell? w _ hx101_0)).trans hx101_0
        have HR101_0:=am_ hi101_0
        have HC101_0:=am_ hl101_0
        clear hi101_0 hl101_0
        replace p101:=eq_true p101
        replace q101:=eq_true q101
        have p102:0≤(x5_1:Int):=of_decide_eq_true qz10_
        have q102:x5_1<(l1.length:Int):=of_decide_eq_true qz10_
        obtain⟨ad102,A102_0,c102_0,e102,hx102_0,hl102_0,hi102_0⟩:=at_L3 HR1.out x5_1 p102 q102
        have hw102_0:=hx102_0
        cases e102
        replace hx102_0:=(HB.out.cell (World.block_lt_of_cell? w _ hx102_0)).trans hx102_0
        have HR102_0:=am_ hi102_0
        have HC102_0:=am_ hl102_0
        clear hi102_0 hl102_0
        replace p102:=eq_true p102
        replace q102:=eq_true q102
        refine zcn (n:=10) (S:=fun w'=>w'.cell? (ad101.add (x5_1).toNat)=some (.slice A101_0 (rd_L3 l0 x5_1).length c101_0)∧w'.cell? (ad102.add (x5_1).toNat)=some (.slice A102_0 (rd_L3 l1 x5_1).length c102_0)) (ds:=[]) (bs_ 10 0) (by kernel_rfl) rfl rfl ⟨((HB.out.cell (World.block_lt_of_cell? w _ hw101_0)).trans hw101_0),((HB.out.cell (World.block_lt_of_cell? w _ hw102_0)).trans hw102_0)⟩ (fun hHeld=>?_);refine zcj za2.tab6 za2.bits6 (fun HT_ HW_=>?_)
        generalize wr.drew=w11 at HB HR101_0 HR102_0 hx101_0 hx102_0 hHeld ⊢
        refine pt_ HT_.out 0 17 (bs_ 10 1) ?_
        refine pt_ HT_.out 1 18 (bs_ 10 3) ?_
        refine pt_ HT_.out 2 19 (bs_ 10 7) ?_
        refine pt_ HT_.out 4 21 (bs_ 10 23) ?_
        refine pt_ HT_.out 5 22 (bs_ 10 55) ?_
        refine pt_ HT_.out 6 23 (bs_ 10 119) ?_
        refine tt_ HT_ HW_ 3 (bs_ 10 127) hHeld ?_
        refine tt_ HT_ HW_ 7 (bs_ 10 255) hHeld ?_
        refine ot_ HT_ 8 (some 25) (bs_ 10 511) (fun K hK=>?_)
        refine go_ Tryz.func14 #[.slice A101_0 (rd_L3 l0 x5_1).length c101_0,.slice A102_0 (rd_L3 l1 x5_1).length c102_0] ?_
        with_reducible refine(zas.calls k1 _ _ (rd_L3 l0 x5_1) _ _ (rd_L3 l1 x5_1) false _ ?side1 ?side2 ?side3 ?side4 A7.out).mono ?_
        (case side1=>exact qc_ (Kd.zbi HR101_0.out HB.out))
        (case side2=>exact HC101_0.out)
        (case side3=>exact qc_ (Kd.zbi HR102_0.out HB.out))
        (case side4=>exact HC102_0.out)
        rintro e w12 ⟨rfl,hb⟩
        refine⟨_,rfl,?_⟩
        replace HB:=am_ (zab qz2_ hb)
        (try clear hb)
        (try clear hb2)
        (try clear hk)
        (try clear hi)
        refine hK.out _ _ ⟨((HB.out.cell (World.block_lt_of_cell? w _ hw101_0)).trans hw101_0),((HB.out.cell (World.block_lt_of_cell? w _ hw102_0)).trans hw102_0)⟩ (fun hHeld=>?_)
        clear hK K
        refine nm_ 25 ?_
        refine pt_ HT_.out 9 26 (bs_ 10 1023) ?_
        refine done_ (zdr HT_.out (by kernel_rfl)) ?_
        try go_wp2
        go_ret
        exact⟨qz4_,qz2_⟩
      ·
       rw [if_neg c6] at H
       exact absurd H (by simp)
     ·
      rw [if_neg c5] at H
      exact absurd H (by simp)
    ·
     rw [if_neg c4] at H
     have c4b0:decide (x5_1<(l0.length:Int))=false:=decide_eq_false c4
     clear c4
     obtain rfl:=Option.some.inj H
     go_wp2
     go_ret
     exact⟨qz4_,qz2_⟩
 ·
  rw [if_neg c3] at H
  have c3b0:((l0.length:Int) == (l1.length:Int))=false:=beq_eq_false_iff_ne.mpr c3
  have c3b1:((l0.length:Int) != (l1.length:Int))=true:=bne_iff_ne.mpr c3
  have c3b2:(l0.length == l1.length)=false:=by first|simpa using c3|(simp at c3 ⊢;omega)
  obtain rfl:=Option.some.inj H
  go_enter Tryz.func24,Tryz.ntmps24
  go_wp2
  go_ret
  exact⟨qz4_,qz2_⟩
end Go.Proofs.YtgookagndlfehaaGreat.PT
end
section
namespace Go.Proofs.YtgookagndlfehaaGreat.PT
open Go.RowKit Go.Proofs.YtgookagndlfehaaGreatW.PrintWords Go.Proofs.YtgookagndlfehaaGreatW.PrintLast Go.Proofs.YtgookagndlfehaaGreatW.PrintMore
attribute [local go_sem] zez zey zfh zff zed zd9 zex zew   -- for this text's walks alone
set_option linter.unusedVariables false
set_option linter.unusedSimpArgs false
def zc6.f (k:Nat) (l0_0:List (S32)) (a0_1:Int) (a0_2:ByteArray) (a0_3:Int) (l1_0:List (S32)) (a1_1:Int) (a1_2:ByteArray) (a1_3:Int):Option (Bool):=(zas.f k l0_0 l1_0).bind fun t103=>(if t103=true then(if a0_1=a1_1 then(if a0_2.toList=a1_2.toList then(if a0_3=a1_3 then(some true) else(some false)) else(some false)) else(some false)) else(some false))
theorem zc6.calls (k:Nat) (A0_0:Option Addr) (c0_0:Nat) (l0_0:List (S32)) (a0_1:Int) (a0_2:ByteArray) (a0_3:Int) (A1_0:Option Addr) (c1_0:Nat) (l1_0:List (S32)) (a1_1:Int) (a1_2:ByteArray) (a1_3:Int) (r:Bool) (w:World) (hr0_0:Kd.C k32 w A0_0 l0_0.length l0_0) (hc0_0:l0_0.length≤c0_0) (hr1_0:Kd.C k32 w A1_0 l1_0.length l1_0) (hc1_0:l1_0.length≤c1_0) (h:zc6.f k l0_0 a0_1 a0_2 a0_3 l1_0 a1_1 a1_2 a1_3=some r) :
  Calls Tryz.prog 13 #[.agg #[.slice A0_0 l0_0.length c0_0,.int .i64 a0_1,.string a0_2,.int .i64 a0_3],.agg #[.slice A1_0 l1_0.length c1_0,.int .i64 a1_1,.string a1_2,.int .i64 a1_3]] w fun e w'=>e=.returned (.bool r)∧Below w.heap.size w w':=by
 have hu38:=Tryz.underlying38
 have HR0_0:=am_ hr0_0
 have HC0_0:=am_ hc0_0
 clear hr0_0 hc0_0
 have HR1_0:=am_ hr1_0
 have HC1_0:=am_ hc1_0
 clear hr1_0 hc1_0
 have HB:=am_ (Below.refl w.heap.size w)
 have H:((zas.f k l0_0 l1_0).bind fun t103=>(if t103=true then(if a0_1=a1_1 then(if a0_2.toList=a1_2.toList then(if a0_3=a1_3 then(some true) else(some false)) else(some false)) else(some false)) else(some false)))=some r:=h
 clear h
 replace H:=Option.bind_eq_some_iff.mp H
 obtain⟨t103,A30,H⟩:=H
 replace H:(if t103=true then(if a0_1=a1_1 then(if a0_2.toList=a1_2.toList then(if a0_3=a1_3 then(some true) else(some false)) else(some false)) else(some false)) else(some false))=some r:=H
 have A3:=am_ A30
 clear A30
 by_cases c4:t103=true
 ·
  subst c4
  have H1:(if a0_1=a1_1 then(if a0_2.toList=a1_2.toList then(if a0_3=a1_3 then(some true) else(some false)) else(some false)) else(some false))=some r:=by rw [if_pos rfl] at H;exact H
  clear H
  have H:=H1
  clear H1
  by_cases c5:a0_1=a1_1
  ·
   rw [if_pos c5] at H
   have c5b0:(a0_1 == a1_1)=true:=beq_iff_eq.mpr c5
   have c5b1:(a0_1 != a1_1)=false:=bne_eq_false_iff_eq.mpr c5
   clear c5
   by_cases c6:a0_2.toList=a1_2.toList
   ·
    rw [if_pos c6] at H
    have c6b0:(a0_2.toList == a1_2.toList)=true:=beq_iff_eq.mpr c6
    have c6b1:(a0_2.toList != a1_2.toList)=false:=bne_eq_false_iff_eq.mpr c6
    clear c6
    by_cases c7:a0_3=a1_3
    ·
     rw [if_pos c7] at H
     have c7b0:(a0_3 == a1_3)=true:=beq_iff_eq.mpr c7
     have c7b1:(a0_3 != a1_3)=false:=bne_eq_false_iff_eq.mpr c7
     clear c7
     obtain rfl:=Option.some.inj H
     go_enter Tryz.func13,Tryz.ntmps13
     go_wp2_with (first|((with_reducible refine zad (N:=2) rfl ?_);refine zaj rfl (N:=2) rfl (cs:=#[.slice A0_0 l0_0.length c0_0,.int .i64 a0_1,.string a0_2,.int .i64 a0_3]) (t:=38) bx_ ?_;intro gb101 hg w8 hbox hb;replace BK101:=am_ (hbox);replace GW101:=am_ ((by rw [hg];exact(zaf qz2_):w.heap.size≤gb101));replace GE101:=GW101;replace HB:=am_ (zab qz2_ hb);clear hb hbox hg)|((with_reducible refine zad (N:=3) rfl ?_);refine zaj rfl (N:=3) rfl (cs:=#[.slice A1_0 l1_0.length c1_0,.int .i64 a1_1,.string a1_2,.int .i64 a1_3]) (t:=38) bx_ ?_;intro gb102 hg w9 hbox hb;replace BK102:=am_ (hbox);replace GW102:=am_ ((by rw [hg];exact(zaf qz5_):w.heap.size≤gb102));replace GE102:=GW102;replace HB:=am_ (zab qz5_ hb);replace NB101_102:=am_ ((by rw [hg];exact Nat.ne_of_lt (zar (g:=gb101) (o:=.cells #[.slice A0_0 l0_0.length c0_0,.int .i64 a0_1,.string a0_2,.int .i64 a0_3] 38 (0,0)) qz6_):gb101≠gb102));replace NB102_101:=am_ ((by rw [hg];exact Nat.ne_of_gt (zar (g:=gb101) (o:=.cells #[.slice A0_0 l0_0.length c0_0,.int .i64 a0_1,.string a0_2,.int .i64 a0_3] 38 (0,0)) qz6_):gb102≠gb101));replace BK101:=am_ (zak (g:=gb101) (o:=.cells #[.slice A0_0 l0_0.length c0_0,.int .i64 a0_1,.string a0_2,.int .i64 a0_3] 38 (0,0)) qz6_ hb);clear hb hbox hg;have hnb10:=NB101_102.out;have hnc10:=NB102_101.out;obtain⟨hcz11_0,hcz11_1,hcz11_2,hcz11_3,hfz11_0,hfz11_1,hfz11_2,hfz11_3⟩:=bf4_ BK101.out;obtain⟨hcz12_0,hcz12_1,hcz12_2,hcz12_3,hfz12_0,hfz12_1,hfz12_2,hfz12_3⟩:=bf4_ BK102.out)|((with_reducible refine zan (f:=14) rfl ?_);refine gl_ (some 9) Tryz.func14 #[.slice A0_0 l0_0.length c0_0,.slice A1_0 l1_0.length c1_0] ?_;(with_reducible refine(zas.calls k _ _ l0_0 _ _ l1_0 true _ ?side1 ?side2 ?side3 ?side4 A3.out).mono ?_);(case side1=>exact qc_ (Kd.zbi HR0_0.out HB.out));(case side2=>exact HC0_0.out);(case side3=>exact qc_ (Kd.zbi HR1_0.out HB.out));(case side4=>exact HC1_0.out);rintro e w13 ⟨rfl,hb⟩;refine⟨_,rfl,?_⟩;replace BK101:=am_ (zak (g:=gb101) (o:=.cells #[.slice A0_0 l0_0.length c0_0,.int .i64 a0_1,.string a0_2,.int .i64 a0_3] 38 (0,0)) qz6_ hb);replace BK102:=am_ (zak (g:=gb102) (o:=.cells #[.slice A1_0 l1_0.length c1_0,.int .i64 a1_1,.string a1_2,.int .i64 a1_3] 38 (0,0)) qz7_ hb);replace HB:=am_ (zab qz8_ hb);(try clear hb);(try clear hb2);(try clear hk);(try clear hi);obtain⟨hcz14_0,hcz14_1,hcz14_2,hcz14_3,hfz14_0,hfz14_1,hfz14_2,hfz14_3⟩:=bf4_ BK101.out;obtain⟨hcz15_0,hcz15_1,hcz15_2,hcz15_3,hfz15_0,hfz15_1,hfz15_2,hfz15_3⟩:=bf4_ BK102.out))
     go_ret
     exact⟨qz4_,qz8_⟩
    ·
     rw [if_neg c7] at H
     have c7b0:(a0_3 == a1_3)=false:=beq_eq_false_iff_ne.mpr c7
     have c7b1:(a0_3 != a1_3)=true:=bne_iff_ne.mpr c7
     obtain rfl:=Option.some.inj H
     go_enter Tryz.func13,Tryz.ntmps13
     go_wp2_with (first|((with_reducible refine zad (N:=2) rfl ?_);refine zaj rfl (N:=2) rfl (cs:=#[.slice A0_0 l0_0.length c0_0,.int .i64 a0_1,.string a0_2,.int .i64 a0_3]) (t:=38) bx_ ?_;intro gb101 hg w16 hbox hb;replace BK101:=am_ (hbox);replace GW101:=am_ ((by rw [hg];exact(zaf qz2_):w.heap.size≤gb101));replace GE101:=GW101;replace HB:=am_ (zab qz2_ hb);clear hb hbox hg)|((with_reducible refine zad (N:=3) rfl ?_);refine zaj rfl (N:=3) rfl (cs:=#[.slice A1_0 l1_0.length c1_0,.int .i64 a1_1,.string a1_2,.int .i64 a1_3]) (t:=38) bx_ ?_;intro gb102 hg w17 hbox hb;replace BK102:=am_ (hbox);replace GW102:=am_ ((by rw [hg];exact(zaf qz5_):w.heap.size≤gb102));replace GE102:=GW102;replace HB:=am_ (zab qz5_ hb);replace NB101_102:=am_ ((by rw [hg];exact Nat.ne_of_lt (zar (g:=gb101) (o:=.cells #[.slice A0_0 l0_0.length c0_0,.int .i64 a0_1,.string a0_2,.int .i64 a0_3] 38 (0,0)) qz6_):gb101≠gb102));replace NB102_101:=am_ ((by rw [hg];exact Nat.ne_of_gt (zar (g:=gb101) (o:=.cells #[.slice A0_0 l0_0.length c0_0,.int .i64 a0_1,.string a0_2,.int .i64 a0_3] 38 (0,0)) qz6_):gb102≠gb101));replace BK101:=am_ (zak (g:=gb101) (o:=.cells #[.slice A0_0 l0_0.length c0_0,.int .i64 a0_1,.string a0_2,.int .i64 a0_3] 38 (0,0)) qz6_ hb);clear hb hbox hg;have hnb18:=NB101_102.out;have hnc18:=NB102_101.out;obtain⟨hcz19_0,hcz19_1,hcz19_2,hcz19_3,hfz19_0,hfz19_1,hfz19_2,hfz19_3⟩:=bf4_ BK101.out;obtain⟨hcz20_0,hcz20_1,hcz20_2,hcz20_3,hfz20_0,hfz20_1,hfz20_2,hfz20_3⟩:=bf4_ BK102.out)|((with_reducible refine zan (f:=14) rfl ?_);refine gl_ (some 9) Tryz.func14 #[.slice A0_0 l0_0.length c0_0,.slice A1_0 l1_0.length c1_0] ?_;(with_reducible refine(zas.calls k _ _ l0_0 _ _ l1_0 true _ ?side1 ?side2 ?side3 ?side4 A3.out).mono ?_);(case side1=>exact qc_ (Kd.zbi HR0_0.out HB.out));(case side2=>exact HC0_0.out);(case side3=>exact qc_ (Kd.zbi HR1_0.out HB.out));(case side4=>exact HC1_0.out);rintro e w21 ⟨rfl,hb⟩;refine⟨_,rfl,?_⟩;replace BK101:=am_ (zak (g:=gb101) (o:=.cells #[.slice A0_0 l0_0.length c0_0,.int .i64 a0_1,.string a0_2,.int .i64 a0_3] 38 (0,0)) qz6_ hb);replace BK102:=am_ (zak (g:=gb102) (o:=.cells #[.slice A1_0 l1_0.length c1_0,.int .i64 a1_1,.string a1_2,.int .i64 a1_3] 38 (0,0)) qz7_ hb);replace HB:=am_ (zab qz8_ hb);(try clear hb);(try clear hb2);(try clear hk);(try clear hi);obtain⟨hcz22_0,hcz22_1,hcz22_2,hcz22_3,hfz22_0,hfz22_1,hfz22_2,hfz22_3⟩:=bf4_ BK101.out;obtain⟨hcz23_0,hcz23_1,hcz23_2,hcz23_3,hfz23_0,hfz23_1,hfz23_2,hfz23_3⟩:=bf4_ BK102.out))
     go_ret
     exact⟨qz4_,qz8_⟩
   ·
    rw [if_neg c6] at H
    have c6b0:(a0_2.toList == a1_2.toList)=false:=beq_eq_false_iff_ne.mpr c6
    have c6b1:(a0_2.toList != a1_2.toList)=true:=bne_iff_ne.mpr c6
    obtain rfl:=Option.some.inj H
    go_enter Tryz.func13,Tryz.ntmps13
    go_wp2_with (first|((with_reducible refine zad (N:=2) rfl ?_);refine zaj rfl (N:=2) rfl (cs:=#[.slice A0_0 l0_0.length c0_0,.int .i64 a0_1,.string a0_2,.int .i64 a0_3]) (t:=38) bx_ ?_;intro gb101 hg w24 hbox hb;replace BK101:=am_ (hbox);replace GW101:=am_ ((by rw [hg];exact(zaf qz2_):w.heap.size≤gb101));replace GE101:=GW101;replace HB:=am_ (zab qz2_ hb);clear hb hbox hg)|((with_reducible refine zad (N:=3) rfl ?_);refine zaj rfl (N:=3) rfl (cs:=#[.slice A1_0 l1_0.length c1_0,.int .i64 a1_1,.string a1_2,.int .i64 a1_3]) (t:=38) bx_ ?_;intro gb102 hg w25 hbox hb;replace BK102:=am_ (hbox);replace GW102:=am_ ((by rw [hg];exact(zaf qz5_):w.heap.size≤gb102));replace GE102:=GW102;replace HB:=am_ (zab qz5_ hb);replace NB101_102:=am_ ((by rw [hg];exact Nat.ne_of_lt (zar (g:=gb101) (o:=.cells #[.slice A0_0 l0_0.length c0_0,.int .i64 a0_1,.string a0_2,.int .i64 a0_3] 38 (0,0)) qz6_):gb101≠gb102));replace NB102_101:=am_ ((by rw [hg];exact Nat.ne_of_gt (zar (g:=gb101) (o:=.cells #[.slice A0_0 l0_0.length c0_0,.int .i64 a0_1,.string a0_2,.int .i64 a0_3] 38 (0,0)) qz6_):gb102≠gb101));replace BK101:=am_ (zak (g:=gb101) (o:=.cells #[.slice A0_0 l0_0.length c0_0,.int .i64 a0_1,.string a0_2,.int .i64 a0_3] 38 (0,0)) qz6_ hb);clear hb hbox hg;have hnb26:=NB101_102.out;have hnc26:=NB102_101.out;obtain⟨hcz27_0,hcz27_1,hcz27_2,hcz27_3,hfz27_0,hfz27_1,hfz27_2,hfz27_3⟩:=bf4_ BK101.out;obtain⟨hcz28_0,hcz28_1,hcz28_2,hcz28_3,hfz28_0,hfz28_1,hfz28_2,hfz28_3⟩:=bf4_ BK102.out)|((with_reducible refine zan (f:=14) rfl ?_);refine gl_ (some 9) Tryz.func14 #[.slice A0_0 l0_0.length c0_0,.slice A1_0 l1_0.length c1_0] ?_;(with_reducible refine(zas.calls k _ _ l0_0 _ _ l1_0 true _ ?side1 ?side2 ?side3 ?side4 A3.out).mono ?_);(case side1=>exact qc_ (Kd.zbi HR0_0.out HB.out));(case side2=>exact HC0_0.out);(case side3=>exact qc_ (Kd.zbi HR1_0.out HB.out));(case side4=>exact HC1_0.out);rintro e w29 ⟨rfl,hb⟩;refine⟨_,rfl,?_⟩;replace BK101:=am_ (zak (g:=gb101) (o:=.cells #[.slice A0_0 l0_0.length c0_0,.int .i64 a0_1,.string a0_2,.int .i64 a0_3] 38 (0,0)) qz6_ hb);replace BK102:=am_ (zak (g:=gb102) (o:=.cells #[.slice A1_0 l1_0.length c1_0,.int .i64 a1_1,.string a1_2,.int .i64 a1_3] 38 (0,0)) qz7_ hb);replace HB:=am_ (zab qz8_ hb);(try clear hb);(try clear hb2);(try clear hk);(try clear hi);obtain⟨hcz30_0,hcz30_1,hcz30_2,hcz30_3,hfz30_0,hfz30_1,hfz30_2,hfz30_3⟩:=bf4_ BK101.out;obtain⟨hcz31_0,hcz31_1,hcz31_2,hcz31_3,hfz31_0,hfz31_1,hfz31_2,hfz31_3⟩:=bf4_ BK102.out))
    go_ret
    exact⟨qz4_,qz8_⟩
  ·
   rw [if_neg c5] at H
   have c5b0:(a0_1 == a1_1)=false:=beq_eq_false_iff_ne.mpr c5
   have c5b1:(a0_1 != a1_1)=true:=bne_iff_ne.mpr c5
   obtain rfl:=Option.some.inj H
   go_enter Tryz.func13,Tryz.ntmps13
   go_wp2_with (first|((with_reducible refine zad (N:=2) rfl ?_);refine zaj rfl (N:=2) rfl (cs:=#[.slice A0_0 l0_0.length c0_0,.int .i64 a0_1,.string a0_2,.int .i64 a0_3]) (t:=38) bx_ ?_;intro gb101 hg w32 hbox hb;replace BK101:=am_ (hbox);replace GW101:=am_ ((by rw [hg];exact(zaf qz2_):w.heap.size≤gb101));replace GE101:=GW101;replace HB:=am_ (zab qz2_ hb);clear hb hbox hg)|((with_reducible refine zad (N:=3) rfl ?_);refine zaj rfl (N:=3) rfl (cs:=#[.slice A1_0 l1_0.length c1_0,.int .i64 a1_1,.string a1_2,.int .i64 a1_3]) (t:=38) bx_ ?_;intro gb102 hg w33 hbox hb;replace BK102:=am_ (hbox);replace GW102:=am_ ((by rw [hg];exact(zaf qz5_):w.heap.size≤gb102));replace GE102:=GW102;replace HB:=am_ (zab qz5_ hb);replace NB101_102:=am_ ((by rw [hg];exact Nat.ne_of_lt (zar (g:=gb101) (o:=.cells #[.slice A0_0 l0_0.length c0_0,.int .i64 a0_1,.string a0_2,.int .i64 a0_3] 38 (0,0)) qz6_):gb101≠gb102));replace NB102_101:=am_ ((by rw [hg];exact Nat.ne_of_gt (zar (g:=gb101) (o:=.cells #[.slice A0_0 l0_0.length c0_0,.int .i64 a0_1,.string a0_2,.int .i64 a0_3] 38 (0,0)) qz6_):gb102≠gb101));replace BK101:=am_ (zak (g:=gb101) (o:=.cells #[.slice A0_0 l0_0.length c0_0,.int .i64 a0_1,.string a0_2,.int .i64 a0_3] 38 (0,0)) qz6_ hb);clear hb hbox hg;have hnb34:=NB101_102.out;have hnc34:=NB102_101.out;obtain⟨hcz35_0,hcz35_1,hcz35_2,hcz35_3,hfz35_0,hfz35_1,hfz35_2,hfz35_3⟩:=bf4_ BK101.out;obtain⟨hcz36_0,hcz36_1,hcz36_2,hcz36_3,hfz36_0,hfz36_1,hfz36_2,hfz36_3⟩:=bf4_ BK102.out)|((with_reducible refine zan (f:=14) rfl ?_);refine gl_ (some 9) Tryz.func14 #[.slice A0_0 l0_0.length c0_0,.slice A1_0 l1_0.length c1_0] ?_;(with_reducible refine(zas.calls k _ _ l0_0 _ _ l1_0 true _ ?side1 ?side2 ?side3 ?side4 A3.out).mono ?_);(case side1=>exact qc_ (Kd.zbi HR0_0.out HB.out));(case side2=>exact HC0_0.out);(case side3=>exact qc_ (Kd.zbi HR1_0.out HB.out));(case side4=>exact HC1_0.out);rintro e w37 ⟨rfl,hb⟩;refine⟨_,rfl,?_⟩;replace BK101:=am_ (zak (g:=gb101) (o:=.cells #[.slice A0_0 l0_0.length c0_0,.int .i64 a0_1,.string a0_2,.int .i64 a0_3] 38 (0,0)) qz6_ hb);replace BK102:=am_ (zak (g:=gb102) (o:=.cells #[.slice A1_0 l1_0.length c1_0,.int .i64 a1_1,.string a1_2,.int .i64 a1_3] 38 (0,0)) qz7_ hb);replace HB:=am_ (zab qz8_ hb);(try clear hb);(try clear hb2);(try clear hk);(try clear hi);obtain⟨hcz38_0,hcz38_1,hcz38_2,hcz38_3,hfz38_0,hfz38_1,hfz38_2,hfz38_3⟩:=bf4_ BK101.out;obtain⟨hcz39_0,hcz39_1,hcz39_2,hcz39_3,hfz39_0,hfz39_1,hfz39_2,hfz39_3⟩:=bf4_ BK102.out))
   go_ret
   exact⟨qz4_,qz8_⟩
 ·
  replace c4:=Bool.eq_false_iff.mpr c4
  subst c4
  have H1:(some false)=some r:=by rw [if_neg (show ¬(false=true) by decide)] at H;exact H
  clear H
  have H:=H1
  clear H1
  obtain rfl:=Option.some.inj H
  go_enter Tryz.func13,Tryz.ntmps13
  go_wp2_with (first|((with_reducible refine zad (N:=2) rfl ?_);refine zaj rfl (N:=2) rfl (cs:=#[.slice A0_0 l0_0.length c0_0,.int .i64 a0_1,.string a0_2,.int .i64 a0_3]) (t:=38) bx_ ?_;intro gb101 hg w40 hbox hb;replace BK101:=am_ (hbox);replace GW101:=am_ ((by rw [hg];exact(zaf qz2_):w.heap.size≤gb101));replace GE101:=GW101;replace HB:=am_ (zab qz2_ hb);clear hb hbox hg)|((with_reducible refine zad (N:=3) rfl ?_);refine zaj rfl (N:=3) rfl (cs:=#[.slice A1_0 l1_0.length c1_0,.int .i64 a1_1,.string a1_2,.int .i64 a1_3]) (t:=38) bx_ ?_;intro gb102 hg w41 hbox hb;replace BK102:=am_ (hbox);replace GW102:=am_ ((by rw [hg];exact(zaf qz5_):w.heap.size≤gb102));replace GE102:=GW102;replace HB:=am_ (zab qz5_ hb);replace NB101_102:=am_ ((by rw [hg];exact Nat.ne_of_lt (zar (g:=gb101) (o:=.cells #[.slice A0_0 l0_0.length c0_0,.int .i64 a0_1,.string a0_2,.int .i64 a0_3] 38 (0,0)) qz6_):gb101≠gb102));replace NB102_101:=am_ ((by rw [hg];exact Nat.ne_of_gt (zar (g:=gb101) (o:=.cells #[.slice A0_0 l0_0.length c0_0,.int .i64 a0_1,.string a0_2,.int .i64 a0_3] 38 (0,0)) qz6_):gb102≠gb101));replace BK101:=am_ (zak (g:=gb101) (o:=.cells #[.slice A0_0 l0_0.length c0_0,.int .i64 a0_1,.string a0_2,.int .i64 a0_3] 38 (0,0)) qz6_ hb);clear hb hbox hg;have hnb42:=NB101_102.out;have hnc42:=NB102_101.out;obtain⟨hcz43_0,hcz43_1,hcz43_2,hcz43_3,hfz43_0,hfz43_1,hfz43_2,hfz43_3⟩:=bf4_ BK101.out;obtain⟨hcz44_0,hcz44_1,hcz44_2,hcz44_3,hfz44_0,hfz44_1,hfz44_2,hfz44_3⟩:=bf4_ BK102.out)|((with_reducible refine zan (f:=14) rfl ?_);refine gl_ (some 9) Tryz.func14 #[.slice A0_0 l0_0.length c0_0,.slice A1_0 l1_0.length c1_0] ?_;(with_reducible refine(zas.calls k _ _ l0_0 _ _ l1_0 false _ ?side1 ?side2 ?side3 ?side4 A3.out).mono ?_);(case side1=>exact qc_ (Kd.zbi HR0_0.out HB.out));(case side2=>exact HC0_0.out);(case side3=>exact qc_ (Kd.zbi HR1_0.out HB.out));(case side4=>exact HC1_0.out);rintro e w45 ⟨rfl,hb⟩;refine⟨_,rfl,?_⟩;replace BK101:=am_ (zak (g:=gb101) (o:=.cells #[.slice A0_0 l0_0.length c0_0,.int .i64 a0_1,.string a0_2,.int .i64 a0_3] 38 (0,0)) qz6_ hb);replace BK102:=am_ (zak (g:=gb102) (o:=.cells #[.slice A1_0 l1_0.length c1_0,.int .i64 a1_1,.string a1_2,.int .i64 a1_3] 38 (0,0)) qz7_ hb);replace HB:=am_ (zab qz8_ hb);(try clear hb);(try clear hb2);(try clear hk);(try clear hi)))
  go_ret
  exact⟨qz4_,qz8_⟩
def zbb.l0:Nat→List (S32)→Int→Int→Option (Int × (List (S32)))
 | 0,_,_,_=>none
 | k + 1,x0,x1,x5=>if x5<(x0.length:Int) then(if 0≤x5 then((some (x0.set (x5:Int).toNat (⟨x1,(zac x0 x5).f1⟩:S32):List (S32))).bind fun y101=>(zbb.l0 k (y101.set (x5:Int).toNat (⟨(zac y101 x5).f0,wrap64 (x1 + 1)⟩:S32)) (wrap64 ((wrap64 (x1 + 1)) + 1)) (wrap64 (x5 + 1)))) else(none)) else(some (x1,x0))
def zbb.f (k:Nat) (l0:List (S32)) (a1:Int):Option (Int × (List (S32))):=zbb.l0 k l0 a1 0
theorem zbb.calls (k:Nat) (P0_:Nat→Prop) (u9000_:Value) (l0:List (S32)) (a1:Int) (r1:Int) (r2:List (S32)) (w0 w:World) (hB:Below w0.heap.size w0 w) (ho0:Kd.R k32 32 w w0.heap.size P0_ u9000_ l0) (h:zbb.f k l0 a1=some (r1,r2)) :
  Calls Tryz.prog 15 #[u9000_,.int .i64 a1] w fun e w'=>e=.returned (.int .i64 r1)∧Kd.R k32 32 w' w0.heap.size (fun k_=>(P0_ k_∨w.heap.size≤k_)) u9000_ r2∧Below w0.heap.size w0 w'∧Kept w w' (fun k_=>P0_ k_):=by
 have HO0:=am_ (show Kd.R k32 32 w w0.heap.size (fun k_=>(P0_ k_∨w.heap.size≤k_)) u9000_ l0 from Kd.zba ho0 (fun k_ hk=>(.inl hk)))
 have HK:=am_ (Kept.refl w (fun k_=>P0_ k_))
 have HW0:=am_ hB.size
 have HB:=am_ hB
 clear hB
 have H:(zbb.l0 k l0 a1 0)=some (r1,r2):=h
 clear h
 have H':=am_ H
 clear H
 go_enter Tryz.func15,Tryz.ntmps15
 go_wp2
 go_loopg [1,5] k (fun kq v1 v5 w'=>∃ (x0_1:List (S32)) (x1_1:Int) (x5_1:Int),v1=.int .i64 x1_1∧v5=.int .i64 x5_1∧zal (zbb.l0 kq x0_1 x1_1 x5_1=some (r1,r2))∧zal (kq≤k)∧zal (Kd.R k32 32 w' w0.heap.size (fun k_=>(P0_ k_∨w.heap.size≤k_)) u9000_ x0_1)∧zal (Kept w w' (fun k_=>P0_ k_))∧zal (Below w0.heap.size w0 w'))
 case atStart=>exact⟨(l0),(a1),(0),qz0_,qz0_,H',⟨Nat.le_refl _⟩,⟨(by(with_reducible repeat(first|apply Kd.zbm|apply Kd.zbl|apply Kd.zbt));exact HO0.out)⟩,⟨qz15_⟩,⟨qz2_⟩⟩
 case round=>
  clear H'
  try clear c1
  try clear p2
  obtain⟨x0_1,x1_1,x5_1,rfl,rfl,HA,HK1,HO_0,HK,HB⟩:=hrel
  cases gk with
  | zero=>exact absurd HA.out (by simp [zbb.l0])
  | succ k1=>
   have H:=HA.out
   clear HA
   simp only [zbb.l0] at H
   by_cases c3:x5_1<(x0_1.length:Int)
   ·
    rw [if_pos c3] at H
    have c3b0:decide (x5_1<(x0_1.length:Int))=true:=decide_eq_true c3
    clear c3
    by_cases c4:0≤x5_1
    ·
     rw [if_pos c4] at H
     have c4b0:decide (0≤x5_1)=true:=decide_eq_true c4
     clear c4
     obtain⟨y101,hy101⟩:∃ y_:List (S32),y_=(x0_1.set (x5_1:Int).toNat (⟨x1_1,(zac x0_1 x5_1).f1⟩:S32)):=⟨_,rfl⟩
     replace H:(zbb.l0 k1 (y101.set (x5_1:Int).toNat (⟨(zac y101 x5_1).f0,wrap64 (x1_1 + 1)⟩:S32)) (wrap64 ((wrap64 (x1_1 + 1)) + 1)) (wrap64 (x5_1 + 1)))=some (r1,r2):=by first|(rw [hy101];with_reducible exact H)|(have H2_:=(Option.bind_some _ _).symm.trans H;rw [hy101];with_reducible exact H2_)|(have H2_:=(Option.bind_some _ _).symm.trans H;with_reducible exact H2_)|with_reducible exact H|(rw [hy101];exact H)|exact H
     have Ny101:=am_ hy101
     clear hy101
     obtain⟨y102,hy102⟩:∃ y_:List (S32),y_=(y101.set (x5_1:Int).toNat (⟨(zac y101 x5_1).f0,wrap64 (x1_1 + 1)⟩:S32)):=⟨_,rfl⟩
     replace H:(zbb.l0 k1 y102 (wrap64 ((wrap64 (x1_1 + 1)) + 1)) (wrap64 (x5_1 + 1)))=some (r1,r2):=by first|(rw [hy102];with_reducible exact H)|(have H2_:=(Option.bind_some _ _).symm.trans H;rw [hy102];with_reducible exact H2_)|(have H2_:=(Option.bind_some _ _).symm.trans H;with_reducible exact H2_)|with_reducible exact H|(rw [hy102];exact H)|exact H
     have Ny102:=am_ hy102
     clear hy102
     have H':=am_ H
     clear H
     obtain⟨Ao7,co7,eo7⟩:=Kd.zcb HO_0.out
     subst eo7
     have p5:0≤(x5_1:Int):=of_decide_eq_true qz10_
     have q5:(x5_1:Int)<((x0_1.length:Int):Int):=of_decide_eq_true qz10_
     obtain⟨go5,co5,eo5,gb5,gl5,cl5,HG5⟩:=Kd.zl8 HO_0.out (by omega)
     (first|cases eo5|(injection eo5 with ea_ en_ ec_;(first|subst ea_|(injection ea_ with ea_;subst ea_));subst ec_;clear en_))
     have GB5:=am_ gb5
     have GG5:=am_ HG5
     clear gb5 gl5 HG5
     have HMgo5:=am_ (show (P0_ go5∨w.heap.size≤go5) from(HO_0.out.1 _ rfl))
     obtain⟨ce5,hcl5,hM5,hcc5,hfr5⟩:=Kd.zi6 HO_0.out z32 (x5_1:Int) p5 q5
     obtain rfl:=zgd hM5
     have hx5_0:wr.cell? ⟨go5,(x5_1:Int).toNat * 2,none⟩=some (.int .i64 ((zac x0_1 x5_1).f0)):=hcc5 0 _ rfl
     have hx5_1:wr.cell? ⟨go5,(x5_1:Int).toNat * 2 + 1,none⟩=some (.int .i64 ((zac x0_1 x5_1).f1)):=hcc5 1 _ rfl
     have hf5_0:wr.frozen? ⟨go5,(x5_1:Int).toNat * 2,none⟩=false:=hfr5 0
     have hf5_1:wr.frozen? ⟨go5,(x5_1:Int).toNat * 2 + 1,none⟩=false:=hfr5 1
     (try clear hcl5);(try clear hcc5);(try clear hfr5);(try clear hM5)
     replace p5:=eq_true p5
     replace q5:=eq_true q5
     have HX8:=am_ (show Kd.R k32 32 wr w0.heap.size (fun k_=>(P0_ k_∨w.heap.size≤k_)) (.slice (some ⟨go5,0,none⟩) x0_1.length co7) x0_1 from(by(with_reducible repeat(first|apply Kd.zbm|apply Kd.zbl|apply Kd.zbt));exact HO_0.out))
     obtain⟨ce8,hcl8,hM8,hcc8,hfr8⟩:=Kd.zi6 HX8.out z32 (x5_1:Int) (of_decide_eq_true qz10_) (by have h_:(x5_1:Int)<((x0_1.length:Int):Int):=of_decide_eq_true qz10_;first|exact h_|(have e_:=(Kd.R_reads' HO_0.out).1;omega)|simpa using h_)
     obtain rfl:=zgd hM8
     have HP8:=Kd.R_seg HX8.out (x5_1:Int) (of_decide_eq_true qz10_) (by have h_:(x5_1:Int)<((x0_1.length:Int):Int):=of_decide_eq_true qz10_;first|exact h_|(have e_:=(Kd.R_reads' HO_0.out).1;omega)|simpa using h_) (seg:=[.int .i64 x1_1]) (j:=0) hcl8 hcc8 (show 1≤2 from by decide) (x':=(⟨x1_1,(zac x0_1 x5_1).f1⟩:S32)) (ze8 _ _ _ (⟨x1_1,(zac x0_1 x5_1).f1⟩:S32) ) (fun _ hk=>hk)
     have hx8_0:=hcc8 0 _ rfl
     (try simp only [show (k32).sz=2 from rfl,Nat.mul_one,Nat.add_zero] at hx8_0)
     have hf8_0:=hfr8 0
     (try simp only [show (k32).sz=2 from rfl,Nat.mul_one,Nat.add_zero] at hf8_0)
     (try clear hcl8);(try clear hcc8);(try clear hfr8);(try clear hM8)
     go_wp2_with (first|((with_reducible refine za7 (t:=3) (p:=16) rfl ?_);refine zfd (t:=3) (p:=16) (v:=?vo_w9) (w1:=(wr.setCell ⟨go5,(x5_1:Int).toNat * 2,none⟩ (.int .i64 x1_1))) ?hg ?ho ?hn ?hr ?_;(case ho=>rfl);(case hg=>rfl);(case hn=>rfl);(case hr=>first|(go_simp;done)|(go_simp;rfl));intro w9 hw;have hg:wr.grownBy w9 (some go5):=(by rw [hw];exact HP8.2);have hp_:Kd.R k32 32 w9 w0.heap.size (fun k_=>(P0_ k_∨w.heap.size≤k_)) (.slice (some ⟨go5,0,none⟩) x0_1.length co7) y101:=(by rw [hw,Ny101.out];exact HP8.1);clear HP8;replace HB:=am_ ((by rw [hw];exact za6 (HB.out) GB5.out:Below w0.heap.size w0 w9));replace HK:=am_ (Kept.zfo (S:=(fun k_=>P0_ k_)) hg qz15_ (fun k_ e_=>(HO_0.out.1 k_ e_)));replace HO_0:=am_ (hp_);clear hg hw hp_;have p6:0≤(x5_1:Int):=of_decide_eq_true qz10_;have q6:(x5_1:Int)<((x0_1.length:Int):Int):=of_decide_eq_true qz10_;obtain⟨ce6,hcl6,hM6,hcc6,hfr6⟩:=Kd.zi6 HO_0.out z32 (x5_1:Int) p6 q6;obtain rfl:=zgd hM6;have hx6_0:w9.cell? ⟨go5,(x5_1:Int).toNat * 2,none⟩=some (.int .i64 ((zac y101 x5_1).f0)):=hcc6 0 _ rfl;have hx6_1:w9.cell? ⟨go5,(x5_1:Int).toNat * 2 + 1,none⟩=some (.int .i64 ((zac y101 x5_1).f1)):=hcc6 1 _ rfl;have hf6_0:w9.frozen? ⟨go5,(x5_1:Int).toNat * 2,none⟩=false:=hfr6 0;have hf6_1:w9.frozen? ⟨go5,(x5_1:Int).toNat * 2 + 1,none⟩=false:=hfr6 1;(try clear hcl6);(try clear hcc6);(try clear hfr6);(try clear hM6);replace p6:=eq_true p6;replace q6:=eq_true q6;have HX10:=am_ (show Kd.R k32 32 w9 w0.heap.size (fun k_=>(P0_ k_∨w.heap.size≤k_)) (.slice (some ⟨go5,0,none⟩) x0_1.length co7) y101 from(by(with_reducible repeat(first|apply Kd.zbm|apply Kd.zbl|apply Kd.zbt));exact HO_0.out));obtain⟨ce10,hcl10,hM10,hcc10,hfr10⟩:=Kd.zi6 HX10.out z32 (x5_1:Int) (of_decide_eq_true qz10_) (by have h_:(x5_1:Int)<((x0_1.length:Int):Int):=of_decide_eq_true qz10_;first|exact h_|(have e_:=(Kd.R_reads' HO_0.out).1;omega)|simpa using h_);obtain rfl:=zgd hM10;have HP10:=Kd.R_seg HX10.out (x5_1:Int) (of_decide_eq_true qz10_) (by have h_:(x5_1:Int)<((x0_1.length:Int):Int):=of_decide_eq_true qz10_;first|exact h_|(have e_:=(Kd.R_reads' HO_0.out).1;omega)|simpa using h_) (seg:=[.int .i64 (wrap64 (x1_1 + 1))]) (j:=1) hcl10 hcc10 (show 2≤2 from by decide) (x':=(⟨(zac y101 x5_1).f0,wrap64 (x1_1 + 1)⟩:S32)) (ze8 _ _ _ (⟨(zac y101 x5_1).f0,wrap64 (x1_1 + 1)⟩:S32) ) (fun _ hk=>hk);have hx10_1:=hcc10 1 _ rfl;(try simp only [show (k32).sz=2 from rfl,Nat.mul_one,Nat.add_zero] at hx10_1);have hf10_1:=hfr10 1;(try simp only [show (k32).sz=2 from rfl,Nat.mul_one,Nat.add_zero] at hf10_1);(try clear hcl10);(try clear hcc10);(try clear hfr10);(try clear hM10))|((with_reducible refine za7 (t:=3) (p:=23) rfl ?_);refine zfd (t:=3) (p:=23) (v:=?vo_w11) (w1:=(w9.setCell ⟨go5,(x5_1:Int).toNat * 2 + 1,none⟩ (.int .i64 (wrap64 (x1_1 + 1))))) ?hg ?ho ?hn ?hr ?_;(case ho=>rfl);(case hg=>rfl);(case hn=>rfl);(case hr=>first|(go_simp;done)|(go_simp;rfl));intro w11 hw;have hg:w9.grownBy w11 (some go5):=(by rw [hw];exact HP10.2);have hp_:Kd.R k32 32 w11 w0.heap.size (fun k_=>(P0_ k_∨w.heap.size≤k_)) (.slice (some ⟨go5,0,none⟩) x0_1.length co7) y102:=(by rw [hw,Ny102.out];exact HP10.1);clear HP10;replace HB:=am_ ((by rw [hw];exact za6 (HB.out) GB5.out:Below w0.heap.size w0 w11));replace HK:=am_ (Kept.zfo (S:=(fun k_=>P0_ k_)) hg qz15_ (fun k_ e_=>(HO_0.out.1 k_ e_)));replace HO_0:=am_ (hp_);clear hg hw hp_))
     go_roundg k1
     case measure=>have:=HK1.out;omega
     case rel=>exact⟨(y102),(wrap64 ((wrap64 (x1_1 + 1)) + 1)),(wrap64 (x5_1 + 1)),qz0_,qz0_,H',⟨qz13_⟩,⟨(by(with_reducible repeat(first|apply Kd.zbm|apply Kd.zbl|apply Kd.zbt));exact HO_0.out)⟩,⟨qz15_⟩,⟨qz2_⟩⟩
    ·
     rw [if_neg c4] at H
     exact absurd H (by simp)
   ·
    rw [if_neg c3] at H
    have c3b0:decide (x5_1<(x0_1.length:Int))=false:=decide_eq_false c3
    clear c3
    simp only [Option.some.injEq,Prod.mk.injEq] at H
    obtain⟨rfl,rfl⟩:=H
    obtain⟨Ao12,co12,eo12⟩:=Kd.zcb HO_0.out
    subst eo12
    go_wp2
    go_ret
    exact⟨qz4_,(by(with_reducible repeat(first|apply Kd.zbm|apply Kd.zbl|apply Kd.zbt));exact HO_0.out),qz2_,qz15_⟩
def zc4.f (k:Nat) (l0_0:List (S32)) (a0_1:Int) (a0_2:ByteArray) (a0_3:Int) (a1:Int):Option (Int × (List (S32))):=(zbb.f k l0_0 a1).bind fun bt102=>(some (bt102.1,bt102.2))
theorem zc4.calls (k:Nat) (P0_0_:Nat→Prop) (u9000_:Value) (l0_0:List (S32)) (a0_1:Int) (a0_2:ByteArray) (a0_3:Int) (a1:Int) (r1:Int) (r2:List (S32)) (w0 w:World) (hB:Below w0.heap.size w0 w) (ho0_0:Kd.R k32 32 w w0.heap.size P0_0_ u9000_ l0_0) (h:zc4.f k l0_0 a0_1 a0_2 a0_3 a1=some (r1,r2)) :
  Calls Tryz.prog 16 #[.agg #[u9000_,.int .i64 a0_1,.string a0_2,.int .i64 a0_3],.int .i64 a1] w fun e w'=>e=.returned (.int .i64 r1)∧Kd.R k32 32 w' w0.heap.size (fun k_=>(P0_0_ k_∨w.heap.size≤k_)) u9000_ r2∧Below w0.heap.size w0 w'∧Kept w w' (fun k_=>P0_0_ k_):=by
 have hu38:=Tryz.underlying38
 have HO0_0:=am_ (show Kd.R k32 32 w w0.heap.size (fun k_=>(P0_0_ k_∨w.heap.size≤k_)) u9000_ l0_0 from Kd.zba ho0_0 (fun k_ hk=>(.inl hk)))
 have HK:=am_ (Kept.refl w (fun k_=>P0_0_ k_))
 have HW0:=am_ hB.size
 have HB:=am_ hB
 clear hB
 have H:((zbb.f k l0_0 a1).bind fun bt102=>(some (bt102.1,bt102.2)))=some (r1,r2):=h
 clear h
 replace H:=Option.bind_eq_some_iff.mp H
 obtain⟨⟨t102,t103⟩,A30,H⟩:=H
 replace H:(some (t102,t103))=some (r1,r2):=H
 have A3:=am_ A30
 clear A30
 simp only [Option.some.injEq,Prod.mk.injEq] at H
 obtain⟨rfl,rfl⟩:=H
 obtain⟨Ao4,co4,eo4⟩:=Kd.zcb HO0_0.out
 subst eo4
 go_enter Tryz.func16,Tryz.ntmps16
 go_wp2_with (first|((with_reducible refine zad (N:=2) rfl ?_);refine zaj rfl (N:=2) rfl (cs:=#[.slice Ao4 l0_0.length co4,.int .i64 a0_1,.string a0_2,.int .i64 a0_3]) (t:=38) bx_ ?_;intro gb101 hg w5 hbox hb;replace HO0_0:=am_ (Kd.zct qz16_ hb);replace BK101:=am_ (hbox);replace GW101:=am_ ((by rw [hg];exact qz17_:w.heap.size≤gb101));replace HK:=am_ (Kept.below (S:=(fun k_=>P0_0_ k_)) qz15_ hb);replace GE101:=am_ ((by rw [hg];exact(zaf qz2_):w0.heap.size≤gb101));replace HB:=am_ (zab qz2_ hb);clear hb hbox hg;obtain⟨hcz6_0,hcz6_1,hcz6_2,hcz6_3,hfz6_0,hfz6_1,hfz6_2,hfz6_3⟩:=bf4_ BK101.out)|((with_reducible refine zan (f:=15) rfl ?_);refine gl_ (some 8) Tryz.func15 #[.slice Ao4 l0_0.length co4,.int .i64 a1] ?_;(with_reducible refine(zbb.calls k (fun k_=>some k_=(.slice Ao4 l0_0.length co4:Value).ownBlock) (.slice Ao4 l0_0.length co4) l0_0 a1 t102 t103 w0 _ ?side1 ?side2 A3.out).mono ?_);(case side1=>repeat(first|(with_reducible first|exact HB.out|apply za5|apply zaw|apply zao|refine za6 ?_ GE101.out)|exact HB.out));(case side2=>exact Kd.zem rfl HO0_0.out);rintro e w7 ⟨rfl,hy0,hb,hkp⟩;refine⟨_,rfl,?_⟩;replace BK101:=am_ (zh1 (g:=gb101) (o:=.cells #[.slice Ao4 l0_0.length co4,.int .i64 a0_1,.string a0_2,.int .i64 a0_3] 38 (0,0)) qz6_ hkp (fun hs_=>(fun e_=>(Kd.R_ne HO0_0.out BK101.out (by decide)) e_) hs_));replace HK:=am_ (Kept.then_ (S:=(fun k_=>P0_0_ k_)) qz18_ hkp (fun k_ hs_=>(fun e_=>(HO0_0.out.1 k_ e_.symm)) hs_));replace HO0_0:=am_ (Kd.R_reok rfl hy0 (fun k_ e_=>HO0_0.out.1 k_ e_));replace HB:=am_ (hb);(try clear hb);(try clear hkp);(try clear hy0)))
 go_ret
 exact⟨qz4_,qz16_,qz5_,qz18_⟩
def zbd.l0:Nat→List (S32)→Int→Int→Option (Int)
 | 0,_,_,_=>none
 | k + 1,x0,x1,x5=>if x5<(x0.length:Int) then(if 0≤x5 then(if ((zac x0 x5).f0)=x1 then(if ((zac x0 x5).f1)=(wrap64 (x1 + 1)) then(zbd.l0 k x0 (wrap64 ((wrap64 (x1 + 1)) + 1)) (wrap64 (x5 + 1))) else(some (-1))) else(some (-1))) else(none)) else(some x1)
def zbd.f (k:Nat) (l0:List (S32)) (a1:Int):Option (Int):=zbd.l0 k l0 a1 0
theorem zbd.calls (k:Nat) (A0:Option Addr) (c0:Nat) (l0:List (S32)) (a1:Int) (r:Int) (w:World) (hr0:Kd.C k32 w A0 l0.length l0) (hc0:l0.length≤c0) (h:zbd.f k l0 a1=some r) :
  Calls Tryz.prog 27 #[.slice A0 l0.length c0,.int .i64 a1] w fun e w'=>e=.returned (.int .i64 r)∧zbx w w':=by
 have HR0:=am_ hr0
 have HC0:=am_ hc0
 clear hr0 hc0
 have H:(zbd.l0 k l0 a1 0)=some r:=h
 clear h
 have H':=am_ H
 clear H
 go_enter Tryz.func27,Tryz.ntmps27
 go_wp2
 go_loopg [1,5] k (fun kq v1 v5 w'=>∃ (x1_1:Int) (x5_1:Int),v1=.int .i64 x1_1∧v5=.int .i64 x5_1∧zal (zbd.l0 kq l0 x1_1 x5_1=some r)∧zal (kq≤k)∧zbx w w')
 case atStart=>exact⟨(a1),(0),qz0_,qz0_,H',⟨Nat.le_refl _⟩,by repeat(first|exact zbx.refl _|apply zbx.step)⟩
 case round=>
  clear H'
  try clear c2
  try clear p2
  obtain⟨x1_1,x5_1,rfl,rfl,HA,HK1,⟨m1,rfl⟩⟩:=hrel
  cases gk with
  | zero=>exact absurd HA.out (by simp [zbd.l0])
  | succ k1=>
   have H:=HA.out
   clear HA
   simp only [zbd.l0] at H
   by_cases c3:x5_1<(l0.length:Int)
   ·
    rw [if_pos c3] at H
    have c3b0:decide (x5_1<(l0.length:Int))=true:=decide_eq_true c3
    clear c3
    by_cases c4:0≤x5_1
    ·
     rw [if_pos c4] at H
     have c4b0:decide (0≤x5_1)=true:=decide_eq_true c4
     clear c4
     by_cases c5:((zac l0 x5_1).f0)=x1_1
     ·
      rw [if_pos c5] at H
      have c5b0:(((zac l0 x5_1).f0) == x1_1)=true:=beq_iff_eq.mpr c5
      have c5b1:(((zac l0 x5_1).f0) != x1_1)=false:=bne_eq_false_iff_eq.mpr c5
      clear c5
      by_cases c6:((zac l0 x5_1).f1)=(wrap64 (x1_1 + 1))
      ·
       rw [if_pos c6] at H
       have c6b0:(((zac l0 x5_1).f1) == (wrap64 (x1_1 + 1)))=true:=beq_iff_eq.mpr c6
       have c6b1:(((zac l0 x5_1).f1) != (wrap64 (x1_1 + 1)))=false:=bne_eq_false_iff_eq.mpr c6
       clear c6
       have H':=am_ H
       clear H
       have p101:0≤(x5_1:Int):=of_decide_eq_true qz10_
       have q101:x5_1<(l0.length:Int):=of_decide_eq_true qz10_
       obtain⟨ad101,e101,hx101_0,hx101_1⟩:=zdf HR0.out x5_1 p101 q101
       cases e101
       replace p101:=eq_true p101
       replace q101:=eq_true q101
       have p102:0≤(x5_1:Int):=of_decide_eq_true qz10_
       have q102:x5_1<(l0.length:Int):=of_decide_eq_true qz10_
       obtain⟨ad102,e102,hx102_0,hx102_1⟩:=zdf HR0.out x5_1 p102 q102
       obtain rfl:ad101=ad102:=(by injection e102)
       replace p102:=eq_true p102
       replace q102:=eq_true q102
       go_wp2
       go_roundg k1
       case measure=>have:=HK1.out;omega
       case rel=>exact⟨(wrap64 ((wrap64 (x1_1 + 1)) + 1)),(wrap64 (x5_1 + 1)),qz0_,qz0_,H',⟨qz13_⟩,by repeat(first|exact zbx.refl _|apply zbx.step)⟩
      ·
       rw [if_neg c6] at H
       have c6b0:(((zac l0 x5_1).f1) == (wrap64 (x1_1 + 1)))=false:=beq_eq_false_iff_ne.mpr c6
       have c6b1:(((zac l0 x5_1).f1) != (wrap64 (x1_1 + 1)))=true:=bne_iff_ne.mpr c6
       obtain rfl:=Option.some.inj H
       have p101:0≤(x5_1:Int):=of_decide_eq_true qz10_
       have q101:x5_1<(l0.length:Int):=of_decide_eq_true qz10_
       obtain⟨ad101,e101,hx101_0,hx101_1⟩:=zdf HR0.out x5_1 p101 q101
       cases e101
       replace p101:=eq_true p101
       replace q101:=eq_true q101
       have p102:0≤(x5_1:Int):=of_decide_eq_true qz10_
       have q102:x5_1<(l0.length:Int):=of_decide_eq_true qz10_
       obtain⟨ad102,e102,hx102_0,hx102_1⟩:=zdf HR0.out x5_1 p102 q102
       obtain rfl:ad101=ad102:=(by injection e102)
       replace p102:=eq_true p102
       replace q102:=eq_true q102
       go_wp2
       go_ret
       exact⟨qz0_,qz1_⟩
     ·
      rw [if_neg c5] at H
      have c5b0:(((zac l0 x5_1).f0) == x1_1)=false:=beq_eq_false_iff_ne.mpr c5
      have c5b1:(((zac l0 x5_1).f0) != x1_1)=true:=bne_iff_ne.mpr c5
      obtain rfl:=Option.some.inj H
      have p101:0≤(x5_1:Int):=of_decide_eq_true qz10_
      have q101:x5_1<(l0.length:Int):=of_decide_eq_true qz10_
      obtain⟨ad101,e101,hx101_0,hx101_1⟩:=zdf HR0.out x5_1 p101 q101
      cases e101
      replace p101:=eq_true p101
      replace q101:=eq_true q101
      go_wp2
      go_ret
      exact⟨qz0_,qz1_⟩
    ·
     rw [if_neg c4] at H
     exact absurd H (by simp)
   ·
    rw [if_neg c3] at H
    have c3b0:decide (x5_1<(l0.length:Int))=false:=decide_eq_false c3
    clear c3
    obtain rfl:=Option.some.inj H
    go_wp2
    go_ret
    exact⟨qz0_,qz1_⟩
def zby.l0:Nat→List (List (S32))→Int→Int→Option (Int)
 | 0,_,_,_=>none
 | k + 1,x0,x1,x5=>if x5<(x0.length:Int) then(if 0≤x5 then((zbd.f k (rd_L3 x0 x5) x1).bind fun t102=>(if t102<0 then(some (-1)) else(zby.l0 k x0 t102 (wrap64 (x5 + 1))))) else(none)) else(some x1)
def zby.f (k:Nat) (l0:List (List (S32))) (a1:Int):Option (Int):=zby.l0 k l0 a1 0
theorem zby.calls (k:Nat) (A0:Option Addr) (c0:Nat) (l0:List (List (S32))) (a1:Int) (r:Int) (w:World) (hr0:Kd.C (Kd.slice 32 k32) w A0 l0.length l0) (hc0:l0.length≤c0) (h:zby.f k l0 a1=some r) :
  Calls Tryz.prog 26 #[.slice A0 l0.length c0,.int .i64 a1] w fun e w'=>e=.returned (.int .i64 r)∧zbx w w':=by
 have HR0:=am_ hr0
 have HC0:=am_ hc0
 clear hr0 hc0
 have H:(zby.l0 k l0 a1 0)=some r:=h
 clear h
 have H':=am_ H
 clear H
 go_enter Tryz.func26,Tryz.ntmps26
 go_wp2
 go_loopg [1,5] k (fun kq v1 v5 w'=>∃ (x1_1:Int) (x5_1:Int),v1=.int .i64 x1_1∧v5=.int .i64 x5_1∧zal (zby.l0 kq l0 x1_1 x5_1=some r)∧zal (kq≤k)∧zbx w w')
 case atStart=>exact⟨(a1),(0),qz0_,qz0_,H',⟨Nat.le_refl _⟩,by repeat(first|exact zbx.refl _|apply zbx.step)⟩
 case round=>
  clear H'
  try clear c2
  try clear p2
  obtain⟨x1_1,x5_1,rfl,rfl,HA,HK1,⟨m1,rfl⟩⟩:=hrel
  cases gk with
  | zero=>exact absurd HA.out (by simp [zby.l0])
  | succ k1=>
   have H:=HA.out
   clear HA
   simp only [zby.l0] at H
   by_cases c3:x5_1<(l0.length:Int)
   ·
    rw [if_pos c3] at H
    have c3b0:decide (x5_1<(l0.length:Int))=true:=decide_eq_true c3
    clear c3
    by_cases c4:0≤x5_1
    ·
     rw [if_pos c4] at H
     have c4b0:decide (0≤x5_1)=true:=decide_eq_true c4
     clear c4
     replace H:=Option.bind_eq_some_iff.mp H
     obtain⟨t102,A50,H⟩:=H
     replace H:(if t102<0 then(some (-1)) else(zby.l0 k1 l0 t102 (wrap64 (x5_1 + 1))))=some r:=H
     have A5:=am_ A50
     clear A50
     by_cases c6:t102<0
     ·
      rw [if_pos c6] at H
      have c6b0:decide (t102<0)=true:=decide_eq_true c6
      clear c6
      obtain rfl:=Option.some.inj H
      have p101:0≤(x5_1:Int):=of_decide_eq_true qz10_
      have q101:x5_1<(l0.length:Int):=of_decide_eq_true qz10_
      obtain⟨ad101,A101_0,c101_0,e101,hx101_0,hl101_0,hi101_0⟩:=at_L3 HR0.out x5_1 p101 q101
      cases e101
      have HR101_0:=am_ hi101_0
      have HC101_0:=am_ hl101_0
      clear hi101_0 hl101_0
      replace p101:=eq_true p101
      replace q101:=eq_true q101
      go_wp2_with (first|((with_reducible refine zan (f:=27) rfl ?_);refine gl_ (some 17) Tryz.func27 #[.slice A101_0 (rd_L3 l0 x5_1).length c101_0,.int .i64 x1_1] ?_;(with_reducible refine(zbd.calls k1 _ _ (rd_L3 l0 x5_1) x1_1 t102 _ ?side1 ?side2 A5.out).mono ?_);(case side1=>exact qc_ HR101_0.out);(case side2=>exact HC101_0.out);rintro e w' ⟨rfl,⟨nd,rfl⟩⟩;refine⟨_,rfl,?_⟩))
      go_ret
      exact⟨qz0_,qz1_⟩
     ·
      rw [if_neg c6] at H
      have c6b0:decide (t102<0)=false:=decide_eq_false c6
      clear c6
      have H':=am_ H
      clear H
      have p101:0≤(x5_1:Int):=of_decide_eq_true qz10_
      have q101:x5_1<(l0.length:Int):=of_decide_eq_true qz10_
      obtain⟨ad101,A101_0,c101_0,e101,hx101_0,hl101_0,hi101_0⟩:=at_L3 HR0.out x5_1 p101 q101
      cases e101
      have HR101_0:=am_ hi101_0
      have HC101_0:=am_ hl101_0
      clear hi101_0 hl101_0
      replace p101:=eq_true p101
      replace q101:=eq_true q101
      go_wp2_with (first|((with_reducible refine zan (f:=27) rfl ?_);refine gl_ (some 17) Tryz.func27 #[.slice A101_0 (rd_L3 l0 x5_1).length c101_0,.int .i64 x1_1] ?_;(with_reducible refine(zbd.calls k1 _ _ (rd_L3 l0 x5_1) x1_1 t102 _ ?side1 ?side2 A5.out).mono ?_);(case side1=>exact qc_ HR101_0.out);(case side2=>exact HC101_0.out);rintro e w' ⟨rfl,⟨nd,rfl⟩⟩;refine⟨_,rfl,?_⟩))
      go_roundg k1
      case measure=>have:=HK1.out;omega
      case rel=>exact⟨(t102),(wrap64 (x5_1 + 1)),qz0_,qz0_,H',⟨qz13_⟩,by repeat(first|exact zbx.refl _|apply zbx.step)⟩
    ·
     rw [if_neg c4] at H
     exact absurd H (by simp)
   ·
    rw [if_neg c3] at H
    have c3b0:decide (x5_1<(l0.length:Int))=false:=decide_eq_false c3
    clear c3
    obtain rfl:=Option.some.inj H
    go_wp2
    go_ret
    exact⟨qz0_,qz1_⟩
def zdl.f (k:Nat) (l0_0:List (S32)) (a0_1:Int) (a0_2:ByteArray) (a0_3:Int) (a1:Int):Option (Int):=(zbd.f k l0_0 a1).bind fun t102=>(if t102<0 then(some (-1)) else(some t102))
theorem zdl.calls (k:Nat) (A0_0:Option Addr) (c0_0:Nat) (l0_0:List (S32)) (a0_1:Int) (a0_2:ByteArray) (a0_3:Int) (a1:Int) (r:Int) (w:World) (hr0_0:Kd.C k32 w A0_0 l0_0.length l0_0) (hc0_0:l0_0.length≤c0_0) (h:zdl.f k l0_0 a0_1 a0_2 a0_3 a1=some r) :
  Calls Tryz.prog 19 #[.agg #[.slice A0_0 l0_0.length c0_0,.int .i64 a0_1,.string a0_2,.int .i64 a0_3],.int .i64 a1] w fun e w'=>e=.returned (.int .i64 r)∧Below w.heap.size w w':=by
 have hu38:=Tryz.underlying38
 have HR0_0:=am_ hr0_0
 have HC0_0:=am_ hc0_0
 clear hr0_0 hc0_0
 have HB:=am_ (Below.refl w.heap.size w)
 have H:((zbd.f k l0_0 a1).bind fun t102=>(if t102<0 then(some (-1)) else(some t102)))=some r:=h
 clear h
 replace H:=Option.bind_eq_some_iff.mp H
 obtain⟨t102,A30,H⟩:=H
 replace H:(if t102<0 then(some (-1)) else(some t102))=some r:=H
 have A3:=am_ A30
 clear A30
 by_cases c4:t102<0
 ·
  rw [if_pos c4] at H
  have c4b0:decide (t102<0)=true:=decide_eq_true c4
  clear c4
  obtain rfl:=Option.some.inj H
  go_enter Tryz.func19,Tryz.ntmps19
  go_wp2_with (first|((with_reducible refine zad (N:=2) rfl ?_);refine zaj rfl (N:=2) rfl (cs:=#[.slice A0_0 l0_0.length c0_0,.int .i64 a0_1,.string a0_2,.int .i64 a0_3]) (t:=38) bx_ ?_;intro gb101 hg w5 hbox hb;replace BK101:=am_ (hbox);replace GW101:=am_ ((by rw [hg];exact(zaf qz2_):w.heap.size≤gb101));replace GE101:=GW101;replace HB:=am_ (zab qz2_ hb);clear hb hbox hg;obtain⟨hcz6_0,hcz6_1,hcz6_2,hcz6_3,hfz6_0,hfz6_1,hfz6_2,hfz6_3⟩:=bf4_ BK101.out)|((with_reducible refine zan (f:=27) rfl ?_);refine gl_ (some 8) Tryz.func27 #[.slice A0_0 l0_0.length c0_0,.int .i64 a1] ?_;(with_reducible refine(zbd.calls k _ _ l0_0 a1 t102 _ ?side1 ?side2 A3.out).mono ?_);(case side1=>exact qc_ (Kd.zbi HR0_0.out HB.out));(case side2=>exact HC0_0.out);rintro e w' ⟨rfl,⟨nd,rfl⟩⟩;refine⟨_,rfl,?_⟩))
  go_ret
  exact⟨qz4_,qz5_⟩
 ·
  rw [if_neg c4] at H
  have c4b0:decide (t102<0)=false:=decide_eq_false c4
  clear c4
  obtain rfl:=Option.some.inj H
  go_enter Tryz.func19,Tryz.ntmps19
  go_wp2_with (first|((with_reducible refine zad (N:=2) rfl ?_);refine zaj rfl (N:=2) rfl (cs:=#[.slice A0_0 l0_0.length c0_0,.int .i64 a0_1,.string a0_2,.int .i64 a0_3]) (t:=38) bx_ ?_;intro gb101 hg w7 hbox hb;replace BK101:=am_ (hbox);replace GW101:=am_ ((by rw [hg];exact(zaf qz2_):w.heap.size≤gb101));replace GE101:=GW101;replace HB:=am_ (zab qz2_ hb);clear hb hbox hg;obtain⟨hcz8_0,hcz8_1,hcz8_2,hcz8_3,hfz8_0,hfz8_1,hfz8_2,hfz8_3⟩:=bf4_ BK101.out)|((with_reducible refine zan (f:=27) rfl ?_);refine gl_ (some 8) Tryz.func27 #[.slice A0_0 l0_0.length c0_0,.int .i64 a1] ?_;(with_reducible refine(zbd.calls k _ _ l0_0 a1 t102 _ ?side1 ?side2 A3.out).mono ?_);(case side1=>exact qc_ (Kd.zbi HR0_0.out HB.out));(case side2=>exact HC0_0.out);rintro e w' ⟨rfl,⟨nd,rfl⟩⟩;refine⟨_,rfl,?_⟩))
  go_ret
  exact⟨qz4_,qz5_⟩
def zbf.l0:Nat→List (List (S70))→Int→Int→Option (Int)
 | 0,_,_,_=>none
 | k + 1,x0,x1,x5=>if x5<(x0.length:Int) then(if 0≤x5 then((zde.f (rd_L9 x0 x5) x1).bind fun t102=>(if t102<0 then(some (-1)) else(zbf.l0 k x0 t102 (wrap64 (x5 + 1))))) else(none)) else(some x1)
def zbf.f (k:Nat) (l0:List (List (S70))) (a1:Int):Option (Int):=if (wrap64 (a1 - (l0.length:Int)))<0 then(some (-1)) else(zbf.l0 k l0 (wrap64 (a1 - (l0.length:Int))) 0)
theorem zbf.calls (k:Nat) (A0:Option Addr) (c0:Nat) (l0:List (List (S70))) (a1:Int) (r:Int) (w:World) (hr0:Kd.C (Kd.slice 70 k70) w A0 l0.length l0) (hc0:l0.length≤c0) (h:zbf.f k l0 a1=some r) :
  Calls Tryz.prog 20 #[.slice A0 l0.length c0,.int .i64 a1] w fun e w'=>e=.returned (.int .i64 r)∧zbx w w':=by
 have HR0:=am_ hr0
 have HC0:=am_ hc0
 clear hr0 hc0
 have H:(if (wrap64 (a1 - (l0.length:Int)))<0 then(some (-1)) else(zbf.l0 k l0 (wrap64 (a1 - (l0.length:Int))) 0))=some r:=h
 clear h
 by_cases c3:(wrap64 (a1 - (l0.length:Int)))<0
 ·
  rw [if_pos c3] at H
  have c3b0:decide ((wrap64 (a1 - (l0.length:Int)))<0)=true:=decide_eq_true c3
  clear c3
  obtain rfl:=Option.some.inj H
  go_enter Tryz.func20,Tryz.ntmps20
  go_wp2
  go_ret
  exact⟨qz0_,qz1_⟩
 ·
  rw [if_neg c3] at H
  have c3b0:decide ((wrap64 (a1 - (l0.length:Int)))<0)=false:=decide_eq_false c3
  clear c3
  have H':=am_ H
  clear H
  go_enter Tryz.func20,Tryz.ntmps20
  go_wp2
  go_loopg [1,5] k (fun kq v1 v5 w'=>∃ (x1_1:Int) (x5_1:Int),v1=.int .i64 x1_1∧v5=.int .i64 x5_1∧zal (zbf.l0 kq l0 x1_1 x5_1=some r)∧zal (kq≤k)∧zbx w w')
  case atStart=>exact⟨(wrap64 (a1 - (l0.length:Int))),(0),qz0_,qz0_,H',⟨Nat.le_refl _⟩,by repeat(first|exact zbx.refl _|apply zbx.step)⟩
  case round=>
   clear H'
   try clear c2
   try clear p2
   try clear c3
   try clear c3b0
   obtain⟨x1_1,x5_1,rfl,rfl,HA,HK1,⟨m1,rfl⟩⟩:=hrel
   cases gk with
   | zero=>exact absurd HA.out (by simp [zbf.l0])
   | succ k1=>
    have H:=HA.out
    clear HA
    simp only [zbf.l0] at H
    by_cases c4:x5_1<(l0.length:Int)
    ·
     rw [if_pos c4] at H
     have c4b0:decide (x5_1<(l0.length:Int))=true:=decide_eq_true c4
     clear c4
     by_cases c5:0≤x5_1
     ·
      rw [if_pos c5] at H
      have c5b0:decide (0≤x5_1)=true:=decide_eq_true c5
      clear c5
      replace H:=Option.bind_eq_some_iff.mp H
      obtain⟨t102,A60,H⟩:=H
      replace H:(if t102<0 then(some (-1)) else(zbf.l0 k1 l0 t102 (wrap64 (x5_1 + 1))))=some r:=H
      have A6:=am_ A60
      clear A60
      by_cases c7:t102<0
      ·
       rw [if_pos c7] at H
       have c7b0:decide (t102<0)=true:=decide_eq_true c7
       clear c7
       obtain rfl:=Option.some.inj H
       have p101:0≤(x5_1:Int):=of_decide_eq_true qz10_
       have q101:x5_1<(l0.length:Int):=of_decide_eq_true qz10_
       obtain⟨ad101,A101_0,c101_0,e101,hx101_0,hl101_0,hi101_0⟩:=at_L9 HR0.out x5_1 p101 q101
       cases e101
       have HR101_0:=am_ hi101_0
       have HC101_0:=am_ hl101_0
       clear hi101_0 hl101_0
       replace p101:=eq_true p101
       replace q101:=eq_true q101
       go_wp2_with (first|((with_reducible refine zan (f:=5) rfl ?_);refine gl_ (some 23) Tryz.func5 #[.slice A101_0 (rd_L9 l0 x5_1).length c101_0,.int .i64 x1_1] ?_;(with_reducible refine(zde.calls _ _ (rd_L9 l0 x5_1) x1_1 t102 _ ?side1 ?side2 A6.out).mono ?_);(case side1=>exact qc_ HR101_0.out);(case side2=>exact HC101_0.out);rintro e w' ⟨rfl,⟨nd,rfl⟩⟩;refine⟨_,rfl,?_⟩))
       go_ret
       exact⟨qz0_,qz1_⟩
      ·
       rw [if_neg c7] at H
       have c7b0:decide (t102<0)=false:=decide_eq_false c7
       clear c7
       have H':=am_ H
       clear H
       have p101:0≤(x5_1:Int):=of_decide_eq_true qz10_
       have q101:x5_1<(l0.length:Int):=of_decide_eq_true qz10_
       obtain⟨ad101,A101_0,c101_0,e101,hx101_0,hl101_0,hi101_0⟩:=at_L9 HR0.out x5_1 p101 q101
       cases e101
       have HR101_0:=am_ hi101_0
       have HC101_0:=am_ hl101_0
       clear hi101_0 hl101_0
       replace p101:=eq_true p101
       replace q101:=eq_true q101
       go_wp2_with (first|((with_reducible refine zan (f:=5) rfl ?_);refine gl_ (some 23) Tryz.func5 #[.slice A101_0 (rd_L9 l0 x5_1).length c101_0,.int .i64 x1_1] ?_;(with_reducible refine(zde.calls _ _ (rd_L9 l0 x5_1) x1_1 t102 _ ?side1 ?side2 A6.out).mono ?_);(case side1=>exact qc_ HR101_0.out);(case side2=>exact HC101_0.out);rintro e w' ⟨rfl,⟨nd,rfl⟩⟩;refine⟨_,rfl,?_⟩))
       go_roundg k1
       case measure=>have:=HK1.out;omega
       case rel=>exact⟨(t102),(wrap64 (x5_1 + 1)),qz0_,qz0_,H',⟨qz13_⟩,by repeat(first|exact zbx.refl _|apply zbx.step)⟩
     ·
      rw [if_neg c5] at H
      exact absurd H (by simp)
    ·
     rw [if_neg c4] at H
     have c4b0:decide (x5_1<(l0.length:Int))=false:=decide_eq_false c4
     clear c4
     obtain rfl:=Option.some.inj H
     go_wp2
     go_ret
     exact⟨qz0_,qz1_⟩
def zbz.l0:Nat→List (List (S70))→List (List (S32))→Int→Option ((List (List (S32))))
 | 0,_,_,_=>none
 | k + 1,x0,x3,x4=>if x4<(x0.length:Int) then(if 0≤x4 then((zb3.f k (rd_L9 x0 x4)).bind fun t105=>(if x4<(x3.length:Int) then(zbz.l0 k x0 (x3.set (x4:Int).toNat t105) (wrap64 (x4 + 1))) else(none))) else(none)) else(some x3)
def zbz.f (k:Nat) (l0:List (List (S70))):Option ((List (List (S32)))):=if 0≤(l0.length:Int) then(if ((l0.length:Int):Int).toNat≤11728124029610 then(zbz.l0 k l0 (List.replicate ((l0.length:Int):Int).toNat []) 0) else(none)) else(none)
theorem zbz.calls (k:Nat) (A0:Option Addr) (c0:Nat) (l0:List (List (S70))) (r:List (List (S32))) (w:World) (hr0:Kd.C (Kd.slice 70 k70) w A0 l0.length l0) (hc0:l0.length≤c0) (h:zbz.f k l0=some r) :
  Calls Tryz.prog 22 #[.slice A0 l0.length c0] w fun e w'=>∃ v0_:Value,e=.returned (v0_)∧Kd.S (Kd.slice 32 k32) 36 w' w.heap.size (fun _=>True) v0_ r∧Below w.heap.size w w':=by
 have HR0:=am_ hr0
 have HC0:=am_ hc0
 clear hr0 hc0
 have HB:=am_ (Below.refl w.heap.size w)
 have H:(if 0≤(l0.length:Int) then(if ((l0.length:Int):Int).toNat≤11728124029610 then(zbz.l0 k l0 (List.replicate ((l0.length:Int):Int).toNat []) 0) else(none)) else(none))=some r:=h
 clear h
 by_cases c2:0≤(l0.length:Int)
 ·
  rw [if_pos c2] at H
  have c2b0:=eq_true c2
  have c2b1:decide (0≤(l0.length:Int))=true:=decide_eq_true c2
  clear c2
  by_cases c3:((l0.length:Int):Int).toNat≤11728124029610
  ·
   rw [if_pos c3] at H
   have c3b0:=eq_true c3
   have c3b1:decide (((l0.length:Int):Int).toNat≤11728124029610)=true:=decide_eq_true c3
   clear c3
   obtain⟨y101,hy101⟩:∃ y_:List (List (S32)),y_=(List.replicate ((l0.length:Int):Int).toNat []):=⟨_,rfl⟩
   replace H:(zbz.l0 k l0 y101 0)=some r:=by first|(rw [hy101];with_reducible exact H)|(have H2_:=(Option.bind_some _ _).symm.trans H;rw [hy101];with_reducible exact H2_)|(have H2_:=(Option.bind_some _ _).symm.trans H;with_reducible exact H2_)|with_reducible exact H|(rw [hy101];exact H)|exact H
   have Ny101:=am_ hy101
   clear hy101
   have H':=am_ H
   clear H
   go_enter Tryz.func22,Tryz.ntmps22
   go_wp2_with (first|((with_reducible refine zad (N:=7) rfl ?_);refine Kd.S_make (Kd.slice 32 k32) _ 36 rfl (N:=7) rfl 29 _ _ rfl (l0.length:Int) rfl rfl Tryz.underlying29 (.slice none 0 0) 24 zmf rfl (by decide) (by omega) [] (ok:=fun _=>True) (okp:=fun _=>True) ⟨_,rfl,Kd.R_nil _ _ _ _ _⟩ (fun _ hk=>hk) trivial (of_decide_eq_true qz10_) (Nat.le_trans (Nat.mul_le_mul_right _ (of_decide_eq_true qz10_:(l0.length:Int).toNat≤11728124029610)) (by omega)) (Below.refl _ _) (Nat.le_refl _) ?_;intro v102 w4 ho5 hb hg_ hnew_;clear hg_ hnew_;(first|rw [←Ny101.out] at ho5|(simp only [Int.reduceToNat] at ho5;rw [←Ny101.out] at ho5));replace HO103:=am_ (Kd.zhl ho5 (zaf qz2_));replace HB:=am_ (zab qz2_ hb);clear hb ho5))
   go_loopg [4] k (fun kq v4 w'=>∃ (x3_1:List (List (S32))) (x4_1:Int),v4=.int .i64 x4_1∧zal (zbz.l0 kq l0 x3_1 x4_1=some r)∧zal (kq≤k)∧zal (Kd.S (Kd.slice 32 k32) 36 w' w.heap.size (fun _=>True) v102 x3_1)∧zal (Below w.heap.size w w'))
   case atStart=>exact⟨(y101),(0),qz0_,H',⟨Nat.le_refl _⟩,⟨(by(with_reducible repeat(first|apply Kd.zea|apply Kd.zec|apply Kd.ze4));exact HO103.out)⟩,⟨qz2_⟩⟩
   case round=>
    clear H'
    try clear c2
    try clear c2b0
    try clear c2b1
    try clear p2
    try clear c3
    try clear c3b0
    try clear c3b1
    obtain⟨x3_1,x4_1,rfl,HA,HK1,HO_3,HB⟩:=hrel
    cases gk with
    | zero=>exact absurd HA.out (by simp [zbz.l0])
    | succ k1=>
     have H:=HA.out
     clear HA
     simp only [zbz.l0] at H
     by_cases c6:x4_1<(l0.length:Int)
     ·
      rw [if_pos c6] at H
      have c6b0:decide (x4_1<(l0.length:Int))=true:=decide_eq_true c6
      clear c6
      by_cases c7:0≤x4_1
      ·
       rw [if_pos c7] at H
       have c7b0:decide (0≤x4_1)=true:=decide_eq_true c7
       clear c7
       replace H:=Option.bind_eq_some_iff.mp H
       obtain⟨t105,A80,H⟩:=H
       replace H:(if x4_1<(x3_1.length:Int) then(zbz.l0 k1 l0 (x3_1.set (x4_1:Int).toNat t105) (wrap64 (x4_1 + 1))) else(none))=some r:=H
       have A8:=am_ A80
       clear A80
       by_cases c9:x4_1<(x3_1.length:Int)
       ·
        rw [if_pos c9] at H
        have c9b0:decide (x4_1<(x3_1.length:Int))=true:=decide_eq_true c9
        clear c9
        obtain⟨y108,hy108⟩:∃ y_:List (List (S32)),y_=(x3_1.set (x4_1:Int).toNat t105):=⟨_,rfl⟩
        replace H:(zbz.l0 k1 l0 y108 (wrap64 (x4_1 + 1)))=some r:=by first|(rw [hy108];with_reducible exact H)|(have H2_:=(Option.bind_some _ _).symm.trans H;rw [hy108];with_reducible exact H2_)|(have H2_:=(Option.bind_some _ _).symm.trans H;with_reducible exact H2_)|with_reducible exact H|(rw [hy108];exact H)|exact H
        have Ny108:=am_ hy108
        clear hy108
        have H':=am_ H
        clear H
        have p104:0≤(x4_1:Int):=of_decide_eq_true qz10_
        have q104:x4_1<(l0.length:Int):=of_decide_eq_true qz10_
        obtain⟨ad104,A104_0,c104_0,e104,hx104_0,hl104_0,hi104_0⟩:=at_L9 HR0.out x4_1 p104 q104
        cases e104
        replace hx104_0:=(HB.out.cell (World.block_lt_of_cell? w _ hx104_0)).trans hx104_0
        have HR104_0:=am_ hi104_0
        have HC104_0:=am_ hl104_0
        clear hi104_0 hl104_0
        replace p104:=eq_true p104
        replace q104:=eq_true q104
        go_wp2_with (first|((with_reducible refine zan (f:=8) rfl ?_);refine gl_ (some 20) Tryz.func8 #[.slice A104_0 (rd_L9 l0 x4_1).length c104_0] ?_;(with_reducible refine(zb3.calls k1 _ _ (rd_L9 l0 x4_1) t105 _ ?side1 ?side2 A8.out).mono ?_);(case side1=>exact qc_ (Kd.zbi HR104_0.out HB.out));(case side2=>exact HC104_0.out);rintro e w11 ⟨v106,rfl,ho0,hb⟩;refine⟨_,rfl,?_⟩;replace HO_3:=am_ (Kd.S_elder' (by(with_reducible repeat(first|apply Kd.zea|apply Kd.zec|apply Kd.ze4));exact HO_3.out) (Kd.zf8 ho0) hb);replace HO107:=am_ (Kd.zcw ho0 (zaf qz2_));replace HB:=am_ (zab qz2_ hb);(try clear hb);(try clear hb2);(try clear hk);(try clear hi);(try clear ho0);have p10:0≤(x4_1:Int):=of_decide_eq_true qz10_;have q10:(x4_1:Int)<((x3_1.length:Int):Int):=of_decide_eq_true qz10_;obtain⟨go10,co10,eo10,gb10,gl10,cl10,HG10⟩:=Kd.S_form HO_3.out (by omega);(first|cases eo10|(injection eo10 with ea_ en_ ec_;(first|subst ea_|(injection ea_ with ea_;subst ea_));subst ec_;clear en_));have GB10:=am_ gb10;have GG10:=am_ HG10;clear gb10 gl10 HG10;obtain⟨_,ce10,hcl10,hM10,hcc10,hfr10,_,_⟩:=Kd.zqd HO_3.out [] (x4_1:Int) p10 q10;obtain⟨ve10_0,rfl,ge10_0⟩:=hM10;have hx10_0:=hcc10 0 _ rfl;have hf10_0:=hfr10 0;(try simp only [show ((Kd.slice 32 k32)).sz=1 from rfl,Nat.mul_one,Nat.add_zero] at hx10_0);(try simp only [show ((Kd.slice 32 k32)).sz=1 from rfl,Nat.mul_one,Nat.add_zero] at hf10_0);(try clear hcl10);(try clear hcc10);(try clear hfr10);(try clear hM10);replace p10:=eq_true p10;replace q10:=eq_true q10;obtain⟨Ao12,co12,eo12⟩:=Kd.zcb HO107.out;subst eo12;have n_:=am_ (Kd.ze3 (ok':=(fun k_=>some k_≠(.slice Ao12 t105.length co12:Value).ownBlock)) HO_3.out (fun k_ hk=>hk.2));clear HO_3;have HO_3:=n_;clear n_;have HX13:=am_ (show Kd.S (Kd.slice 32 k32) 36 w11 w.heap.size (fun k_=>((fun _=>True)) k_∧¬((fun k_=>some k_=(.slice Ao12 t105.length co12:Value).ownBlock)) k_) (.slice (some ⟨go10,0,none⟩) x3_1.length co10) x3_1 from(by(with_reducible repeat(first|apply Kd.zea|apply Kd.zec|apply Kd.ze4));exact Kd.ze3 HO_3.out (fun k_ hk=>⟨trivial,fun e_=>hk e_⟩)));obtain⟨oki13,ce13,hcl13,hM13,hcc13,hfr13,hoki13,hH13⟩:=Kd.zqd HX13.out [] (x4_1:Int) (of_decide_eq_true qz10_) (by have h_:(x4_1:Int)<((x3_1.length:Int):Int):=of_decide_eq_true qz10_;first|exact h_|(have e_:=(Kd.S_reads' HO_3.out).1;omega)|simpa using h_);obtain⟨ve13_0,rfl,ge13_0⟩:=hM13;have HP13:=Kd.S_seg hH13 (of_decide_eq_true qz10_) (by have h_:(x4_1:Int)<((x3_1.length:Int):Int):=of_decide_eq_true qz10_;first|exact h_|(have e_:=(Kd.S_reads' HO_3.out).1;omega)|simpa using h_) (seg:=[.slice Ao12 t105.length co12]) (j:=0) (show 1≤1 from by decide) (x':=t105) (Kd.M_row (Kd.zba (Kd.zem rfl (Kd.zba (ok':=fun k_=>((fun _=>True)) k_∧k_≠go10) (Kd.R_apart' (HO107.out) (Kd.zia HO_3.out) (by decide)) (fun k_ hk=>⟨trivial,fun e_=>(hk.2) (by rw [e_];rfl)⟩))) (fun _ h_=>Or.inr (h_)))) (fun _ hk=>hk) (fun k_ hk_=>((Kd.zba (ok':=fun k_=>((fun _=>True)) k_∧k_≠go10) (Kd.R_apart' (HO107.out) (Kd.zia HO_3.out) (by decide)) (fun k_ hk=>⟨trivial,fun e_=>(hk.2) (by rw [e_];rfl)⟩))).1 k_ hk_.symm);have hx13_0:=hcc13 0 _ rfl;(try simp only [show ((Kd.slice 32 k32)).sz=1 from rfl,Nat.mul_one,Nat.add_zero] at hx13_0);have hf13_0:=hfr13 0;(try simp only [show ((Kd.slice 32 k32)).sz=1 from rfl,Nat.mul_one,Nat.add_zero] at hf13_0);(try clear hcl13);(try clear hcc13);(try clear hfr13);(try clear hM13);(try clear hoki13);(try clear hH13);(try simp only [show ((Kd.slice 32 k32)).sz=1 from rfl,Nat.mul_one,Nat.add_zero] at HP13))|((with_reducible refine za7 (t:=36) (p:=21) rfl ?_);refine zfd (t:=36) (p:=21) (v:=?vo_w14) (w1:=(w11.setCell ⟨go10,(x4_1:Int).toNat,none⟩ (.slice Ao12 t105.length co12))) ?hg ?ho ?hn ?hr ?_;(case ho=>rfl);(case hg=>rfl);(case hn=>rfl);(case hr=>first|(go_simp;done)|(go_simp;rfl));intro w14 hw;have hg:w11.grownBy w14 (some go10):=(by rw [hw];exact HP13.2);have hp_:Kd.S (Kd.slice 32 k32) 36 w14 w.heap.size (fun _=>True) (.slice (some ⟨go10,0,none⟩) x3_1.length co10) y108:=(by rw [hw,Ny108.out];exact HP13.1);clear HP13;replace HO_3:=am_ (hp_);replace HB:=am_ ((by rw [hw];exact za6 (HB.out) GB10.out:Below w.heap.size w w14));clear HO107;clear hg hw hp_))
        go_roundg k1
        case measure=>have:=HK1.out;omega
        case rel=>exact⟨(y108),(wrap64 (x4_1 + 1)),qz0_,H',⟨qz13_⟩,⟨(by(with_reducible repeat(first|apply Kd.zea|apply Kd.zec|apply Kd.ze4));exact HO_3.out)⟩,⟨qz2_⟩⟩
       ·
        rw [if_neg c9] at H
        exact absurd H (by simp)
      ·
       rw [if_neg c7] at H
       exact absurd H (by simp)
     ·
      rw [if_neg c6] at H
      have c6b0:decide (x4_1<(l0.length:Int))=false:=decide_eq_false c6
      clear c6
      obtain rfl:=Option.some.inj H
      go_wp2
      go_ret
      exact⟨_,qz4_,(by(with_reducible repeat(first|apply Kd.zea|apply Kd.zec|apply Kd.ze4));exact HO_3.out),qz2_⟩
  ·
   rw [if_neg c3] at H
   exact absurd H (by simp)
 ·
  rw [if_neg c2] at H
  exact absurd H (by simp)
end Go.Proofs.YtgookagndlfehaaGreat.PT
end
section
/- Rows of 64-bit words, as a block of memory holds them. -/
namespace Go.Proofs.YtgookagndlfehaaGreat.PT
open Go.RowKit Go.Proofs.YtgookagndlfehaaGreatW.PrintWords Go.Proofs.YtgookagndlfehaaGreatW.PrintLast Go.Proofs.YtgookagndlfehaaGreatW.PrintMore
set_option linter.unusedVariables false
set_option linter.unusedSimpArgs false
def uarr (k:IntKind) (xs:List Int):Array Value:=(xs.map fun x=>Value.int k x).toArray
theorem zb7 (k:IntKind) (xs:List Int):(uarr k xs).size=xs.length:=by simp [uarr]
theorem znj {k:IntKind} {xs:List Int} {i:Nat} (h:i<xs.length):(uarr k xs)[i]?=some (.int k (xs.getD i 0)):=by
 simp [uarr,List.getD,h]
theorem zf1 (k:IntKind) (xs:List Int) (i:Nat) (v:Int):(uarr k xs).setIfInBounds i (.int k v)=uarr k (xs.set i v):=by
 simp [uarr,List.map_set]
theorem zdp (k:IntKind) (xs:List Int):(uarr k xs).all (·.oneCell')=true:=by
 rw [Array.all_eq_true_iff_forall_mem]
 intro v hv
 simp only [uarr,List.mem_toArray,List.mem_map] at hv
 obtain⟨x,_,rfl⟩:=hv
 rfl
theorem zb4 {w:World} {g:Nat} {t:TypeId} {k:IntKind} {xs:List Int} (h:w.heap[g]?=some (.cells (uarr k xs) t (0,0))) {i:Nat} (hi:i<xs.length):w.cell? ⟨g,i,none⟩=some (.int k (xs.getD i 0)):=(zaa h i).trans (znj hi)
theorem zid {w:World} {g:Nat} {t:TypeId} {k:IntKind} {xs:List Int} (h:w.heap[g]?=some (.cells (uarr k xs) t (0,0))) (i:Nat) (v:Int):(w.setCell ⟨g,i,none⟩ (.int k v)).heap[g]?=some (.cells (uarr k (xs.set i v)) t (0,0)):=za9 h i _ (zf1 k xs i v)
def iter {α:Type} (f:Nat→α→α):Nat→Nat→α→α
 | 0,_,x=>x
 | k + 1,j,x=>iter f k (j + 1) (f j x)
end Go.Proofs.YtgookagndlfehaaGreat.PT
end
section
/- Own parts of memory, each with what is known of it, and what is known of the rest: one fact that moves with the world. -/
namespace Go.Proofs.YtgookagndlfehaaGreat.PT
open Go.RowKit Go.Proofs.YtgookagndlfehaaGreatW.PrintWords Go.Proofs.YtgookagndlfehaaGreatW.PrintLast Go.Proofs.YtgookagndlfehaaGreatW.PrintMore
set_option linter.unusedVariables false
set_option linter.unusedSimpArgs false
structure Grp where
 S:Nat→Prop
 A:World→Prop
structure Agr (w w':World) (S:Nat→Prop):Prop where
 os:w'.os=w.os
 tape:w'.tape=w.tape
 output:w'.output=w.output
 size:w.heap.size≤w'.heap.size
 block:∀ k,k<w.heap.size→¬S k→w'.heap[k]?=w.heap[k]?
def NoB:Nat→Prop:=fun _=>False
theorem Agr.refl (w:World) (S:Nat→Prop):Agr w w S:=⟨rfl,rfl,rfl,Nat.le_refl _,fun _ _ _=>rfl⟩
theorem Agr.mono {w w':World} {S T:Nat→Prop} (h:Agr w w' S) (hs:∀ k,S k→T k):Agr w w' T:=⟨h.os,h.tape,h.output,h.size,fun k hk hn=>h.block k hk (fun hS=>hn (hs k hS))⟩
theorem Agr.trans {w w1 w2:World} {S T:Nat→Prop} (h:Agr w w1 S) (k:Agr w1 w2 T) (hT:∀ i,T i→S i∨w.heap.size≤i):Agr w w2 S:=
 ⟨k.os.trans h.os,k.tape.trans h.tape,k.output.trans h.output,Nat.le_trans h.size k.size,fun i hi hn=>(k.block i (Nat.lt_of_lt_of_le hi h.size) (fun hk=>(hT i hk).elim hn (fun h2=>absurd hi (Nat.not_lt.2 h2)))).trans (h.block i hi hn)⟩
theorem Agr.of_below {w w':World} (h:Below w.heap.size w w'):Agr w w' NoB:=⟨h.os,h.tape,h.output,h.size,fun k hk _=>h.block k hk⟩
theorem Agr.below {w w':World} (h:Agr w w' NoB):Below w.heap.size w w':=⟨h.os,h.tape,h.output,h.size,fun k hk=>h.block k hk (fun h=>h)⟩
theorem Agr.zfo {w w':World} {v:Value} (h:w.grownBy w' v.ownBlock):Agr w w' (fun k=>some k=v.ownBlock):=⟨h.os,h.tape,h.output,h.size,fun k hk hn=>h.block k hk hn⟩
theorem Agr.zk5 {w0 w w':World} {g:Nat} (h:zbn w w' g none) (hb:Below w0.heap.size w0 w) (hb':Below w0.heap.size w0 w'):Agr w w' (fun k=>k=g):=
 ⟨hb'.os.trans hb.os.symm,hb'.tape.trans hb.tape.symm,hb'.output.trans hb.output.symm,h.1,fun k hk hn=>h.2 k hk hn (by simp)⟩
theorem Agr.keep {w w':World} {g:Nat} (h:Agr w w' (fun k=>k=g)):zbn w w' g none:=⟨h.size,fun k hk hn _=>h.block k hk hn⟩
theorem Agr.cell {w w':World} {S:Nat→Prop} (h:Agr w w' S) {a:Addr} {v:Value} (hc:w.cell? a=some v) (hn:¬S a.block):w'.cell? a=some v:=by
 have:=h.block a.block (World.block_lt_of_cell? w a hc) hn
 simpa [World.cell?,this] using hc
theorem Agr.onto {w0 w w':World} {S:Nat→Prop} (h:Agr w w' S) (hb:Below w0.heap.size w0 w) (hS:∀ k,S k→w0.heap.size≤k):Below w0.heap.size w0 w':=
 ⟨h.os.trans hb.os,h.tape.trans hb.tape,h.output.trans hb.output,Nat.le_trans hb.size h.size,fun k hk=>(h.block k (Nat.lt_of_lt_of_le hk hb.size) (fun hs=>absurd hk (Nat.not_lt.2 (hS k hs)))).trans (hb.block k hk)⟩
def InL (L:List Grp) (k:Nat):Prop:=∃ b,b∈L∧b.S k
structure Inv (w0:World) (P:Nat→Prop) (w:World) (L:List Grp) (F:World→Prop):Prop where
 agr:Agr w0 w P
 lt:∀ b,b∈L→∀ k,b.S k→k<w.heap.size
 new:∀ b,b∈L→∀ k,b.S k→w0.heap.size≤k∨P k
 own:∀ b,b∈L→∀ w',(∀ k,b.S k→w'.heap[k]?=w.heap[k]?)→b.A w'
 dis:L.Pairwise (fun a b=>∀ k,a.S k→¬b.S k)
 facts:∀ w',Agr w w' (InL L)→F w'
namespace Inv
variable {w0 w w1:World} {P:Nat→Prop} {L:List Grp} {F:World→Prop}
theorem start (w:World) (F:World→Prop) (hF:∀ w',Below w.heap.size w w'→F w'):Inv w NoB w [] F:=
 ⟨Agr.refl _ _,fun _ h=>(by cases h),fun _ h=>(by cases h),fun _ h=>(by cases h),List.Pairwise.nil,fun w' h=>hF w' (h.mono (fun k hk=>by obtain⟨_,h,_⟩:=hk;cases h)).below⟩
theorem now (h:Inv w0 P w L F):F w:=h.facts w (Agr.refl _ _)
theorem get (h:Inv w0 P w L F) {b:Grp} (i:Nat) (hi:L[i]?=some b):b.A w:=h.own b (List.mem_of_getElem? hi) w (fun _ _=>rfl)
theorem below (h:Inv w0 NoB w L F):Below w0.heap.size w0 w:=h.agr.below
theorem weaken (h:Inv w0 P w L F) {G:World→Prop} (hG:∀ w,F w→G w):Inv w0 P w L G:=⟨h.agr,h.lt,h.new,h.own,h.dis,fun w' hw=>hG _ (h.facts w' hw)⟩
theorem grow (h:Inv w0 P w L F) (hA:Below w.heap.size w w1):Inv w0 P w1 L F:=
 ⟨h.agr.trans (Agr.of_below hA) (fun _ h=>h.elim),fun b hb k hk=>Nat.lt_of_lt_of_le (h.lt b hb k hk) hA.size,h.new,fun b hb w' hw=>h.own b hb w' (fun k hk=>(hw k hk).trans (hA.block k (h.lt b hb k hk))),h.dis,
  fun w' hw=>h.facts w' ((Agr.mono (Agr.of_below hA) (fun _ h=>h.elim)).trans hw (fun i hi=>.inl hi))⟩
theorem push (h:Inv w0 P w L F) (hA:Below w.heap.size w w1) (b:Grp) (hS:∀ k,b.S k→w.heap.size≤k∧k<w1.heap.size) (hown:∀ w',(∀ k,b.S k→w'.heap[k]?=w1.heap[k]?)→b.A w'):Inv w0 P w1 (b::L) F:=by
 have hg:=h.grow hA
 refine⟨hg.agr,fun c hc k hk=>?_,fun c hc k hk=>?_,fun c hc w' hw=>?_,List.Pairwise.cons (fun c hc k hk hk2=>?_) h.dis,fun w' hw=>?_⟩
 ·
  rcases List.mem_cons.1 hc with rfl|hc
  ·
   exact(hS k hk).2
  ·
   exact hg.lt c hc k hk
 ·
  rcases List.mem_cons.1 hc with rfl|hc
  ·
   exact .inl (Nat.le_trans h.agr.size (hS k hk).1)
  ·
   exact h.new c hc k hk
 ·
  rcases List.mem_cons.1 hc with rfl|hc
  ·
   exact hown w' hw
  ·
   exact hg.own c hc w' hw
 ·
  exact absurd (h.lt c hc k hk2) (Nat.not_lt.2 (hS k hk).1)
 ·
  refine h.facts w' ((Agr.mono (Agr.of_below hA) (fun _ h=>h.elim)).trans hw (fun i hi=>?_))
  obtain⟨c,hc,hk⟩:=hi
  rcases List.mem_cons.1 hc with rfl|hc
  ·
   exact .inr (hS i hk).1
  ·
   exact .inl ⟨c,hc,hk⟩
theorem know (h:Inv w0 P w L F) (hA:Below w.heap.size w w1) (G:World→Prop) (hG:∀ w',(∀ k,w.heap.size≤k→k<w1.heap.size→w'.heap[k]?=w1.heap[k]?)→G w'):Inv w0 P w1 L (fun w=>G w∧F w):=by
 have hg:=h.grow hA
 refine⟨hg.agr,hg.lt,hg.new,hg.own,hg.dis,fun w' hw=>⟨hG w' (fun k h1 h2=>hw.block k h2 (fun hi=>?_)),hg.facts w' hw⟩⟩
 obtain⟨c,hc,hk⟩:=hi
 exact absurd (h.lt c hc k hk) (Nat.not_lt.2 h1)
theorem freeze {b:Grp} (h:Inv w0 P w (b::L) F):Inv w0 P w L (fun w=>b.A w∧F w):=by
 refine⟨h.agr,fun c hc=>h.lt c (List.mem_cons_of_mem _ hc),fun c hc=>h.new c (List.mem_cons_of_mem _ hc),fun c hc=>h.own c (List.mem_cons_of_mem _ hc),(List.pairwise_cons.1 h.dis).2,fun w' hw=>⟨?_,h.facts w' (hw.mono ?_)⟩⟩
 ·
  refine h.own b List.mem_cons_self w' (fun k hk=>hw.block k (h.lt b List.mem_cons_self k hk) (fun hi=>?_))
  obtain⟨c,hc,hk2⟩:=hi
  exact(List.pairwise_cons.1 h.dis).1 c hc k hk hk2
 ·
  rintro k ⟨c,hc,hk⟩
  exact⟨c,List.mem_cons_of_mem _ hc,hk⟩
theorem drop {b:Grp} (h:Inv w0 P w (b::L) F):Inv w0 P w L F:=h.freeze.weaken (fun _ h=>h.2)
theorem perm {L':List Grp} (h:Inv w0 P w L F) (hp:L.Perm L'):Inv w0 P w L' F:=
 ⟨h.agr,fun b hb=>h.lt b (hp.mem_iff.2 hb),fun b hb=>h.new b (hp.mem_iff.2 hb),fun b hb=>h.own b (hp.mem_iff.2 hb),(hp.pairwise_iff (fun {a b} hab k hk hk2=>hab k hk2 hk)).1 h.dis,fun w' hw=>h.facts w' (hw.mono (fun k ⟨b,hb,hk⟩=>⟨b,hp.mem_iff.2 hb,hk⟩))⟩
theorem swap {a b:Grp} (h:Inv w0 P w (a::b::L) F):Inv w0 P w (b::a::L) F:=h.perm (List.Perm.swap _ _ _)
theorem swap1 {a b c:Grp} (h:Inv w0 P w (a::b::c::L) F):Inv w0 P w (a::c::b::L) F:=h.perm ((List.Perm.swap _ _ _).cons _)
theorem front2 {a b c:Grp} (h:Inv w0 P w (a::b::c::L) F):Inv w0 P w (c::a::b::L) F:=h.swap1.swap
theorem znm {a b c d:Grp} (h:Inv w0 P w (a::b::c::d::L) F):Inv w0 P w (d::a::b::c::L) F:=(h.perm (((List.Perm.swap _ _ _).cons _).cons _)).front2
theorem front4 {a b c d e:Grp} (h:Inv w0 P w (a::b::c::d::e::L) F):Inv w0 P w (e::a::b::c::d::L) F:=(h.perm ((((List.Perm.swap _ _ _).cons _).cons _).cons _)).znm
theorem back2 {a b c:Grp} (h:Inv w0 P w (c::a::b::L) F):Inv w0 P w (a::b::c::L) F:=h.swap.swap1
theorem step {b:Grp} (h:Inv w0 P w (b::L) F) (hA:Agr w w1 b.S) (b':Grp) (hS:∀ k,b'.S k→(b.S k∨w.heap.size≤k)∧k<w1.heap.size) (hown:∀ w',(∀ k,b'.S k→w'.heap[k]?=w1.heap[k]?)→b'.A w'):Inv w0 P w1 (b'::L) F:=by
 have hm:∀ c,c∈L→∀ k,c.S k→k<w.heap.size∧¬b.S k:=fun c hc k hk=>⟨h.lt c (List.mem_cons_of_mem _ hc) k hk,fun hb=>(List.pairwise_cons.1 h.dis).1 c hc k hb hk⟩
 refine⟨h.agr.trans hA (fun i hi=>(h.new b List.mem_cons_self i hi).symm),fun c hc k hk=>?_,fun c hc k hk=>?_,fun c hc w' hw=>?_,List.Pairwise.cons (fun c hc k hk hk2=>?_) (List.pairwise_cons.1 h.dis).2,fun w' hw=>?_⟩
 ·
  rcases List.mem_cons.1 hc with rfl|hc
  ·
   exact(hS k hk).2
  ·
   exact Nat.lt_of_lt_of_le (hm c hc k hk).1 hA.size
 ·
  rcases List.mem_cons.1 hc with rfl|hc
  ·
   rcases (hS k hk).1 with h1|h1
   ·
    exact h.new b List.mem_cons_self k h1
   ·
    exact .inl (Nat.le_trans h.agr.size h1)
  ·
   exact h.new c (List.mem_cons_of_mem _ hc) k hk
 ·
  rcases List.mem_cons.1 hc with rfl|hc
  ·
   exact hown w' hw
  ·
   exact h.own c (List.mem_cons_of_mem _ hc) w' (fun k hk=>(hw k hk).trans (hA.block k (hm c hc k hk).1 (hm c hc k hk).2))
 ·
  rcases (hS k hk).1 with h1|h1
  ·
   exact(hm c hc k hk2).2 h1
  ·
   exact absurd (hm c hc k hk2).1 (Nat.not_lt.2 h1)
 ·
  refine h.facts w' ((hA.mono (fun k hk=>⟨b,List.mem_cons_self,hk⟩)).trans hw (fun i hi=>?_))
  obtain⟨c,hc,hk⟩:=hi
  rcases List.mem_cons.1 hc with rfl|hc
  ·
   exact(hS i hk).1.imp (fun h1=>⟨b,List.mem_cons_self,h1⟩) id
  ·
   exact .inl ⟨c,List.mem_cons_of_mem _ hc,hk⟩
theorem drew (h:Inv w0 P w L F):Inv w0 P w.drew L F:=h.grow (zf9 (Below.refl _ _))
theorem drewN (h:Inv w0 P w L F) (n:Nat):Inv w0 P (w.drewN n) L F:=h.grow (zaw (Below.refl _ _) n)
theorem alloc (h:Inv w0 P w L F) (o:Obj):Inv w0 P (w.alloc o) L F:=h.grow (za5 (Below.refl _ _) o)
end Inv
def blk (g:Nat) (t:TypeId) (cs:Array Value):Grp:=⟨fun k=>k=g,fun w=>w.heap[g]?=some (.cells cs t (0,0))⟩
def row {α:Type} (d:Kd α) (e base:Nat) (v:Value) (xs:List α) (S:Nat→Prop):Grp:=⟨S,fun w=>d.R e w base S v xs⟩
namespace Inv
variable {w0 w w1:World} {P:Nat→Prop} {L:List Grp} {F:World→Prop}
theorem box (h:Inv w0 P w L F) {g:Nat} {t:TypeId} {cs:Array Value} (hg:g=w.heap.size) (hbox:w1.heap[g]?=some (.cells cs t (0,0))) (hb:Below w.heap.size w w1):Inv w0 P w1 (blk g t cs::L) F:=
 h.push hb (blk g t cs) (fun k hk=>by obtain rfl:k=g:=hk;exact⟨Nat.le_of_eq hg.symm,zar hbox⟩) (fun w' hw=>(hw g rfl).trans hbox)
theorem zo7 {g:Nat} {t:TypeId} {cs:Array Value} (w:World) (hb:w.heap[g]?=some (.cells cs t (0,0))) (F:World→Prop) (hF:∀ w',Agr w w' (fun k=>k=g)→F w'):Inv w (fun k=>k=g) w [blk g t cs] F:=
 ⟨Agr.refl _ _,fun b h k hk=>(by obtain rfl:=List.mem_singleton.1 h;obtain rfl:k=g:=hk;exact zar hb),fun b h k hk=>(by obtain rfl:=List.mem_singleton.1 h;exact .inr hk),
  fun b h w' hw=>(by obtain rfl:=List.mem_singleton.1 h;exact(hw g rfl).trans hb),List.pairwise_singleton _ _,fun w' hw=>hF w' (hw.mono (fun k ⟨b,hb,hk⟩=>by obtain rfl:=List.mem_singleton.1 hb;exact hk))⟩
theorem blk0 {g:Nat} {t:TypeId} {cs:Array Value} (h:Inv w0 P w (blk g t cs::L) F):w.heap[g]?=some (.cells cs t (0,0)):=h.get 0 rfl
theorem ge0 {g:Nat} {t:TypeId} {cs:Array Value} (h:Inv w0 NoB w (blk g t cs::L) F):w0.heap.size≤g:=(h.new _ List.mem_cons_self g rfl).elim id (fun h=>h.elim)
theorem put0 {g:Nat} {t:TypeId} {cs:Array Value} (h:Inv w0 P w (blk g t cs::L) F) (new:Array Value):Inv w0 P (w.setRow g new) (blk g t new::L) F:=
 h.step (w1:=w.setRow g new) ⟨rfl,rfl,rfl,(by simp),fun k _ hn=>setRow_other _ _ _ _ hn⟩ (blk g t new) (fun k hk=>⟨.inl hk,(by obtain rfl:k=g:=hk;simpa using zar h.blk0)⟩) (fun w' hw=>(hw g rfl).trans (setRow_heap _ _ _ _ _ _ h.blk0))
theorem set0 {g:Nat} {t:TypeId} {cs:Array Value} (h:Inv w0 P w (blk g t cs::L) F) (j:Nat) (v:Value):Inv w0 P (w.setCell ⟨g,j,none⟩ v) (blk g t (cs.setIfInBounds j v)::L) F:=
 h.step (w1:=w.setCell ⟨g,j,none⟩ v) ⟨rfl,rfl,rfl,by simp [World.setCell],fun k _ hn=>Below.heap_setCell w ⟨g,j,none⟩ v k hn⟩ (blk g t _) (fun k hk=>⟨.inl hk,(by obtain rfl:k=g:=hk;have:=zar (zhp h.blk0 j v);exact this)⟩) (fun w' hw=>(hw g rfl).trans (zhp h.blk0 j v))
theorem ne01 {g g':Nat} {t t':TypeId} {cs cs':Array Value} (h:Inv w0 P w (blk g t cs::blk g' t' cs'::L) F):g≠g':=fun e=>(List.pairwise_cons.1 h.dis).1 _ List.mem_cons_self g rfl e
theorem zd7 {α:Type} {d:Kd α} {e:Nat} {v:Value} {xs:List α} {ok:Nat→Prop} (h:Inv w0 P w L F) (hb:Below w.heap.size w w1) (hR:d.R e w1 w.heap.size ok v xs) :
  Inv w0 P w1 (row d e w0.heap.size v xs (fun k=>w.heap.size≤k∧k<w1.heap.size)::L) F:=by
 have hR2:d.R e w1 w0.heap.size (fun k=>w.heap.size≤k∧k<w1.heap.size) v xs:=Kd.zcw (Kd.zba (Kd.zei hR) (fun k hk=>⟨hk.2.1,hk.2.2.1⟩)) h.agr.size
 exact h.push hb _ (fun k hk=>hk) (fun w' hw=>Kd.zfb hR2 (fun k hk _=>hw k hk))
theorem zp2 {α:Type} {d:Kd α} {e:Nat} {v:Value} {xs:List α} {ok:Nat→Prop} (h:Inv w0 P w L F) (hb:Below w.heap.size w w1) (hR:d.R e w1 w.heap.size ok v xs) :
  ∃ A c,v=.slice A xs.length c∧xs.length≤c∧Inv w0 P w1 L (fun w=>d.C w A xs.length xs∧F w):=by
 have hR2:d.R e w1 w.heap.size (fun k=>w.heap.size≤k∧k<w1.heap.size) v xs:=Kd.zba (Kd.zei hR) (fun k hk=>⟨hk.2.1,hk.2.2.1⟩)
 obtain⟨A,c,rfl,hc,_⟩:=Kd.zgv hR
 refine⟨A,c,rfl,hc,h.know hb _ (fun w' hw=>?_)⟩
 obtain⟨A',c',e,_,hC⟩:=Kd.zgv (Kd.zfb hR2 (fun k hk _=>hw k hk.1 hk.2))
 cases e
 exact hC
theorem row0 {α:Type} {d:Kd α} {e b:Nat} {v:Value} {xs:List α} {S:Nat→Prop} (h:Inv w0 P w (row d e b v xs S::L) F):d.R e w b S v xs:=h.get 0 rfl
theorem row0W {α:Type} {d:Kd α} {e b:Nat} {v:Value} {xs:List α} {S:Nat→Prop} (h:Inv w0 P w (row d e b v xs S::L) F):d.R e w b (fun k=>S k∨w.heap.size≤k) v xs:=Kd.zba h.row0 (fun _ hk=>.inl hk)
theorem zkd {α:Type} {d:Kd α} {e b:Nat} {v v1:Value} {xs ys:List α} {S ok:Nat→Prop} (h:Inv w0 P w (row d e b v xs S::L) F) (hb:Below b w w1) (hR:d.R e w1 b ok v1 ys) (hok:∀ k,ok k→k<w1.heap.size→S k∨w.heap.size≤k) (hg:w.grownBy w1 v.ownBlock) :
  Inv w0 P w1 (row d e b v1 ys (fun k=>(S k∨w.heap.size≤k)∧k<w1.heap.size)::L) F:=by
 have hR2:d.R e w1 b (fun k=>(S k∨w.heap.size≤k)∧k<w1.heap.size) v1 ys:=Kd.zba (Kd.zei hR) (fun k hk=>⟨hok k hk.1 hk.2.2.1,hk.2.2.1⟩)
 exact h.step ((Agr.zfo hg).mono (fun k hk=>h.row0.1 k hk.symm)) _ (fun k hk=>hk) (fun w' hw=>Kd.zfb hR2 (fun k hk _=>hw k hk))
end Inv
end Go.Proofs.YtgookagndlfehaaGreat.PT
end
section
/- Own parts of memory: what later texts need besides. -/
namespace Go.Proofs.YtgookagndlfehaaGreat.PT
open Go.RowKit Go.Proofs.YtgookagndlfehaaGreatW.PrintWords Go.Proofs.YtgookagndlfehaaGreatW.PrintLast Go.Proofs.YtgookagndlfehaaGreatW.PrintMore
set_option linter.unusedVariables false
set_option linter.unusedSimpArgs false
namespace Inv
variable {w0 w w1:World} {P:Nat→Prop} {L:List Grp} {F:World→Prop}
theorem kept0 {α:Type} {d:Kd α} {e b:Nat} {v v1:Value} {xs ys:List α} {S ok:Nat→Prop} (h:Inv w0 NoB w (row d e b v xs S::L) F) (hB:Below w0.heap.size w0 w1) (hk:Kept w w1 S) (hR:d.R e w1 b ok v1 ys) (hok:∀ k,ok k→S k∨w.heap.size≤k) :
  Inv w0 NoB w1 (row d e b v1 ys (fun k=>(S k∨w.heap.size≤k)∧k<w1.heap.size)::L) F:=by
 have hR2:d.R e w1 b (fun k=>(S k∨w.heap.size≤k)∧k<w1.heap.size) v1 ys:=Kd.zba (Kd.zei hR) (fun k hk=>⟨hok k hk.1,hk.2.2.1⟩)
 have hb:=h.below
 exact h.step ⟨hB.os.trans hb.os.symm,hB.tape.trans hb.tape.symm,hB.output.trans hb.output.symm,hk.1,fun k hlt hn=>hk.2 k hlt hn⟩ _ (fun k hk=>hk) (fun w' hw=>Kd.zfb hR2 (fun k hk _=>hw k hk))
end Inv
end Go.Proofs.YtgookagndlfehaaGreat.PT
end
section
/- Own parts of memory that hang on what has come up. -/
namespace Go.Proofs.YtgookagndlfehaaGreat.PT
open Go Go.RowKit Go.Proofs.YtgookagndlfehaaGreatW.PrintWords Go.Proofs.YtgookagndlfehaaGreatW.PrintLast Go.Proofs.YtgookagndlfehaaGreatW.PrintMore
set_option linter.unusedVariables false
set_option linter.unusedSimpArgs false
theorem zgc {α:Type}:∀ (l:List α) (i:Nat) (b:α),l[i]?=some b→l.Perm (b::l.eraseIdx i)
 | [],i,b,h=>by simp at h
 | x::l,0,b,h=>by
  obtain rfl:x=b:=by simpa using h
  exact List.Perm.refl _
 | x::l,i + 1,b,h=>((zgc l i b (by simpa using h)).cons x).trans (List.Perm.swap _ _ _)
def gif (c:Bool) (g:Grp):Grp:=⟨fun k=>c=true∧g.S k,fun w=>c=true→g.A w⟩
namespace Inv
variable {w0 w w1:World} {P:Nat→Prop} {L:List Grp} {F:World→Prop}
theorem head {b:Grp} (h:Inv w0 P w (b::L) F) (b':Grp) (hS:∀ k,b'.S k→b.S k) (hA:∀ w',(∀ k,b'.S k→w'.heap[k]?=w.heap[k]?)→b'.A w'):Inv w0 P w (b'::L) F:=
 h.step (Agr.refl _ _) b' (fun k hk=>⟨.inl (hS k hk),h.lt b List.mem_cons_self k (hS k hk)⟩) hA
theorem off (h:Inv w0 P w L F) {g:Grp}:Inv w0 P w (gif false g::L) F:=
 h.push (Below.refl _ _) _ (fun _ h=>by cases h.1) (fun _ _ h=>by cases h)
theorem zks {g:Nat} {t:TypeId} {cs cs':Array Value} (h:Inv w0 P w (blk g t cs::L) F) (e:cs'=cs):Inv w0 P w (blk g t cs'::L) F:=e ▸ h
theorem zne {L:List Grp} {i:Nat} {x:Grp} (y:Grp) (hx:L[i]?=some x):(L.set i y).Perm (y::L.eraseIdx i):=by
 have hl:=(List.getElem?_eq_some_iff.1 hx).1
 have h1:(L.set i y)[i]?=some y:=by simp [hl]
 have h2:=zgc (L.set i y) i y h1
 rw [List.eraseIdx_set_eq] at h2
 exact h2
theorem fill (c:Bool) {g:Grp} (h:Inv w0 P w (g::L) F) (i:Nat) (hi:Nat.ble (i + 1) L.length=true):Inv w0 P w (L.set i (gif c g)) F:=by
 have hl:i<L.length:=Nat.le_of_ble_eq_true hi
 have hx:L[i]?=some L[i]:=List.getElem?_eq_getElem hl
 have h1:=h.perm ((zgc L i L[i] hx).cons g)
 have h2:=h1.swap.drop
 have h3:=h2.head (gif c g) (fun k hk=>hk.2) (fun w' hw hc=>h2.own g List.mem_cons_self w' (fun k hk=>hw k ⟨hc,hk⟩))
 exact h3.perm (zne _ hx).symm
theorem take {c:Bool} {g:Grp} (h:Inv w0 P w L F) (i:Nat) (hx:L[i]?=some (gif c g)) (hc:c=true):Inv w0 P w (g::L.set i (gif false g)) F:=by
 subst hc
 have h1:=h.perm (zgc L i _ hx)
 have h2:=h1.head g (fun k hk=>⟨rfl,hk⟩) (fun w' hw=>h1.own _ List.mem_cons_self w' (fun k hk=>hw k hk.2) rfl)
 exact(h2.off (g:=g)).perm ((List.Perm.swap _ _ _).trans ((zne _ hx).symm.cons g))
theorem at_ (h:Inv w0 P w L F) (b:Grp) (hb:b∈L):b.A w:=h.own b hb w (fun _ _=>rfl)
theorem ownOther {W:World} {T:Nat→Prop} {a:Grp} (h:Inv w0 P w (a::L) F) (ha:Agr w W T) (hT:∀ k,T k→a.S k) (b:Grp) (hb:b∈L):b.A W:=
 h.own b (List.mem_cons_of_mem _ hb) W (fun k hk=>ha.block k (h.lt b (List.mem_cons_of_mem _ hb) k hk) (fun ht=>(List.pairwise_cons.1 h.dis).1 b hb k (hT k ht) hk))
theorem zhu (h:Inv w0 P w L F) (t:TypeId) (cs:Array Value):Inv w0 P (w.alloc (.cells cs t)) (blk w.heap.size t cs::L) F:=h.box rfl (show (w.heap.push (.cells cs t))[w.heap.size]?=_ from Array.getElem?_push_size) (za5 (Below.refl _ _) _)
theorem nil0 (h:Inv w0 P w L F):Inv w0 P w (⟨fun _=>False,fun _=>True⟩::L) F:=h.push (Below.refl _ _) _ (fun _ h=>h.elim) (fun _ _=>trivial)
theorem lose {b:Grp} (h:Inv w0 P w (b::L) F) (hA:Agr w w1 b.S):Inv w0 P w1 L F:=(h.step hA ⟨fun _=>False,fun _=>True⟩ (fun _ h=>h.elim) (fun _ _=>trivial)).drop
theorem rowAt {α:Type} {d:Kd α} {e b:Nat} {v:Value} {xs:List α} {S:Nat→Prop} (h:Inv w0 P w L F) (hb:row d e b v xs S∈L):d.R e w b S v xs:=h.at_ _ hb
end Inv
theorem Agr.zi3 {w0 w w1:World} {S T:Nat→Prop} (hk:Kept w w1 S) (hb:Below w0.heap.size w0 w) (hb':Below w0.heap.size w0 w1) (hT:∀ k,S k→T k):Agr w w1 T:=
 ⟨hb'.os.trans hb.os.symm,hb'.tape.trans hb.tape.symm,hb'.output.trans hb.output.symm,hk.1,fun k hlt hn=>hk.2 k hlt (fun hs=>hn (hT k hs))⟩
end Go.Proofs.YtgookagndlfehaaGreat.PT
end
section
/- Marks of every element of every row of a row of rows: the marked rows are there behind the call. -/
namespace Go.Proofs.YtgookagndlfehaaGreat.PT
open Go Go.RowKit Go.Proofs.YtgookagndlfehaaGreatW.PrintWords Go.Proofs.YtgookagndlfehaaGreatW.PrintLast Go.Proofs.YtgookagndlfehaaGreatW.PrintMore
set_option linter.unusedVariables false
set_option linter.unusedSimpArgs false
def zeu.f (k:Nat):List (List S32)→Int→Option (Int × List (List S32))
 | [],a=>some (a,[])
 | l::ls,a=>(zbb.f k l a).bind fun t=>(zeu.f k ls t.1).bind fun u=>some (u.1,t.2::u.2)
theorem zeu.mid {α:Type} (x y:α) (t:List α):∀ d:List α,(d++x::t).set d.length y=(d++[y])++t
 | []=>rfl
 | a::d=>congrArg (a::·) (zeu.mid x y t d)
theorem zeu.at_ {α:Type} (x z:α) (t:List α):∀ d:List α,(d++x::t).getD d.length z=x
 | []=>rfl
 | a::d=>zeu.at_ x z t d
theorem zeu.back {wr w6:World} {base j:Nat} {ok oki ok1:Nat→Prop} {v vi:Value} {xs:List (List S32)} {l2:List S32} (hH:Kd.H (Kd.slice 32 k32) 36 wr base ok v xs (j:Int) oki [vi]) (hk:Kept wr w6 oki) (hR:Kd.R k32 32 w6 base ok1 vi l2) (h0:∀ k,vi.ownBlock=some k→oki k) :
  Kd.S (Kd.slice 32 k32) 36 w6 base ok v (xs.set j l2):=
 Kd.zpn (Kd.H_kept hH hk (fun _ _ hn=>hn)) (x':=l2) (okp:=oki) ⟨vi,rfl,Kd.zba (Kd.zem rfl hR) (fun k hk=>h0 k hk.symm)⟩ (fun _ h=>h)
theorem zeu.calls (k:Nat) (P0_:Nat→Prop) (u9000_:Value) (l0:List (List S32)) (a1:Int) (r:Int) (r2:List (List S32)) (w0 w:World) (hB:Below w0.heap.size w0 w) (ho0:Kd.S (Kd.slice 32 k32) 36 w w0.heap.size P0_ u9000_ l0) (h:zeu.f k l0 a1=some (r,r2)) :
  Calls Tryz.prog 25 #[u9000_,.int .i64 a1] w fun e w'=>e=.returned (.int .i64 r)∧Kd.S (Kd.slice 32 k32) 36 w' w0.heap.size P0_ u9000_ r2∧Below w0.heap.size w0 w'∧Kept w w' (fun k_=>P0_ k_):=by
 have HO0:=am_ ho0
 have HK:=am_ (Kept.refl w (fun k_=>P0_ k_))
 have HW0:=am_ hB.size
 have HB:=am_ hB
 have HS:=am_ (show ∃ rest,zeu.f k (l0.drop 0) a1=some (r,rest)∧[]++rest=r2 from⟨r2,h,rfl⟩)
 obtain⟨A0,c0,rfl⟩:=Kd.zf6 ho0
 clear hB h ho0
 go_enter Tryz.func25,Tryz.ntmps25
 go_wp2
 go_loopg [1,5] l0.length (fun kq v1 v5 w'=>∃ (a:Int) (j:Nat) (ld:List (List S32)),v1=.int .i64 a∧v5=.int .i64 j∧zal (j + kq=l0.length∧ld.length=j)∧zal (∃ rest,zeu.f k (l0.drop j) a=some (r,rest)∧ld++rest=r2)∧zal (Kd.S (Kd.slice 32 k32) 36 w' w0.heap.size P0_ (.slice A0 l0.length c0) (ld++l0.drop j))∧zal (Kept w w' (fun k_=>P0_ k_))∧zal (Below w0.heap.size w0 w'))
 case atStart=>exact⟨a1,0,[],by first|rfl|simp,by first|rfl|simp,⟨(by omega),rfl⟩,HS,HO0,HK,HB⟩
 case round=>
  clear HS HO0 HK HB
  obtain⟨a,j,ld,rfl,rfl,HJ,HS,HO,HK,HB⟩:=hrel
  obtain⟨hj1,hj2⟩:=HJ.out
  have hm:l0.length≤9223372036854775807:=by have:=(Kd.S_reads' HO.out).2.2.2.1;rw [List.length_append,List.length_drop] at this;omega
  cases gk with
  | zero=>
   have c1:decide ((j:Int)<(l0.length:Int))=false:=decide_eq_false (by omega)
   have c2:decide (j<l0.length)=false:=decide_eq_false (by omega)
   have hnil:l0.drop j=[]:=List.drop_eq_nil_of_le (by omega)
   obtain⟨rest,h1_,h2_⟩:=HS.out
   rw [hnil,zeu.f] at h1_
   simp only [Option.some.injEq,Prod.mk.injEq] at h1_
   obtain⟨rfl,rfl⟩:=h1_
   rw [hnil,h2_] at HO
   clear hj1 hj2 HJ hnil HS h2_
   go_wp2
   go_ret
   exact⟨(by first|rfl|simp),(by(with_reducible repeat(first|apply Kd.zea|apply Kd.zec|apply Kd.ze4));exact HO.out),qz2_,qz15_⟩
  | succ k1=>
   have hjl:j<l0.length:=by omega
   have c1:decide ((j:Int)<(l0.length:Int))=true:=decide_eq_true (by omega)
   have c2:decide (j<l0.length)=true:=decide_eq_true hjl
   obtain⟨l,hl⟩:∃ l,l0.drop j=l::l0.drop (j + 1):=⟨l0[j],List.drop_eq_getElem_cons hjl⟩
   have HO_:=HO.out
   rw [hl] at HO_
   have hget:(ld++l::l0.drop (j + 1)).getD j []=l:=by rw [←hj2];exact zeu.at_ _ _ _ _
   obtain⟨rest,hS2,hS5⟩:=HS.out
   rw [hl,zeu.f] at hS2
   obtain⟨t,ht,hS3⟩:=Option.bind_eq_some_iff.mp hS2
   obtain⟨t1,t2⟩:=t
   obtain⟨⟨u1,u2⟩,hS4_,hS6⟩:=Option.bind_eq_some_iff.mp hS3
   simp only [Option.some.injEq,Prod.mk.injEq] at hS6
   obtain⟨rfl,rfl⟩:=hS6
   have HT:=am_ ht
   have HS':=am_ (show ∃ rest,zeu.f k (l0.drop (j + 1)) t1=some (u1,rest)∧(ld++[t2])++rest=r2 from⟨u2,hS4_,(by rw [List.append_assoc];exact hS5)⟩)
   have hpos:0<(ld++l::l0.drop (j + 1)).length:=by simp;omega
   have hlen:(ld++l::l0.drop (j + 1)).length=l0.length:=by rw [←hl,List.length_append,List.length_drop];omega
   obtain⟨g,cap,ev,hge,hgl,cells,hcells⟩:=Kd.S_form HO_ hpos
   obtain⟨hA,hc⟩:A0=some ⟨g,0,none⟩∧cap=c0:=by injection ev with e1 e2 e3;exact⟨e1,e3.symm⟩
   subst hA
   subst hc
   have hS4:=HO_
   obtain⟨oki,c,hcl,hM,hcc,hfr,hoki,hH⟩:=Kd.zqd hS4 [] (j:Int) (by omega) (by omega)
   simp only [Int.toNat_natCast] at hM hcc hfr hH
   rw [hget] at hM
   obtain⟨v,hcv,hR⟩:=hM
   subst hcv
   obtain⟨Av,cv,hv⟩:=Kd.zcb hR
   subst hv
   have hx:wr.cell? ⟨g,j,none⟩=some (.slice Av l.length cv):=by have h_:=hcc 0 _ rfl;simpa [Kd.slice] using h_
   have p5:0≤(j:Int):=by omega
   have q5:(j:Int)<(l0.length:Int):=by omega
   have p6:=eq_true p5
   have q6:=eq_true q5
   have HR:=am_ hR
   have HH:=am_ hH
   have HN:=am_ hoki
   have HL:=am_ (show ld.length=j from hj2)
   clear hS2 ht hS3 hS4 hS4_ hS5 hcl hcc hfr hoki hH hget hl HS HO_ ev hcells hR p5 q5 hpos hlen hj2
   go_wp2_with ((with_reducible refine zan (f:=15) rfl ?_);refine gl_ (some 17) Tryz.func15 #[.slice Av l.length cv,.int .i64 a] ?_;(with_reducible refine(zbb.calls k oki (.slice Av l.length cv) l a t1 t2 w0 _ ?side1 ?side2 HT.out).mono ?_);(case side1=>repeat(first|(with_reducible first|exact HB.out|apply za5|apply zaw|apply zao)|exact HB.out));(case side2=>(with_reducible repeat(first|apply Kd.zbm|apply Kd.zbl|apply Kd.zbt));exact HR.out);rintro e w6 ⟨rfl,hy0,hb,hkp⟩;refine⟨_,rfl,?_⟩;have n0_:=am_ (zeu.back HH.out hkp hy0 HR.out.1);have n1_:=am_ (Kept.then_ HK.out hkp (fun k_ h_=>.inl (HN.out k_ h_).1));have n2_:=am_ hb;clear HB HK HO HH HR HN;have HO:=n0_;have HK:=n1_;have HB:=n2_;clear n0_ n1_ n2_ hy0 hb hkp)
   go_roundg k1
   case measure=>omega
   case rel=>exact⟨t1,j + 1,ld++[t2],by first|rfl|simp,by first|rfl|go_num,⟨(by omega),(by have:=HL.out;simp;omega)⟩,HS',⟨(by have h_:=HO.out;rw [←HL.out,zeu.mid,HL.out] at h_;exact h_)⟩,HK,HB⟩
end Go.Proofs.YtgookagndlfehaaGreat.PT
end
section
/- Rows of rows of the call's own as one part of memory; a row or an element appended. -/
namespace Go.Proofs.YtgookagndlfehaaGreat.PT
open Go Go.RowKit Go.Proofs.YtgookagndlfehaaGreatW.PrintWords Go.Proofs.YtgookagndlfehaaGreatW.PrintLast Go.Proofs.YtgookagndlfehaaGreatW.PrintMore
set_option linter.unusedVariables false
set_option linter.unusedSimpArgs false
def rowS {α:Type} (d:Kd α) (e base:Nat) (v:Value) (xs:List α) (S:Nat→Prop):Grp:=⟨S,fun w=>Kd.S d e w base S v xs⟩
namespace Inv
variable {w0 w w1:World} {P:Nat→Prop} {L:List Grp} {F:World→Prop} {α β:Type}
theorem merge {a b:Grp} (h:Inv w0 P w (a::b::L) F):Inv w0 P w (⟨fun k=>a.S k∨b.S k,fun w=>a.A w∧b.A w⟩::L) F:=by
 have ha:a∈a::b::L:=List.mem_cons_self
 have hb:b∈a::b::L:=List.mem_cons_of_mem _ List.mem_cons_self
 have hc:∀ c,c∈L→c∈a::b::L:=fun c h=>List.mem_cons_of_mem _ (List.mem_cons_of_mem _ h)
 have hp:=List.pairwise_cons.1 h.dis
 have hq:=List.pairwise_cons.1 hp.2
 refine⟨h.agr,fun c m k hk=>?_,fun c m k hk=>?_,fun c m w' hw=>?_,List.Pairwise.cons (fun c m k hk=>?_) hq.2,fun w' hw=>h.facts w' (hw.mono (fun k ⟨c,m,hk⟩=>?_))⟩
 ·
  rcases List.mem_cons.1 m with rfl|m
  ·
   exact hk.elim (h.lt a ha k) (h.lt b hb k)
  ·
   exact h.lt c (hc c m) k hk
 ·
  rcases List.mem_cons.1 m with rfl|m
  ·
   exact hk.elim (h.new a ha k) (h.new b hb k)
  ·
   exact h.new c (hc c m) k hk
 ·
  rcases List.mem_cons.1 m with rfl|m
  ·
   exact⟨h.own a ha w' (fun k hk=>hw k (.inl hk)),h.own b hb w' (fun k hk=>hw k (.inr hk))⟩
  ·
   exact h.own c (hc c m) w' hw
 ·
  exact hk.elim (hp.1 c (List.mem_cons_of_mem _ m) k) (hq.1 c m k)
 ·
  rcases List.mem_cons.1 m with rfl|m
  ·
   exact hk.elim (fun hk=>⟨a,ha,hk⟩) (fun hk=>⟨b,hb,hk⟩)
  ·
   exact⟨c,hc c m,hk⟩
theorem rowS0 {d:Kd α} {e b:Nat} {v:Value} {xs:List α} {S:Nat→Prop} (h:Inv w0 P w (rowS d e b v xs S::L) F):Kd.S d e w b S v xs:=h.get 0 rfl
theorem zfj {d:Kd α} {e:Nat} {v:Value} {xs:List α} {ok:Nat→Prop} (h:Inv w0 P w L F) (hb:Below w.heap.size w w1) (hR:Kd.S d e w1 w.heap.size ok v xs) :
  Inv w0 P w1 (rowS d e w0.heap.size v xs (fun k=>w.heap.size≤k∧k<w1.heap.size)::L) F:=by
 have hR2:Kd.S d e w1 w0.heap.size (fun k=>w.heap.size≤k∧k<w1.heap.size) v xs:=Kd.zhl (Kd.ze3 (Kd.zja hR) (fun k hk=>⟨hk.2.1,hk.2.2.1⟩)) h.agr.size
 exact h.push hb _ (fun k hk=>hk) (fun w' hw=>Kd.zlm hR2 (fun k hk _=>hw k hk))
theorem znw {d:Kd α} {e:Nat} {v:Value} {xs:List α} {ok:Nat→Prop} (h:Inv w0 P w L F) (hb:Below w.heap.size w w1) (hR:Kd.S d e w1 w.heap.size ok v xs) :
  ∃ A c,v=.slice A xs.length c∧xs.length≤c∧Inv w0 P w1 L (fun w=>d.C w A xs.length xs∧F w):=h.zp2 hb (Kd.S_R hR)
theorem bound0 {S S':Nat→Prop} {A:World→Prop} (h:Inv w0 P w (⟨S,A⟩::L) F):∀ k,S k→k<w.heap.size:=h.lt _ List.mem_cons_self
end Inv
section
variable {w0 W:World} {P:Nat→Prop} {L:List Grp} {F:World→Prop} {β:Type} {kk:Kd β} {e ee base b c:Nat} {v vr:Value} {xs:List (List β)} {r:List β} {S Sr:Nat→Prop}
theorem zkt {d:Kd β} (w:World) (b:Nat) (p:β) (c:List Value) (hl:c.length=d.sz) (hc:∀ i u,c[i]?=some u→w.cell? ⟨b,i,none⟩=some u) (R:β→List Value→Prop) (hR:R p c):zdx R d.sz w (some ⟨b,0,none⟩) 1 [p]:=by
 refine⟨rfl,by decide,fun _=>⟨_,rfl,fun j q hj=>?_⟩⟩
 rcases j with _|j
 ·
  obtain rfl:p=q:=by simpa using hj
  exact⟨c,hl,hR,fun i u hu=>by have h:=hc i u hu;rcases i with _|i <;> simpa [Addr.add] using h⟩
 ·
  simp at hj
theorem zn0 (h:Inv w0 P W (rowS (Kd.slice ee kk) e base v xs S::row kk ee base vr r Sr::L) F) {f:Nat→Nat} {v1:Value} {w1:World} (hR:(Kd.tag f (Kd.slice ee kk)).R e w1 base (fun k=>S k∨Sr k∨W.heap.size≤k) v1 (xs.zipIdx++[(r,xs.length)])) (hg:W.grownBy w1 v.ownBlock) :
  Inv w0 P w1 (rowS (Kd.slice ee kk) e base v1 (xs++[r]) (fun k=>(S k∨Sr k∨W.heap.size≤k)∧k<w1.heap.size)::L) F:=by
 rw [←Kd.zlf] at hR
 have hS:Kd.S (Kd.slice ee kk) e w1 base (fun k=>(S k∨Sr k∨W.heap.size≤k)∧k<w1.heap.size) v1 (xs++[r]):=Kd.ze3 (Kd.zja ⟨f,hR⟩) (fun k hk=>⟨hk.1,hk.2.2.1⟩)
 exact h.merge.step ((Agr.zfo hg).mono (fun k hk=>.inl ((Kd.S_R h.rowS0).1 k hk.symm))) _ (fun k hk=>⟨hk.1.elim (fun h=>.inl (.inl h)) (fun h=>h.elim (fun h=>.inl (.inr h)) .inr),hk.2⟩) (fun w' hw=>Kd.zlm hS (fun k hk _=>hw k hk))
theorem zme (h:Inv w0 P W (rowS (Kd.slice ee kk) e base v xs S::row kk ee base vr r Sr::L) F):∃ f:Nat→Nat,(Kd.tag f (Kd.slice ee kk)).R e W base (fun k=>S k∨Sr k∨W.heap.size≤k) v xs.zipIdx∧(∀ x cs,x=(r,xs.length)∧cs=[vr]→(Kd.tag f (Kd.slice ee kk)).M W base Sr x cs)∧∀ k,Sr k→(S k∨Sr k∨W.heap.size≤k)∧some k≠v.ownBlock:=by
 have hd:=(List.pairwise_cons.1 h.dis).1 _ List.mem_cons_self
 obtain⟨f,hf,hR⟩:=Kd.S_tag h.rowS0 xs.length Sr (fun k hk h2=>hd k h2 hk)
 refine⟨f,Kd.zba hR (fun _ hk=>.inl hk),?_,fun k hk=>⟨.inr (.inl hk),fun e2=>hd k (hR.1 k e2.symm) hk⟩⟩
 rintro x cs ⟨rfl,rfl⟩
 exact Kd.M_row (Kd.zba (show kk.R ee W base Sr vr r from h.get 1 rfl) (fun k hk=>⟨hk,hf k hk⟩))
end
theorem Inv.zqa {w0 W:World} {P:Nat→Prop} {L:List Grp} {F:World→Prop} {Pg:Program} {ops:Array Oper} {o:Oper} {a:Act} {Q:Exit→Act→World→Prop} {Kc:Act→World→Prop} {β:Type} {kk:Kd β} {e ee base:Nat} {v vr:Value} {xs:List (List β)} {r:List β} {S Sr:Nat→Prop} (h:Inv w0 P W (rowS (Kd.slice ee kk) e base v xs S::row kk ee base vr r Sr::L) F) (hw:Region.wanted o (yielded ops a.tmps)=true) (s x:Operand) (t:TypeId) (bytes b c:Nat)
  (ho:o.op=.call { callee:=.builtin .append,args:=#[s,x],argTypes:=#[t,t] }) (ht:Pg.underlying t=some (.slice e)) (hinfo:(Pg.info? e).map (fun i=>(i.zero,i.size,i.bytes))=some (some (.slice none 0 0),1,bytes)) (hb0:0<bytes)
  (hs:a.eval s=v) (hx:a.eval x=.slice (some ⟨b,0,none⟩) 1 c) (hlit:W.cell? ⟨b,0,none⟩=some vr) (hbase:base≤W.heap.size) (hl:(xs.length + 1) * bytes≤140737488355328)
  (hk:∀ v1 w1,Inv w0 P w1 (rowS (Kd.slice ee kk) e base v1 (xs++[r]) (fun k=>(S k∨Sr k∨W.heap.size≤k)∧k<w1.heap.size)::L) F→Kc (a.put o.dst v1) w1):if Region.wanted o (yielded ops a.tmps)=true then Oper.wp Pg o a W Kc Q else Kc (a.put o.dst undef) W:=by
 obtain⟨f,hR,hM,hSr⟩:=zme h
 refine Kd.zeo (Kd.tag f (Kd.slice ee kk)) (w0:=W) base hw s x t e (.slice none 0 0) bytes ho ht hinfo rfl (show 0<1 from Nat.one_pos) hb0 v xs.zipIdx [(r,xs.length)] (some ⟨b,0,none⟩) 1 c _ Sr hs hx hR (zkt (d:=Kd.tag f (Kd.slice ee kk)) W b _ [vr] rfl (fun i u hu=>?_) (fun x cs=>x=(r,xs.length)∧cs=[vr]) ⟨rfl,rfl⟩) hM hSr (fun k hk=>.inr (.inr hk)) ⟨rfl,rfl,rfl,Nat.le_refl _,fun _ _=>rfl⟩ hbase (by rw [List.length_zipIdx];exact hl) (fun v1 w1 hR2 _ hg _=>hk v1 w1 (zn0 h hR2 hg))
 rcases i with _|i
 ·
  obtain rfl:vr=u:=by simpa using hu
  exact hlit
 ·
  simp at hu
theorem Inv.zpl {w0 W:World} {P:Nat→Prop} {L:List Grp} {F:World→Prop} {Pg:Program} {ops:Array Oper} {o:Oper} {a:Act} {Q:Exit→Act→World→Prop} {Kc:Act→World→Prop} {α:Type} {d:Kd α} {e base:Nat} {v:Value} {xs:List α} {S:Nat→Prop} (h:Inv w0 P W (row d e base v xs S::L) F) (hw:Region.wanted o (yielded ops a.tmps)=true) (s x:Operand) (t:TypeId) (z:Value) (bytes b c:Nat)
  (ho:o.op=.call { callee:=.builtin .append,args:=#[s,x],argTypes:=#[t,t] }) (ht:Pg.underlying t=some (.slice e)) (hinfo:(Pg.info? e).map (fun i=>(i.zero,i.size,i.bytes))=some (some z,d.sz,bytes)) (hz:z.cells.size=d.sz) (hs0:0<d.sz) (hb0:0<bytes)
  (p:α) (cs:List Value) (hs:a.eval s=v) (hx:a.eval x=.slice (some ⟨b,0,none⟩) 1 c) (hlen:cs.length=d.sz) (hlit:∀ i u,cs[i]?=some u→W.cell? ⟨b,i,none⟩=some u) (hp:d.M W base (fun _=>False) p cs) (hbase:base≤W.heap.size) (hl:(xs.length + 1) * bytes≤140737488355328)
  (hk:∀ v1 w1,Inv w0 P w1 (row d e base v1 (xs++[p]) (fun k=>(S k∨W.heap.size≤k)∧k<w1.heap.size)::L) F→Kc (a.put o.dst v1) w1):if Region.wanted o (yielded ops a.tmps)=true then Oper.wp Pg o a W Kc Q else Kc (a.put o.dst undef) W:=
 Kd.zeo d (w0:=W) base hw s x t e z bytes ho ht hinfo hz hs0 hb0 v xs [p] (some ⟨b,0,none⟩) 1 c (fun k=>S k∨W.heap.size≤k) (fun _=>False) hs hx h.row0W (zkt W b p cs hlen hlit (fun x c=>x=p∧c=cs) ⟨rfl,rfl⟩) (fun _ _ e2=>by obtain⟨rfl,rfl⟩:=e2;exact hp) (fun _ hk=>hk.elim) (fun k hk=>.inr hk) ⟨rfl,rfl,rfl,Nat.le_refl _,fun _ _=>rfl⟩ hbase hl
  (fun v1 w1 hR2 hb hg _=>hk v1 w1 (h.zkd hb hR2 (fun _ hk _=>hk) hg))
theorem Inv.appS {w0 W:World} {P:Nat→Prop} {L:List Grp} {F:World→Prop} {Pg:Program} {ops:Array Oper} {rest:List Oper} {o:Oper} {a:Act} {Q:Exit→Act→World→Prop} {β:Type} {kk:Kd β} {e ee base:Nat} {v vr:Value} {xs:List (List β)} {r:List β} {S Sr:Nat→Prop} (h:Inv w0 P W (rowS (Kd.slice ee kk) e base v xs S::row kk ee base vr r Sr::L) F) (hgd:o.guard=none) (s x:Operand) (t:TypeId) (bytes b c:Nat)
  (ho:o.op=.call { callee:=.builtin .append,args:=#[s,x],argTypes:=#[t,t] }) (ht:Pg.underlying t=some (.slice e)) (hinfo:(Pg.info? e).map (fun i=>(i.zero,i.size,i.bytes))=some (some (.slice none 0 0),1,bytes)) (hb0:0<bytes)
  (hs:a.eval s=v) (hx:a.eval x=.slice (some ⟨b,0,none⟩) 1 c) (hlit:W.cell? ⟨b,0,none⟩=some vr) (hbase:base≤W.heap.size) (hl:(xs.length + 1) * bytes≤140737488355328)
  (hk:∀ v1 w1,Inv w0 P w1 (rowS (Kd.slice ee kk) e base v1 (xs++[r]) (fun k=>(S k∨Sr k∨W.heap.size≤k)∧k<w1.heap.size)::L) F→wpList Pg ops Q rest (a.put o.dst v1) w1):wpList Pg ops Q (o::rest) a W:=by
 obtain⟨f,hR,hM,hSr⟩:=zme h
 refine Kd.ze0 (Kd.tag f (Kd.slice ee kk)) (w0:=W) base hgd s x t e (.slice none 0 0) bytes ho ht hinfo rfl (show 0<1 from Nat.one_pos) hb0 v xs.zipIdx [(r,xs.length)] (some ⟨b,0,none⟩) 1 c _ Sr hs hx hR (zkt (d:=Kd.tag f (Kd.slice ee kk)) W b _ [vr] rfl (fun i u hu=>?_) (fun x cs=>x=(r,xs.length)∧cs=[vr]) ⟨rfl,rfl⟩) hM hSr (fun k hk=>.inr (.inr hk)) ⟨rfl,rfl,rfl,Nat.le_refl _,fun _ _=>rfl⟩ hbase (by rw [List.length_zipIdx];exact hl) (fun v1 w1 hR2 _ hg _=>hk v1 w1 (zn0 h hR2 hg))
 rcases i with _|i
 ·
  obtain rfl:vr=u:=by simpa using hu
  exact hlit
 ·
  simp at hu
theorem Inv.appE {w0 W:World} {P:Nat→Prop} {L:List Grp} {F:World→Prop} {Pg:Program} {ops:Array Oper} {rest:List Oper} {o:Oper} {a:Act} {Q:Exit→Act→World→Prop} {α:Type} {d:Kd α} {e base:Nat} {v:Value} {xs:List α} {S:Nat→Prop} (h:Inv w0 P W (row d e base v xs S::L) F) (hgd:o.guard=none) (s x:Operand) (t:TypeId) (z:Value) (bytes b c:Nat)
  (ho:o.op=.call { callee:=.builtin .append,args:=#[s,x],argTypes:=#[t,t] }) (ht:Pg.underlying t=some (.slice e)) (hinfo:(Pg.info? e).map (fun i=>(i.zero,i.size,i.bytes))=some (some z,d.sz,bytes)) (hz:z.cells.size=d.sz) (hs0:0<d.sz) (hb0:0<bytes)
  (p:α) (cs:List Value) (hs:a.eval s=v) (hx:a.eval x=.slice (some ⟨b,0,none⟩) 1 c) (hlen:cs.length=d.sz) (hlit:∀ i u,cs[i]?=some u→W.cell? ⟨b,i,none⟩=some u) (hp:d.M W base (fun _=>False) p cs) (hbase:base≤W.heap.size) (hl:(xs.length + 1) * bytes≤140737488355328)
  (hk:∀ v1 w1,Inv w0 P w1 (row d e base v1 (xs++[p]) (fun k=>(S k∨W.heap.size≤k)∧k<w1.heap.size)::L) F→wpList Pg ops Q rest (a.put o.dst v1) w1):wpList Pg ops Q (o::rest) a W:=
 Kd.ze0 d (w0:=W) base hgd s x t e z bytes ho ht hinfo hz hs0 hb0 v xs [p] (some ⟨b,0,none⟩) 1 c (fun k=>S k∨W.heap.size≤k) (fun _=>False) hs hx h.row0W (zkt W b p cs hlen hlit (fun x c=>x=p∧c=cs) ⟨rfl,rfl⟩) (fun _ _ e2=>by obtain⟨rfl,rfl⟩:=e2;exact hp) (fun _ hk=>hk.elim) (fun k hk=>.inr hk) ⟨rfl,rfl,rfl,Nat.le_refl _,fun _ _=>rfl⟩ hbase hl
  (fun v1 w1 hR2 hb hg _=>hk v1 w1 (h.zkd hb hR2 (fun _ hk _=>hk) hg))
theorem Inv.newAt {w0 w:World} {P:Nat→Prop} {F:World→Prop} {L:List Grp} (h:Inv w0 P w L F) (i:Nat) {b:Grp} (hi:L[i]?=some b):∀ k,b.S k→w0.heap.size≤k∨P k:=fun k hk=>h.new b (List.mem_of_getElem? hi) k hk
theorem Inv.front {w0 w:World} {P:Nat→Prop} {F:World→Prop} {L:List Grp} (h:Inv w0 P w L F) (i:Nat) {b:Grp} (hi:L[i]?=some b):Inv w0 P w (b::L.eraseIdx i) F:=by
 exact h.perm (zgc L i b hi)
theorem Inv.startR {α:Type} {d:Kd α} {e b:Nat} {w:World} {v:Value} {xs:List α} {ok:Nat→Prop} (hE:d.E=[]) (ho:d.R e w b ok v xs) (F:World→Prop) (hF:∀ w',Agr w w' (fun k=>some k=v.ownBlock)→F w') :
  Inv w (fun k=>some k=v.ownBlock) w [row d e b v xs (fun k=>some k=v.ownBlock)] F:=
 ⟨Agr.refl _ _,fun c hc k hk=>(by obtain rfl:=List.mem_singleton.1 hc;exact Kd.R_lt ho k hk.symm),fun c hc k hk=>(by obtain rfl:=List.mem_singleton.1 hc;exact .inr hk),
  fun c hc w' hw=>(by obtain rfl:=List.mem_singleton.1 hc;exact Kd.zfb (Kd.zem hE ho) (fun k hk _=>hw k hk)),List.pairwise_singleton _ _,fun w' hw=>hF w' (hw.mono (fun k hk=>by obtain⟨c,hc,hk2⟩:=hk;obtain rfl:=List.mem_singleton.1 hc;exact hk2))⟩
theorem Inv.keptP {α:Type} {d:Kd α} {e b:Nat} {w0 wb w w1:World} {P:Nat→Prop} {F:World→Prop} {L:List Grp} {v v1:Value} {xs ys:List α} {S ok:Nat→Prop} (h:Inv w0 P w (row d e b v xs S::L) F) (hb:Below wb.heap.size wb w) (hb':Below wb.heap.size wb w1) (hk:Kept w w1 S) (hR:d.R e w1 b ok v1 ys) (hok:∀ k,ok k→S k∨w.heap.size≤k) :
  Inv w0 P w1 (row d e b v1 ys (fun k=>(S k∨w.heap.size≤k)∧k<w1.heap.size)::L) F:=by
 have hR2:d.R e w1 b (fun k=>(S k∨w.heap.size≤k)∧k<w1.heap.size) v1 ys:=Kd.zba (Kd.zei hR) (fun k hk=>⟨hok k hk.1,hk.2.2.1⟩)
 exact h.step ⟨hb'.os.trans hb.os.symm,hb'.tape.trans hb.tape.symm,hb'.output.trans hb.output.symm,hk.1,fun k hlt hn=>hk.2 k hlt hn⟩ _ (fun k hk=>hk) (fun w' hw=>Kd.zfb hR2 (fun k hk _=>hw k hk))
theorem Inv.factsKept {α:Type} {d:Kd α} {e b:Nat} {w0 w W:World} {P:Nat→Prop} {F:World→Prop} {L:List Grp} {v:Value} {xs:List α} {S:Nat→Prop} (h:Inv w0 P w (row d e b v xs S::L) F) (hk:Kept w W S):F { w with heap:=W.heap }:=
 h.facts _ ⟨rfl,rfl,rfl,hk.1,fun k hlt hn=>hk.2 k hlt (fun hs=>hn ⟨_,List.mem_cons_self,hs⟩)⟩
theorem Inv.zgr {w0 wb w:World} {P:Nat→Prop} {F:World→Prop} {L:List Grp} (h:Inv w0 P w L F) (hb:Below wb.heap.size wb w0) (hP:∀ k,P k→wb.heap.size≤k):Below wb.heap.size wb w:=h.agr.onto hb hP
theorem Inv.two {w0 w w1:World} {P:Nat→Prop} {F:World→Prop} {L:List Grp} {a b c:Grp} (h:Inv w0 P w (c::L) F) (hA:Agr w w1 c.S) (ha:∀ k,a.S k→(c.S k∨w.heap.size≤k)∧k<w1.heap.size) (hb:∀ k,b.S k→(c.S k∨w.heap.size≤k)∧k<w1.heap.size) (hab:∀ k,a.S k→¬b.S k)
  (hao:∀ w',(∀ k,a.S k→w'.heap[k]?=w1.heap[k]?)→a.A w') (hbo:∀ w',(∀ k,b.S k→w'.heap[k]?=w1.heap[k]?)→b.A w'):Inv w0 P w1 (a::b::L) F:=by
 have h1:=h.step hA ⟨fun k=>a.S k∨b.S k,fun _=>True⟩ (fun k hk=>hk.elim (ha k) (hb k)) (fun _ _=>trivial)
 have hd:=List.pairwise_cons.1 h1.dis
 refine⟨h1.agr,fun x hx k hk=>?_,fun x hx k hk=>?_,fun x hx w' hw=>?_,List.Pairwise.cons (fun x hx k hk hk2=>?_) (List.Pairwise.cons (fun x hx k hk hk2=>hd.1 x hx k (.inr hk) hk2) hd.2),fun w' hw=>h1.facts w' (hw.mono ?_)⟩
 ·
  rcases List.mem_cons.1 hx with rfl|hx
  ·
   exact h1.lt _ List.mem_cons_self k (.inl hk)
  ·
   rcases List.mem_cons.1 hx with rfl|hx
   ·
    exact h1.lt _ List.mem_cons_self k (.inr hk)
   ·
    exact h1.lt x (List.mem_cons_of_mem _ hx) k hk
 ·
  rcases List.mem_cons.1 hx with rfl|hx
  ·
   exact h1.new _ List.mem_cons_self k (.inl hk)
  ·
   rcases List.mem_cons.1 hx with rfl|hx
   ·
    exact h1.new _ List.mem_cons_self k (.inr hk)
   ·
    exact h1.new x (List.mem_cons_of_mem _ hx) k hk
 ·
  rcases List.mem_cons.1 hx with rfl|hx
  ·
   exact hao w' hw
  ·
   rcases List.mem_cons.1 hx with rfl|hx
   ·
    exact hbo w' hw
   ·
    exact h1.own x (List.mem_cons_of_mem _ hx) w' hw
 ·
  rcases List.mem_cons.1 hx with rfl|hx
  ·
   exact hab k hk hk2
  ·
   exact hd.1 x hx k (.inl hk) hk2
 ·
  rintro k ⟨x,hx,hk⟩
  rcases List.mem_cons.1 hx with rfl|hx
  ·
   exact⟨_,List.mem_cons_self,.inl hk⟩
  ·
   rcases List.mem_cons.1 hx with rfl|hx
   ·
    exact⟨_,List.mem_cons_self,.inr hk⟩
   ·
    exact⟨x,List.mem_cons_of_mem _ hx,hk⟩
theorem Inv.keptTwo {α β:Type} {d:Kd α} {d2:Kd β} {e e2 b b2 b3:Nat} {w0 w w1:World} {P:Nat→Prop} {F:World→Prop} {L:List Grp} {c:Grp} {vp v1:Value} {ps:List β} {ys:List α} {okp oks:Nat→Prop} (hE:d.E=[]) (hE2:d2.E=[]) (h:Inv w0 P w (c::L) F) (hA:Agr w w1 c.S)
  (hRp:d2.R e2 w1 b2 okp vp ps) (hb2:w.heap.size≤b2) (hb3:b3≤b2) (hRs:d.R e w1 b oks v1 ys) (hoks:∀ k,oks k→c.S k∨w.heap.size≤k) (hne:∀ k,oks k→some k≠vp.ownBlock) :
  Inv w0 P w1 (row d2 e2 b3 vp ps (fun k=>some k=vp.ownBlock)::row d e b v1 ys (fun k=>some k=v1.ownBlock)::L) F:=
 h.two hA (fun k hk=>⟨.inr (Nat.le_trans hb2 (Kd.zf8 hRp k hk.symm)),Kd.R_lt hRp k hk.symm⟩) (fun k hk=>⟨hoks k (hRs.1 k hk.symm),Kd.R_lt hRs k hk.symm⟩) (fun k hk hk2=>hne k (hRs.1 k hk2.symm) hk)
  (fun w' hw=>Kd.zfb (Kd.zcw (Kd.zem hE2 hRp) hb3) (fun k hk _=>hw k hk)) (fun w' hw=>Kd.zfb (Kd.zem hE hRs) (fun k hk _=>hw k hk))
theorem Inv.ownKeep0 {w0 w w':World} {P:Nat→Prop} {F:World→Prop} {L:List Grp} {g:Nat} {t:TypeId} {cs:Array Value} (h:Inv w0 P w (blk g t cs::L) F) (hk:zbn w w' g none) (b:Grp) (hb:b∈L):b.A w':=
 h.own b (List.mem_cons_of_mem _ hb) w' (fun k hk2=>hk.2 k (h.lt b (List.mem_cons_of_mem _ hb) k hk2) (fun e=>(List.pairwise_cons.1 h.dis).1 b hb k e hk2) (by simp))
theorem rowR {α:Type} {d:Kd α} {e b:Nat} {v:Value} {xs:List α} {S:Nat→Prop} {W:World} (h:(row d e b v xs S).A W):d.R e W b S v xs:=h
theorem rowC {α:Type} {d:Kd α} {e b n c:Nat} {A:Option Addr} {xs:List α} {S:Nat→Prop} {W:World} (h:(row d e b (.slice A n c) xs S).A W):n=xs.length∧n≤c∧d.C W A xs.length xs:=Kd.R_reads' h
theorem gifA {c:Bool} {g:Grp} {W:World} (h:(gif c g).A W) (hc:c=true):g.A W:=h hc
theorem Inv.manyNew {w0 w w1:World} {P:Nat→Prop} {F:World→Prop} {L:List Grp} {c:Grp} (h:Inv w0 P w (c::L) F) (hA:Agr w w1 c.S) (Ls:List Grp) (hS:∀ b,b∈Ls→∀ k,b.S k→(c.S k∨w.heap.size≤k)∧k<w1.heap.size)
  (hown:∀ b,b∈Ls→∀ w',(∀ k,b.S k→w'.heap[k]?=w1.heap[k]?)→b.A w') (hdis:Ls.Pairwise (fun a b=>∀ k,a.S k→¬b.S k)):Inv w0 P w1 (Ls++L) F:=by
 have h1:=h.step hA ⟨fun k=>∃ b,b∈Ls∧b.S k,fun _=>True⟩ (fun k ⟨b,hb,hk⟩=>hS b hb k hk) (fun _ _=>trivial)
 have hd:=List.pairwise_cons.1 h1.dis
 refine⟨h1.agr,fun x hx k hk=>?_,fun x hx k hk=>?_,fun x hx w' hw=>?_,List.pairwise_append.2 ⟨hdis,hd.2,fun a ha b hb k hk hk2=>hd.1 b hb k ⟨a,ha,hk⟩ hk2⟩,fun w' hw=>h1.facts w' (hw.mono (fun k ⟨x,hx,hk⟩=>?_))⟩
 ·
  exact(List.mem_append.1 hx).elim (fun hx=>h1.lt _ List.mem_cons_self k ⟨x,hx,hk⟩) (fun hx=>h1.lt x (List.mem_cons_of_mem _ hx) k hk)
 ·
  exact(List.mem_append.1 hx).elim (fun hx=>h1.new _ List.mem_cons_self k ⟨x,hx,hk⟩) (fun hx=>h1.new x (List.mem_cons_of_mem _ hx) k hk)
 ·
  exact(List.mem_append.1 hx).elim (fun hx=>hown x hx w' hw) (fun hx=>h1.own x (List.mem_cons_of_mem _ hx) w' hw)
 ·
  exact(List.mem_append.1 hx).elim (fun hx=>⟨_,List.mem_cons_self,x,hx,hk⟩) (fun hx=>⟨x,List.mem_cons_of_mem _ hx,hk⟩)
theorem Inv.zi5 {α β:Type} {d:Kd α} {d1:Kd β} {e e1:Nat} {w0 w w1:World} {P:Nat→Prop} {F:World→Prop} {L:List Grp} {c b3:Grp} {v0 v1 v2:Value} {xs:List α} {ys zs:List β} {ok0 ok1 ok2:Nat→Prop} (hE:d1.E=[]) (h:Inv w0 P w (c::L) F) (hA:Agr w w1 c.S)
  (hS0:Kd.S d e w1 w.heap.size ok0 v0 xs) (h0:∀ k,ok0 k→some k≠v1.ownBlock∧some k≠v2.ownBlock) (hR1:d1.R e1 w1 w.heap.size ok1 v1 ys) (h1:∀ k,ok1 k→some k≠v2.ownBlock) (hR2:d1.R e1 w1 w.heap.size ok2 v2 zs)
  (h3:∀ k,b3.S k→(c.S k∨w.heap.size≤k)∧k<w1.heap.size) (h3o:∀ w',(∀ k,b3.S k→w'.heap[k]?=w1.heap[k]?)→b3.A w') (h3d:∀ k,b3.S k→w.heap.size≤k→¬ok0 k∧some k≠v1.ownBlock∧some k≠v2.ownBlock) :
  Inv w0 P w1 (rowS d e w0.heap.size v0 xs (fun k=>ok0 k∧w.heap.size≤k∧k<w1.heap.size)::row d1 e1 w0.heap.size v1 ys (fun k=>some k=v1.ownBlock)::row d1 e1 w0.heap.size v2 zs (fun k=>some k=v2.ownBlock)::b3::L) F:=by
 have b1:∀ k,some k=v1.ownBlock→w.heap.size≤k:=fun k hk=>Kd.zf8 hR1 k hk.symm
 have b2:∀ k,some k=v2.ownBlock→w.heap.size≤k:=fun k hk=>Kd.zf8 hR2 k hk.symm
 have hS0':Kd.S d e w1 w0.heap.size (fun k=>ok0 k∧w.heap.size≤k∧k<w1.heap.size) v0 xs:=Kd.zhl (Kd.ze3 (Kd.zja hS0) (fun k hk=>⟨hk.1,hk.2.1,hk.2.2.1⟩)) h.agr.size
 have q1:=Kd.zcw (Kd.zem hE hR1) h.agr.size
 have q2:=Kd.zcw (Kd.zem hE hR2) h.agr.size
 refine h.manyNew hA [rowS d e w0.heap.size v0 xs (fun k=>ok0 k∧w.heap.size≤k∧k<w1.heap.size),row d1 e1 w0.heap.size v1 ys (fun k=>some k=v1.ownBlock),row d1 e1 w0.heap.size v2 zs (fun k=>some k=v2.ownBlock),b3] ?_ ?_ ?_
 ·
  intro b hb k hk
  simp only [List.mem_cons,List.not_mem_nil,or_false] at hb
  rcases hb with rfl|rfl|rfl|rfl
  ·
   exact⟨.inr hk.2.1,hk.2.2⟩
  ·
   exact⟨.inr (b1 k hk),Kd.R_lt hR1 k hk.symm⟩
  ·
   exact⟨.inr (b2 k hk),Kd.R_lt hR2 k hk.symm⟩
  ·
   exact h3 k hk
 ·
  intro b hb w' hw
  simp only [List.mem_cons,List.not_mem_nil,or_false] at hb
  rcases hb with rfl|rfl|rfl|rfl
  ·
   exact Kd.zlm hS0' (fun k hk _=>hw k hk)
  ·
   exact Kd.zfb q1 (fun k hk _=>hw k hk)
  ·
   exact Kd.zfb q2 (fun k hk _=>hw k hk)
  ·
   exact h3o w' hw
 ·
  have d3:∀ k,b3.S k→¬(ok0 k∧w.heap.size≤k)∧some k≠v1.ownBlock∧some k≠v2.ownBlock:=fun k hk=>by
   rcases Nat.lt_or_ge k w.heap.size with hl|hl
   ·
    exact⟨fun e=>absurd hl (Nat.not_lt.2 e.2),fun e=>absurd hl (Nat.not_lt.2 (b1 k e)),fun e=>absurd hl (Nat.not_lt.2 (b2 k e))⟩
   ·
    exact⟨fun e=>(h3d k hk hl).1 e.1,(h3d k hk hl).2⟩
  refine List.Pairwise.cons (fun b hb k hk hk2=>?_) (List.Pairwise.cons (fun b hb k hk hk2=>?_) (List.Pairwise.cons (fun b hb k hk hk2=>?_) (List.pairwise_singleton _ _)))
  ·
   simp only [List.mem_cons,List.not_mem_nil,or_false] at hb
   rcases hb with rfl|rfl|rfl
   ·
    exact(h0 k hk.1).1 hk2
   ·
    exact(h0 k hk.1).2 hk2
   ·
    exact(d3 k hk2).1 ⟨hk.1,hk.2.1⟩
  ·
   simp only [List.mem_cons,List.not_mem_nil,or_false] at hb
   rcases hb with rfl|rfl
   ·
    exact h1 k (hR1.1 k hk.symm) hk2
   ·
    exact(d3 k hk2).2.1 hk
  ·
   obtain rfl:=List.mem_singleton.1 hb
   exact(d3 k hk2).2.2 hk
end Go.Proofs.YtgookagndlfehaaGreat.PT
end
/- A slice's address and room as one number: so a state's word can say that its slice stays where it is. -/
namespace Go.Proofs.YtgookagndlfehaaGreat.PT
def encL:List Nat→Nat
 | []=>0
 | x::r=>2 ^ x * (2 * encL r + 1)
theorem pow_odd {a b c d:Nat} (h:2 ^ a * (2 * b + 1)=2 ^ c * (2 * d + 1)):a=c∧b=d:=by
 induction a generalizing c with
 | zero=>
  cases c with
  | zero=>simp only [Nat.pow_zero,Nat.one_mul] at h;exact⟨rfl,(by omega)⟩
  | succ c=>rw [Nat.pow_succ,Nat.mul_assoc,Nat.mul_left_comm,Nat.pow_zero,Nat.one_mul] at h;omega
 | succ a ih=>
  cases c with
  | zero=>rw [Nat.pow_succ,Nat.mul_assoc,Nat.mul_left_comm,Nat.pow_zero,Nat.one_mul] at h;omega
  | succ c=>
   have h2:2 ^ a * (2 * b + 1)=2 ^ c * (2 * d + 1):=by
    rw [Nat.pow_succ,Nat.pow_succ,Nat.mul_assoc,Nat.mul_assoc,Nat.mul_left_comm,Nat.mul_left_comm (2 ^ c)] at h
    omega
   obtain⟨e1,e2⟩:=ih h2
   exact⟨(by omega),e2⟩
theorem zn1:∀ {a b:List Nat},encL a=encL b→a=b
 | [],[],_=>rfl
 | [],y::s,h=>by
  have:0<2 ^ y * (2 * encL s + 1):=Nat.mul_pos (Nat.two_pow_pos _) (by omega)
  simp only [encL] at h
  omega
 | x::r,[],h=>by
  have:0<2 ^ x * (2 * encL r + 1):=Nat.mul_pos (Nat.two_pow_pos _) (by omega)
  simp only [encL] at h
  omega
 | x::r,y::s,h=>by
  obtain⟨e1,e2⟩:=pow_odd (show 2 ^ x * (2 * encL r + 1)=2 ^ y * (2 * encL s + 1) from h)
  rw [e1,zn1 e2]
def codeA (A:Option Addr) (c:Nat):Nat:=
 match A with
 | none=>encL [c]
 | some ⟨b,o,none⟩=>encL [c,b,o]
 | some ⟨b,o,some s⟩=>encL [c,b,o,s]
theorem zjo {A B:Option Addr} {c d:Nat} (h:codeA A c=codeA B d):A=B∧c=d:=by
 rcases A with _|⟨b,o,_|s⟩ <;> rcases B with _|⟨b',o',_|s'⟩ <;> simp only [codeA] at h <;> have h2:=zn1 h <;> simp_all
end Go.Proofs.YtgookagndlfehaaGreat.PT
section
/- Rows of rows that are read, what a state's function leaves, results of several forms. -/
namespace Go.Proofs.YtgookagndlfehaaGreat.PT
open Go Go.RowKit Go.Proofs.YtgookagndlfehaaGreatW.PrintWords Go.Proofs.YtgookagndlfehaaGreatW.PrintLast Go.Proofs.YtgookagndlfehaaGreatW.PrintMore
set_option linter.unusedVariables false
set_option linter.unusedSimpArgs false
theorem ziy {α:Type} {d:Kd α} {e:Nat} {w:World} {S:Nat→Prop} {A:Option Addr} {n:Nat} {xs:List (List α)} (h:∀ W',Agr w W' S→(Kd.slice e d).C W' A n xs) (i:Nat) (hi:i<n) :
  ∃ ad B c,A=some ad∧(xs.getD i []).length≤c∧∀ W',Agr w W' S→(W'.cell? (ad.add i)=some (.slice B (xs.getD i []).length c)∧d.C W' B (xs.getD i []).length (xs.getD i [])):=by
 have at_:∀ W',Agr w W' S→∃ ad B c,A=some ad∧W'.cell? (ad.add i)=some (.slice B (xs.getD i []).length c)∧(xs.getD i []).length≤c∧d.C W' B (xs.getD i []).length (xs.getD i []):=by
  intro W' hW
  obtain⟨ad,c,e,_,hK,hc0⟩:=Kd.C_get (h W' hW) ([]:List α) (i:Int) (by omega) (by omega)
  have hc:∀ j u,c[j]?=some u→W'.cell? (ad.add ((i:Int).toNat * 1 + j))=some u:=hc0
  rw [Int.toNat_natCast] at hc hK
  obtain⟨B,cc,rfl,hl,hC⟩:=hK
  exact⟨ad,B,cc,e,(by have:=hc 0 _ rfl;simpa using this),hl,hC⟩
 obtain⟨ad,B,c,rfl,hc,hl,hC⟩:=at_ w (Agr.refl _ _)
 have hS:¬S ad.block:=fun hs=>by
  obtain⟨ad',B',c',e1,hc',_⟩:=at_ { w with heap:=w.heap.setIfInBounds ad.block (.cells #[] 0 (0,0)) } ⟨rfl,rfl,rfl,by simp,fun k hk hn=>by
   have hne:ad.block≠k:=fun e=>hn (e ▸ hs)
   simp [Array.getElem?_setIfInBounds,hne]⟩
  injection e1 with e1
  subst e1
  have hlt:=World.block_lt_of_cell? w _ hc
  rw [add_block] at hlt
  simp [World.cell?,add_block,Array.getElem?_setIfInBounds,hlt] at hc'
 refine⟨ad,B,c,rfl,hl,fun W' hW=>?_⟩
 have hc2:=hW.cell hc (by rw [add_block];exact hS)
 obtain⟨ad',B',c',e1,hc',_,hC'⟩:=at_ W' hW
 injection e1 with e1
 subst e1
 rw [hc2] at hc'
 injection hc' with hc'
 injection hc' with e2 _ _
 subst e2
 exact⟨hc2,hC'⟩
namespace Inv
variable {w0 w w' wb:World} {P:Nat→Prop} {F:World→Prop} {L L':List Grp} {g:Nat} {t:TypeId} {cs cs':Array Value}
theorem addF (h:Inv w0 P w L F) (G:World→Prop) (hG:∀ w',Agr w w' (InL L)→G w'):Inv w0 P w L (fun W=>G W∧F W):=⟨h.agr,h.lt,h.new,h.own,h.dis,fun w' hw=>⟨hG w' hw,h.facts w' hw⟩⟩
theorem subL (h:Inv w0 P w L F) (hs:L'.Sublist L):Inv w0 P w L' F:=
 ⟨h.agr,fun b hb=>h.lt b (hs.subset hb),fun b hb=>h.new b (hs.subset hb),fun b hb=>h.own b (hs.subset hb),h.dis.sublist hs,fun w' hw=>h.facts w' (hw.mono (fun k ⟨b,hb,hk⟩=>⟨b,hs.subset hb,hk⟩))⟩
theorem keep0 (h:Inv w0 P w (blk g t cs::L) F) (hb:Below wb.heap.size wb w) (hb':Below wb.heap.size wb w') (hk:zbn w w' g none) (hblk:w'.heap[g]?=some (.cells cs' t (0,0))):Inv w0 P w' (blk g t cs'::L) F:=
 h.step (Agr.zk5 hk hb hb') (blk g t cs') (fun k hk2=>⟨.inl hk2,(by obtain rfl:k=g:=hk2;exact zar hblk)⟩) (fun w2 hw=>(hw g rfl).trans hblk)
theorem zof (h:Inv w0 P w (blk g t cs::L) F) (hk:zbn w w' g none):F { w with heap:=w'.heap }:=
 h.facts _ ⟨rfl,rfl,rfl,hk.1,fun k hlt hn=>hk.2 k hlt (fun e=>hn ⟨_,List.mem_cons_self,e⟩) (by simp)⟩
theorem keepRow0 {α:Type} {d:Kd α} {e:Nat} {v:Value} {xs:List α} {ok:Nat→Prop} (h:Inv w0 P w (blk g t cs::L) F) (hb:Below wb.heap.size wb w) (hb':Below wb.heap.size wb w') (hk:zbn w w' g none) (hblk:w'.heap[g]?=some (.cells cs' t (0,0))) (hR:d.R e w' w.heap.size ok v xs) :
  Inv w0 P w' (row d e w0.heap.size v xs (fun k=>w.heap.size≤k∧k<w'.heap.size)::blk g t cs'::L) F:=by
 have h1:=h.keep0 hb hb' hk hblk
 have hA:Agr w w' (fun k=>k=g):=Agr.zk5 hk hb hb'
 have hlt:∀ c,c∈blk g t cs'::L→∀ k,c.S k→k<w.heap.size:=fun c hc k hk2=>by
  rcases List.mem_cons.1 hc with rfl|hc
  ·
   exact h.lt (blk g t cs) List.mem_cons_self k hk2
  ·
   exact h.lt c (List.mem_cons_of_mem _ hc) k hk2
 have hR2:d.R e w' w0.heap.size (fun k=>w.heap.size≤k∧k<w'.heap.size) v xs:=Kd.zcw (Kd.zba (Kd.zei hR) (fun k hk=>⟨hk.2.1,hk.2.2.1⟩)) h.agr.size
 refine⟨h1.agr,fun c hc k hk2=>?_,fun c hc k hk2=>?_,fun c hc w2 hw=>?_,List.Pairwise.cons (fun c hc k hk2 hk3=>absurd (hlt c hc k hk3) (Nat.not_lt.2 hk2.1)) h1.dis,fun w2 hw=>h.facts w2 ((hA.mono (fun k hk2=>⟨blk g t cs,List.mem_cons_self,hk2⟩)).trans hw (fun i hi=>?_))⟩
 ·
  rcases List.mem_cons.1 hc with rfl|hc
  ·
   exact hk2.2
  ·
   exact h1.lt c hc k hk2
 ·
  rcases List.mem_cons.1 hc with rfl|hc
  ·
   exact .inl (Nat.le_trans h.agr.size hk2.1)
  ·
   exact h1.new c hc k hk2
 ·
  rcases List.mem_cons.1 hc with rfl|hc
  ·
   exact Kd.zfb hR2 (fun k hk2 _=>hw k hk2)
  ·
   exact h1.own c hc w2 hw
 ·
  obtain⟨c,hc,hk2⟩:=hi
  rcases List.mem_cons.1 hc with rfl|hc
  ·
   exact .inr hk2.1
  ·
   rcases List.mem_cons.1 hc with rfl|hc
   ·
    exact .inl ⟨blk g t cs,List.mem_cons_self,hk2⟩
   ·
    exact .inl ⟨c,List.mem_cons_of_mem _ hc,hk2⟩
theorem disj {a b:Grp} (h:Inv w0 P w L F) (i j:Nat) (hij:i<j) (hi:L[i]?=some a) (hj:L[j]?=some b):∀ k,a.S k→¬b.S k:=by
 obtain⟨h1,rfl⟩:=List.getElem?_eq_some_iff.1 hi
 obtain⟨h2,rfl⟩:=List.getElem?_eq_some_iff.1 hj
 exact List.pairwise_iff_getElem.1 h.dis i j h1 h2 hij
end Inv
theorem results_tct {P:Program} {fn:Func} {p u v:Tmp} {ty:TypeId} (h:fn.results=#[.tmp u,.cell p ty,.tmp v]) (tmps:Array Value) (w:World) (g:Nat) (t:TypeId) (cs:Array Value) (fr:Nat × Nat) (d:TypeDesc)
  (hp:tmps.getD p undef=.pointer (some ⟨g,0,none⟩)) (hg:w.heap[g]?=some (.cells cs t fr))
  (hu:P.underlying ty=some d) (hd:(match d with|.struct _|.array _ _=>true|_=>false)=true) (hi:(P.info? ty).map (·.size)=some cs.size) :
  (results fn tmps).run P w=.ok (.tuple #[tmps.getD u undef,.agg cs,tmps.getD v undef]) w:=by
 have hp':tmps[p]?.getD undef=.pointer (some ⟨g,0,none⟩):=by simpa using hp
 simp [results,h,hp',asAddr,run_loadVar_row w g t ty cs fr d hg hu hd hi]
theorem results_tcct {P:Program} {fn:Func} {p p' u v:Tmp} {ty ty':TypeId} (h:fn.results=#[.tmp u,.cell p ty,.cell p' ty',.tmp v]) (tmps:Array Value) (w:World) (g g':Nat) (t t':TypeId) (cs cs':Array Value) (fr fr':Nat × Nat) (d d':TypeDesc)
  (hp:tmps.getD p undef=.pointer (some ⟨g,0,none⟩)) (hg:w.heap[g]?=some (.cells cs t fr))
  (hu:P.underlying ty=some d) (hd:(match d with|.struct _|.array _ _=>true|_=>false)=true) (hi:(P.info? ty).map (·.size)=some cs.size)
  (hp2:tmps.getD p' undef=.pointer (some ⟨g',0,none⟩)) (hg2:w.heap[g']?=some (.cells cs' t' fr'))
  (hu2:P.underlying ty'=some d') (hd2:(match d' with|.struct _|.array _ _=>true|_=>false)=true) (hi2:(P.info? ty').map (·.size)=some cs'.size) :
  (results fn tmps).run P w=.ok (.tuple #[tmps.getD u undef,.agg cs,.agg cs',tmps.getD v undef]) w:=by
 have hp':tmps[p]?.getD undef=.pointer (some ⟨g,0,none⟩):=by simpa using hp
 have hp2':tmps[p']?.getD undef=.pointer (some ⟨g',0,none⟩):=by simpa using hp2
 simp [results,h,hp',hp2',asAddr,run_loadVar_row w g t ty cs fr d hg hu hd hi,run_loadVar_row w g' t' ty' cs' fr' d' hg2 hu2 hd2 hi2]
theorem zkf {α:Type} (l:List α) (j:Nat) (z:α) (h:j<l.length):l.drop j=l.getD j z::l.drop (j + 1):=by
 rw [List.drop_eq_getElem_cons h]
 simp [List.getD,h]
def zcz.f (a0:Int) (a1:Int) (a2:Int):Option (Bool):=if a1≤a0 then(some (decide (a0≤a2))) else(some false)
theorem zcz.calls (a0:Int) (a1:Int) (a2:Int) (r:Bool) (w:World) (h:zcz.f a0 a1 a2=some r) :
  Calls Tryz.prog 78 #[.int .i64 a0,.int .i64 a1,.int .i64 a2] w fun e w'=>e=.returned (.bool r)∧zbx w w':=by
 have H:(if a1≤a0 then(some (decide (a0≤a2))) else(some false))=some r:=h
 clear h
 by_cases c4:a1≤a0
 ·
  rw [if_pos c4] at H
  have c4b0:decide (a1≤a0)=true:=decide_eq_true c4
  clear c4
  obtain rfl:=Option.some.inj H
  go_enter Tryz.func78,Tryz.ntmps78
  go_wp2
  go_ret
  exact⟨qz0_,qz1_⟩
 ·
  rw [if_neg c4] at H
  have c4b0:decide (a1≤a0)=false:=decide_eq_false c4
  clear c4
  obtain rfl:=Option.some.inj H
  go_enter Tryz.func78,Tryz.ntmps78
  go_wp2
  go_ret
  exact⟨qz0_,qz1_⟩
def zcl.f (a0:Int):Option (Int):=(zcz.f a0 1 2).bind fun t101=>(if t101=true then(some (wrap64 (a0 + 1))) else(some 0))
theorem zcl.calls (a0:Int) (r:Int) (w:World) (h:zcl.f a0=some r) :
  Calls Tryz.prog 101 #[.int .i64 a0] w fun e w'=>e=.returned (.int .i64 r)∧zbx w w':=by
 have H:((zcz.f a0 1 2).bind fun t101=>(if t101=true then(some (wrap64 (a0 + 1))) else(some 0)))=some r:=h
 clear h
 replace H:=Option.bind_eq_some_iff.mp H
 obtain⟨t101,A20,H⟩:=H
 replace H:(if t101=true then(some (wrap64 (a0 + 1))) else(some 0))=some r:=H
 have A2:=am_ A20
 clear A20
 by_cases c3:t101=true
 ·
  subst c3
  have H1:(some (wrap64 (a0 + 1)))=some r:=by rw [if_pos rfl] at H;exact H
  clear H
  have H:=H1
  clear H1
  obtain rfl:=Option.some.inj H
  go_enter Tryz.func101,Tryz.ntmps101
  go_wp2_with (first|((with_reducible refine zan (f:=78) rfl ?_);refine gl_ (some 4) Tryz.func78 #[.int .i64 a0,.int .i64 1,.int .i64 2] ?_;(with_reducible refine(zcz.calls a0 1 2 true _ A2.out).mono ?_);rintro e w' ⟨rfl,⟨nd,rfl⟩⟩;refine⟨_,rfl,?_⟩))
  go_ret
  exact⟨qz0_,qz1_⟩
 ·
  replace c3:=Bool.eq_false_iff.mpr c3
  subst c3
  have H1:(some 0)=some r:=by rw [if_neg (show ¬(false=true) by decide)] at H;exact H
  clear H
  have H:=H1
  clear H1
  obtain rfl:=Option.some.inj H
  go_enter Tryz.func101,Tryz.ntmps101
  go_wp2_with (first|((with_reducible refine zan (f:=78) rfl ?_);refine gl_ (some 4) Tryz.func78 #[.int .i64 a0,.int .i64 1,.int .i64 2] ?_;(with_reducible refine(zcz.calls a0 1 2 false _ A2.out).mono ?_);rintro e w' ⟨rfl,⟨nd,rfl⟩⟩;refine⟨_,rfl,?_⟩))
  go_ret
  exact⟨qz0_,qz1_⟩
def ze9.f (a0:Int) (a1:Int):Option (Int):=some (Int.tmod (wrap64 ((wrap64 (a0 - a1)) + 2130706433)) 2130706433)
theorem ze9.calls (a0:Int) (a1:Int) (r:Int) (w:World) (h:ze9.f a0 a1=some r) :
  Calls Tryz.prog 163 #[.int .i64 a0,.int .i64 a1] w fun e w'=>e=.returned (.int .i64 r)∧zbx w w':=by
 have H:(some (Int.tmod (wrap64 ((wrap64 (a0 - a1)) + 2130706433)) 2130706433))=some r:=h
 clear h
 obtain rfl:=Option.some.inj H
 go_enter Tryz.func163,Tryz.ntmps163
 go_wp2
 go_ret
 exact⟨qz0_,qz1_⟩
def zbq.f (a0_0:Int) (a0_1:Int) (a1_0:Int) (a1_1:Int):Option (Int × Int):=(ze9.f a0_0 a1_0).bind fun t104=>((ze9.f a0_1 a1_1).bind fun t105=>(some (t104,t105)))
def zbq.T1:Bool × List (List Nat × List Nat):=(true,[([],[]),([0],[0]),([],[]),([2],[2]),([1,3],[1,3]),([],[]),([5],[5]),([],[]),([7],[7]),([6,8,4],[6,8]),([4,9],[4,9]),([10,9,0,1,2,3,4,5,6,7,8,9,10],[10])])
def zbq.B1:List Nat:=[0,1,0,4,15,0,32,0,128,511,1023,2047]
theorem zbq.tab1:rtab .any (opsOf Tryz.f131 1)=zbq.T1:=by kernel_rfl
theorem zbq.bits1:zcu zbq.T1.2 zbq.B1=true:=by kernel_rfl
theorem zbq.calls (a0_0:Int) (a0_1:Int) (a1_0:Int) (a1_1:Int) (r1:Int) (r2:Int) (w:World) (h:zbq.f a0_0 a0_1 a1_0 a1_1=some (r1,r2)) :
  Calls Tryz.prog 131 #[.agg #[.int .i64 a0_0,.int .i64 a0_1],.agg #[.int .i64 a1_0,.int .i64 a1_1]] w fun e w'=>e=.returned (.agg #[.int .i64 r1,.int .i64 r2])∧Below w.heap.size w w':=by
 have hu32:=Tryz.underlying32
 have HB:=am_ (Below.refl w.heap.size w)
 have H:((ze9.f a0_0 a1_0).bind fun t104=>((ze9.f a0_1 a1_1).bind fun t105=>(some (t104,t105))))=some (r1,r2):=h
 clear h
 replace H:=Option.bind_eq_some_iff.mp H
 obtain⟨t104,A30,H⟩:=H
 replace H:((ze9.f a0_1 a1_1).bind fun t105=>(some (t104,t105)))=some (r1,r2):=H
 have A3:=am_ A30
 clear A30
 replace H:=Option.bind_eq_some_iff.mp H
 obtain⟨t105,A40,H⟩:=H
 replace H:(some (t104,t105))=some (r1,r2):=H
 have A4:=am_ A40
 clear A40
 simp only [Option.some.injEq,Prod.mk.injEq] at H
 obtain⟨rfl,rfl⟩:=H
 go_enter Tryz.func131,Tryz.ntmps131
 try go_wp2_with (first|((with_reducible refine zad (N:=2) rfl ?_);refine zaj rfl (N:=2) rfl (cs:=#[.int .i64 a0_0,.int .i64 a0_1]) (t:=32) bx_ ?_;intro gb101 hg w5 hbox hb;replace BK101:=am_ (hbox);replace GW101:=am_ ((by rw [hg];exact(zaf qz2_):w.heap.size≤gb101));replace GE101:=GW101;replace HB:=am_ (zab qz2_ hb);clear hb hbox hg)|((with_reducible refine zad (N:=3) rfl ?_);refine zaj rfl (N:=3) rfl (cs:=#[.int .i64 a1_0,.int .i64 a1_1]) (t:=32) bx_ ?_;intro gb102 hg w6 hbox hb;replace BK102:=am_ (hbox);replace GW102:=am_ ((by rw [hg];exact(zaf qz5_):w.heap.size≤gb102));replace GE102:=GW102;replace HB:=am_ (zab qz5_ hb);replace NB101_102:=am_ ((by rw [hg];exact Nat.ne_of_lt (zar (g:=gb101) (o:=.cells #[.int .i64 a0_0,.int .i64 a0_1] 32 (0,0)) qz6_):gb101≠gb102));replace NB102_101:=am_ ((by rw [hg];exact Nat.ne_of_gt (zar (g:=gb101) (o:=.cells #[.int .i64 a0_0,.int .i64 a0_1] 32 (0,0)) qz6_):gb102≠gb101));replace BK101:=am_ (zak (g:=gb101) (o:=.cells #[.int .i64 a0_0,.int .i64 a0_1] 32 (0,0)) qz6_ hb);clear hb hbox hg)|((with_reducible refine zad (N:=4) rfl ?_);refine zaj rfl (N:=4) rfl (cs:=#[.int .i64 0,.int .i64 0]) (t:=32) bx_ ?_;intro gb103 hg w7 hbox hb;replace BK103:=am_ (hbox);replace GW103:=am_ ((by rw [hg];exact(zaf qz8_):w.heap.size≤gb103));replace GE103:=GW103;replace HB:=am_ (zab qz8_ hb);replace NB101_103:=am_ ((by rw [hg];exact Nat.ne_of_lt (zar (g:=gb101) (o:=.cells #[.int .i64 a0_0,.int .i64 a0_1] 32 (0,0)) qz6_):gb101≠gb103));replace NB103_101:=am_ ((by rw [hg];exact Nat.ne_of_gt (zar (g:=gb101) (o:=.cells #[.int .i64 a0_0,.int .i64 a0_1] 32 (0,0)) qz6_):gb103≠gb101));replace BK101:=am_ (zak (g:=gb101) (o:=.cells #[.int .i64 a0_0,.int .i64 a0_1] 32 (0,0)) qz6_ hb);replace NB102_103:=am_ ((by rw [hg];exact Nat.ne_of_lt (zar (g:=gb102) (o:=.cells #[.int .i64 a1_0,.int .i64 a1_1] 32 (0,0)) qz7_):gb102≠gb103));replace NB103_102:=am_ ((by rw [hg];exact Nat.ne_of_gt (zar (g:=gb102) (o:=.cells #[.int .i64 a1_0,.int .i64 a1_1] 32 (0,0)) qz7_):gb103≠gb102));replace BK102:=am_ (zak (g:=gb102) (o:=.cells #[.int .i64 a1_0,.int .i64 a1_1] 32 (0,0)) qz7_ hb);clear hb hbox hg))
 replace BK101:=am_ (zae BK101.out)
 replace BK102:=am_ (zae BK102.out)
 replace BK103:=am_ (zae BK103.out)
 replace HB:=am_ (zao HB.out)
 refine zcn (n:=12) (S:=fun w'=>w'.cell? ⟨gb101,0,none⟩=some (.int .i64 a0_0)∧w'.cell? ⟨gb101,1,none⟩=some (.int .i64 a0_1)∧w'.cell? ⟨gb102,0,none⟩=some (.int .i64 a1_0)∧w'.cell? ⟨gb102,1,none⟩=some (.int .i64 a1_1)) (ds:=[]) (bs_ 12 0) (by kernel_rfl) rfl rfl ⟨(zaa BK101.out 0).trans rfl,(zaa BK101.out 1).trans rfl,(zaa BK102.out 0).trans rfl,(zaa BK102.out 1).trans rfl⟩ (fun hHeld=>?_);refine zcj zbq.tab1 zbq.bits1 (fun HT_ HW_=>?_)
 generalize w7.drew=w8 at BK101 BK102 BK103 HB hHeld ⊢
 refine pt_ HT_.out 0 5 (bs_ 12 1) ?_
 refine pt_ HT_.out 2 7 (bs_ 12 5) ?_
 refine pt_ HT_.out 5 10 (bs_ 12 37) ?_
 refine pt_ HT_.out 7 12 (bs_ 12 165) ?_
 refine tt_ HT_ HW_ 1 (bs_ 12 167) hHeld ?_
 refine tt_ HT_ HW_ 3 (bs_ 12 175) hHeld ?_
 refine tt_ HT_ HW_ 6 (bs_ 12 239) hHeld ?_
 refine tt_ HT_ HW_ 8 (bs_ 12 495) hHeld ?_
 refine ot_ HT_ 4 (some 9) (bs_ 12 511) (fun K hK=>?_)
 refine go_ Tryz.func163 #[.int .i64 a0_0,.int .i64 a1_0] ?_
 with_reducible refine(ze9.calls a0_0 a1_0 t104 _ A3.out).mono ?_
 rintro e w' ⟨rfl,⟨nd,rfl⟩⟩
 refine⟨_,rfl,?_⟩
 refine hK.out _ _ ⟨(zaa BK101.out 0).trans rfl,(zaa BK101.out 1).trans rfl,(zaa BK102.out 0).trans rfl,(zaa BK102.out 1).trans rfl⟩ (fun hHeld=>?_)
 clear hK K
 refine nm_ 9 ?_
 refine ot_ HT_ 9 (some 14) (bs_ 12 1023) (fun K hK=>?_)
 refine go_ Tryz.func163 #[.int .i64 a0_1,.int .i64 a1_1] ?_
 with_reducible refine(ze9.calls a0_1 a1_1 t105 _ A4.out).mono ?_
 rintro e w' ⟨rfl,⟨nd,rfl⟩⟩
 refine⟨_,rfl,?_⟩
 refine hK.out _ _ ⟨(zaa BK101.out 0).trans rfl,(zaa BK101.out 1).trans rfl,(zaa BK102.out 0).trans rfl,(zaa BK102.out 1).trans rfl⟩ (fun hHeld=>?_)
 clear hK K
 refine nm_ 14 ?_
 refine pt_ HT_.out 10 15 (bs_ 12 2047) ?_
 refine ot_ HT_ 11 none (bs_ 12 4095) (fun K hK=>?_)
 obtain⟨hs9,hfs9⟩:=bi_ BK103.out 0
 have hns9_0:=NB101_103.out
 have hns9_1:=NB102_103.out
 have hms9_0:=NB103_101.out
 have hms9_1:=NB103_102.out
 obtain⟨hs10,hfs10⟩:=bi_ BK103.out 1
 have hns10_0:=NB101_103.out
 have hns10_1:=NB102_103.out
 have hms10_0:=NB103_101.out
 have hms10_1:=NB103_102.out
 refine skip_ (w1:=?_) (by rfl) rfl ?_ ?_
 rotate_left
 ·
  go_simp
  rfl
 refine hK.out _ _ ⟨((cell_far (p:=⟨gb103,_,none⟩) NB101_103.out _).trans (((cell_far (p:=⟨gb103,_,none⟩) NB101_103.out _).trans (hHeld.1)))),((cell_far (p:=⟨gb103,_,none⟩) NB101_103.out _).trans (((cell_far (p:=⟨gb103,_,none⟩) NB101_103.out _).trans (hHeld.2.1)))),((cell_far (p:=⟨gb103,_,none⟩) NB102_103.out _).trans (((cell_far (p:=⟨gb103,_,none⟩) NB102_103.out _).trans (hHeld.2.2.1)))),((cell_far (p:=⟨gb103,_,none⟩) NB102_103.out _).trans (((cell_far (p:=⟨gb103,_,none⟩) NB102_103.out _).trans (hHeld.2.2.2))))⟩ (fun hHeld=>?_)
 clear hK K
 refine done_ (zdr HT_.out (by kernel_rfl)) ?_
 try go_wp2
 refine bodyPost_ret (results_cell_row rfl _ _ gb103 32 #[.int .i64 t104,.int .i64 t105] (0,0) _ rfl qz20_ Tryz.underlying32 rfl (by kernel_rfl)) rfl ?_
 exact⟨qz4_,qz9_⟩
def zc1.f (a0:Int) (a1:Int):Option (Int):=some (Int.tmod (wrap64 (a0 + a1)) 2130706433)
theorem zc1.calls (a0:Int) (a1:Int) (r:Int) (w:World) (h:zc1.f a0 a1=some r) :
  Calls Tryz.prog 164 #[.int .i64 a0,.int .i64 a1] w fun e w'=>e=.returned (.int .i64 r)∧zbx w w':=by
 have H:(some (Int.tmod (wrap64 (a0 + a1)) 2130706433))=some r:=h
 clear h
 obtain rfl:=Option.some.inj H
 go_enter Tryz.func164,Tryz.ntmps164
 go_wp2
 go_ret
 exact⟨qz0_,qz1_⟩
def zcm.f (a0:Int) (a1:Int):Option (Int):=some (Int.tmod (wrap64 (a0 * a1)) 2130706433)
theorem zcm.calls (a0:Int) (a1:Int) (r:Int) (w:World) (h:zcm.f a0 a1=some r) :
  Calls Tryz.prog 165 #[.int .i64 a0,.int .i64 a1] w fun e w'=>e=.returned (.int .i64 r)∧zbx w w':=by
 have H:(some (Int.tmod (wrap64 (a0 * a1)) 2130706433))=some r:=h
 clear h
 obtain rfl:=Option.some.inj H
 go_enter Tryz.func165,Tryz.ntmps165
 go_wp2
 go_ret
 exact⟨qz0_,qz1_⟩
def za1.f (a0_0:Int) (a0_1:Int) (a1_0:Int) (a1_1:Int):Option (Int × Int):=(zcm.f a0_0 a1_0).bind fun t104=>((zcm.f a0_1 a1_1).bind fun t105=>((zcm.f 3 t105).bind fun t106=>((zc1.f t104 t106).bind fun t107=>((zcm.f a0_0 a1_1).bind fun t108=>((zcm.f a0_1 a1_0).bind fun t109=>((zc1.f t108 t109).bind fun t110=>(some (t107,t110))))))))
def za1.T1:Bool × List (List Nat × List Nat):=(true,[([],[]),([0],[0]),([],[]),([2],[2]),([1,3],[1,3]),([],[]),([5],[5]),([],[]),([7],[7]),([6,8,4],[6,8]),([9,9],[9]),([4,10,10],[4,10]),([],[]),([12],[12]),([],[]),([14],[14]),([13,15,11],[13,15]),([],[]),([17],[17]),([],[]),([19],[19]),([18,20,16],[18,20]),([16,21,21],[16,21]),([11,22],[11,22]),([23,22,0,1,2,3,4,5,6,7,8,9,10,11,12,13,14,15,16,17,18,19,20,21,22,23],[23])])
def za1.B1:List Nat:=[0,1,0,4,15,0,32,0,128,511,1023,2047,0,4096,0,16384,65535,0,131072,0,524288,2097151,4194303,8388607,16777215]
theorem za1.tab1:rtab .any (opsOf Tryz.f133 1)=za1.T1:=by kernel_rfl
theorem za1.bits1:zcu za1.T1.2 za1.B1=true:=by kernel_rfl
theorem za1.calls (a0_0:Int) (a0_1:Int) (a1_0:Int) (a1_1:Int) (r1:Int) (r2:Int) (w:World) (h:za1.f a0_0 a0_1 a1_0 a1_1=some (r1,r2)) :
  Calls Tryz.prog 133 #[.agg #[.int .i64 a0_0,.int .i64 a0_1],.agg #[.int .i64 a1_0,.int .i64 a1_1]] w fun e w'=>e=.returned (.agg #[.int .i64 r1,.int .i64 r2])∧Below w.heap.size w w':=by
 have hu32:=Tryz.underlying32
 have HB:=am_ (Below.refl w.heap.size w)
 have H:((zcm.f a0_0 a1_0).bind fun t104=>((zcm.f a0_1 a1_1).bind fun t105=>((zcm.f 3 t105).bind fun t106=>((zc1.f t104 t106).bind fun t107=>((zcm.f a0_0 a1_1).bind fun t108=>((zcm.f a0_1 a1_0).bind fun t109=>((zc1.f t108 t109).bind fun t110=>(some (t107,t110)))))))))=some (r1,r2):=h
 clear h
 replace H:=Option.bind_eq_some_iff.mp H
 obtain⟨t104,A30,H⟩:=H
 replace H:((zcm.f a0_1 a1_1).bind fun t105=>((zcm.f 3 t105).bind fun t106=>((zc1.f t104 t106).bind fun t107=>((zcm.f a0_0 a1_1).bind fun t108=>((zcm.f a0_1 a1_0).bind fun t109=>((zc1.f t108 t109).bind fun t110=>(some (t107,t110))))))))=some (r1,r2):=H
 have A3:=am_ A30
 clear A30
 replace H:=Option.bind_eq_some_iff.mp H
 obtain⟨t105,A40,H⟩:=H
 replace H:((zcm.f 3 t105).bind fun t106=>((zc1.f t104 t106).bind fun t107=>((zcm.f a0_0 a1_1).bind fun t108=>((zcm.f a0_1 a1_0).bind fun t109=>((zc1.f t108 t109).bind fun t110=>(some (t107,t110)))))))=some (r1,r2):=H
 have A4:=am_ A40
 clear A40
 replace H:=Option.bind_eq_some_iff.mp H
 obtain⟨t106,A50,H⟩:=H
 replace H:((zc1.f t104 t106).bind fun t107=>((zcm.f a0_0 a1_1).bind fun t108=>((zcm.f a0_1 a1_0).bind fun t109=>((zc1.f t108 t109).bind fun t110=>(some (t107,t110))))))=some (r1,r2):=H
 have A5:=am_ A50
 clear A50
 replace H:=Option.bind_eq_some_iff.mp H
 obtain⟨t107,A60,H⟩:=H
 replace H:((zcm.f a0_0 a1_1).bind fun t108=>((zcm.f a0_1 a1_0).bind fun t109=>((zc1.f t108 t109).bind fun t110=>(some (t107,t110)))))=some (r1,r2):=H
 have A6:=am_ A60
 clear A60
 replace H:=Option.bind_eq_some_iff.mp H
 obtain⟨t108,A70,H⟩:=H
 replace H:((zcm.f a0_1 a1_0).bind fun t109=>((zc1.f t108 t109).bind fun t110=>(some (t107,t110))))=some (r1,r2):=H
 have A7:=am_ A70
 clear A70
 replace H:=Option.bind_eq_some_iff.mp H
 obtain⟨t109,A80,H⟩:=H
 replace H:((zc1.f t108 t109).bind fun t110=>(some (t107,t110)))=some (r1,r2):=H
 have A8:=am_ A80
 clear A80
 replace H:=Option.bind_eq_some_iff.mp H
 obtain⟨t110,A90,H⟩:=H
 replace H:(some (t107,t110))=some (r1,r2):=H
 have A9:=am_ A90
 clear A90
 simp only [Option.some.injEq,Prod.mk.injEq] at H
 obtain⟨rfl,rfl⟩:=H
 go_enter Tryz.func133,Tryz.ntmps133
 try go_wp2_with (first|((with_reducible refine zad (N:=2) rfl ?_);refine zaj rfl (N:=2) rfl (cs:=#[.int .i64 a0_0,.int .i64 a0_1]) (t:=32) bx_ ?_;intro gb101 hg w10 hbox hb;replace BK101:=am_ (hbox);replace GW101:=am_ ((by rw [hg];exact(zaf qz2_):w.heap.size≤gb101));replace GE101:=GW101;replace HB:=am_ (zab qz2_ hb);clear hb hbox hg)|((with_reducible refine zad (N:=3) rfl ?_);refine zaj rfl (N:=3) rfl (cs:=#[.int .i64 a1_0,.int .i64 a1_1]) (t:=32) bx_ ?_;intro gb102 hg w11 hbox hb;replace BK102:=am_ (hbox);replace GW102:=am_ ((by rw [hg];exact(zaf qz5_):w.heap.size≤gb102));replace GE102:=GW102;replace HB:=am_ (zab qz5_ hb);replace NB101_102:=am_ ((by rw [hg];exact Nat.ne_of_lt (zar (g:=gb101) (o:=.cells #[.int .i64 a0_0,.int .i64 a0_1] 32 (0,0)) qz6_):gb101≠gb102));replace NB102_101:=am_ ((by rw [hg];exact Nat.ne_of_gt (zar (g:=gb101) (o:=.cells #[.int .i64 a0_0,.int .i64 a0_1] 32 (0,0)) qz6_):gb102≠gb101));replace BK101:=am_ (zak (g:=gb101) (o:=.cells #[.int .i64 a0_0,.int .i64 a0_1] 32 (0,0)) qz6_ hb);clear hb hbox hg)|((with_reducible refine zad (N:=4) rfl ?_);refine zaj rfl (N:=4) rfl (cs:=#[.int .i64 0,.int .i64 0]) (t:=32) bx_ ?_;intro gb103 hg w12 hbox hb;replace BK103:=am_ (hbox);replace GW103:=am_ ((by rw [hg];exact(zaf qz8_):w.heap.size≤gb103));replace GE103:=GW103;replace HB:=am_ (zab qz8_ hb);replace NB101_103:=am_ ((by rw [hg];exact Nat.ne_of_lt (zar (g:=gb101) (o:=.cells #[.int .i64 a0_0,.int .i64 a0_1] 32 (0,0)) qz6_):gb101≠gb103));replace NB103_101:=am_ ((by rw [hg];exact Nat.ne_of_gt (zar (g:=gb101) (o:=.cells #[.int .i64 a0_0,.int .i64 a0_1] 32 (0,0)) qz6_):gb103≠gb101));replace BK101:=am_ (zak (g:=gb101) (o:=.cells #[.int .i64 a0_0,.int .i64 a0_1] 32 (0,0)) qz6_ hb);replace NB102_103:=am_ ((by rw [hg];exact Nat.ne_of_lt (zar (g:=gb102) (o:=.cells #[.int .i64 a1_0,.int .i64 a1_1] 32 (0,0)) qz7_):gb102≠gb103));replace NB103_102:=am_ ((by rw [hg];exact Nat.ne_of_gt (zar (g:=gb102) (o:=.cells #[.int .i64 a1_0,.int .i64 a1_1] 32 (0,0)) qz7_):gb103≠gb102));replace BK102:=am_ (zak (g:=gb102) (o:=.cells #[.int .i64 a1_0,.int .i64 a1_1] 32 (0,0)) qz7_ hb);clear hb hbox hg))
 replace BK101:=am_ (zae BK101.out)
 replace BK102:=am_ (zae BK102.out)
 replace BK103:=am_ (zae BK103.out)
 replace HB:=am_ (zao HB.out)
 refine zcn (n:=25) (S:=fun w'=>w'.cell? ⟨gb101,0,none⟩=some (.int .i64 a0_0)∧w'.cell? ⟨gb101,1,none⟩=some (.int .i64 a0_1)∧w'.cell? ⟨gb102,0,none⟩=some (.int .i64 a1_0)∧w'.cell? ⟨gb102,1,none⟩=some (.int .i64 a1_1)) (ds:=[]) (bs_ 25 0) (by kernel_rfl) rfl rfl ⟨(zaa BK101.out 0).trans rfl,(zaa BK101.out 1).trans rfl,(zaa BK102.out 0).trans rfl,(zaa BK102.out 1).trans rfl⟩ (fun hHeld=>?_);refine zcj za1.tab1 za1.bits1 (fun HT_ HW_=>?_)
 generalize w12.drew=w13 at BK101 BK102 BK103 HB hHeld ⊢
 refine pt_ HT_.out 0 5 (bs_ 25 1) ?_
 refine pt_ HT_.out 2 7 (bs_ 25 5) ?_
 refine pt_ HT_.out 5 10 (bs_ 25 37) ?_
 refine pt_ HT_.out 7 12 (bs_ 25 165) ?_
 refine pt_ HT_.out 12 17 (bs_ 25 4261) ?_
 refine pt_ HT_.out 14 19 (bs_ 25 20645) ?_
 refine pt_ HT_.out 17 22 (bs_ 25 151717) ?_
 refine pt_ HT_.out 19 24 (bs_ 25 676005) ?_
 refine tt_ HT_ HW_ 1 (bs_ 25 676007) hHeld ?_
 refine tt_ HT_ HW_ 3 (bs_ 25 676015) hHeld ?_
 refine tt_ HT_ HW_ 6 (bs_ 25 676079) hHeld ?_
 refine tt_ HT_ HW_ 8 (bs_ 25 676335) hHeld ?_
 refine tt_ HT_ HW_ 13 (bs_ 25 684527) hHeld ?_
 refine tt_ HT_ HW_ 15 (bs_ 25 717295) hHeld ?_
 refine tt_ HT_ HW_ 18 (bs_ 25 979439) hHeld ?_
 refine tt_ HT_ HW_ 20 (bs_ 25 2028015) hHeld ?_
 refine ot_ HT_ 4 (some 9) (bs_ 25 2028031) (fun K hK=>?_)
 refine go_ Tryz.func165 #[.int .i64 a0_0,.int .i64 a1_0] ?_
 with_reducible refine(zcm.calls a0_0 a1_0 t104 _ A3.out).mono ?_
 rintro e w' ⟨rfl,⟨nd,rfl⟩⟩
 refine⟨_,rfl,?_⟩
 refine hK.out _ _ ⟨(zaa BK101.out 0).trans rfl,(zaa BK101.out 1).trans rfl,(zaa BK102.out 0).trans rfl,(zaa BK102.out 1).trans rfl⟩ (fun hHeld=>?_)
 clear hK K
 refine nm_ 9 ?_
 refine ot_ HT_ 9 (some 14) (bs_ 25 2028543) (fun K hK=>?_)
 refine go_ Tryz.func165 #[.int .i64 a0_1,.int .i64 a1_1] ?_
 with_reducible refine(zcm.calls a0_1 a1_1 t105 _ A4.out).mono ?_
 rintro e w' ⟨rfl,⟨nd,rfl⟩⟩
 refine⟨_,rfl,?_⟩
 refine hK.out _ _ ⟨(zaa BK101.out 0).trans rfl,(zaa BK101.out 1).trans rfl,(zaa BK102.out 0).trans rfl,(zaa BK102.out 1).trans rfl⟩ (fun hHeld=>?_)
 clear hK K
 refine nm_ 14 ?_
 refine ot_ HT_ 10 (some 15) (bs_ 25 2029567) (fun K hK=>?_)
 refine go_ Tryz.func165 #[.int .i64 3,.int .i64 t105] ?_
 with_reducible refine(zcm.calls 3 t105 t106 _ A5.out).mono ?_
 rintro e w' ⟨rfl,⟨nd,rfl⟩⟩
 refine⟨_,rfl,?_⟩
 refine hK.out _ _ ⟨(zaa BK101.out 0).trans rfl,(zaa BK101.out 1).trans rfl,(zaa BK102.out 0).trans rfl,(zaa BK102.out 1).trans rfl⟩ (fun hHeld=>?_)
 clear hK K
 refine nm_ 15 ?_
 refine ot_ HT_ 11 (some 16) (bs_ 25 2031615) (fun K hK=>?_)
 refine go_ Tryz.func164 #[.int .i64 t104,.int .i64 t106] ?_
 with_reducible refine(zc1.calls t104 t106 t107 _ A6.out).mono ?_
 rintro e w' ⟨rfl,⟨nd,rfl⟩⟩
 refine⟨_,rfl,?_⟩
 refine hK.out _ _ ⟨(zaa BK101.out 0).trans rfl,(zaa BK101.out 1).trans rfl,(zaa BK102.out 0).trans rfl,(zaa BK102.out 1).trans rfl⟩ (fun hHeld=>?_)
 clear hK K
 refine nm_ 16 ?_
 refine ot_ HT_ 16 (some 21) (bs_ 25 2097151) (fun K hK=>?_)
 refine go_ Tryz.func165 #[.int .i64 a0_0,.int .i64 a1_1] ?_
 with_reducible refine(zcm.calls a0_0 a1_1 t108 _ A7.out).mono ?_
 rintro e w' ⟨rfl,⟨nd,rfl⟩⟩
 refine⟨_,rfl,?_⟩
 refine hK.out _ _ ⟨(zaa BK101.out 0).trans rfl,(zaa BK101.out 1).trans rfl,(zaa BK102.out 0).trans rfl,(zaa BK102.out 1).trans rfl⟩ (fun hHeld=>?_)
 clear hK K
 refine nm_ 21 ?_
 refine ot_ HT_ 21 (some 26) (bs_ 25 4194303) (fun K hK=>?_)
 refine go_ Tryz.func165 #[.int .i64 a0_1,.int .i64 a1_0] ?_
 with_reducible refine(zcm.calls a0_1 a1_0 t109 _ A8.out).mono ?_
 rintro e w' ⟨rfl,⟨nd,rfl⟩⟩
 refine⟨_,rfl,?_⟩
 refine hK.out _ _ ⟨(zaa BK101.out 0).trans rfl,(zaa BK101.out 1).trans rfl,(zaa BK102.out 0).trans rfl,(zaa BK102.out 1).trans rfl⟩ (fun hHeld=>?_)
 clear hK K
 refine nm_ 26 ?_
 refine ot_ HT_ 22 (some 27) (bs_ 25 8388607) (fun K hK=>?_)
 refine go_ Tryz.func164 #[.int .i64 t108,.int .i64 t109] ?_
 with_reducible refine(zc1.calls t108 t109 t110 _ A9.out).mono ?_
 rintro e w' ⟨rfl,⟨nd,rfl⟩⟩
 refine⟨_,rfl,?_⟩
 refine hK.out _ _ ⟨(zaa BK101.out 0).trans rfl,(zaa BK101.out 1).trans rfl,(zaa BK102.out 0).trans rfl,(zaa BK102.out 1).trans rfl⟩ (fun hHeld=>?_)
 clear hK K
 refine nm_ 27 ?_
 refine pt_ HT_.out 23 28 (bs_ 25 16777215) ?_
 refine ot_ HT_ 24 none (bs_ 25 33554431) (fun K hK=>?_)
 obtain⟨hs14,hfs14⟩:=bi_ BK103.out 0
 have hns14_0:=NB101_103.out
 have hns14_1:=NB102_103.out
 have hms14_0:=NB103_101.out
 have hms14_1:=NB103_102.out
 obtain⟨hs15,hfs15⟩:=bi_ BK103.out 1
 have hns15_0:=NB101_103.out
 have hns15_1:=NB102_103.out
 have hms15_0:=NB103_101.out
 have hms15_1:=NB103_102.out
 refine skip_ (w1:=?_) (by rfl) rfl ?_ ?_
 rotate_left
 ·
  go_simp
  rfl
 refine hK.out _ _ ⟨((cell_far (p:=⟨gb103,_,none⟩) NB101_103.out _).trans (((cell_far (p:=⟨gb103,_,none⟩) NB101_103.out _).trans (hHeld.1)))),((cell_far (p:=⟨gb103,_,none⟩) NB101_103.out _).trans (((cell_far (p:=⟨gb103,_,none⟩) NB101_103.out _).trans (hHeld.2.1)))),((cell_far (p:=⟨gb103,_,none⟩) NB102_103.out _).trans (((cell_far (p:=⟨gb103,_,none⟩) NB102_103.out _).trans (hHeld.2.2.1)))),((cell_far (p:=⟨gb103,_,none⟩) NB102_103.out _).trans (((cell_far (p:=⟨gb103,_,none⟩) NB102_103.out _).trans (hHeld.2.2.2))))⟩ (fun hHeld=>?_)
 clear hK K
 refine done_ (zdr HT_.out (by kernel_rfl)) ?_
 try go_wp2
 refine bodyPost_ret (results_cell_row rfl _ _ gb103 32 #[.int .i64 t107,.int .i64 t110] (0,0) _ rfl (by(with_reducible repeat(first|refine zah ?_ _|refine zae ?_|refine zai ?_ _));refine za9 (cs:=#[.int .i64 t107,.int .i64 0]) ?_ 1 _ rfl;(with_reducible repeat(first|refine zah ?_ _|refine zae ?_|refine zai ?_ _));refine za9 (cs:=#[.int .i64 0,.int .i64 0]) ?_ 0 _ rfl;(with_reducible repeat(first|refine zah ?_ _|refine zae ?_|refine zai ?_ _));exact BK103.out) Tryz.underlying32 rfl (by kernel_rfl)) rfl ?_
 exact⟨qz4_,qz9_⟩
def zbr.f (a0_0:Int) (a0_1:Int) (a1_0:Int) (a1_1:Int):Option (Int × Int):=(zc1.f a0_0 a1_0).bind fun t104=>((zc1.f a0_1 a1_1).bind fun t105=>(some (t104,t105)))
def zbr.T1:Bool × List (List Nat × List Nat):=(true,[([],[]),([0],[0]),([],[]),([2],[2]),([1,3],[1,3]),([],[]),([5],[5]),([],[]),([7],[7]),([6,8,4],[6,8]),([4,9],[4,9]),([10,9,0,1,2,3,4,5,6,7,8,9,10],[10])])
def zbr.B1:List Nat:=[0,1,0,4,15,0,32,0,128,511,1023,2047]
theorem zbr.tab1:rtab .any (opsOf Tryz.f168 1)=zbr.T1:=by kernel_rfl
theorem zbr.bits1:zcu zbr.T1.2 zbr.B1=true:=by kernel_rfl
theorem zbr.calls (a0_0:Int) (a0_1:Int) (a1_0:Int) (a1_1:Int) (r1:Int) (r2:Int) (w:World) (h:zbr.f a0_0 a0_1 a1_0 a1_1=some (r1,r2)) :
  Calls Tryz.prog 168 #[.agg #[.int .i64 a0_0,.int .i64 a0_1],.agg #[.int .i64 a1_0,.int .i64 a1_1]] w fun e w'=>e=.returned (.agg #[.int .i64 r1,.int .i64 r2])∧Below w.heap.size w w':=by
 have hu32:=Tryz.underlying32
 have HB:=am_ (Below.refl w.heap.size w)
 have H:((zc1.f a0_0 a1_0).bind fun t104=>((zc1.f a0_1 a1_1).bind fun t105=>(some (t104,t105))))=some (r1,r2):=h
 clear h
 replace H:=Option.bind_eq_some_iff.mp H
 obtain⟨t104,A30,H⟩:=H
 replace H:((zc1.f a0_1 a1_1).bind fun t105=>(some (t104,t105)))=some (r1,r2):=H
 have A3:=am_ A30
 clear A30
 replace H:=Option.bind_eq_some_iff.mp H
 obtain⟨t105,A40,H⟩:=H
 replace H:(some (t104,t105))=some (r1,r2):=H
 have A4:=am_ A40
 clear A40
 simp only [Option.some.injEq,Prod.mk.injEq] at H
 obtain⟨rfl,rfl⟩:=H
 go_enter Tryz.func168,Tryz.ntmps168
 try go_wp2_with (first|((with_reducible refine zad (N:=2) rfl ?_);refine zaj rfl (N:=2) rfl (cs:=#[.int .i64 a0_0,.int .i64 a0_1]) (t:=32) bx_ ?_;intro gb101 hg w5 hbox hb;replace BK101:=am_ (hbox);replace GW101:=am_ ((by rw [hg];exact(zaf qz2_):w.heap.size≤gb101));replace GE101:=GW101;replace HB:=am_ (zab qz2_ hb);clear hb hbox hg)|((with_reducible refine zad (N:=3) rfl ?_);refine zaj rfl (N:=3) rfl (cs:=#[.int .i64 a1_0,.int .i64 a1_1]) (t:=32) bx_ ?_;intro gb102 hg w6 hbox hb;replace BK102:=am_ (hbox);replace GW102:=am_ ((by rw [hg];exact(zaf qz5_):w.heap.size≤gb102));replace GE102:=GW102;replace HB:=am_ (zab qz5_ hb);replace NB101_102:=am_ ((by rw [hg];exact Nat.ne_of_lt (zar (g:=gb101) (o:=.cells #[.int .i64 a0_0,.int .i64 a0_1] 32 (0,0)) qz6_):gb101≠gb102));replace NB102_101:=am_ ((by rw [hg];exact Nat.ne_of_gt (zar (g:=gb101) (o:=.cells #[.int .i64 a0_0,.int .i64 a0_1] 32 (0,0)) qz6_):gb102≠gb101));replace BK101:=am_ (zak (g:=gb101) (o:=.cells #[.int .i64 a0_0,.int .i64 a0_1] 32 (0,0)) qz6_ hb);clear hb hbox hg)|((with_reducible refine zad (N:=4) rfl ?_);refine zaj rfl (N:=4) rfl (cs:=#[.int .i64 0,.int .i64 0]) (t:=32) bx_ ?_;intro gb103 hg w7 hbox hb;replace BK103:=am_ (hbox);replace GW103:=am_ ((by rw [hg];exact(zaf qz8_):w.heap.size≤gb103));replace GE103:=GW103;replace HB:=am_ (zab qz8_ hb);replace NB101_103:=am_ ((by rw [hg];exact Nat.ne_of_lt (zar (g:=gb101) (o:=.cells #[.int .i64 a0_0,.int .i64 a0_1] 32 (0,0)) qz6_):gb101≠gb103));replace NB103_101:=am_ ((by rw [hg];exact Nat.ne_of_gt (zar (g:=gb101) (o:=.cells #[.int .i64 a0_0,.int .i64 a0_1] 32 (0,0)) qz6_):gb103≠gb101));replace BK101:=am_ (zak (g:=gb101) (o:=.cells #[.int .i64 a0_0,.int .i64 a0_1] 32 (0,0)) qz6_ hb);replace NB102_103:=am_ ((by rw [hg];exact Nat.ne_of_lt (zar (g:=gb102) (o:=.cells #[.int .i64 a1_0,.int .i64 a1_1] 32 (0,0)) qz7_):gb102≠gb103));replace NB103_102:=am_ ((by rw [hg];exact Nat.ne_of_gt (zar (g:=gb102) (o:=.cells #[.int .i64 a1_0,.int .i64 a1_1] 32 (0,0)) qz7_):gb103≠gb102));replace BK102:=am_ (zak (g:=gb102) (o:=.cells #[.int .i64 a1_0,.int .i64 a1_1] 32 (0,0)) qz7_ hb);clear hb hbox hg))
 replace BK101:=am_ (zae BK101.out)
 replace BK102:=am_ (zae BK102.out)
 replace BK103:=am_ (zae BK103.out)
 replace HB:=am_ (zao HB.out)
 refine zcn (n:=12) (S:=fun w'=>w'.cell? ⟨gb101,0,none⟩=some (.int .i64 a0_0)∧w'.cell? ⟨gb101,1,none⟩=some (.int .i64 a0_1)∧w'.cell? ⟨gb102,0,none⟩=some (.int .i64 a1_0)∧w'.cell? ⟨gb102,1,none⟩=some (.int .i64 a1_1)) (ds:=[]) (bs_ 12 0) (by kernel_rfl) rfl rfl ⟨(zaa BK101.out 0).trans rfl,(zaa BK101.out 1).trans rfl,(zaa BK102.out 0).trans rfl,(zaa BK102.out 1).trans rfl⟩ (fun hHeld=>?_);refine zcj zbr.tab1 zbr.bits1 (fun HT_ HW_=>?_)
 generalize w7.drew=w8 at BK101 BK102 BK103 HB hHeld ⊢
 refine pt_ HT_.out 0 5 (bs_ 12 1) ?_
 refine pt_ HT_.out 2 7 (bs_ 12 5) ?_
 refine pt_ HT_.out 5 10 (bs_ 12 37) ?_
 refine pt_ HT_.out 7 12 (bs_ 12 165) ?_
 refine tt_ HT_ HW_ 1 (bs_ 12 167) hHeld ?_
 refine tt_ HT_ HW_ 3 (bs_ 12 175) hHeld ?_
 refine tt_ HT_ HW_ 6 (bs_ 12 239) hHeld ?_
 refine tt_ HT_ HW_ 8 (bs_ 12 495) hHeld ?_
 refine ot_ HT_ 4 (some 9) (bs_ 12 511) (fun K hK=>?_)
 refine go_ Tryz.func164 #[.int .i64 a0_0,.int .i64 a1_0] ?_
 with_reducible refine(zc1.calls a0_0 a1_0 t104 _ A3.out).mono ?_
 rintro e w' ⟨rfl,⟨nd,rfl⟩⟩
 refine⟨_,rfl,?_⟩
 refine hK.out _ _ ⟨(zaa BK101.out 0).trans rfl,(zaa BK101.out 1).trans rfl,(zaa BK102.out 0).trans rfl,(zaa BK102.out 1).trans rfl⟩ (fun hHeld=>?_)
 clear hK K
 refine nm_ 9 ?_
 refine ot_ HT_ 9 (some 14) (bs_ 12 1023) (fun K hK=>?_)
 refine go_ Tryz.func164 #[.int .i64 a0_1,.int .i64 a1_1] ?_
 with_reducible refine(zc1.calls a0_1 a1_1 t105 _ A4.out).mono ?_
 rintro e w' ⟨rfl,⟨nd,rfl⟩⟩
 refine⟨_,rfl,?_⟩
 refine hK.out _ _ ⟨(zaa BK101.out 0).trans rfl,(zaa BK101.out 1).trans rfl,(zaa BK102.out 0).trans rfl,(zaa BK102.out 1).trans rfl⟩ (fun hHeld=>?_)
 clear hK K
 refine nm_ 14 ?_
 refine pt_ HT_.out 10 15 (bs_ 12 2047) ?_
 refine ot_ HT_ 11 none (bs_ 12 4095) (fun K hK=>?_)
 obtain⟨hs9,hfs9⟩:=bi_ BK103.out 0
 have hns9_0:=NB101_103.out
 have hns9_1:=NB102_103.out
 have hms9_0:=NB103_101.out
 have hms9_1:=NB103_102.out
 obtain⟨hs10,hfs10⟩:=bi_ BK103.out 1
 have hns10_0:=NB101_103.out
 have hns10_1:=NB102_103.out
 have hms10_0:=NB103_101.out
 have hms10_1:=NB103_102.out
 refine skip_ (w1:=?_) (by rfl) rfl ?_ ?_
 rotate_left
 ·
  go_simp
  rfl
 refine hK.out _ _ ⟨((cell_far (p:=⟨gb103,_,none⟩) NB101_103.out _).trans (((cell_far (p:=⟨gb103,_,none⟩) NB101_103.out _).trans (hHeld.1)))),((cell_far (p:=⟨gb103,_,none⟩) NB101_103.out _).trans (((cell_far (p:=⟨gb103,_,none⟩) NB101_103.out _).trans (hHeld.2.1)))),((cell_far (p:=⟨gb103,_,none⟩) NB102_103.out _).trans (((cell_far (p:=⟨gb103,_,none⟩) NB102_103.out _).trans (hHeld.2.2.1)))),((cell_far (p:=⟨gb103,_,none⟩) NB102_103.out _).trans (((cell_far (p:=⟨gb103,_,none⟩) NB102_103.out _).trans (hHeld.2.2.2))))⟩ (fun hHeld=>?_)
 clear hK K
 refine done_ (zdr HT_.out (by kernel_rfl)) ?_
 try go_wp2
 refine bodyPost_ret (results_cell_row rfl _ _ gb103 32 #[.int .i64 t104,.int .i64 t105] (0,0) _ rfl qz20_ Tryz.underlying32 rfl (by kernel_rfl)) rfl ?_
 exact⟨qz4_,qz9_⟩
def zcq.f (a0_0:Int) (a0_1:Int) (a1_0:Int) (a1_1:Int) (a2_0:Int) (a2_1:Int):Option (Int × Int):=(zbq.f a1_0 a1_1 a0_0 a0_1).bind fun bt105=>((za1.f a2_0 a2_1 bt105.1 bt105.2).bind fun bt107=>((zbr.f a0_0 a0_1 bt107.1 bt107.2).bind fun bt109=>(some (bt109.1,bt109.2))))
def zcq.T1:Bool × List (List Nat × List Nat):=(true,[([],[]),([],[]),([],[]),([],[]),([2,3],[2,3]),([1,4,4],[1,4]),([0,5,5],[0,5]),([6,6,0,1,2,3,4,5,6],[6])])
def zcq.B1:List Nat:=[0,0,0,0,12,30,63,127]
theorem zcq.tab1:rtab .any (opsOf Tryz.f175 1)=zcq.T1:=by kernel_rfl
theorem zcq.bits1:zcu zcq.T1.2 zcq.B1=true:=by kernel_rfl
theorem zcq.calls (a0_0:Int) (a0_1:Int) (a1_0:Int) (a1_1:Int) (a2_0:Int) (a2_1:Int) (r1:Int) (r2:Int) (w:World) (h:zcq.f a0_0 a0_1 a1_0 a1_1 a2_0 a2_1=some (r1,r2)) :
  Calls Tryz.prog 175 #[.agg #[.int .i64 a0_0,.int .i64 a0_1],.agg #[.int .i64 a1_0,.int .i64 a1_1],.agg #[.int .i64 a2_0,.int .i64 a2_1]] w fun e w'=>e=.returned (.agg #[.int .i64 r1,.int .i64 r2])∧Below w.heap.size w w':=by
 have hu32:=Tryz.underlying32
 have HB:=am_ (Below.refl w.heap.size w)
 have H:((zbq.f a1_0 a1_1 a0_0 a0_1).bind fun bt105=>((za1.f a2_0 a2_1 bt105.1 bt105.2).bind fun bt107=>((zbr.f a0_0 a0_1 bt107.1 bt107.2).bind fun bt109=>(some (bt109.1,bt109.2)))))=some (r1,r2):=h
 clear h
 replace H:=Option.bind_eq_some_iff.mp H
 obtain⟨⟨t105,t106⟩,A40,H⟩:=H
 replace H:((za1.f a2_0 a2_1 t105 t106).bind fun bt107=>((zbr.f a0_0 a0_1 bt107.1 bt107.2).bind fun bt109=>(some (bt109.1,bt109.2))))=some (r1,r2):=H
 have A4:=am_ A40
 clear A40
 replace H:=Option.bind_eq_some_iff.mp H
 obtain⟨⟨t107,t108⟩,A50,H⟩:=H
 replace H:((zbr.f a0_0 a0_1 t107 t108).bind fun bt109=>(some (bt109.1,bt109.2)))=some (r1,r2):=H
 have A5:=am_ A50
 clear A50
 replace H:=Option.bind_eq_some_iff.mp H
 obtain⟨⟨t109,t110⟩,A60,H⟩:=H
 replace H:(some (t109,t110))=some (r1,r2):=H
 have A6:=am_ A60
 clear A60
 simp only [Option.some.injEq,Prod.mk.injEq] at H
 obtain⟨rfl,rfl⟩:=H
 go_enter Tryz.func175,Tryz.ntmps175
 try go_wp2_with (first|((with_reducible refine zad (N:=3) rfl ?_);refine zaj rfl (N:=3) rfl (cs:=#[.int .i64 a0_0,.int .i64 a0_1]) (t:=32) bx_ ?_;intro gb101 hg w7 hbox hb;replace BK101:=am_ (hbox);replace GW101:=am_ ((by rw [hg];exact(zaf qz2_):w.heap.size≤gb101));replace GE101:=GW101;replace HB:=am_ (zab qz2_ hb);clear hb hbox hg)|((with_reducible refine zad (N:=4) rfl ?_);refine zaj rfl (N:=4) rfl (cs:=#[.int .i64 a1_0,.int .i64 a1_1]) (t:=32) bx_ ?_;intro gb102 hg w8 hbox hb;replace BK102:=am_ (hbox);replace GW102:=am_ ((by rw [hg];exact(zaf qz5_):w.heap.size≤gb102));replace GE102:=GW102;replace HB:=am_ (zab qz5_ hb);replace NB101_102:=am_ ((by rw [hg];exact Nat.ne_of_lt (zar (g:=gb101) (o:=.cells #[.int .i64 a0_0,.int .i64 a0_1] 32 (0,0)) qz6_):gb101≠gb102));replace NB102_101:=am_ ((by rw [hg];exact Nat.ne_of_gt (zar (g:=gb101) (o:=.cells #[.int .i64 a0_0,.int .i64 a0_1] 32 (0,0)) qz6_):gb102≠gb101));replace BK101:=am_ (zak (g:=gb101) (o:=.cells #[.int .i64 a0_0,.int .i64 a0_1] 32 (0,0)) qz6_ hb);clear hb hbox hg)|((with_reducible refine zad (N:=5) rfl ?_);refine zaj rfl (N:=5) rfl (cs:=#[.int .i64 a2_0,.int .i64 a2_1]) (t:=32) bx_ ?_;intro gb103 hg w9 hbox hb;replace BK103:=am_ (hbox);replace GW103:=am_ ((by rw [hg];exact(zaf qz8_):w.heap.size≤gb103));replace GE103:=GW103;replace HB:=am_ (zab qz8_ hb);replace NB101_103:=am_ ((by rw [hg];exact Nat.ne_of_lt (zar (g:=gb101) (o:=.cells #[.int .i64 a0_0,.int .i64 a0_1] 32 (0,0)) qz6_):gb101≠gb103));replace NB103_101:=am_ ((by rw [hg];exact Nat.ne_of_gt (zar (g:=gb101) (o:=.cells #[.int .i64 a0_0,.int .i64 a0_1] 32 (0,0)) qz6_):gb103≠gb101));replace BK101:=am_ (zak (g:=gb101) (o:=.cells #[.int .i64 a0_0,.int .i64 a0_1] 32 (0,0)) qz6_ hb);replace NB102_103:=am_ ((by rw [hg];exact Nat.ne_of_lt (zar (g:=gb102) (o:=.cells #[.int .i64 a1_0,.int .i64 a1_1] 32 (0,0)) qz7_):gb102≠gb103));replace NB103_102:=am_ ((by rw [hg];exact Nat.ne_of_gt (zar (g:=gb102) (o:=.cells #[.int .i64 a1_0,.int .i64 a1_1] 32 (0,0)) qz7_):gb103≠gb102));replace BK102:=am_ (zak (g:=gb102) (o:=.cells #[.int .i64 a1_0,.int .i64 a1_1] 32 (0,0)) qz7_ hb);clear hb hbox hg)|((with_reducible refine zad (N:=6) rfl ?_);refine zaj rfl (N:=6) rfl (cs:=#[.int .i64 0,.int .i64 0]) (t:=32) bx_ ?_;intro gb104 hg w10 hbox hb;replace BK104:=am_ (hbox);replace GW104:=am_ ((by rw [hg];exact(zaf qz9_):w.heap.size≤gb104));replace GE104:=GW104;replace HB:=am_ (zab qz9_ hb);replace NB101_104:=am_ ((by rw [hg];exact Nat.ne_of_lt (zar (g:=gb101) (o:=.cells #[.int .i64 a0_0,.int .i64 a0_1] 32 (0,0)) qz6_):gb101≠gb104));replace NB104_101:=am_ ((by rw [hg];exact Nat.ne_of_gt (zar (g:=gb101) (o:=.cells #[.int .i64 a0_0,.int .i64 a0_1] 32 (0,0)) qz6_):gb104≠gb101));replace BK101:=am_ (zak (g:=gb101) (o:=.cells #[.int .i64 a0_0,.int .i64 a0_1] 32 (0,0)) qz6_ hb);replace NB102_104:=am_ ((by rw [hg];exact Nat.ne_of_lt (zar (g:=gb102) (o:=.cells #[.int .i64 a1_0,.int .i64 a1_1] 32 (0,0)) qz7_):gb102≠gb104));replace NB104_102:=am_ ((by rw [hg];exact Nat.ne_of_gt (zar (g:=gb102) (o:=.cells #[.int .i64 a1_0,.int .i64 a1_1] 32 (0,0)) qz7_):gb104≠gb102));replace BK102:=am_ (zak (g:=gb102) (o:=.cells #[.int .i64 a1_0,.int .i64 a1_1] 32 (0,0)) qz7_ hb);replace NB103_104:=am_ ((by rw [hg];exact Nat.ne_of_lt (zar (g:=gb103) (o:=.cells #[.int .i64 a2_0,.int .i64 a2_1] 32 (0,0)) qz14_):gb103≠gb104));replace NB104_103:=am_ ((by rw [hg];exact Nat.ne_of_gt (zar (g:=gb103) (o:=.cells #[.int .i64 a2_0,.int .i64 a2_1] 32 (0,0)) qz14_):gb104≠gb103));replace BK103:=am_ (zak (g:=gb103) (o:=.cells #[.int .i64 a2_0,.int .i64 a2_1] 32 (0,0)) qz14_ hb);clear hb hbox hg))
 replace BK101:=am_ (zae BK101.out)
 replace BK102:=am_ (zae BK102.out)
 replace BK103:=am_ (zae BK103.out)
 replace BK104:=am_ (zae BK104.out)
 replace HB:=am_ (zao HB.out)
 refine zcn (n:=8) (S:=fun w'=>w'.cell? ⟨gb101,0,none⟩=some (.int .i64 a0_0)∧w'.cell? ⟨gb101,1,none⟩=some (.int .i64 a0_1)∧w'.cell? ⟨gb103,0,none⟩=some (.int .i64 a2_0)∧w'.cell? ⟨gb103,1,none⟩=some (.int .i64 a2_1)∧w'.cell? ⟨gb102,0,none⟩=some (.int .i64 a1_0)∧w'.cell? ⟨gb102,1,none⟩=some (.int .i64 a1_1)) (ds:=[]) (bs_ 8 0) (by kernel_rfl) rfl rfl ⟨(zaa BK101.out 0).trans rfl,(zaa BK101.out 1).trans rfl,(zaa BK103.out 0).trans rfl,(zaa BK103.out 1).trans rfl,(zaa BK102.out 0).trans rfl,(zaa BK102.out 1).trans rfl⟩ (fun hHeld=>?_);refine zcj zcq.tab1 zcq.bits1 (fun HT_ HW_=>?_)
 generalize w10.drew=w11 at BK101 BK102 BK103 BK104 HB hHeld ⊢
 refine tt_ HT_ HW_ 0 (bs_ 8 1) hHeld ?_
 refine tt_ HT_ HW_ 1 (bs_ 8 3) hHeld ?_
 refine tt_ HT_ HW_ 2 (bs_ 8 7) hHeld ?_
 refine tt_ HT_ HW_ 3 (bs_ 8 15) hHeld ?_
 refine ot_ HT_ 4 (some 11) (bs_ 8 31) (fun K hK=>?_)
 refine go_ Tryz.func131 #[.agg #[.int .i64 a1_0,.int .i64 a1_1],.agg #[.int .i64 a0_0,.int .i64 a0_1]] ?_
 with_reducible refine(zbq.calls a1_0 a1_1 a0_0 a0_1 t105 t106 _ A4.out).mono ?_
 rintro e w12 ⟨rfl,hb⟩
 refine⟨_,rfl,?_⟩
 replace BK101:=am_ (zak (g:=gb101) (o:=.cells #[.int .i64 a0_0,.int .i64 a0_1] 32 (0,0)) qz6_ hb)
 replace BK102:=am_ (zak (g:=gb102) (o:=.cells #[.int .i64 a1_0,.int .i64 a1_1] 32 (0,0)) qz7_ hb)
 replace BK103:=am_ (zak (g:=gb103) (o:=.cells #[.int .i64 a2_0,.int .i64 a2_1] 32 (0,0)) qz14_ hb)
 replace BK104:=am_ (zak (g:=gb104) (o:=.cells #[.int .i64 0,.int .i64 0] 32 (0,0)) (by(with_reducible repeat(first|refine zah ?_ _|refine zae ?_|refine zai ?_ _));exact BK104.out) hb)
 replace HB:=am_ (zab qz21_ hb)
 (try clear hb)
 (try clear hb2)
 (try clear hk)
 (try clear hi)
 refine hK.out _ _ ⟨(zaa BK101.out 0).trans rfl,(zaa BK101.out 1).trans rfl,(zaa BK103.out 0).trans rfl,(zaa BK103.out 1).trans rfl,(zaa BK102.out 0).trans rfl,(zaa BK102.out 1).trans rfl⟩ (fun hHeld=>?_)
 clear hK K
 refine nm_ 11 ?_
 refine ot_ HT_ 5 (some 12) (bs_ 8 63) (fun K hK=>?_)
 refine go_ Tryz.func133 #[.agg #[.int .i64 a2_0,.int .i64 a2_1],.agg #[.int .i64 t105,.int .i64 t106]] ?_
 with_reducible refine(za1.calls a2_0 a2_1 t105 t106 t107 t108 _ A5.out).mono ?_
 rintro e w13 ⟨rfl,hb⟩
 refine⟨_,rfl,?_⟩
 replace BK101:=am_ (zak (g:=gb101) (o:=.cells #[.int .i64 a0_0,.int .i64 a0_1] 32 (0,0)) qz6_ hb)
 replace BK102:=am_ (zak (g:=gb102) (o:=.cells #[.int .i64 a1_0,.int .i64 a1_1] 32 (0,0)) qz7_ hb)
 replace BK103:=am_ (zak (g:=gb103) (o:=.cells #[.int .i64 a2_0,.int .i64 a2_1] 32 (0,0)) qz14_ hb)
 replace BK104:=am_ (zak (g:=gb104) (o:=.cells #[.int .i64 0,.int .i64 0] 32 (0,0)) (by(with_reducible repeat(first|refine zah ?_ _|refine zae ?_|refine zai ?_ _));exact BK104.out) hb)
 replace HB:=am_ (zab qz21_ hb)
 (try clear hb)
 (try clear hb2)
 (try clear hk)
 (try clear hi)
 refine hK.out _ _ ⟨(zaa BK101.out 0).trans rfl,(zaa BK101.out 1).trans rfl,(zaa BK103.out 0).trans rfl,(zaa BK103.out 1).trans rfl,(zaa BK102.out 0).trans rfl,(zaa BK102.out 1).trans rfl⟩ (fun hHeld=>?_)
 clear hK K
 refine nm_ 12 ?_
 refine ot_ HT_ 6 (some 13) (bs_ 8 127) (fun K hK=>?_)
 refine go_ Tryz.func168 #[.agg #[.int .i64 a0_0,.int .i64 a0_1],.agg #[.int .i64 t107,.int .i64 t108]] ?_
 with_reducible refine(zbr.calls a0_0 a0_1 t107 t108 t109 t110 _ A6.out).mono ?_
 rintro e w14 ⟨rfl,hb⟩
 refine⟨_,rfl,?_⟩
 replace BK101:=am_ (zak (g:=gb101) (o:=.cells #[.int .i64 a0_0,.int .i64 a0_1] 32 (0,0)) qz6_ hb)
 replace BK102:=am_ (zak (g:=gb102) (o:=.cells #[.int .i64 a1_0,.int .i64 a1_1] 32 (0,0)) qz7_ hb)
 replace BK103:=am_ (zak (g:=gb103) (o:=.cells #[.int .i64 a2_0,.int .i64 a2_1] 32 (0,0)) qz14_ hb)
 replace BK104:=am_ (zak (g:=gb104) (o:=.cells #[.int .i64 0,.int .i64 0] 32 (0,0)) (by(with_reducible repeat(first|refine zah ?_ _|refine zae ?_|refine zai ?_ _));exact BK104.out) hb)
 replace HB:=am_ (zab qz21_ hb)
 (try clear hb)
 (try clear hb2)
 (try clear hk)
 (try clear hi)
 refine hK.out _ _ ⟨(zaa BK101.out 0).trans rfl,(zaa BK101.out 1).trans rfl,(zaa BK103.out 0).trans rfl,(zaa BK103.out 1).trans rfl,(zaa BK102.out 0).trans rfl,(zaa BK102.out 1).trans rfl⟩ (fun hHeld=>?_)
 clear hK K
 refine nm_ 13 ?_
 refine ot_ HT_ 7 none (bs_ 8 255) (fun K hK=>?_)
 obtain⟨hs15,hfs15⟩:=bi_ BK104.out 0
 have hns15_0:=NB101_104.out
 have hns15_1:=NB102_104.out
 have hns15_2:=NB103_104.out
 have hms15_0:=NB104_101.out
 have hms15_1:=NB104_102.out
 have hms15_2:=NB104_103.out
 obtain⟨hs16,hfs16⟩:=bi_ BK104.out 1
 have hns16_0:=NB101_104.out
 have hns16_1:=NB102_104.out
 have hns16_2:=NB103_104.out
 have hms16_0:=NB104_101.out
 have hms16_1:=NB104_102.out
 have hms16_2:=NB104_103.out
 refine skip_ (w1:=?_) (by rfl) rfl ?_ ?_
 rotate_left
 ·
  go_simp
  rfl
 refine hK.out _ _ ⟨((cell_far (p:=⟨gb104,_,none⟩) NB101_104.out _).trans (((cell_far (p:=⟨gb104,_,none⟩) NB101_104.out _).trans (hHeld.1)))),((cell_far (p:=⟨gb104,_,none⟩) NB101_104.out _).trans (((cell_far (p:=⟨gb104,_,none⟩) NB101_104.out _).trans (hHeld.2.1)))),((cell_far (p:=⟨gb104,_,none⟩) NB103_104.out _).trans (((cell_far (p:=⟨gb104,_,none⟩) NB103_104.out _).trans (hHeld.2.2.1)))),((cell_far (p:=⟨gb104,_,none⟩) NB103_104.out _).trans (((cell_far (p:=⟨gb104,_,none⟩) NB103_104.out _).trans (hHeld.2.2.2.1)))),((cell_far (p:=⟨gb104,_,none⟩) NB102_104.out _).trans (((cell_far (p:=⟨gb104,_,none⟩) NB102_104.out _).trans (hHeld.2.2.2.2.1)))),((cell_far (p:=⟨gb104,_,none⟩) NB102_104.out _).trans (((cell_far (p:=⟨gb104,_,none⟩) NB102_104.out _).trans (hHeld.2.2.2.2.2))))⟩ (fun hHeld=>?_)
 clear hK K
 refine done_ (zdr HT_.out (by kernel_rfl)) ?_
 try go_wp2
 refine bodyPost_ret (results_cell_row rfl _ _ gb104 32 #[.int .i64 t109,.int .i64 t110] (0,0) _ rfl (by(with_reducible repeat(first|refine zah ?_ _|refine zae ?_|refine zai ?_ _));refine za9 (cs:=#[.int .i64 t109,.int .i64 0]) ?_ 1 _ rfl;(with_reducible repeat(first|refine zah ?_ _|refine zae ?_|refine zai ?_ _));refine za9 (cs:=#[.int .i64 0,.int .i64 0]) ?_ 0 _ rfl;(with_reducible repeat(first|refine zah ?_ _|refine zae ?_|refine zai ?_ _));exact BK104.out) Tryz.underlying32 rfl (by kernel_rfl)) rfl ?_
 exact⟨qz4_,qz21_⟩
end Go.Proofs.YtgookagndlfehaaGreat.PT
end
