/- Part 0 of the proof of FnExactSumVerify: what functions compute, shown step by step, and what that says (the claim's last text states the law). -/
import Derived.Test.YtgookagndlfehaaProg
import Derived.Test.YtgookagndlfehaaVMore
import Derived.Test.YtgookagndlfehaaVWords
import Derived.Test.YtgookagndlfehaaVLast
import Derived.Test.YtgookagndlfehaaVTab
import Derived.Test.YtgookagndlfehaaVFour
import Derived.Test.YtgookagndlfehaaVQPut
import Derived.Test.YtgookagndlfehaaVApart
import Derived.Test.YtgookagndlfehaaVArr
import Derived.Test.YtgookagndlfehaaVZeros
import Derived.Test.YtgookagndlfehaaVFoot
import Derived.Test.YtgookagndlfehaaVKept
import Derived.Test.YtgookagndlfehaaVShare
import Derived.Test.YtgookagndlfehaaVN
import Derived.Test.YtgookagndlfehaaVFootNe
import Derived.Test.YtgookagndlfehaaVAt
import Derived.Test.YtgookagndlfehaaVRepsOne
import Derived.Test.YtgookagndlfehaaVInv
import Derived.Test.YtgookagndlfehaaVInvWords
import Derived.Test.YtgookagndlfehaaVGuard
import Derived.Test.YtgookagndlfehaaVNEv
import Derived.Test.YtgookagndlfehaaRows
import Derived.JoinedOf
import Derived.WalkKit
import Derived.ProofKit
import Derived.Below
import Derived.Deep.Draws
import Derived.Deep.AppendLies
import Derived.Maps.AppendAt
import Derived.OwnWalk
import Derived.Laws.BytesArg
import Derived.Laws.MakeOwn
import Derived.Laws.OwnMore
import Derived.Deep.OwnRows
import Derived.Tactics
import Derived.Lib.ConvBytes
import Derived.Laws.Slices
import Derived.KernelRfl
import Derived.RowKit3
import Derived.Deep.LoopGhost
import Derived.Deep.QuietTactic
import Derived.BigQuiet
import Derived.WideLaws
import Derived.Deep.DeepCutAuto
import Derived.Deep.CutBlock
import Derived.Deep.RegionHeld3
import Derived.Laws.Rows
import Derived.Lib.AppendStr
import Derived.ArgAppend
import Derived.Laws.IdiomCopy
import Derived.OrdersHeld
import Derived.Laws.BitsLemmas
import Derived.RowKit
import Derived.Deep.DeepMust
import Derived.Laws.CopyOwn
import Derived.Lib.BufferMore
import Derived.Lib.SliceRun
import Derived.OpenShut
import Derived.ShutString
import Derived.ChangeOld
import Derived.SizedLaws
import Derived.Deep.Slices
import Derived.ChangeArms
import Derived.Shelf.Small.Bits
import Derived.Shelf.Strconv.Itoa0
import Derived.Laws.Bits64b
set_option maxRecDepth 100000
set_option maxHeartbeats 8000000
namespace Go.Proofs
theorem qz0_ {p:Prop} (h:p:=by first|rfl|(go_simp;rfl)):p:=h
theorem qz1_ {p:Prop} (h:p:=by first|rfl|(rw [zb8,zb8];first|omega|(simp only [zcg];rfl))):p:=h
theorem qz2_ {p:Prop} (h:p:=by repeat(first|exact zbr.refl _|apply zbr.step)):p:=h
theorem qz3_ {p:Prop} (h:p:=by(try simp only [List.map_toArray,List.map_cons,List.map_nil]);first|done|rfl):p:=h
theorem qz4_ {p:Prop} (h:p:=by repeat(first|(with_reducible first|exact HB.out|apply za0|apply zay|apply zat)|exact HB.out)):p:=h
theorem qz5_ {p:Prop} (h:p:=by(with_reducible repeat(first|apply Kd.zb3|apply Kd.zb4|apply Kd.zch));exact HO_3.out):p:=h
theorem qz6_ {p:Prop} (h:p:=by repeat(first|(with_reducible first|exact HK.out|apply Kept.alloc|apply Kept.drewN|apply Kept.drew)|exact HK.out)):p:=h
theorem qz7_ {p:Prop} (h:p:=by(with_reducible repeat(first|apply Kd.zb3|apply Kd.zb4|apply Kd.zch));exact HO103.out):p:=h
theorem qz8_ {p:Prop} (h:p:=by first|rfl|(simp [zc3,zc2] <;> rfl)|(simp [*,zc3,zc2] <;> rfl)):p:=h
theorem qz9_ {p:Prop} (h:p:=by first|(go_simp;done)|(go_simp;rfl)):p:=h
theorem qz10_ {p:Prop} (h:p:=by first|rfl|(simp;done)|(simp [*];done)):p:=h
theorem qz11_ {p:Prop} (h:p:=by first|(with_reducible assumption)|assumption):p:=h
theorem qz12_ {p:Prop} (h:p:=by first|rfl|simp [Value.oneCell']):p:=h
theorem qz13_ {p:Prop} (h:p:=by(with_reducible repeat(first|refine zah ?_ _|refine zaf ?_|refine zai ?_ _));exact BK101.out):p:=h
theorem qz14_ {p:Prop} (h:p:=by repeat(first|(with_reducible first|exact HB.out|apply za0|apply zay|apply zat|refine za4 ?_ GE101.out)|exact HB.out)):p:=h
theorem qz15_ {p:Prop} (h:p:=by(with_reducible repeat(first|refine zah ?_ _|refine zaf ?_|refine zai ?_ _));exact BK102.out):p:=h
theorem qz16_ {p:Prop} (h:p:=by repeat(first|(with_reducible first|exact HB.out|apply za0|apply zay|apply zat|refine za4 ?_ GE101.out|refine za4 ?_ GE102.out)|exact HB.out)):p:=h
theorem qz17_ {p:Prop} (h:p:=by repeat(first|(with_reducible first|exact HB.out|apply za0|apply zay|apply zat|refine za4 ?_ GE101.out|refine za4 ?_ GE102.out|refine za4 ?_ GE103.out)|exact HB.out)):p:=h
theorem qz18_ {p:Prop} (h:p:=by(try simp only [List.map_toArray,List.map_cons,List.map_nil]);first|done|rfl|(simp only [List.length_drop,List.length_take];rfl)):p:=h
theorem qz19_ {p:Prop} (h:p:=by(with_reducible repeat(first|refine zah ?_ _|refine zaf ?_|refine zai ?_ _));exact BK103.out):p:=h
theorem qz20_ {p:Prop} (h:p:=by(with_reducible repeat(first|apply Kd.zb3|apply Kd.zb4|apply Kd.zch));exact HO0_0.out):p:=h
theorem qz21_ {p:Prop} (h:p:=by first|exact HK.out.1|exact(show Kept w _ (fun k_=>P0_0_ k_) from by repeat(first|(with_reducible first|exact HK.out|apply Kept.alloc|apply Kept.drewN|apply Kept.drew)|exact HK.out)).1):p:=h
theorem qz22_ {p:Prop} (h:p:=by repeat(first|(with_reducible first|exact HK.out|apply Kept.alloc|apply Kept.drewN|apply Kept.drew|refine Kept.setCell ?_ (.inr GW101.out) _)|exact HK.out)):p:=h
theorem qz23_ {p:Prop} (h:p:=by(with_reducible repeat(first|refine zah ?_ _|refine zaf ?_|refine zai ?_ _));refine za9 (cs:=#[.int .i64 t104,.int .i64 0]) ?_ 1 _ rfl;(with_reducible repeat(first|refine zah ?_ _|refine zaf ?_|refine zai ?_ _));refine za9 (cs:=#[.int .i64 0,.int .i64 0]) ?_ 0 _ rfl;(with_reducible repeat(first|refine zah ?_ _|refine zaf ?_|refine zai ?_ _));exact BK103.out):p:=h
theorem qz24_ {p:Prop} (h:p:=by(with_reducible repeat(first|refine zah ?_ _|refine zaf ?_|refine zai ?_ _));exact BK105.out):p:=h
theorem qz25_ {p:Prop} (h:p:=by repeat(first|(with_reducible first|exact HK.out|apply zbj.set_|apply znt|apply zn5|apply zny)|exact HK.out)):p:=h
theorem qz26_ {p:Prop} (h:p:=by(with_reducible repeat(first|refine zah ?_ _|refine zaf ?_|refine zai ?_ _));refine zbc ?_ NB101_103.out _;(with_reducible repeat(first|refine zah ?_ _|refine zaf ?_|refine zai ?_ _));refine zbc ?_ NB101_103.out _;(with_reducible repeat(first|refine zah ?_ _|refine zaf ?_|refine zai ?_ _));exact BK101.out):p:=h
theorem qz27_ {p:Prop} (h:p:=by(with_reducible repeat(first|refine zah ?_ _|refine zaf ?_|refine zai ?_ _));refine zbc ?_ NB102_103.out _;(with_reducible repeat(first|refine zah ?_ _|refine zaf ?_|refine zai ?_ _));refine zbc ?_ NB102_103.out _;(with_reducible repeat(first|refine zah ?_ _|refine zaf ?_|refine zai ?_ _));exact BK102.out):p:=h
theorem qz28_ {p:Prop} (h:p:=by(with_reducible repeat(first|refine zah ?_ _|refine zaf ?_|refine zai ?_ _));refine zbc ?_ NB101_105.out _;(with_reducible repeat(first|refine zah ?_ _|refine zaf ?_|refine zai ?_ _));refine zbc ?_ NB101_105.out _;(with_reducible repeat(first|refine zah ?_ _|refine zaf ?_|refine zai ?_ _));exact BK101.out):p:=h
theorem qz29_ {p:Prop} (h:p:=by(with_reducible repeat(first|refine zah ?_ _|refine zaf ?_|refine zai ?_ _));refine zbc ?_ NB102_105.out _;(with_reducible repeat(first|refine zah ?_ _|refine zaf ?_|refine zai ?_ _));refine zbc ?_ NB102_105.out _;(with_reducible repeat(first|refine zah ?_ _|refine zaf ?_|refine zai ?_ _));exact BK102.out):p:=h
theorem qz30_ {p:Prop} (h:p:=by(with_reducible repeat(first|refine zah ?_ _|refine zaf ?_|refine zai ?_ _));refine zbc ?_ NB103_105.out _;(with_reducible repeat(first|refine zah ?_ _|refine zaf ?_|refine zai ?_ _));refine zbc ?_ NB103_105.out _;(with_reducible repeat(first|refine zah ?_ _|refine zaf ?_|refine zai ?_ _));exact BK103.out):p:=h
theorem qz31_ {p:Prop} (h:p:=by(with_reducible repeat(first|refine zah ?_ _|refine zaf ?_|refine zai ?_ _));refine za9 (cs:=#[.int .i64 ((zan l0 x13_1).f0),.int .i64 0]) ?_ 1 _ rfl;(with_reducible repeat(first|refine zah ?_ _|refine zaf ?_|refine zai ?_ _));refine za9 (cs:=#[.int .i64 0,.int .i64 0]) ?_ 0 _ rfl;(with_reducible repeat(first|refine zah ?_ _|refine zaf ?_|refine zai ?_ _));exact BK105.out):p:=h
theorem qz32_ {p:Prop} (h:p:=by repeat(first|(with_reducible first|exact HB.out|apply za0|apply zay|apply zat|refine za4 ?_ GE101.out|refine za4 ?_ GE102.out|refine za4 ?_ GE103.out|refine za4 ?_ GE105.out)|exact HB.out)):p:=h
theorem qz33_ {p:Prop} (h:p:=by repeat(first|(with_reducible first|exact HB.out|apply za0|apply zay|apply zat|refine za4 ?_ GE101.out|refine za4 ?_ GE102.out|refine za4 ?_ GE103.out|refine za4 ?_ GE105.out|refine za4 ?_ GE106.out)|exact HB.out)):p:=h
theorem qz34_ {p:Prop} (h:p:=by repeat(first|exact List.Sublist.slnil|apply List.Sublist.cons_cons|apply List.Sublist.cons)):p:=h
theorem qz35_ {p:Prop} (h:p:=by first|exact HK.out.1|exact(show Kept w _ (fun k_=>P0_0_ k_) from by repeat(first|(with_reducible first|exact HK.out|apply Kept.alloc|apply Kept.drewN|apply Kept.drew|refine Kept.setCell ?_ (.inr GW101.out) _)|exact HK.out)).1):p:=h
theorem qz36_ {p:Prop} (h:p:=by first|exact HK.out.1|exact(show Kept w _ (fun k_=>P0_0_ k_) from by repeat(first|(with_reducible first|exact HK.out|apply Kept.alloc|apply Kept.drewN|apply Kept.drew|refine Kept.setCell ?_ (.inr GW101.out) _|refine Kept.setCell ?_ (.inr GW102.out) _)|exact HK.out)).1):p:=h
theorem qz37_ {p:Prop} (h:p:=by repeat(first|(with_reducible first|exact HK.out|apply Kept.alloc|apply Kept.drewN|apply Kept.drew|refine Kept.setCell ?_ (.inr GW101.out) _|refine Kept.setCell ?_ (.inr GW102.out) _)|exact HK.out)):p:=h
theorem qz38_ {p:Prop} (h:p:=by repeat(first|(with_reducible first|exact HK.out|apply Kept.alloc|apply Kept.drewN|apply Kept.drew|refine Kept.setCell ?_ (.inr GW101.out) _|refine Kept.setCell ?_ (.inr GW102.out) _|refine Kept.setCell ?_ (.inr GW103.out) _)|exact HK.out)):p:=h
theorem qz39_ {p:Prop} (h:p:=by first|exact Kd.zii (Kd.zmq HO0_0.out (fun _ hk=>hk.2))|(rw [add_block];exact Kd.zii (Kd.zmq HO0_0.out (fun _ hk=>hk.2)))|(show (Addr.add _ _).block≠_;rw [add_block];exact Kd.zii (Kd.zmq HO0_0.out (fun _ hk=>hk.2)))|(dsimp only;exact Kd.zii (Kd.zmq HO0_0.out (fun _ hk=>hk.2)))):p:=h
theorem qz40_ {p:Prop} (h:p:=by repeat(first|exact List.mem_cons_self|apply List.mem_cons_of_mem)):p:=h
theorem qc_ {p q:Prop} (h:p) (e:p→q:=by intro h_;repeat(first|exact h_|(with_reducible refine Kd.zg2 ?_ _)|(with_reducible refine Kd.zhw ?_ _)|(with_reducible refine Kd.zjc ?_))):q:=e h
theorem qd1_ {w:World} {m n:Nat}:(w.drewN m).drewN n=w.drewN (m + n):=World.drewN_drewN _ _ _
theorem qd2_ {w:World} {a b c:Nat}:(w.drewN (a + b)).drewN c=w.drewN (a + (b + c)):=Eq.trans (World.drewN_drewN _ _ _) (congrArg (World.drewN _) (Nat.add_assoc _ _ _))
theorem am_ {p:Prop} (h:p):Go.Proofs.YtgookagndlfehaaW.PrintWords.zal p:=⟨h⟩
theorem ap_ {α:Sort _} {a b:α} (h:a=b:=by simp only [Act.put,List.setIfInBounds_toArray,List.set_cons_zero,List.set_cons_succ,Go.Proofs.YtgookagndlfehaaW.PrintLast.i64_w,Go.Proofs.YtgookagndlfehaaW.PrintLast.i32_w];rfl):a=b:=h
section
open Go.RowKit Go.Proofs.YtgookagndlfehaaW.PrintWords Go.Proofs.YtgookagndlfehaaW.PrintLast Go.Proofs.YtgookagndlfehaaW.PrintMore
@[reducible] def bs_ (n m : Nat) : Array Bool := ((List.range n).map fun i => m.testBit i).toArray
theorem bx_ {p : Prop} (h : p := by first | (go_simp; done) | (go_simp; rfl)) : p := h
theorem ab_ {b : Bool} {p : Prop} (h : b = false) (k : b = true) : p := absurd (h.symm.trans k) (by decide)
theorem pu_ {P : Program} {ops : Array Oper} {Q : Exit → Act → World → Prop} {md : Region.Mode} {S : World → Prop} {ds : List Nat} {fuel : Nat} {l : Array Bool} {a a' : Act} {w : World} {oi : Oper} {v : Value} (i : Nat) (n : Tmp) (l' : Array Bool)
    (h : za1 P md ops Q S ds fuel l' a' w) (hi : ops[i]? = some oi := by rfl) (hN : oi.dst = some n := by rfl) (hc : anyB md ops l l' i = true := by kernel_rfl) (hQ : ∀ c a w, Q (.panic c) (a.put oi.dst v) w → Q (.panic c) a w := by exact fun _ _ _ h => h)
    (hy : Yields P ops oi v a := by exact Or.inl ⟨by rfl, by intro w'; go_simp; with_reducible rfl⟩) (ha : a.put (some n) v = a' := by exact ap_) : za1 P md ops Q S ds (fuel + 1) l a w := pure_ (i := i) (N := some n) (v := v) (a' := a') l' hi hN hc hQ hy ha h
theorem pt_ {P : Program} {ops : Array Oper} {Q : Exit → Act → World → Prop} {md : Region.Mode} {S : World → Prop} {ds : List Nat} {fuel : Nat} {l : Array Bool} {a a' : Act} {w : World} {oi : Oper} {v : Value} {T : Bool × List (List Nat × List Nat)} (hT : rtab md ops = T) (i : Nat) (n : Tmp) (l' : Array Bool)
    (h : za1 P md ops Q S ds fuel l' a' w) (hc : anyT T l.toList l'.toList i = true := by kernel_rfl) (hi : ops[i]? = some oi := by rfl) (hN : oi.dst = some n := by rfl) (hQ : ∀ c a w, Q (.panic c) (a.put oi.dst v) w → Q (.panic c) a w := by exact fun _ _ _ h => h)
    (hy : Yields P ops oi v a := by exact Or.inl ⟨by rfl, by intro w'; go_simp; with_reducible rfl⟩) (ha : a.put (some n) v = a' := by exact ap_) : za1 P md ops Q S ds (fuel + 1) l a w := pure_ (i := i) (N := some n) (v := v) (a' := a') l' hi hN (any_of hT hc) hQ hy ha h
end
end Go.Proofs
section
/- The closed facts of the program's head row, each by its own. -/
namespace Go.Proofs.Ytgookagndlfehaa
open Go.RowKit
theorem ze6 (r:List Char):∀ w:List Char,w.all (fun c=>c != Char.ofNat 32)=true→wordsSigns (w++Char.ofNat 32::r)=w::wordsSigns r
 | [],_=>by rfl
 | c::w,h=>by
  simp only [List.all_cons,Bool.and_eq_true,bne_iff_ne,ne_eq] at h
  rw [List.cons_append,wordsSigns]
  ·
   rw [ze6 r w h.2]
  ·
   intro e;exact h.1 e
theorem zou {P:Program} {s r:List Char} (hs:s.all (fun c=>c != Char.ofNat 32)=true) (hsum:isSumSigns s=true)
  (h:P.initOrder=String.ofList ([104,97,114,110,101,115,115].map Char.ofNat++Char.ofNat 32::(s++Char.ofNat 32::([99,117,116].map Char.ofNat++Char.ofNat 32::r)))) :
  behindMainWord (wordsSigns P.initOrder.toList)=[99,117,116].map Char.ofNat::wordsSigns r:=by
 rw [h,String.toList_ofList,ze6 _ _ (by decide),ze6 _ _ hs,ze6 _ _ (by decide),behindMainWord,if_pos]
 rw [hsum]
 decide
set_option maxRecDepth 100000
def zm5:List Char:=List.map Char.ofNat [97,116,32,108,111,111,112,46,101,120,97,109,112,108,101,47,103,48,48,51,52,56,47,108,97,119,115,46,70,110,83,99,114,105,112,116,32,108,111,111,112,46,101,120,97,109,112,108,101,47,103,48,48,51,52,56,47,108,97,119,115,46,70,110,69,120,97,99,116,83,121,115,116,101,109,68,105,103,101,115,116,32,108,111,111,112,46,101,120,97,109,112,108,101,47,103,48,48,51,52,56,47,108,97,119,115,46,70,110,69,120,97,99,116,67,111,109,109,105,116,84,97,98,108,101,32,108,111,111,112,46,101,120,97,109,112,108,101,47,103,48,48,51,52,56,47,108,97,119,115,46,70,110,69,120,97,99,116,83,117,109,86,101,114,105,102,121]
theorem order:Try.prog.initOrder=String.ofList ([104,97,114,110,101,115,115].map Char.ofNat++Char.ofNat 32::((List.map Char.ofNat [100,57,55,98,48,57,49,55,97,49,53,100,52,51,98,100,102,57,50,50,55,56,52,100,51,49,51,52,97,100,97,102,50,98,54,50,55,57,99,102,50,57,56,99,98,57,97,54,49,99,50,101,97,53,97,52,98,54,101,101,57,51,51,56])++Char.ofNat 32::([99,117,116].map Char.ofNat++Char.ofNat 32::zm5))):=by kernel_rfl
theorem zog:behindMainWord (wordsSigns Try.prog.initOrder.toList)=[99,117,116].map Char.ofNat::wordsSigns zm5:=zou (by decide +kernel) (by decide +kernel) order
theorem enters_of {P:Program} {ws:List (List Char)} (h:behindMainWord (wordsSigns P.initOrder.toList)=[99,117,116].map Char.ofNat::ws) (h1:P.laysLater=false) (h2:P.bearsReflect=false) (h3:P.doorFits []=true):P.mayEnter=true:=by
 have e:stripLifts liftWords ([99,117,116].map Char.ofNat::ws)=([],[99,117,116].map Char.ofNat::ws):=rfl
 unfold Program.mayEnter
 rw [h]
 simp only [e,h1,h2,h3]
 rfl
theorem zly {P:Program} {ws:List (List Char)} (h:behindMainWord (wordsSigns P.initOrder.toList)=[99,117,116].map Char.ofNat::ws):P.liftsFinal=false:=by
 have e:stripLifts liftWords ([99,117,116].map Char.ofNat::ws)=([],[99,117,116].map Char.ofNat::ws):=rfl
 unfold Program.liftsFinal Program.headLifts
 rw [h]
 simp only [e]
 rfl
theorem makes_of {P:Program} {ws:List (List Char)} (h:behindMainWord (wordsSigns P.initOrder.toList)=[99,117,116].map Char.ofNat::ws):P.make=some .cut:=by
 unfold Program.make
 rw [h]
 rfl
theorem allOf {b1 b2 b3 b4 b5 b6 b7 b8 b9 b10 b11 b12 b13 b14 b15 b16 b17 b18 b19 b20 b21 b22 b23 b24 b25 b26 b27 b28 b29 b30 b31 b32:Bool} (h1:b1=true) (h2:b2=true) (h3:b3=true) (h4:b4=true) (h5:b5=true) (h6:b6=true) (h7:b7=true) (h8:b8=true) (h9:b9=true) (h10:b10=true) (h11:b11=true) (h12:b12=true) (h13:b13=true) (h14:b14=true) (h15:b15=true) (h16:b16=true) (h17:b17=true) (h18:b18=true) (h19:b19=true) (h20:b20=true) (h21:b21=true) (h22:b22=true) (h23:b23=true) (h24:b24=true) (h25:b25=true) (h26:b26=true) (h27:b27=true) (h28:b28=true) (h29:b29=true) (h30:b30=true) (h31:b31=true) (h32:b32=true):(b1 && b2 && b3 && b4 && b5 && b6 && b7 && b8 && b9 && b10 && b11 && b12 && b13 && b14 && b15 && b16 && b17 && b18 && b19 && b20 && b21 && b22 && b23 && b24 && b25 && b26 && b27 && b28 && b29 && b30 && b31 && b32)=true:=by subst h1 h2 h3 h4 h5 h6 h7 h8 h9 h10 h11 h12 h13 h14 h15 h16 h17 h18 h19 h20 h21 h22 h23 h24 h25 h26 h27 h28 h29 h30 h31 h32;rfl
theorem sameNo {a b:Bool} (ha:a=false) (h:b=false):(a == b)=true:=by subst ha;subst h;rfl
theorem sameCut {x:Option Make} (h:x=some .cut):(x == some Make.cut)=true:=by subst h;rfl
theorem notMain {P : Program} {fn : Func} (h : decide (Check.packageOf fn.name = "main") = false) : fn.isWrapper P false "" := by
 unfold Func.isWrapper;rw [if_neg (of_decide_eq_false h)];exact⟨rfl,rfl⟩
theorem own:ownKnob Try.prog.godebug=none:=by kernel_rfl
theorem laidOut:laidOutB Try.prog=true:=by kernel_rfl
theorem mapsAre:mapsRowed Try.prog=true:=by kernel_rfl
theorem enters:Try.prog.mayEnter=true:=enters_of zog (by as_aux_lemma=>kernel_rfl) (by as_aux_lemma=>kernel_rfl) (by as_aux_lemma=>kernel_rfl)
theorem liftsNot:Try.prog.liftsFinal=false:=zly zog
theorem makes:Try.prog.make=some .cut:=makes_of zog
end Go.Proofs.Ytgookagndlfehaa
end
section
/- A call of a function value that is known: words of this session beside the print's own (Ytgookagndlfehaa: the seat's name). -/
namespace Go.Proofs.YtgookagndlfehaaW.PrintLast
open Go.RowKit Go.Proofs.YtgookagndlfehaaW.PrintWords
section
variable {P:Program} {ops:Array Oper} {Q:Exit→Act→World→Prop}
theorem goesV_ {oi : Oper} {N : Option Tmp} {a : Act} {w : World} {K : Act → World → Prop} {f : FuncId} {fn : Func} {s : Operand} {ops_ : Array Operand} {ts : Array TypeId} (hf : P.funcs[f]? = some fn) (hname : (fn.name == "runtime.NumGoroutine") = false) (hb : fn.body.isSome = true) (args : Array Value)
  (hw:Region.wanted oi (yielded ops a.tmps)=true) (hN:oi.dst=N) (hop:oi.op=.call { callee:=.value s,args:=ops_,argTypes:=ts }) (hs:a.eval s=.func (.func f) #[] #[]) (hargs:ops_.map a.eval=args)
  (h:Calls P f args w fun e w'=>∃ v,e=.returned v∧K (a.put N v) w'):if Region.wanted oi (yielded ops a.tmps)=true then Oper.wp P oi a w K Q else K (a.put N undef) w:=by
 refine call_ f args hw hN ?_ h
 have he:=zmk hf hname hb args w
 unfold execOp
 simp [hop,resolve,Deferred.ofValue,invoke,hs,hargs,he]
end
end Go.Proofs.YtgookagndlfehaaW.PrintLast
end
section
namespace Go.Proofs.Ytgookagndlfehaa.PT
open Go.RowKit Go.Proofs.YtgookagndlfehaaW.PrintWords Go.Proofs.YtgookagndlfehaaW.PrintLast Go.Proofs.YtgookagndlfehaaW.PrintMore
attribute [local go_sem] zex zev zfa ze8 zec zed zeu zew   -- for this text's walks alone
set_option linter.unusedVariables false
set_option linter.unusedSimpArgs false
def errW:Option Int→Value
 | none=>.nilIface
 | some c=>.iface 0 (.int .i64 c)
theorem zc3:errW none=.nilIface:=rfl
theorem zc2 (c:Int):errW (some c)=.iface 0 (.int .i64 c):=rfl
theorem info5:(Try.prog.info? 5).map (fun i=>(i.zero,i.size,i.bytes))=some (some (.int .u8 0),1,1):=by kernel_rfl
theorem info24:(Try.prog.info? 24).map (fun i=>(i.zero,i.size,i.bytes))=some (some (.slice none 0 0),1,24):=by kernel_rfl
theorem zk5:(Try.prog.info? 34).map (fun i=>(i.zero,i.size,i.bytes))=some (some (.agg #[(.int .i64 0),(.int .i64 0)]),2,16):=by kernel_rfl
structure S34 where
 f0:Int
 f1:Int
def z34:S34:=⟨(0:Int),(0:Int)⟩
def k34:Kd S34:=Kd.iso (Kd.pair (Kd.int .i64) (Kd.int .i64)) (fun x:S34=>(x.f0,x.f1))
theorem k34_open {w:World} {x:S34} {cs:List Value} (h:k34.K w x cs):cs=[.int .i64 x.f0,.int .i64 x.f1]:=by
 obtain⟨_,_,rfl,rfl,rfl⟩:=h
 exact rfl
theorem zfz {w:World} {base:Nat} {ok:Nat→Prop} {x:S34} {cs:List Value} (h:k34.M w base ok x cs):cs=[.int .i64 x.f0,.int .i64 x.f1]:=by
 obtain⟨_,_,rfl,rfl,rfl⟩:=h
 exact rfl
theorem zhe (w:World) (base:Nat) (ok:Nat→Prop) (x:S34) :k34.M w base ok x [.int .i64 x.f0,.int .i64 x.f1]:=⟨[.int .i64 x.f0],[.int .i64 x.f1],rfl,rfl,rfl⟩
def zan (xs:List S34) (i:Int):S34:=xs.getD i.toNat z34
theorem zey {w:World} {A:Option Addr} {n:Nat} {xs:List S34} (h:Kd.C k34 w A n xs) (i:Int) (h0:0≤i) (h1:i<n):∃ ad ,A=some ad∧w.cell? (ad.add (i.toNat * 2))=some (.int .i64 (zan xs i).f0)∧w.cell? ⟨(ad.add (i.toNat * 2)).block,(ad.add (i.toNat * 2)).off + 1,none⟩=some (.int .i64 (zan xs i).f1):=by
 obtain⟨ad,c,e,_,hK,hc0⟩:=Kd.C_get h z34 i h0 h1
 have hc:∀ j u,c[j]?=some u→w.cell? (ad.add (i.toNat * 2 + j))=some u:=hc0
 obtain rfl:=k34_open hK
 exact⟨ad,e,hc 0 _ rfl,(by rw [←zlg _ _ 1 (by omega)];exact hc 1 _ rfl)⟩
structure S56 where
 f0:Int
 f1:Int
def z56:S56:=⟨(0:Int),(0:Int)⟩
def k56:Kd S56:=Kd.iso (Kd.pair (Kd.int .i64) (Kd.int .i64)) (fun x:S56=>(x.f0,x.f1))
theorem zmz {w:World} {x:S56} {cs:List Value} (h:k56.K w x cs):cs=[.int .i64 x.f0,.int .i64 x.f1]:=by
 obtain⟨_,_,rfl,rfl,rfl⟩:=h
 exact rfl
def zgt (xs:List S56) (i:Int):S56:=xs.getD i.toNat z56
theorem at_T56 {w:World} {A:Option Addr} {n:Nat} {xs:List S56} (h:Kd.C k56 w A n xs) (i:Int) (h0:0≤i) (h1:i<n):∃ ad ,A=some ad∧w.cell? (ad.add (i.toNat * 2))=some (.int .i64 (zgt xs i).f0)∧w.cell? ⟨(ad.add (i.toNat * 2)).block,(ad.add (i.toNat * 2)).off + 1,none⟩=some (.int .i64 (zgt xs i).f1):=by
 obtain⟨ad,c,e,_,hK,hc0⟩:=Kd.C_get h z56 i h0 h1
 have hc:∀ j u,c[j]?=some u→w.cell? (ad.add (i.toNat * 2 + j))=some u:=hc0
 obtain rfl:=zmz hK
 exact⟨ad,e,hc 0 _ rfl,(by rw [←zlg _ _ 1 (by omega)];exact hc 1 _ rfl)⟩
def zf1 (xs:List (List S56)) (i:Int):(List S56):=xs.getD i.toNat ([]:List S56)
theorem zon {w:World} {A:Option Addr} {n:Nat} {xs:List (List S56)} (h:Kd.C (Kd.slice 56 k56) w A n xs) (i:Int) (h0:0≤i) (h1:i<n):∃ ad A0 c0,A=some ad∧w.cell? (ad.add i.toNat)=some (.slice A0 (zf1 xs i).length c0)∧(zf1 xs i).length≤c0∧k56.C w A0 (zf1 xs i).length (zf1 xs i):=by
 obtain⟨ad,c,e,_,hK,hc0⟩:=Kd.C_get h ([]:List S56) i h0 h1
 have hc:∀ j u,c[j]?=some u→w.cell? (ad.add (i.toNat * 1 + j))=some u:=hc0
 obtain⟨A0,c0,rfl,l0,g0⟩:=hK
 exact⟨ad,A0,c0,e,(by have hq:=hc 0 _ rfl;rwa [Nat.mul_one,Nat.add_zero] at hq),l0,g0⟩
def zd0 (xs:List (List S34)) (i:Int):(List S34):=xs.getD i.toNat ([]:List S34)
theorem zhj {w:World} {A:Option Addr} {n:Nat} {xs:List (List S34)} (h:Kd.C (Kd.slice 34 k34) w A n xs) (i:Int) (h0:0≤i) (h1:i<n):∃ ad A0 c0,A=some ad∧w.cell? (ad.add i.toNat)=some (.slice A0 (zd0 xs i).length c0)∧(zd0 xs i).length≤c0∧k34.C w A0 (zd0 xs i).length (zd0 xs i):=by
 obtain⟨ad,c,e,_,hK,hc0⟩:=Kd.C_get h ([]:List S34) i h0 h1
 have hc:∀ j u,c[j]?=some u→w.cell? (ad.add (i.toNat * 1 + j))=some u:=hc0
 obtain⟨A0,c0,rfl,l0,g0⟩:=hK
 exact⟨ad,A0,c0,e,(by have hq:=hc 0 _ rfl;rwa [Nat.mul_one,Nat.add_zero] at hq),l0,g0⟩
structure S59 where
 f0:(List S56)
 f1:Int
 f2:ByteArray
 f3:Int
def k59:Kd S59:=Kd.iso (Kd.pair (Kd.slice 56 k56) (Kd.pair (Kd.int .i64) (Kd.pair Kd.string (Kd.int .i64)))) (fun x:S59=>(x.f0,x.f1,x.f2,x.f3))
theorem k59_open {w:World} {x:S59} {cs:List Value} (h:k59.K w x cs):∃ A0 c0,cs=[.slice A0 x.f0.length c0,.int .i64 x.f1,.string x.f2,.int .i64 x.f3]∧x.f0.length≤c0∧k56.C w A0 x.f0.length x.f0:=by
 obtain⟨_,_,rfl,⟨A0,c0,rfl,l0,g0⟩,⟨_,_,rfl,rfl,⟨_,_,rfl,rfl,rfl⟩⟩⟩:=h
 exact⟨A0,c0,rfl,l0,g0⟩
end Go.Proofs.Ytgookagndlfehaa.PT
end
section
/- Rows of 64-bit words, as a block of memory holds them. -/
namespace Go.Proofs.Ytgookagndlfehaa.PT
open Go.RowKit Go.Proofs.YtgookagndlfehaaW.PrintWords Go.Proofs.YtgookagndlfehaaW.PrintLast Go.Proofs.YtgookagndlfehaaW.PrintMore
set_option linter.unusedVariables false
set_option linter.unusedSimpArgs false
def uarr (k:IntKind) (xs:List Int):Array Value:=(xs.map fun x=>Value.int k x).toArray
theorem zb8 (k:IntKind) (xs:List Int):(uarr k xs).size=xs.length:=by simp [uarr]
theorem zm9 {k:IntKind} {xs:List Int} {i:Nat} (h:i<xs.length):(uarr k xs)[i]?=some (.int k (xs.getD i 0)):=by
 simp [uarr,List.getD,h]
theorem zfr (k:IntKind) (xs:List Int) (i:Nat) (v:Int):(uarr k xs).setIfInBounds i (.int k v)=uarr k (xs.set i v):=by
 simp [uarr,List.map_set]
theorem zdq (k:IntKind) (xs:List Int):(uarr k xs).all (·.oneCell')=true:=by
 rw [Array.all_eq_true_iff_forall_mem]
 intro v hv
 simp only [uarr,List.mem_toArray,List.mem_map] at hv
 obtain⟨x,_,rfl⟩:=hv
 rfl
theorem zb1 {w:World} {g:Nat} {t:TypeId} {k:IntKind} {xs:List Int} (h:w.heap[g]?=some (.cells (uarr k xs) t (0,0))) {i:Nat} (hi:i<xs.length):w.cell? ⟨g,i,none⟩=some (.int k (xs.getD i 0)):=(zaa h i).trans (zm9 hi)
theorem zh0 {w:World} {g:Nat} {t:TypeId} {k:IntKind} {xs:List Int} (h:w.heap[g]?=some (.cells (uarr k xs) t (0,0))) (i:Nat) (v:Int):(w.setCell ⟨g,i,none⟩ (.int k v)).heap[g]?=some (.cells (uarr k (xs.set i v)) t (0,0)):=za9 h i _ (zfr k xs i v)
def iter {α:Type} (f:Nat→α→α):Nat→Nat→α→α
 | 0,_,x=>x
 | k + 1,j,x=>iter f k (j + 1) (f j x)
end Go.Proofs.Ytgookagndlfehaa.PT
end
section
/- Own parts of memory, each with what is known of it, and what is known of the rest: one fact that moves with the world. -/
namespace Go.Proofs.Ytgookagndlfehaa.PT
open Go.RowKit Go.Proofs.YtgookagndlfehaaW.PrintWords Go.Proofs.YtgookagndlfehaaW.PrintLast Go.Proofs.YtgookagndlfehaaW.PrintMore
set_option linter.unusedVariables false
set_option linter.unusedSimpArgs false
structure Grp where
 S:Nat→Prop
 A:World→Prop
structure Agr (w w':World) (S:Nat→Prop):Prop where
 os:w'.os=w.os
 tape:w'.tape=w.tape
 output:w'.output=w.output
 size:w.heap.size≤w'.heap.size
 block:∀ k,k<w.heap.size→¬S k→w'.heap[k]?=w.heap[k]?
def NoB:Nat→Prop:=fun _=>False
theorem Agr.refl (w:World) (S:Nat→Prop):Agr w w S:=⟨rfl,rfl,rfl,Nat.le_refl _,fun _ _ _=>rfl⟩
theorem Agr.mono {w w':World} {S T:Nat→Prop} (h:Agr w w' S) (hs:∀ k,S k→T k):Agr w w' T:=⟨h.os,h.tape,h.output,h.size,fun k hk hn=>h.block k hk (fun hS=>hn (hs k hS))⟩
theorem Agr.trans {w w1 w2:World} {S T:Nat→Prop} (h:Agr w w1 S) (k:Agr w1 w2 T) (hT:∀ i,T i→S i∨w.heap.size≤i):Agr w w2 S:=
 ⟨k.os.trans h.os,k.tape.trans h.tape,k.output.trans h.output,Nat.le_trans h.size k.size,fun i hi hn=>(k.block i (Nat.lt_of_lt_of_le hi h.size) (fun hk=>(hT i hk).elim hn (fun h2=>absurd hi (Nat.not_lt.2 h2)))).trans (h.block i hi hn)⟩
theorem Agr.of_below {w w':World} (h:Below w.heap.size w w'):Agr w w' NoB:=⟨h.os,h.tape,h.output,h.size,fun k hk _=>h.block k hk⟩
theorem Agr.below {w w':World} (h:Agr w w' NoB):Below w.heap.size w w':=⟨h.os,h.tape,h.output,h.size,fun k hk=>h.block k hk (fun h=>h)⟩
theorem Agr.zfs {w w':World} {v:Value} (h:w.grownBy w' v.ownBlock):Agr w w' (fun k=>some k=v.ownBlock):=⟨h.os,h.tape,h.output,h.size,fun k hk hn=>h.block k hk hn⟩
theorem Agr.zmh {w0 w w':World} {g:Nat} (h:zbj w w' g none) (hb:Below w0.heap.size w0 w) (hb':Below w0.heap.size w0 w'):Agr w w' (fun k=>k=g):=
 ⟨hb'.os.trans hb.os.symm,hb'.tape.trans hb.tape.symm,hb'.output.trans hb.output.symm,h.1,fun k hk hn=>h.2 k hk hn (by simp)⟩
theorem Agr.keep {w w':World} {g:Nat} (h:Agr w w' (fun k=>k=g)):zbj w w' g none:=⟨h.size,fun k hk hn _=>h.block k hk hn⟩
theorem Agr.cell {w w':World} {S:Nat→Prop} (h:Agr w w' S) {a:Addr} {v:Value} (hc:w.cell? a=some v) (hn:¬S a.block):w'.cell? a=some v:=by
 have:=h.block a.block (World.block_lt_of_cell? w a hc) hn
 simpa [World.cell?,this] using hc
theorem Agr.onto {w0 w w':World} {S:Nat→Prop} (h:Agr w w' S) (hb:Below w0.heap.size w0 w) (hS:∀ k,S k→w0.heap.size≤k):Below w0.heap.size w0 w':=
 ⟨h.os.trans hb.os,h.tape.trans hb.tape,h.output.trans hb.output,Nat.le_trans hb.size h.size,fun k hk=>(h.block k (Nat.lt_of_lt_of_le hk hb.size) (fun hs=>absurd hk (Nat.not_lt.2 (hS k hs)))).trans (hb.block k hk)⟩
def InL (L:List Grp) (k:Nat):Prop:=∃ b,b∈L∧b.S k
structure Inv (w0:World) (P:Nat→Prop) (w:World) (L:List Grp) (F:World→Prop):Prop where
 agr:Agr w0 w P
 lt:∀ b,b∈L→∀ k,b.S k→k<w.heap.size
 new:∀ b,b∈L→∀ k,b.S k→w0.heap.size≤k∨P k
 own:∀ b,b∈L→∀ w',(∀ k,b.S k→w'.heap[k]?=w.heap[k]?)→b.A w'
 dis:L.Pairwise (fun a b=>∀ k,a.S k→¬b.S k)
 facts:∀ w',Agr w w' (InL L)→F w'
namespace Inv
variable {w0 w w1:World} {P:Nat→Prop} {L:List Grp} {F:World→Prop}
theorem start (w:World) (F:World→Prop) (hF:∀ w',Below w.heap.size w w'→F w'):Inv w NoB w [] F:=
 ⟨Agr.refl _ _,fun _ h=>(by cases h),fun _ h=>(by cases h),fun _ h=>(by cases h),List.Pairwise.nil,fun w' h=>hF w' (h.mono (fun k hk=>by obtain⟨_,h,_⟩:=hk;cases h)).below⟩
theorem now (h:Inv w0 P w L F):F w:=h.facts w (Agr.refl _ _)
theorem get (h:Inv w0 P w L F) {b:Grp} (i:Nat) (hi:L[i]?=some b):b.A w:=h.own b (List.mem_of_getElem? hi) w (fun _ _=>rfl)
theorem below (h:Inv w0 NoB w L F):Below w0.heap.size w0 w:=h.agr.below
theorem weaken (h:Inv w0 P w L F) {G:World→Prop} (hG:∀ w,F w→G w):Inv w0 P w L G:=⟨h.agr,h.lt,h.new,h.own,h.dis,fun w' hw=>hG _ (h.facts w' hw)⟩
theorem grow (h:Inv w0 P w L F) (hA:Below w.heap.size w w1):Inv w0 P w1 L F:=
 ⟨h.agr.trans (Agr.of_below hA) (fun _ h=>h.elim),fun b hb k hk=>Nat.lt_of_lt_of_le (h.lt b hb k hk) hA.size,h.new,fun b hb w' hw=>h.own b hb w' (fun k hk=>(hw k hk).trans (hA.block k (h.lt b hb k hk))),h.dis,
  fun w' hw=>h.facts w' ((Agr.mono (Agr.of_below hA) (fun _ h=>h.elim)).trans hw (fun i hi=>.inl hi))⟩
theorem push (h:Inv w0 P w L F) (hA:Below w.heap.size w w1) (b:Grp) (hS:∀ k,b.S k→w.heap.size≤k∧k<w1.heap.size) (hown:∀ w',(∀ k,b.S k→w'.heap[k]?=w1.heap[k]?)→b.A w'):Inv w0 P w1 (b::L) F:=by
 have hg:=h.grow hA
 refine⟨hg.agr,fun c hc k hk=>?_,fun c hc k hk=>?_,fun c hc w' hw=>?_,List.Pairwise.cons (fun c hc k hk hk2=>?_) h.dis,fun w' hw=>?_⟩
 ·
  rcases List.mem_cons.1 hc with rfl|hc
  ·
   exact(hS k hk).2
  ·
   exact hg.lt c hc k hk
 ·
  rcases List.mem_cons.1 hc with rfl|hc
  ·
   exact .inl (Nat.le_trans h.agr.size (hS k hk).1)
  ·
   exact h.new c hc k hk
 ·
  rcases List.mem_cons.1 hc with rfl|hc
  ·
   exact hown w' hw
  ·
   exact hg.own c hc w' hw
 ·
  exact absurd (h.lt c hc k hk2) (Nat.not_lt.2 (hS k hk).1)
 ·
  refine h.facts w' ((Agr.mono (Agr.of_below hA) (fun _ h=>h.elim)).trans hw (fun i hi=>?_))
  obtain⟨c,hc,hk⟩:=hi
  rcases List.mem_cons.1 hc with rfl|hc
  ·
   exact .inr (hS i hk).1
  ·
   exact .inl ⟨c,hc,hk⟩
theorem know (h:Inv w0 P w L F) (hA:Below w.heap.size w w1) (G:World→Prop) (hG:∀ w',(∀ k,w.heap.size≤k→k<w1.heap.size→w'.heap[k]?=w1.heap[k]?)→G w'):Inv w0 P w1 L (fun w=>G w∧F w):=by
 have hg:=h.grow hA
 refine⟨hg.agr,hg.lt,hg.new,hg.own,hg.dis,fun w' hw=>⟨hG w' (fun k h1 h2=>hw.block k h2 (fun hi=>?_)),hg.facts w' hw⟩⟩
 obtain⟨c,hc,hk⟩:=hi
 exact absurd (h.lt c hc k hk) (Nat.not_lt.2 h1)
theorem freeze {b:Grp} (h:Inv w0 P w (b::L) F):Inv w0 P w L (fun w=>b.A w∧F w):=by
 refine⟨h.agr,fun c hc=>h.lt c (List.mem_cons_of_mem _ hc),fun c hc=>h.new c (List.mem_cons_of_mem _ hc),fun c hc=>h.own c (List.mem_cons_of_mem _ hc),(List.pairwise_cons.1 h.dis).2,fun w' hw=>⟨?_,h.facts w' (hw.mono ?_)⟩⟩
 ·
  refine h.own b List.mem_cons_self w' (fun k hk=>hw.block k (h.lt b List.mem_cons_self k hk) (fun hi=>?_))
  obtain⟨c,hc,hk2⟩:=hi
  exact(List.pairwise_cons.1 h.dis).1 c hc k hk hk2
 ·
  rintro k ⟨c,hc,hk⟩
  exact⟨c,List.mem_cons_of_mem _ hc,hk⟩
theorem drop {b:Grp} (h:Inv w0 P w (b::L) F):Inv w0 P w L F:=h.freeze.weaken (fun _ h=>h.2)
theorem perm {L':List Grp} (h:Inv w0 P w L F) (hp:L.Perm L'):Inv w0 P w L' F:=
 ⟨h.agr,fun b hb=>h.lt b (hp.mem_iff.2 hb),fun b hb=>h.new b (hp.mem_iff.2 hb),fun b hb=>h.own b (hp.mem_iff.2 hb),(hp.pairwise_iff (fun {a b} hab k hk hk2=>hab k hk2 hk)).1 h.dis,fun w' hw=>h.facts w' (hw.mono (fun k ⟨b,hb,hk⟩=>⟨b,hp.mem_iff.2 hb,hk⟩))⟩
theorem swap {a b:Grp} (h:Inv w0 P w (a::b::L) F):Inv w0 P w (b::a::L) F:=h.perm (List.Perm.swap _ _ _)
theorem swap1 {a b c:Grp} (h:Inv w0 P w (a::b::c::L) F):Inv w0 P w (a::c::b::L) F:=h.perm ((List.Perm.swap _ _ _).cons _)
theorem front2 {a b c:Grp} (h:Inv w0 P w (a::b::c::L) F):Inv w0 P w (c::a::b::L) F:=h.swap1.swap
theorem zmu {a b c d:Grp} (h:Inv w0 P w (a::b::c::d::L) F):Inv w0 P w (d::a::b::c::L) F:=(h.perm (((List.Perm.swap _ _ _).cons _).cons _)).front2
theorem front4 {a b c d e:Grp} (h:Inv w0 P w (a::b::c::d::e::L) F):Inv w0 P w (e::a::b::c::d::L) F:=(h.perm ((((List.Perm.swap _ _ _).cons _).cons _).cons _)).zmu
theorem back2 {a b c:Grp} (h:Inv w0 P w (c::a::b::L) F):Inv w0 P w (a::b::c::L) F:=h.swap.swap1
theorem step {b:Grp} (h:Inv w0 P w (b::L) F) (hA:Agr w w1 b.S) (b':Grp) (hS:∀ k,b'.S k→(b.S k∨w.heap.size≤k)∧k<w1.heap.size) (hown:∀ w',(∀ k,b'.S k→w'.heap[k]?=w1.heap[k]?)→b'.A w'):Inv w0 P w1 (b'::L) F:=by
 have hm:∀ c,c∈L→∀ k,c.S k→k<w.heap.size∧¬b.S k:=fun c hc k hk=>⟨h.lt c (List.mem_cons_of_mem _ hc) k hk,fun hb=>(List.pairwise_cons.1 h.dis).1 c hc k hb hk⟩
 refine⟨h.agr.trans hA (fun i hi=>(h.new b List.mem_cons_self i hi).symm),fun c hc k hk=>?_,fun c hc k hk=>?_,fun c hc w' hw=>?_,List.Pairwise.cons (fun c hc k hk hk2=>?_) (List.pairwise_cons.1 h.dis).2,fun w' hw=>?_⟩
 ·
  rcases List.mem_cons.1 hc with rfl|hc
  ·
   exact(hS k hk).2
  ·
   exact Nat.lt_of_lt_of_le (hm c hc k hk).1 hA.size
 ·
  rcases List.mem_cons.1 hc with rfl|hc
  ·
   rcases (hS k hk).1 with h1|h1
   ·
    exact h.new b List.mem_cons_self k h1
   ·
    exact .inl (Nat.le_trans h.agr.size h1)
  ·
   exact h.new c (List.mem_cons_of_mem _ hc) k hk
 ·
  rcases List.mem_cons.1 hc with rfl|hc
  ·
   exact hown w' hw
  ·
   exact h.own c (List.mem_cons_of_mem _ hc) w' (fun k hk=>(hw k hk).trans (hA.block k (hm c hc k hk).1 (hm c hc k hk).2))
 ·
  rcases (hS k hk).1 with h1|h1
  ·
   exact(hm c hc k hk2).2 h1
  ·
   exact absurd (hm c hc k hk2).1 (Nat.not_lt.2 h1)
 ·
  refine h.facts w' ((hA.mono (fun k hk=>⟨b,List.mem_cons_self,hk⟩)).trans hw (fun i hi=>?_))
  obtain⟨c,hc,hk⟩:=hi
  rcases List.mem_cons.1 hc with rfl|hc
  ·
   exact(hS i hk).1.imp (fun h1=>⟨b,List.mem_cons_self,h1⟩) id
  ·
   exact .inl ⟨c,List.mem_cons_of_mem _ hc,hk⟩
theorem drew (h:Inv w0 P w L F):Inv w0 P w.drew L F:=h.grow (zfy (Below.refl _ _))
theorem drewN (h:Inv w0 P w L F) (n:Nat):Inv w0 P (w.drewN n) L F:=h.grow (zay (Below.refl _ _) n)
theorem alloc (h:Inv w0 P w L F) (o:Obj):Inv w0 P (w.alloc o) L F:=h.grow (za0 (Below.refl _ _) o)
end Inv
def blk (g:Nat) (t:TypeId) (cs:Array Value):Grp:=⟨fun k=>k=g,fun w=>w.heap[g]?=some (.cells cs t (0,0))⟩
def row {α:Type} (d:Kd α) (e base:Nat) (v:Value) (xs:List α) (S:Nat→Prop):Grp:=⟨S,fun w=>d.R e w base S v xs⟩
namespace Inv
variable {w0 w w1:World} {P:Nat→Prop} {L:List Grp} {F:World→Prop}
theorem box (h:Inv w0 P w L F) {g:Nat} {t:TypeId} {cs:Array Value} (hg:g=w.heap.size) (hbox:w1.heap[g]?=some (.cells cs t (0,0))) (hb:Below w.heap.size w w1):Inv w0 P w1 (blk g t cs::L) F:=
 h.push hb (blk g t cs) (fun k hk=>by obtain rfl:k=g:=hk;exact⟨Nat.le_of_eq hg.symm,zar hbox⟩) (fun w' hw=>(hw g rfl).trans hbox)
theorem zoz {g:Nat} {t:TypeId} {cs:Array Value} (w:World) (hb:w.heap[g]?=some (.cells cs t (0,0))) (F:World→Prop) (hF:∀ w',Agr w w' (fun k=>k=g)→F w'):Inv w (fun k=>k=g) w [blk g t cs] F:=
 ⟨Agr.refl _ _,fun b h k hk=>(by obtain rfl:=List.mem_singleton.1 h;obtain rfl:k=g:=hk;exact zar hb),fun b h k hk=>(by obtain rfl:=List.mem_singleton.1 h;exact .inr hk),
  fun b h w' hw=>(by obtain rfl:=List.mem_singleton.1 h;exact(hw g rfl).trans hb),List.pairwise_singleton _ _,fun w' hw=>hF w' (hw.mono (fun k ⟨b,hb,hk⟩=>by obtain rfl:=List.mem_singleton.1 hb;exact hk))⟩
theorem blk0 {g:Nat} {t:TypeId} {cs:Array Value} (h:Inv w0 P w (blk g t cs::L) F):w.heap[g]?=some (.cells cs t (0,0)):=h.get 0 rfl
theorem ge0 {g:Nat} {t:TypeId} {cs:Array Value} (h:Inv w0 NoB w (blk g t cs::L) F):w0.heap.size≤g:=(h.new _ List.mem_cons_self g rfl).elim id (fun h=>h.elim)
theorem put0 {g:Nat} {t:TypeId} {cs:Array Value} (h:Inv w0 P w (blk g t cs::L) F) (new:Array Value):Inv w0 P (w.setRow g new) (blk g t new::L) F:=
 h.step (w1:=w.setRow g new) ⟨rfl,rfl,rfl,(by simp),fun k _ hn=>setRow_other _ _ _ _ hn⟩ (blk g t new) (fun k hk=>⟨.inl hk,(by obtain rfl:k=g:=hk;simpa using zar h.blk0)⟩) (fun w' hw=>(hw g rfl).trans (setRow_heap _ _ _ _ _ _ h.blk0))
theorem set0 {g:Nat} {t:TypeId} {cs:Array Value} (h:Inv w0 P w (blk g t cs::L) F) (j:Nat) (v:Value):Inv w0 P (w.setCell ⟨g,j,none⟩ v) (blk g t (cs.setIfInBounds j v)::L) F:=
 h.step (w1:=w.setCell ⟨g,j,none⟩ v) ⟨rfl,rfl,rfl,by simp [World.setCell],fun k _ hn=>Below.heap_setCell w ⟨g,j,none⟩ v k hn⟩ (blk g t _) (fun k hk=>⟨.inl hk,(by obtain rfl:k=g:=hk;have:=zar (zgy h.blk0 j v);exact this)⟩) (fun w' hw=>(hw g rfl).trans (zgy h.blk0 j v))
theorem ne01 {g g':Nat} {t t':TypeId} {cs cs':Array Value} (h:Inv w0 P w (blk g t cs::blk g' t' cs'::L) F):g≠g':=fun e=>(List.pairwise_cons.1 h.dis).1 _ List.mem_cons_self g rfl e
theorem zdj {α:Type} {d:Kd α} {e:Nat} {v:Value} {xs:List α} {ok:Nat→Prop} (h:Inv w0 P w L F) (hb:Below w.heap.size w w1) (hR:d.R e w1 w.heap.size ok v xs) :
  Inv w0 P w1 (row d e w0.heap.size v xs (fun k=>w.heap.size≤k∧k<w1.heap.size)::L) F:=by
 have hR2:d.R e w1 w0.heap.size (fun k=>w.heap.size≤k∧k<w1.heap.size) v xs:=Kd.zdk (Kd.zbi (Kd.zee hR) (fun k hk=>⟨hk.2.1,hk.2.2.1⟩)) h.agr.size
 exact h.push hb _ (fun k hk=>hk) (fun w' hw=>Kd.zft hR2 (fun k hk _=>hw k hk))
theorem zl4 {α:Type} {d:Kd α} {e:Nat} {v:Value} {xs:List α} {ok:Nat→Prop} (h:Inv w0 P w L F) (hb:Below w.heap.size w w1) (hR:d.R e w1 w.heap.size ok v xs) :
  ∃ A c,v=.slice A xs.length c∧xs.length≤c∧Inv w0 P w1 L (fun w=>d.C w A xs.length xs∧F w):=by
 have hR2:d.R e w1 w.heap.size (fun k=>w.heap.size≤k∧k<w1.heap.size) v xs:=Kd.zbi (Kd.zee hR) (fun k hk=>⟨hk.2.1,hk.2.2.1⟩)
 obtain⟨A,c,rfl,hc,_⟩:=Kd.zgi hR
 refine⟨A,c,rfl,hc,h.know hb _ (fun w' hw=>?_)⟩
 obtain⟨A',c',e,_,hC⟩:=Kd.zgi (Kd.zft hR2 (fun k hk _=>hw k hk.1 hk.2))
 cases e
 exact hC
theorem row0 {α:Type} {d:Kd α} {e b:Nat} {v:Value} {xs:List α} {S:Nat→Prop} (h:Inv w0 P w (row d e b v xs S::L) F):d.R e w b S v xs:=h.get 0 rfl
theorem row0W {α:Type} {d:Kd α} {e b:Nat} {v:Value} {xs:List α} {S:Nat→Prop} (h:Inv w0 P w (row d e b v xs S::L) F):d.R e w b (fun k=>S k∨w.heap.size≤k) v xs:=Kd.zbi h.row0 (fun _ hk=>.inl hk)
theorem zpu {α:Type} {d:Kd α} {e b:Nat} {v v1:Value} {xs ys:List α} {S ok:Nat→Prop} (h:Inv w0 P w (row d e b v xs S::L) F) (hb:Below b w w1) (hR:d.R e w1 b ok v1 ys) (hok:∀ k,ok k→k<w1.heap.size→S k∨w.heap.size≤k) (hg:w.grownBy w1 v.ownBlock) :
  Inv w0 P w1 (row d e b v1 ys (fun k=>(S k∨w.heap.size≤k)∧k<w1.heap.size)::L) F:=by
 have hR2:d.R e w1 b (fun k=>(S k∨w.heap.size≤k)∧k<w1.heap.size) v1 ys:=Kd.zbi (Kd.zee hR) (fun k hk=>⟨hok k hk.1 hk.2.2.1,hk.2.2.1⟩)
 exact h.step ((Agr.zfs hg).mono (fun k hk=>h.row0.1 k hk.symm)) _ (fun k hk=>hk) (fun w' hw=>Kd.zft hR2 (fun k hk _=>hw k hk))
end Inv
end Go.Proofs.Ytgookagndlfehaa.PT
end
section
/- lanesOf: bytes as words. -/
namespace Go.Proofs.Ytgookagndlfehaa.PT
open Go.RowKit Go.Proofs.YtgookagndlfehaaW.PrintWords Go.Proofs.YtgookagndlfehaaW.PrintLast Go.Proofs.YtgookagndlfehaaW.PrintMore
set_option linter.unusedVariables false
set_option linter.unusedSimpArgs false
def z25:List Int:=[0,0,0,0,0,0,0,0,0,0,0,0,0,0,0,0,0,0,0,0,0,0,0,0,0]
def zeh (xs:List Int) (j:Nat) (out:List Int):List Int:=out.set (j / 8) (Go.bits .or .u64 (out.getD (j / 8) 0) (IntKind.u64.wrap (IntKind.u64.wrap (rd xs j) * 2 ^ min (8 * (j % 8)) 64)))
theorem zfn (xs:List Int) (j:Nat) (out:List Int):(zeh xs j out).length=out.length:=by simp [zeh]
theorem w64_ {n:Int} (h0 : -9223372036854775808≤n) (h1:n≤9223372036854775807):wrap64 n=n:=by unfold wrap64;omega
theorem zc7 {f:Nat→List Int→List Int} (h:∀ j x,(f j x).length=x.length):∀ k j x,(iter f k j x).length=x.length
 | 0,_,_=>rfl
 | k + 1,j,x=>(zc7 h k (j + 1) (f j x)).trans (h j x)
def zdf (xs:List Int):List Int:=iter (zeh xs) xs.length 0 z25
theorem zcg (xs:List Int):(zdf xs).length=25:=zc7 (zfn xs) _ _ _
theorem zlo.calls (A0:Option Addr) (c0:Nat) (xs:List Int) (w:World) (hr0:Kd.C (Kd.int .u8) w A0 xs.length xs) (hc0:xs.length≤c0) (hlen:xs.length≤200) :
  Calls Try.prog 97 #[.slice A0 xs.length c0] w fun e w'=>e=.returned (.agg (uarr .u64 (zdf xs)))∧Below w.heap.size w w':=by
 have HR0:=am_ hr0
 have HLEN:=am_ hlen
 have HB:=am_ (Below.refl w.heap.size w)
 have hu91:=Try.underlying134
 clear hr0 hc0 hlen
 go_enter Try.func97,Try.ntmps97
 go_wp2_with (first|((with_reducible refine zad (N:=2) rfl ?_);refine zae rfl (N:=2) rfl (cs:=uarr .u64 z25) (t:=134) bx_ ?_;intro g2 hg w2 hbox hb;replace BK2:=am_ (hbox);replace GE2:=am_ ((by rw [hg];exact(zac HB.out)):w.heap.size≤g2);replace HB:=am_ (zaj HB.out hb);clear hb hbox hg)|((with_reducible refine zad (N:=3) rfl ?_);refine zae rfl (N:=3) rfl (cs:=uarr .u64 z25) (t:=134) bx_ ?_;intro g3 hg w3 hbox hb;replace BK3:=am_ (hbox);replace GE3:=am_ ((by rw [hg];exact(zac HB.out)):w.heap.size≤g3);replace HB:=am_ (zaj HB.out hb);replace NE:=am_ (show g3≠g2 by have:=zar BK2.out;omega);replace BK2:=am_ (zak BK2.out hb);clear hb hbox hg)|((with_reducible refine zaq (p:=3) (v:=.tmp 6) (t:=134) rfl ?_);go_must (refine wpList_store_row rfl 134 _ _ rfl g3 (uarr .u64 z25) rfl qz0_ 134 (uarr .u64 z25) BK3.out (by first|(rw [zb8,zcg];kernel_rfl)|kernel_rfl) qz1_ (zdq _ _) ?_;generalize hw4:World.setRow w3 g3 (uarr .u64 z25)=w4;replace BK3:=am_ (show w4.heap[g3]?=some (.cells (uarr .u64 z25) 134 (0,0)) by rw [←hw4];exact setRow_heap _ _ _ _ _ _ BK3.out);replace BK2:=am_ (show w4.heap[g2]?=some (.cells (uarr .u64 z25) 134 (0,0)) by rw [←hw4];exact(setRow_other _ _ _ _ (Ne.symm NE.out)).trans BK2.out);replace HB:=am_ (show Below w.heap.size w w4 by rw [←hw4];exact below_setRow HB.out GE3.out _);clear hw4)))
 go_loopg [9] xs.length (fun kq v9 w'=>∃ (j:Nat) (out:List Int),v9=.int .i64 j∧zal (j + kq=xs.length)∧zal (iter (zeh xs) kq j out=zdf xs)∧zal (out.length=25)∧zal (w'.heap[g3]?=some (.cells (uarr .u64 out) 134 (0,0)))∧zal (w'.heap[g2]?=some (.cells (uarr .u64 z25) 134 (0,0)))∧zal (Below w.heap.size w w'))
 case atStart=>exact⟨0,z25,rfl,⟨(by omega)⟩,⟨rfl⟩,⟨rfl⟩,BK3,BK2,HB⟩
 case round=>
  clear BK3 BK2 HB
  obtain⟨j,out,rfl,HJ,HI,HO,BK3,BK2,HB⟩:=hrel
  cases gk with
  | zero=>
   have hj:=HJ.out
   have c1:decide ((j:Int)<(xs.length:Int))=false:=decide_eq_false (by omega)
   have c2:decide (j<xs.length)=false:=decide_eq_false (by omega)
   have hi:out=zdf xs:=HI.out
   subst hi
   clear HI hj
   go_wp2_with (first|((with_reducible refine zad (N:=27) rfl ?_);go_must (refine wpList_load_row rfl 134 _ rfl g3 rfl 134 _ (0,0) _ BK3.out hu91 rfl (by rw [zb8,zcg];kernel_rfl) ?_))|((with_reducible refine zaq (p:=2) (v:=.tmp 27) (t:=134) rfl ?_);go_must (refine wpList_store_row rfl 134 _ _ rfl g2 (uarr .u64 (zdf xs)) rfl qz0_ 134 (uarr .u64 z25) BK2.out (by first|(rw [zb8,zcg];kernel_rfl)|kernel_rfl) qz1_ (zdq _ _) ?_;generalize hw4:World.setRow wr g2 (uarr .u64 (zdf xs))=w5;replace BK2:=am_ (show w5.heap[g2]?=some (.cells (uarr .u64 (zdf xs)) 134 (0,0)) by rw [←hw4];exact setRow_heap _ _ _ _ _ _ BK2.out);replace HB:=am_ (show Below w.heap.size w w5 by rw [←hw4];exact below_setRow HB.out GE2.out _);clear hw4 BK3)))
   simp only [Act.put,List.setIfInBounds_toArray,List.set_cons_zero,List.set_cons_succ]
   refine bodyPost_ret (v:=.agg (uarr .u64 (zdf xs))) ?hres rfl ?_
   case hres=>exact results_cell_row (fn:=Try.f97) (p:=2) rfl _ _ g2 134 (uarr .u64 (zdf xs)) (0,0) _ (by first|rfl|(simp;done)) BK2.out hu91 rfl (by rw [zb8,zcg];kernel_rfl)
   exact⟨rfl,HB.out⟩
  | succ k1=>
   have hj:=HJ.out
   have hl:=HLEN.out
   have c1:decide ((j:Int)<(xs.length:Int))=true:=decide_eq_true (by omega)
   have c2:decide (j<xs.length)=true:=decide_eq_true (by omega)
   have p5:0≤(j:Int):=by omega
   have q5:(j:Int)<(xs.length:Int):=by omega
   have q5n:j<xs.length:=by omega
   obtain⟨ad,hA,hc0⟩:=Kd.at_int HR0.out (j:Int) p5 q5
   subst hA
   rw [Int.toNat_natCast] at hc0
   have hx:=(HB.out.cell (World.block_lt_of_cell? _ _ hc0)).trans hc0
   clear hc0
   have p6:=eq_true p5
   have q6:=eq_true q5
   have q6n:=eq_true q5n
   have ho:=HO.out
   obtain⟨q,hq⟩:∃ q:Nat,j / 8=q:=⟨_,rfl⟩
   obtain⟨m,hm⟩:∃ m:Nat,8 * (j % 8)=m:=⟨_,rfl⟩
   have hs:wr.cell? ⟨g3,q,none⟩=some (.int .u64 (out.getD q 0)):=zb1 BK3.out (by omega)
   have hfs:=zab BK3.out q
   have e1:wrap64 ((j:Int) / 8)=(q:Int):=by unfold wrap64;omega
   have e2:wrap64 (8 * ((j:Int) % 8))=(m:Int):=by unfold wrap64;omega
   have e3:wrap64 (8 * ((j:Int).tmod 8))=(m:Int):=by rw [Int.tmod_eq_emod_of_nonneg p5];exact e2
   have qq:((q:Int)<25)=True:=eq_true (by omega)
   have qn:(q<25)=True:=eq_true (by omega)
   have HQ:=am_ hq
   have HM:=am_ hm
   clear hq hm ho hl
   go_wp2
   generalize hji0:rd xs ↑j=b at hx ⊢
   refine zcb (n:=13) (S:=fun w'=>w'.cell? ⟨g3,q,none⟩=some (.int .u64 (out.getD q 0))) (ds:=[12]) (bs_ 13 0) (by kernel_rfl) rfl rfl (zb1 BK3.out (by have:=HQ.out;have:=HO.out;have:=HLEN.out;omega)) (fun hHeld=>?_)
   refine pu_ 0 14 (bs_ 13 1) ?_
   refine pu_ 1 15 (bs_ 13 3) ?_
   refine pu_ 2 16 (bs_ 13 7) ?_
   refine take_ (i:=3) (N:=some 17) (v:=?_) (a':=?_) (bs_ 13 15) rfl rfl (by kernel_rfl) (fun _ _ _ h=>h) (Or.inl ⟨(by rfl),?_⟩) hHeld ?_ ?_
   rotate_left
   ·
    rintro w' s0
    go_simp
    with_reducible rfl
   rotate_left
   ·
    exact ap_
   refine pu_ 4 18 (bs_ 13 31) ?_
   refine pu_ 5 19 (bs_ 13 63) ?_
   refine pu_ 6 20 (bs_ 13 127) ?_
   refine pu_ 7 21 (bs_ 13 255) ?_
   refine pu_ 8 22 (bs_ 13 511) ?_
   refine pu_ 9 23 (bs_ 13 1023) ?_
   refine pu_ 10 24 (bs_ 13 2047) ?_
   refine pu_ 11 25 (bs_ 13 4095) ?_
   refine last_ (i:=12) (N:=none) (bs_ 13 8191) rfl rfl (by kernel_rfl) (by decide) (fun K hK=>?_)
   refine skip_ (w1:=?_) (by rfl) rfl ?_ ?_
   rotate_left
   ·
    go_simp
    rfl
   refine hK.out _ _ ?_
   clear hK K
   refine done_ (by kernel_rfl) ?_
   have n0_:=am_ (zaf (zh0 BK3.out q (Go.bits .or .u64 (out.getD q 0) (IntKind.u64.wrap (IntKind.u64.wrap b * 2 ^ min m 64)))))
   have n1_:=am_ (zaf (zbc BK2.out (p:=⟨g3,q,none⟩) (Ne.symm NE.out) (.int .u64 (Go.bits .or .u64 (out.getD q 0) (IntKind.u64.wrap (IntKind.u64.wrap b * 2 ^ min m 64))))))
   have n2_:=am_ (zat (za4 (g:=g3) (j:=q) HB.out GE3.out (v:=(.int .u64 (Go.bits .or .u64 (out.getD q 0) (IntKind.u64.wrap (IntKind.u64.wrap b * 2 ^ min m 64)))))))
   have hstep:zeh xs j out=out.set q (Go.bits .or .u64 (out.getD q 0) (IntKind.u64.wrap (IntKind.u64.wrap b * 2 ^ min m 64))):=by unfold zeh;rw [HQ.out,HM.out,hji0]
   have HI2:=am_ (show iter (zeh xs) k1 (j + 1) (zeh xs j out)=zdf xs from HI.out)
   have HO2:=am_ (show (zeh xs j out).length=25 from(zfn xs j out).trans HO.out)
   rw [hstep] at HI2 HO2
   clear BK3 BK2 HB HI HO hs hfs e1 e2 e3 qq qn hstep hx hji0 HQ HM
   generalize out.set q (Go.bits .or .u64 (out.getD q 0) (IntKind.u64.wrap (IntKind.u64.wrap b * 2 ^ min m 64)))=out2 at n0_ HI2 HO2
   try go_wp2
   go_roundg k1
   case measure=>omega
   case rel=>exact⟨j + 1,out2,by have:=HLEN.out;rw [w64_ (by omega) (by omega)];rfl,⟨(by omega)⟩,HI2,HO2,n0_,n1_,n2_⟩
def zcp.f (a0:Int) (a1:Int):Option (Int):=if 0≤(Go.bits .and .u64 (IntKind.u64.wrap (a1)) 63) then(if 0≤(IntKind.u64.wrap (64 - (Go.bits .and .u64 (IntKind.u64.wrap (a1)) 63))) then(some (Go.bits .or .u64 (shl .u64 a0 (Go.bits .and .u64 (IntKind.u64.wrap (a1)) 63)) (shr .u64 a0 (IntKind.u64.wrap (64 - (Go.bits .and .u64 (IntKind.u64.wrap (a1)) 63)))))) else(none)) else(none)
theorem zcp.calls (a0:Int) (a1:Int) (r:Int) (w:World) (h:zcp.f a0 a1=some r) :
  Calls Try.prog 132 #[.int .u64 a0,.int .i64 a1] w fun e w'=>e=.returned (.int .u64 r)∧zbr w w':=by
 have H:(if 0≤(Go.bits .and .u64 (IntKind.u64.wrap (a1)) 63) then(if 0≤(IntKind.u64.wrap (64 - (Go.bits .and .u64 (IntKind.u64.wrap (a1)) 63))) then(some (Go.bits .or .u64 (shl .u64 a0 (Go.bits .and .u64 (IntKind.u64.wrap (a1)) 63)) (shr .u64 a0 (IntKind.u64.wrap (64 - (Go.bits .and .u64 (IntKind.u64.wrap (a1)) 63)))))) else(none)) else(none))=some r:=h
 clear h
 obtain⟨ji3,hji3⟩:∃ j_:Int,(Go.bits .and .u64 (IntKind.u64.wrap (a1)) 63)=j_:=⟨_,rfl⟩
 replace H:(if 0≤(ji3) then(if 0≤(IntKind.u64.wrap (64 - (ji3))) then(some (Go.bits .or .u64 (shl .u64 a0 (ji3)) (shr .u64 a0 (IntKind.u64.wrap (64 - (ji3)))))) else(none)) else(none))=some r:=by first|(rw [hji3] at H;exact H)|(simp only [hji3] at H ⊢;exact H)
 by_cases c4:0≤(ji3)
 ·
  rw [if_pos c4] at H
  have c4b0:=eq_true c4
  have c4b1:decide (0≤(ji3))=true:=decide_eq_true c4
  clear c4
  obtain⟨ji5,hji5⟩:∃ j_:Int,(shl .u64 a0 (ji3))=j_:=⟨_,rfl⟩
  replace H:(if 0≤(IntKind.u64.wrap (64 - (ji3))) then(some (Go.bits .or .u64 (ji5) (shr .u64 a0 (IntKind.u64.wrap (64 - (ji3)))))) else(none))=some r:=by first|(rw [hji5] at H;exact H)|(simp only [hji5] at H ⊢;exact H)
  have hji5_:(IntKind.u64.wrap (a0 * 2 ^ min (ji3).toNat 64))=ji5:=hji5
  have hji5z:(ji3)≤64→(IntKind.u64.wrap (a0 * 2 ^ (ji3).toNat))=ji5:=zls hji5
  obtain⟨ji6,hji6⟩:∃ j_:Int,(IntKind.u64.wrap (64 - (ji3)))=j_:=⟨_,rfl⟩
  replace H:(if 0≤(ji6) then(some (Go.bits .or .u64 (ji5) (shr .u64 a0 (ji6)))) else(none))=some r:=by first|(rw [hji6] at H;exact H)|(simp only [hji6] at H ⊢;exact H)
  by_cases c7:0≤(ji6)
  ·
   rw [if_pos c7] at H
   have c7b0:=eq_true c7
   have c7b1:decide (0≤(ji6))=true:=decide_eq_true c7
   clear c7
   obtain⟨ji8,hji8⟩:∃ j_:Int,(shr .u64 a0 (ji6))=j_:=⟨_,rfl⟩
   replace H:(some (Go.bits .or .u64 (ji5) (ji8)))=some r:=by first|(rw [hji8] at H;exact H)|(simp only [hji8] at H ⊢;exact H)
   have hji8_:(a0 / 2 ^ min (ji6).toNat 64)=ji8:=hji8
   have hji8z:(ji6)≤64→(a0 / 2 ^ (ji6).toNat)=ji8:=zi7 hji8
   obtain rfl:=Option.some.inj H
   go_enter Try.func132,Try.ntmps132
   go_wp2
   go_ret
   exact⟨(by first|rfl|(simp;done)|(simp only [←hji3,←hji5,←hji6,←hji8] <;> (first|rfl|simp))|(simp [*];done)),qz2_⟩
  ·
   rw [if_neg c7] at H
   exact absurd H (by simp)
 ·
  rw [if_neg c4] at H
  exact absurd H (by simp)
end Go.Proofs.Ytgookagndlfehaa.PT
end
section
/- permute: a state permuted. -/
namespace Go.Proofs.Ytgookagndlfehaa.PT
open Go.RowKit Go.Proofs.YtgookagndlfehaaW.PrintWords Go.Proofs.YtgookagndlfehaaW.PrintLast Go.Proofs.YtgookagndlfehaaW.PrintMore
set_option linter.unusedVariables false
set_option linter.unusedSimpArgs false
theorem rot_some (x k:Int):∃ r,zcp.f x k=some r:=by
 unfold zcp.f
 have h1:∀ n:Int,0≤IntKind.u64.wrap n:=fun n=>by rw [IntKind.wrap_u64];omega
 have h2:0≤Go.bits .and .u64 (IntKind.u64.wrap k) 63:=by unfold Go.bits;exact h1 _
 rw [if_pos h2,if_pos (h1 _)]
 exact⟨_,rfl⟩
def rot (x k:Int):Int:=(zcp.f x k).getD 0
theorem rot_eq (x k:Int):zcp.f x k=some (rot x k):=by
 obtain⟨r,h⟩:=rot_some x k
 unfold rot
 rw [h]
 rfl
def z5:List Int:=[0,0,0,0,0]
def z24:List Int:=[0,0,0,0,0,0,0,0,0,0,0,0,0,0,0,0,0,0,0,0,0,0,0,0]
def zce:List Int:=[0,1,62,28,27,36,44,6,55,20,3,10,43,25,39,41,45,15,21,8,18,2,61,56,14]
def zdl:List Int:=[1,32898,9223372036854808714,9223372039002292224,32907,2147483649,9223372039002292353,9223372036854808585,138,136,2147516425,2147483658,2147516555,9223372036854775947,9223372036854808713,9223372036854808579,9223372036854808578,9223372036854775936,32778,9223372039002259466,9223372039002292353,9223372036854808704,2147483649,9223372039002292232]
def xr (x y:Int):Int:=Go.bits .xor .u64 x y
def an (x y:Int):Int:=Go.bits .andNot .u64 x y
def zks (ls:List Int) (i:Nat) (s:List Int):List Int:=s.set (i % 5) (xr (s.getD (i % 5) 0) (ls.getD i 0))
def zhu (ls s:List Int) (i:Nat) (m:List Int):List Int:=m.set (i / 5 + 5 * ((2 * (i % 5) + 3 * (i / 5)) % 5)) (rot (xr (ls.getD i 0) (xr (s.getD ((i % 5 + 4) % 5) 0) (rot (s.getD ((i % 5 + 1) % 5) 0) 1))) (zce.getD i 0))
def zih (m:List Int) (i:Nat) (l:List Int):List Int:=l.set i (xr (m.getD i 0) (an (m.getD (i - i % 5 + (i % 5 + 2) % 5) 0) (m.getD (i - i % 5 + (i % 5 + 1) % 5) 0)))
def roundEnd (r:Nat) (l:List Int):List Int:=l.set 0 (xr (l.getD 0 0) (zdl.getD r 0))
def sums_ (ls:List Int):List Int:=iter (zks ls) 25 0 z5
def zjr (ls s:List Int):List Int:=iter (zhu ls s) 25 0 z25
def new_ (m ls:List Int):List Int:=iter (zih m) 25 0 ls
def zeb (r:Nat) (ls:List Int):List Int:=roundEnd r (new_ (zjr ls (sums_ ls)) ls)
def perm (ls:List Int):List Int:=iter zeb 24 0 ls
theorem zdp {α:Type} (f:Nat→α→α) (k j:Nat) (x:α):iter f (k + 1) j x=iter f k (j + 1) (f j x):=rfl
theorem zlz (ls s:List Int) (i:Nat) (m:List Int):zhu ls s i m=m.set (i / 5 + 5 * ((2 * (i % 5) + 3 * (i / 5)) % 5)) (rot (xr (ls.getD i 0) (xr (s.getD ((i % 5 + 4) % 5) 0) (rot (s.getD ((i % 5 + 1) % 5) 0) 1))) (zce.getD i 0)):=rfl
theorem zl5 (m:List Int) (i:Nat) (l:List Int):zih m i l=l.set i (xr (m.getD i 0) (an (m.getD (i - i % 5 + (i % 5 + 2) % 5) 0) (m.getD (i - i % 5 + (i % 5 + 1) % 5) 0))):=rfl
theorem mv1 {i:Nat} (h:i<25):wrap64 ((i:Int) % 5 + 4)=(i:Int) % 5 + 4:=by unfold wrap64;omega
theorem mv2 {i p:Nat} (h:i<25) (hp:(i % 5 + 4) % 5=p):Int.tmod ((i:Int) % 5 + 4) 5=(p:Int):=by rw [Int.tmod_eq_emod_of_nonneg (by omega)];omega
theorem mv3 {i:Nat} (h:i<25):wrap64 ((i:Int) % 5 + 1)=(i:Int) % 5 + 1:=by unfold wrap64;omega
theorem mv4 {i p:Nat} (h:i<25) (hp:(i % 5 + 1) % 5=p):Int.tmod ((i:Int) % 5 + 1) 5=(p:Int):=by rw [Int.tmod_eq_emod_of_nonneg (by omega)];omega
theorem mv6_:∀ i:Fin 25,wrap64 (wrap64 ((i.val:Int) / 5) + wrap64 (5 * Int.tmod (wrap64 (2 * ((i.val:Int) % 5) + wrap64 (3 * wrap64 ((i.val:Int) / 5)))) 5))=((i.val / 5 + 5 * ((2 * (i.val % 5) + 3 * (i.val / 5)) % 5):Nat):Int):=by decide +kernel
theorem mv7_:∀ i:Fin 25,i.val / 5 + 5 * ((2 * (i.val % 5) + 3 * (i.val / 5)) % 5)<25:=by decide +kernel
theorem mv6 {i d:Nat} (h:i<25) (hd:i / 5 + 5 * ((2 * (i % 5) + 3 * (i / 5)) % 5)=d):wrap64 (wrap64 ((i:Int) / 5) + wrap64 (5 * Int.tmod (wrap64 (2 * ((i:Int) % 5) + wrap64 (3 * wrap64 ((i:Int) / 5)))) 5))=(d:Int):=by rw [←hd];exact mv6_ ⟨i,h⟩
theorem mv7 {i d:Nat} (h:i<25) (hd:i / 5 + 5 * ((2 * (i % 5) + 3 * (i / 5)) % 5)=d):d<25:=by rw [←hd];exact mv7_ ⟨i,h⟩
theorem lt25 {p:Nat} (h:p<25):((p:Int)<25)=True:=eq_true (by omega)
theorem mw_:∀ i:Fin 25,(wrap64 ((i.val:Int) % 5 + 2)=(i.val:Int) % 5 + 2∧wrap64 ((i.val:Int) - (i.val:Int) % 5 + (((i.val % 5 + 2) % 5:Nat):Int))=((i.val - i.val % 5 + (i.val % 5 + 2) % 5:Nat):Int)∧i.val - i.val % 5 + (i.val % 5 + 2) % 5<25)∧(wrap64 ((i.val:Int) - (i.val:Int) % 5 + (((i.val % 5 + 1) % 5:Nat):Int))=((i.val - i.val % 5 + (i.val % 5 + 1) % 5:Nat):Int)∧i.val - i.val % 5 + (i.val % 5 + 1) % 5<25):=by decide +kernel
theorem mw {i:Nat} (h:i<25):(wrap64 ((i:Int) % 5 + 2)=(i:Int) % 5 + 2∧wrap64 ((i:Int) - (i:Int) % 5 + (((i % 5 + 2) % 5:Nat):Int))=((i - i % 5 + (i % 5 + 2) % 5:Nat):Int)∧i - i % 5 + (i % 5 + 2) % 5<25)∧(wrap64 ((i:Int) - (i:Int) % 5 + (((i % 5 + 1) % 5:Nat):Int))=((i - i % 5 + (i % 5 + 1) % 5:Nat):Int)∧i - i % 5 + (i % 5 + 1) % 5<25):=mw_ ⟨i,h⟩
theorem mw0 {i:Nat} (h:i<25):wrap64 ((i:Int) - (i:Int) % 5)=(i:Int) - (i:Int) % 5:=by unfold wrap64;omega
theorem mw2 {i p:Nat} (h:i<25) (hp:(i % 5 + 2) % 5=p):Int.tmod ((i:Int) % 5 + 2) 5=(p:Int):=by rw [Int.tmod_eq_emod_of_nonneg (by omega)];omega
theorem mv5 {n p:Nat} (hp:n % 5=p):p<5:=hp ▸ Nat.mod_lt _ (by decide)
theorem lt5 {p:Nat} (h:p<5):((p:Int)<5)=True:=eq_true (by omega)
theorem zmb (ls:List Int):(sums_ ls).length=5:=zc7 (fun j x=>by simp [zks]) 25 0 z5
theorem moved_length (ls s:List Int):(zjr ls s).length=25:=zc7 (fun j x=>by simp [zhu]) 25 0 z25
theorem zju (m ls:List Int):(new_ m ls).length=ls.length:=zc7 (fun j x=>by simp [zih]) 25 0 ls
theorem zkv (r:Nat) (ls:List Int):(zeb r ls).length=ls.length:=by unfold zeb roundEnd;rw [List.length_set,zju]
theorem zio (ls:List Int):(perm ls).length=ls.length:=zc7 zkv 24 0 ls
theorem zi1 {t n:Nat} (ht:Try.prog.underlying t=some (.array n 132)) {xs:List Int} (hn:xs.length=n) {i:Nat} (hi:i<n) (W:World):(Instr.index t (.agg (uarr .u64 xs)) (.int .i64 (i:Int))).run Try.prog W=.ok (.int .u64 (xs.getD i 0)) W:=by
 have h2:(Try.prog.info? 132).map (fun i=>i.size)=some 1:=by kernel_rfl
 obtain⟨z,hz,hs⟩:=Option.map_eq_some_iff.1 h2
 have hu:=run_underlying (P:=Try.prog) ht
 have hv:=run_underlying (P:=Try.prog) Try.underlying132
 have hg:(uarr .u64 xs)[i]?=some (.int .u64 (xs.getD i 0)):=zm9 (by omega)
 simp [Instr.index,asIntOf,hu,hv,sizeOf,typeInfo,hz,hs,part,isAgg,hi,hg]
structure KB (w w':World) (g:Nat):Prop where
 os:w'.os=w.os
 tape:w'.tape=w.tape
 output:w'.output=w.output
 size:w.heap.size≤w'.heap.size
 block:∀ i,i<w.heap.size→i≠g→w'.heap[i]?=w.heap[i]?
theorem KB.refl (w:World) (g:Nat):KB w w g:=⟨rfl,rfl,rfl,Nat.le_refl _,fun _ _ _=>rfl⟩
theorem KB.drew {w W:World} {g:Nat} (h:KB w W g):KB w W.drew g:=⟨h.os,h.tape,h.output,h.size,h.block⟩
theorem KB.drewN {w W:World} {g:Nat} (h:KB w W g) (n:Nat):KB w (W.drewN n) g:=⟨h.os,h.tape,h.output,h.size,h.block⟩
theorem KB.below {w W W':World} {g:Nat} (h:KB w W g) (hb:Below W.heap.size W W'):KB w W' g:=⟨hb.os.trans h.os,hb.tape.trans h.tape,hb.output.trans h.output,Nat.le_trans h.size hb.size,fun i hi hg=>(hb.block i (Nat.lt_of_lt_of_le hi h.size)).trans (h.block i hi hg)⟩
theorem KB.set {w W:World} {g b i:Nat} {v:Value} (h:KB w W g) (hb:b=g∨w.heap.size≤b):KB w (W.setCell ⟨b,i,none⟩ v) g:=
 ⟨h.os,h.tape,h.output,(by simpa [World.setCell] using h.size),fun j hj hg=>(Below.heap_setCell W _ v j (by rcases hb with rfl|hb <;> simp <;> omega)).trans (h.block j hj hg)⟩
theorem KB.row {w W:World} {g b:Nat} {cs:Array Value} (h:KB w W g) (hb:b=g∨w.heap.size≤b):KB w (W.setRow b cs) g:=
 ⟨h.os,h.tape,h.output,(by simpa using h.size),fun j hj hg=>(setRow_other W b j cs (by rcases hb with rfl|hb <;> omega)).trans (h.block j hj hg)⟩
theorem KB.trans {w w1 w2:World} {g:Nat} (h:KB w w1 g) (k:KB w1 w2 g):KB w w2 g:=
 ⟨k.os.trans h.os,k.tape.trans h.tape,k.output.trans h.output,Nat.le_trans h.size k.size,fun i hi hg=>(k.block i (Nat.lt_of_lt_of_le hi h.size) hg).trans (h.block i hi hg)⟩
theorem KB.keep {w w':World} {g:Nat} (h:KB w w' g):zbj w w' g none:=⟨h.size,fun i hi hg _=>h.block i hi hg⟩
theorem KB.onto {B:Nat} {w0 w w':World} {g:Nat} (h:KB w w' g) (hB:Below B w0 w) (hl:B≤w0.heap.size) (hg:B≤g):Below B w0 w':=
 ⟨h.os.trans hB.os,h.tape.trans hB.tape,h.output.trans hB.output,Nat.le_trans hB.size h.size,fun i hi=>(h.block i (Nat.lt_of_lt_of_le (Nat.lt_of_lt_of_le hi hl) hB.size) (by omega)).trans (hB.block i hi)⟩
theorem zfq.calls (gs:Nat) (ls:List Int) (w:World) (hb0:w.heap[gs]?=some (.cells (uarr .u64 ls) 134 (0,0))) (hlen:ls.length=25) :
  Calls Try.prog 98 #[.pointer (some ⟨gs,0,none⟩)] w fun e w'=>e=.returned (.tuple #[])∧w'.heap[gs]?=some (.cells (uarr .u64 (perm ls)) 134 (0,0))∧KB w w' gs:=by
 have BKs:=am_ hb0
 have HLEN:=am_ hlen
 have HK:=am_ (KB.refl w gs)
 have hu91:=Try.underlying134
 have hu101:=Try.underlying157
 clear hb0 hlen
 generalize htt:perm ls=tt
 unfold perm at htt
 have HTT:=am_ htt
 clear htt
 go_enter Try.func98,Try.ntmps98
 go_wp2_with (first|((with_reducible refine zad (N:=2) rfl ?_);refine zae rfl (N:=2) rfl (cs:=uarr .i64 z25) (t:=156) bx_ ?_;intro g2 hg w2 hbox hb;replace BK2:=am_ (hbox);replace GE2:=am_ ((by rw [hg];exact HK.out.size):w.heap.size≤g2);replace HK:=am_ (HK.out.below hb);replace NE2_s:=am_ (show g2≠gs by have:=zar BKs.out;omega);replace BKs:=am_ (zak BKs.out hb);clear hb hbox hg)|((with_reducible refine zaq (p:=2) (v:=.tmp 18) (t:=156) rfl ?_);go_must (refine wpList_store_row rfl 156 _ _ rfl g2 (uarr .i64 zce) rfl qz0_ 156 (uarr .i64 z25) BK2.out (by first|(rw [zb8,zcg];kernel_rfl)|kernel_rfl) qz1_ (zdq _ _) ?_;generalize hw4:World.setRow w2 g2 (uarr .i64 zce)=w3;replace HK:=am_ (show KB w w3 gs by rw [←hw4];exact HK.out.row (.inr GE2.out));replace BK2:=am_ (show w3.heap[g2]?=some (.cells (uarr .i64 zce) 156 (0,0)) by rw [←hw4];exact setRow_heap _ _ _ _ _ _ BK2.out);replace BKs:=am_ (show w3.heap[gs]?=some (.cells (uarr .u64 ls) 134 (0,0)) by rw [←hw4];exact(setRow_other _ _ _ _ (Ne.symm NE2_s.out)).trans BKs.out);clear hw4))|((with_reducible refine zad (N:=3) rfl ?_);refine zae rfl (N:=3) rfl (cs:=uarr .u64 z24) (t:=157) bx_ ?_;intro g3 hg w4 hbox hb;replace BK3:=am_ (hbox);replace GE3:=am_ ((by rw [hg];exact HK.out.size):w.heap.size≤g3);replace HK:=am_ (HK.out.below hb);replace NE3_s:=am_ (show g3≠gs by have:=zar BKs.out;omega);replace NE3_2:=am_ (show g3≠g2 by have:=zar BK2.out;omega);replace BKs:=am_ (zak BKs.out hb);replace BK2:=am_ (zak BK2.out hb);clear hb hbox hg)|((with_reducible refine zaq (p:=3) (v:=.tmp 19) (t:=157) rfl ?_);go_must (refine wpList_store_row rfl 157 _ _ rfl g3 (uarr .u64 zdl) rfl qz0_ 157 (uarr .u64 z24) BK3.out (by first|(rw [zb8,zcg];kernel_rfl)|kernel_rfl) qz1_ (zdq _ _) ?_;generalize hw4:World.setRow w4 g3 (uarr .u64 zdl)=w5;replace HK:=am_ (show KB w w5 gs by rw [←hw4];exact HK.out.row (.inr GE3.out));replace BK3:=am_ (show w5.heap[g3]?=some (.cells (uarr .u64 zdl) 157 (0,0)) by rw [←hw4];exact setRow_heap _ _ _ _ _ _ BK3.out);replace BKs:=am_ (show w5.heap[gs]?=some (.cells (uarr .u64 ls) 134 (0,0)) by rw [←hw4];exact(setRow_other _ _ _ _ (Ne.symm NE3_s.out)).trans BKs.out);replace BK2:=am_ (show w5.heap[g2]?=some (.cells (uarr .i64 zce) 156 (0,0)) by rw [←hw4];exact(setRow_other _ _ _ _ (Ne.symm NE3_2.out)).trans BK2.out);clear hw4))|((with_reducible refine zad (N:=20) rfl ?_);go_must (refine wpList_load_row rfl 157 _ rfl g3 rfl 157 (uarr .u64 zdl) (0,0) _ BK3.out hu101 rfl (by kernel_rfl) ?_)))
 go_loopg [21] 24 (fun kq v21 w'=>∃ (r:Nat) (ls:List Int),v21=.int .i64 r∧zal (r + kq=24)∧zal (iter zeb kq r ls=tt)∧zal (ls.length=25)∧zal (w'.heap[gs]?=some (.cells (uarr .u64 ls) 134 (0,0)))∧zal (w'.heap[g2]?=some (.cells (uarr .i64 zce) 156 (0,0)))∧zal (KB w w' gs))
 case atStart=>exact⟨0,ls,rfl,⟨(by omega)⟩,HTT,HLEN,BKs,BK2,HK⟩
 case round=>
  clear HTT HLEN BKs BK2 BK3 HK ls
  obtain⟨r,ls,rfl,HJ,HI,HLEN,BKs,BK2,HK⟩:=hrel
  cases gk with
  | zero=>
   have hj:=HJ.out
   have c1:decide ((r:Int)<24)=false:=decide_eq_false (by omega)
   have c2:decide (r<24)=false:=decide_eq_false (by omega)
   have hi:ls=tt:=HI.out
   subst hi
   clear HI hj
   go_wp2
   exact bodyPost_end (v:=.tuple #[]) (by first|rfl|(simp [results];done)) rfl ⟨rfl,BKs.out,HK.out⟩
  | succ k1=>
   have hj:=HJ.out
   have c1:decide ((r:Int)<24)=true:=decide_eq_true (by omega)
   have c2:decide (r<24)=true:=decide_eq_true (by omega)
   have HI2:=am_ (show iter zeb k1 (r + 1) (zeb r ls)=tt from HI.out)
   clear HI
   have hix:=zi1 hu101 (xs:=zdl) rfl (show r<24 by omega) wr
   go_wp2_with (first|((with_reducible refine zad (N:=6) rfl ?_);refine zae rfl (N:=6) rfl (cs:=uarr .u64 z5) (t:=158) bx_ ?_;intro g6 hg w6 hbox hb;replace BK6:=am_ (hbox);replace GE6:=am_ ((by rw [hg];exact HK.out.size):w.heap.size≤g6);replace HK:=am_ (HK.out.below hb);replace NE6_s:=am_ (show g6≠gs by have:=zar BKs.out;omega);replace NE6_2:=am_ (show g6≠g2 by have:=zar BK2.out;omega);replace BKs:=am_ (zak BKs.out hb);replace BK2:=am_ (zak BK2.out hb);clear hb hbox hg)|((with_reducible refine zad (N:=7) rfl ?_);refine zae rfl (N:=7) rfl (cs:=uarr .u64 z25) (t:=134) bx_ ?_;intro g7 hg w7 hbox hb;replace BK7:=am_ (hbox);replace GE7:=am_ ((by rw [hg];exact HK.out.size):w.heap.size≤g7);replace HK:=am_ (HK.out.below hb);replace NE7_s:=am_ (show g7≠gs by have:=zar BKs.out;omega);replace NE7_2:=am_ (show g7≠g2 by have:=zar BK2.out;omega);replace NE7_6:=am_ (show g7≠g6 by have:=zar BK6.out;omega);replace BKs:=am_ (zak BKs.out hb);replace BK2:=am_ (zak BK2.out hb);replace BK6:=am_ (zak BK6.out hb);clear hb hbox hg)|((with_reducible refine zaq (p:=6) (v:=.tmp 24) (t:=158) rfl ?_);go_must (refine wpList_store_row rfl 158 _ _ rfl g6 (uarr .u64 z5) rfl qz0_ 158 (uarr .u64 z5) BK6.out (by first|(rw [zb8,zcg];kernel_rfl)|kernel_rfl) qz1_ (zdq _ _) ?_;generalize hw4:World.setRow w7 g6 (uarr .u64 z5)=w8;replace HK:=am_ (show KB w w8 gs by rw [←hw4];exact HK.out.row (.inr GE6.out));replace BK6:=am_ (show w8.heap[g6]?=some (.cells (uarr .u64 z5) 158 (0,0)) by rw [←hw4];exact setRow_heap _ _ _ _ _ _ BK6.out);replace BKs:=am_ (show w8.heap[gs]?=some (.cells (uarr .u64 ls) 134 (0,0)) by rw [←hw4];exact(setRow_other _ _ _ _ (Ne.symm NE6_s.out)).trans BKs.out);replace BK2:=am_ (show w8.heap[g2]?=some (.cells (uarr .i64 zce) 156 (0,0)) by rw [←hw4];exact(setRow_other _ _ _ _ (Ne.symm NE6_2.out)).trans BK2.out);replace BK7:=am_ (show w8.heap[g7]?=some (.cells (uarr .u64 z25) 134 (0,0)) by rw [←hw4];exact(setRow_other _ _ _ _ (NE7_6.out)).trans BK7.out);clear hw4))|((with_reducible refine zaq (p:=7) (v:=.tmp 25) (t:=134) rfl ?_);go_must (refine wpList_store_row rfl 134 _ _ rfl g7 (uarr .u64 z25) rfl qz0_ 134 (uarr .u64 z25) BK7.out (by first|(rw [zb8,zcg];kernel_rfl)|kernel_rfl) qz1_ (zdq _ _) ?_;generalize hw4:World.setRow w8 g7 (uarr .u64 z25)=w9;replace HK:=am_ (show KB w w9 gs by rw [←hw4];exact HK.out.row (.inr GE7.out));replace BK7:=am_ (show w9.heap[g7]?=some (.cells (uarr .u64 z25) 134 (0,0)) by rw [←hw4];exact setRow_heap _ _ _ _ _ _ BK7.out);replace BKs:=am_ (show w9.heap[gs]?=some (.cells (uarr .u64 ls) 134 (0,0)) by rw [←hw4];exact(setRow_other _ _ _ _ (Ne.symm NE7_s.out)).trans BKs.out);replace BK2:=am_ (show w9.heap[g2]?=some (.cells (uarr .i64 zce) 156 (0,0)) by rw [←hw4];exact(setRow_other _ _ _ _ (Ne.symm NE7_2.out)).trans BK2.out);replace BK6:=am_ (show w9.heap[g6]?=some (.cells (uarr .u64 z5) 158 (0,0)) by rw [←hw4];exact(setRow_other _ _ _ _ (Ne.symm NE7_6.out)).trans BK6.out);clear hw4)))
   clear hix
   generalize hS:sums_ ls=S
   have HSD:=am_ hS
   have HSL:=am_ (show S.length=5 from hS ▸ zmb ls)
   unfold sums_ at hS
   have HS0:=am_ hS
   clear hS
   generalize hcst:zdl[r]?.getD 0=cst
   have HCST:=am_ hcst
   clear hcst
   go_loopg [27] 25 (fun kq v27 w'=>∃ (i:Nat) (s:List Int),v27=.int .i64 i∧zal (i + kq=25)∧zal (iter (zks ls) kq i s=S)∧zal (s.length=5)∧zal (w'.heap[gs]?=some (.cells (uarr .u64 ls) 134 (0,0)))∧zal (w'.heap[g2]?=some (.cells (uarr .i64 zce) 156 (0,0)))∧zal (w'.heap[g6]?=some (.cells (uarr .u64 s) 158 (0,0)))∧zal (w'.heap[g7]?=some (.cells (uarr .u64 z25) 134 (0,0)))∧zal (KB w w' gs))
   case atStart=>exact⟨0,z5,rfl,⟨(by omega)⟩,HS0,⟨rfl⟩,BKs,BK2,BK6,BK7,HK⟩
   case round=>
    clear HS0 BKs BK2 BK6 BK7 HK hj c1 c2
    obtain⟨i,s,rfl,HJ1,HI1,HL1,BKs,BK2,BK6,BK7,HK⟩:=hrel
    cases gk with
    | zero=>
     have hj:=HJ1.out
     have c1:decide ((i:Int)<25)=false:=decide_eq_false (by omega)
     have c2:decide (i<25)=false:=decide_eq_false (by omega)
     have hi:s=S:=HI1.out
     subst hi
     clear HI1 hj HL1 HJ1
     go_wp2
     clear c1 c2
     generalize hM:zjr ls s=M
     have HMD:=am_ hM
     have HML:=am_ (show M.length=25 from hM ▸ moved_length ls s)
     unfold zjr at hM
     have HM0:=am_ hM
     clear hM
     go_loopg [42] 25 (fun kq v42 w'=>∃ (i:Nat) (m:List Int),v42=.int .i64 i∧zal (i + kq=25)∧zal (iter (zhu ls s) kq i m=M)∧zal (m.length=25)∧zal (w'.heap[gs]?=some (.cells (uarr .u64 ls) 134 (0,0)))∧zal (w'.heap[g2]?=some (.cells (uarr .i64 zce) 156 (0,0)))∧zal (w'.heap[g6]?=some (.cells (uarr .u64 s) 158 (0,0)))∧zal (w'.heap[g7]?=some (.cells (uarr .u64 m) 134 (0,0)))∧zal (KB w w' gs))
     case atStart=>exact⟨0,z25,rfl,⟨(by omega)⟩,HM0,⟨rfl⟩,BKs,BK2,BK6,BK7,HK⟩
     case round=>
      clear HM0 BKs BK2 BK6 BK7 HK
      obtain⟨i,m,rfl,HJ1,HI1,HL1,BKs,BK2,BK6,BK7,HK⟩:=hrel
      cases gk with
      | zero=>
       have hj:=HJ1.out
       have c1:decide ((i:Int)<25)=false:=decide_eq_false (by omega)
       have c2:decide (i<25)=false:=decide_eq_false (by omega)
       have hi:m=M:=HI1.out
       subst hi
       have hml:=HML.out
       clear HI1 hj HL1 HJ1
       go_wp2_with (first|((with_reducible refine zad (N:=82) rfl ?_);go_must (refine wpList_load_row rfl 134 _ rfl g7 rfl 134 (uarr .u64 m) (0,0) _ BK7.out hu91 rfl (by rw [zb8,hml];kernel_rfl) ?_)))
       clear c1 c2 BK6
       generalize hN:new_ m ls=L2
       have HND:=am_ hN
       have HNL:=am_ (show L2.length=25 from hN ▸ (zju m ls).trans HLEN.out)
       unfold new_ at hN
       have HN0:=am_ hN
       clear hN
       go_loopg [83] 25 (fun kq v83 w'=>∃ (i:Nat) (l:List Int),v83=.int .i64 i∧zal (i + kq=25)∧zal (iter (zih m) kq i l=L2)∧zal (l.length=25)∧zal (w'.heap[gs]?=some (.cells (uarr .u64 l) 134 (0,0)))∧zal (w'.heap[g2]?=some (.cells (uarr .i64 zce) 156 (0,0)))∧zal (w'.heap[g7]?=some (.cells (uarr .u64 m) 134 (0,0)))∧zal (KB w w' gs))
       case atStart=>exact⟨0,ls,rfl,⟨(by omega)⟩,HN0,HLEN,BKs,BK2,BK7,HK⟩
       case round=>
        clear HN0 BKs BK2 BK7 HK
        obtain⟨i,l,rfl,HJ1,HI1,HL1,BKs,BK2,BK7,HK⟩:=hrel
        cases gk with
        | zero=>
         have hj:=HJ1.out
         have c1:decide ((i:Int)<25)=false:=decide_eq_false (by omega)
         have c2:decide (i<25)=false:=decide_eq_false (by omega)
         have hi:l=L2:=HI1.out
         subst hi
         clear HI1 hj HJ1
         have hl1:=HL1.out
         have hs0:=zb1 BKs.out (i:=0) (by rw [hl1];decide)
         have hf0:=zab BKs.out 0
         have hr:zeb r ls=l.set 0 (Go.bits .xor .u64 (l.getD 0 0) cst):=by
          unfold zeb roundEnd
          rw [HSD.out,HMD.out,HND.out,←HCST.out]
          rfl
         have hh:=HI2.out
         rw [hr] at hh
         have HI3:=am_ hh
         have HL3:=am_ (show (l.set 0 (Go.bits .xor .u64 (l.getD 0 0) cst)).length=25 by rw [List.length_set];exact hl1)
         clear hr hh hl1 HL1
         go_wp2
         clear c1 c2
         refine zcb (n:=9) (S:=fun w'=>w'.cell? ⟨gs,0,none⟩=some (.int .u64 (l.getD 0 0))) (ds:=[8]) (bs_ 9 0) (by kernel_rfl) rfl rfl hs0 (fun hHeld=>?_)
         refine pu_ 0 115 (bs_ 9 1) ?_
         refine pu_ 1 116 (bs_ 9 3) ?_
         refine pu_ 2 117 (bs_ 9 7) ?_
         refine take_ (i:=3) (N:=some 118) (v:=?_) (a':=?_) (bs_ 9 15) rfl rfl (by kernel_rfl) (fun _ _ _ h=>h) (Or.inl ⟨(by rfl),?_⟩) hHeld ?_ ?_
         rotate_left
         ·
          rintro w' s0
          go_simp
          with_reducible rfl
         rotate_left
         ·
          exact ap_
         refine pu_ 4 119 (bs_ 9 31) ?_
         refine pu_ 5 120 (bs_ 9 63) ?_
         refine pu_ 6 121 (bs_ 9 127) ?_
         refine pu_ 7 122 (bs_ 9 255) ?_
         refine last_ (i:=8) (N:=none) (bs_ 9 511) rfl rfl (by kernel_rfl) (by decide) (fun K hK=>?_)
         refine skip_ (w1:=?_) (by rfl) rfl ?_ ?_
         rotate_left
         ·
          go_simp
          rfl
         refine hK.out _ _ ?_
         clear hK K
         refine done_ (by kernel_rfl) ?_
         go_wp2
         go_roundg k1
         case measure=>omega
         case rel=>exact⟨r + 1,_,by first|rfl|go_num|(rw [w64_ (by have:=HJ.out;omega) (by have:=HJ.out;omega)];rfl),⟨(by have:=HJ.out;omega)⟩,HI3,HL3,⟨(by(with_reducible repeat(first|refine zah ?_ _|refine zaf ?_));exact zh0 (by exact BKs.out) _ _)⟩,⟨by(with_reducible repeat(first|refine zah ?_ _|refine zaf ?_));exact zbc (by exact BK2.out) (p:=⟨gs,_,none⟩) NE2_s.out _⟩,⟨(by first|exact(HK.out.set (.inl rfl)).drew|exact HK.out.set (.inl rfl))⟩⟩
        | succ k2=>
         have hj:=HJ1.out
         have hl1:=HL1.out
         have hml:=HML.out
         have c1:decide ((i:Int)<25)=true:=decide_eq_true (by omega)
         have c2:decide (i<25)=true:=decide_eq_true (by omega)
         have ci:((i:Int)<25)=True:=eq_true (by omega)
         have cn:(i<25)=True:=eq_true (by omega)
         have hi25:i<25:=by omega
         have hix:=zi1 hu91 (xs:=m) hml hi25 wr
         have hss:=zb1 BKs.out (i:=i) (by omega)
         have hfs:=zab BKs.out i
         have hi:=HI1.out
         rw [zdp,zl5] at hi
         clear HI1 hj
         obtain⟨⟨f1,f2,hp⟩,f3,hq⟩:=mw hi25
         have f4:=mv3 hi25
         have f0:=mw0 hi25
         generalize hx:(i % 5 + 2) % 5=x at hi f2 hp
         have f5:=mw2 hi25 hx
         clear hx
         generalize hy:(i % 5 + 1) % 5=y at hi f3 hq
         have f6:=mv4 hi25 hy
         clear hy
         generalize i - i % 5 + x=p at hi f2 hp
         generalize i - i % 5 + y=q at hi f3 hq
         have hsp:=zb1 BK7.out (i:=p) (by rw [hml];exact hp)
         have hsq:=zb1 BK7.out (i:=q) (by rw [hml];exact hq)
         have HL2:=am_ (show ∀ v,(l.set i v).length=25 from fun v=>by rw [List.length_set];exact hl1)
         generalize m.getD i 0=A at hix hi
         generalize m.getD p 0=B at hsp hi
         generalize m.getD q 0=C at hsq hi
         have HI4:=am_ hi
         have pp:=lt25 hp
         have pq:=lt25 hq
         have pn:=eq_true hp
         have qn:=eq_true hq
         clear HL1 hl1 hml hi hp hq hi25
         go_wp2
         refine zcb (n:=22) (S:=fun w'=>w'.cell? ⟨g7,p,none⟩=some (.int .u64 B)∧w'.cell? ⟨g7,q,none⟩=some (.int .u64 C)) (ds:=[21]) (bs_ 22 0) (by kernel_rfl) rfl rfl ⟨hsp,hsq⟩ (fun hHeld=>?_)
         refine pu_ 0 93 (bs_ 22 1) ?_
         refine pu_ 1 94 (bs_ 22 3) ?_
         refine pu_ 2 95 (bs_ 22 7) ?_
         refine pu_ 3 96 (bs_ 22 15) ?_
         refine pu_ 4 97 (bs_ 22 31) ?_
         refine pu_ 5 98 (bs_ 22 63) ?_
         refine pu_ 6 99 (bs_ 22 127) ?_
         refine pu_ 7 100 (bs_ 22 255) ?_
         refine pu_ 8 101 (bs_ 22 511) ?_
         refine take_ (i:=9) (N:=some 102) (v:=?_) (a':=?_) (bs_ 22 1023) rfl rfl (by kernel_rfl) (fun _ _ _ h=>h) (Or.inl ⟨(by rfl),?_⟩) hHeld ?_ ?_
         rotate_left
         ·
          rintro w' ⟨s0,s1⟩
          go_simp
          with_reducible rfl
         rotate_left
         ·
          exact ap_
         refine pu_ 10 103 (bs_ 22 2047) ?_
         refine pu_ 11 104 (bs_ 22 4095) ?_
         refine pu_ 12 105 (bs_ 22 8191) ?_
         refine pu_ 13 106 (bs_ 22 16383) ?_
         refine pu_ 14 107 (bs_ 22 32767) ?_
         refine pu_ 15 108 (bs_ 22 65535) ?_
         refine take_ (i:=16) (N:=some 109) (v:=?_) (a':=?_) (bs_ 22 131071) rfl rfl (by kernel_rfl) (fun _ _ _ h=>h) (Or.inl ⟨(by rfl),?_⟩) hHeld ?_ ?_
         rotate_left
         ·
          rintro w' ⟨s0,s1⟩
          go_simp
          with_reducible rfl
         rotate_left
         ·
          exact ap_
         refine pu_ 17 110 (bs_ 22 262143) ?_
         refine pu_ 18 111 (bs_ 22 524287) ?_
         refine pu_ 19 112 (bs_ 22 1048575) ?_
         refine pu_ 20 113 (bs_ 22 2097151) ?_
         refine last_ (i:=21) (N:=none) (bs_ 22 4194303) rfl rfl (by kernel_rfl) (by decide) (fun K hK=>?_)
         refine skip_ (w1:=?_) (by rfl) rfl ?_ ?_
         rotate_left
         ·
          go_simp
          rfl
         refine hK.out _ _ ?_
         clear hK K
         refine done_ (by kernel_rfl) ?_
         clear f0 f1 f2 f3 f4 f5 f6
         go_wp2
         go_roundg k2
         case measure=>omega
         case rel=>exact⟨i + 1,_,by first|rfl|(rw [w64_ (by have:=HJ1.out;omega) (by have:=HJ1.out;omega)];rfl)|go_num,⟨(by have:=HJ1.out;omega)⟩,HI4,⟨HL2.out _⟩,⟨(by(with_reducible repeat(first|refine zah ?_ _|refine zaf ?_));exact zh0 (by exact BKs.out) _ _)⟩,⟨by(with_reducible repeat(first|refine zah ?_ _|refine zaf ?_));exact zbc (by exact BK2.out) (p:=⟨gs,_,none⟩) NE2_s.out _⟩,⟨by(with_reducible repeat(first|refine zah ?_ _|refine zaf ?_));exact zbc (by exact BK7.out) (p:=⟨gs,_,none⟩) NE7_s.out _⟩,⟨(by first|exact(HK.out.set (.inl rfl)).drew|exact HK.out.set (.inl rfl))⟩⟩
      | succ k2=>
       have hj:=HJ1.out
       have hl:=HLEN.out
       have hl1:=HL1.out
       have hl6:=HSL.out
       have c1:decide ((i:Int)<25)=true:=decide_eq_true (by omega)
       have c2:decide (i<25)=true:=decide_eq_true (by omega)
       have ci:((i:Int)<25)=True:=eq_true (by omega)
       have cn:(i<25)=True:=eq_true (by omega)
       have hi25:i<25:=by omega
       have hs:=zb1 BKs.out (i:=i) (by omega)
       have hi:=HI1.out
       rw [zdp,zlz] at hi
       clear HI1 hj hl
       have f1:=mv1 hi25
       have f3:=mv3 hi25
       generalize hp:(i % 5 + 4) % 5=p at hi
       have f2:=mv2 hi25 hp
       have hp5:=mv5 hp
       clear hp
       generalize hu:(i % 5 + 1) % 5=u at hi
       have f4:=mv4 hi25 hu
       have hu5:=mv5 hu
       clear hu
       generalize hd:i / 5 + 5 * ((2 * (i % 5) + 3 * (i / 5)) % 5)=d at hi
       have f5:=mv6 hi25 hd
       have hd25:=mv7 hi25 hd
       clear hd
       have hs7:=zb1 BK7.out (i:=d) (by rw [hl1];exact hd25)
       have hf7:=zab BK7.out d
       have pd:=lt25 hd25
       have dn:=eq_true hd25
       have hs6p:=zb1 BK6.out (i:=p) (by rw [hl6];exact hp5)
       have hs6u:=zb1 BK6.out (i:=u) (by rw [hl6];exact hu5)
       have hs2:=zb1 BK2.out (i:=i) hi25
       have HL2:=am_ (show ∀ v,(m.set d v).length=25 from fun v=>by rw [List.length_set];exact hl1)
       generalize ls.getD i 0=A at hs hi
       generalize s.getD p 0=B at hs6p hi
       generalize s.getD u 0=C at hs6u hi
       generalize zce.getD i 0=D at hs2 hi
       have HI2:=am_ hi
       have pp:=lt5 hp5
       have pu:=lt5 hu5
       have pn:=eq_true hp5
       have un:=eq_true hu5
       clear HL1 hl1 hl6 hi hp5 hu5 hi25 hd25
       go_wp2
       refine zcb (n:=6) (S:=fun w'=>w'.cell? ⟨gs,i,none⟩=some (.int .u64 A)) (ds:=[]) (bs_ 6 0) (by kernel_rfl) rfl rfl hs (fun hHeld=>?_)
       refine pu_ 0 44 (bs_ 6 1) ?_
       refine pu_ 1 45 (bs_ 6 3) ?_
       refine pu_ 2 46 (bs_ 6 7) ?_
       refine take_ (i:=3) (N:=some 47) (v:=?_) (a':=?_) (bs_ 6 15) rfl rfl (by kernel_rfl) (fun _ _ _ h=>h) (Or.inl ⟨(by rfl),?_⟩) hHeld ?_ ?_
       rotate_left
       ·
        rintro w' s0
        go_simp
        with_reducible rfl
       rotate_left
       ·
        exact ap_
       refine pu_ 4 10 (bs_ 6 31) ?_
       refine pu_ 5 11 (bs_ 6 63) ?_
       refine done_ (by kernel_rfl) ?_
       go_wp2
       refine zcb (n:=15) (S:=fun w'=>w'.cell? ⟨g6,p,none⟩=some (.int .u64 B)∧w'.cell? ⟨g6,u,none⟩=some (.int .u64 C)) (ds:=[]) (bs_ 15 0) (by kernel_rfl) rfl rfl ⟨hs6p,hs6u⟩ (fun hHeld=>?_)
       refine pu_ 0 52 (bs_ 15 1) ?_
       refine pu_ 1 53 (bs_ 15 3) ?_
       refine pu_ 2 54 (bs_ 15 7) ?_
       refine pu_ 3 55 (bs_ 15 15) ?_
       refine pu_ 4 56 (bs_ 15 31) ?_
       refine take_ (i:=5) (N:=some 57) (v:=?_) (a':=?_) (bs_ 15 63) rfl rfl (by kernel_rfl) (fun _ _ _ h=>h) (Or.inl ⟨(by rfl),?_⟩) hHeld ?_ ?_
       rotate_left
       ·
        rintro w' ⟨s0,s1⟩
        go_simp
        with_reducible rfl
       rotate_left
       ·
        exact ap_
       refine pu_ 6 58 (bs_ 15 127) ?_
       refine pu_ 7 59 (bs_ 15 255) ?_
       refine pu_ 8 60 (bs_ 15 511) ?_
       refine pu_ 9 61 (bs_ 15 1023) ?_
       refine take_ (i:=10) (N:=some 62) (v:=?_) (a':=?_) (bs_ 15 2047) rfl rfl (by kernel_rfl) (fun _ _ _ h=>h) (Or.inl ⟨(by rfl),?_⟩) hHeld ?_ ?_
       rotate_left
       ·
        rintro w' ⟨s0,s1⟩
        go_simp
        with_reducible rfl
       rotate_left
       ·
        exact ap_
       refine one_ (i:=11) (N:=some 63) (bs_ 15 4095) rfl rfl (by kernel_rfl) (by decide) (fun K hK=>?_)
       refine goes_ Try.func132 (by kernel_rfl) rfl #[.int .u64 C,.int .i64 1] (by rfl) rfl rfl qz3_ ?_
       with_reducible refine(zcp.calls C 1 (rot C 1) _ (rot_eq C 1)).mono ?_
       rintro e w12 ⟨rfl,⟨m1,rfl⟩⟩
       refine⟨_,rfl,?_⟩
       refine hK.out _ _ ⟨hs6p,hs6u⟩ (fun hHeld=>?_)
       clear hK K
       refine norm_ (a':=?_) ?_ ?_
       rotate_left
       ·
        show Act.put _ (some 63) _=_
        exact ap_
       refine pu_ 12 64 (bs_ 15 8191) ?_
       refine pu_ 13 65 (bs_ 15 16383) ?_
       refine pu_ 14 11 (bs_ 15 32767) ?_
       refine done_ (by kernel_rfl) ?_
       clear f1 f2 f3 f4
       go_wp2_with (first|(go_at_call 132;(with_reducible refine(zcp.calls _ _ _ _ (rot_eq _ _)).mono ?_);rintro e w13 ⟨rfl,⟨m2,rfl⟩⟩))
       go_roundg k2
       case measure=>omega
       case rel=>exact⟨i + 1,_,by first|rfl|(rw [w64_ (by have:=HJ1.out;omega) (by have:=HJ1.out;omega)];rfl),⟨(by have:=HJ1.out;omega)⟩,HI2,⟨HL2.out _⟩,⟨by(with_reducible repeat(first|refine zah ?_ _|refine zaf ?_));exact zbc (by exact BKs.out) (p:=⟨g7,_,none⟩) (Ne.symm NE7_s.out) _⟩,⟨by(with_reducible repeat(first|refine zah ?_ _|refine zaf ?_));exact zbc (by exact BK2.out) (p:=⟨g7,_,none⟩) (Ne.symm NE7_2.out) _⟩,⟨by(with_reducible repeat(first|refine zah ?_ _|refine zaf ?_));exact zbc (by exact BK6.out) (p:=⟨g7,_,none⟩) (Ne.symm NE7_6.out) _⟩,⟨(by(with_reducible repeat(first|refine zah ?_ _|refine zaf ?_));exact zh0 (by exact BK7.out) _ _)⟩,⟨(by first|exact(HK.out.drewN _).set (.inr GE7.out)|exact((HK.out.drewN _).set (.inr GE7.out)).drew|exact((HK.out.drewN _).set (.inr GE7.out)).drewN _)⟩⟩
    | succ k2=>
     have hj:=HJ1.out
     have hl:=HLEN.out
     have hl1:=HL1.out
     have c1:decide ((i:Int)<25)=true:=decide_eq_true (by omega)
     have c2:decide (i<25)=true:=decide_eq_true (by omega)
     have ci:((i:Int)<25)=True:=eq_true (by omega)
     have cn:(i<25)=True:=eq_true (by omega)
     have hs:=zb1 BKs.out (i:=i) (by omega)
     have hs6:=zb1 BK6.out (i:=i % 5) (by omega)
     have hf6:=zab BK6.out (i % 5)
     have q6:((i:Int) % 5<5)=True:=eq_true (by omega)
     have HI2:=am_ (show iter (zks ls) k2 (i + 1) (s.set (i % 5) (xr (s.getD (i % 5) 0) (ls.getD i 0)))=S from HI1.out)
     have HL2:=am_ (show (s.set (i % 5) (xr (s.getD (i % 5) 0) (ls.getD i 0))).length=5 by rw [List.length_set];exact hl1)
     clear HI1 HL1 hl hl1
     generalize hA:ls.getD i 0=A at hs HI2 HL2
     generalize hB:s.getD (i % 5) 0=B at hs6 HI2 HL2
     clear hA hB
     go_wp2
     refine zcb (n:=6) (S:=fun w'=>w'.cell? ⟨gs,i,none⟩=some (.int .u64 A)) (ds:=[]) (bs_ 6 0) (by kernel_rfl) rfl rfl hs (fun hHeld=>?_)
     refine pu_ 0 29 (bs_ 6 1) ?_
     refine pu_ 1 30 (bs_ 6 3) ?_
     refine pu_ 2 31 (bs_ 6 7) ?_
     refine take_ (i:=3) (N:=some 32) (v:=?_) (a':=?_) (bs_ 6 15) rfl rfl (by kernel_rfl) (fun _ _ _ h=>h) (Or.inl ⟨(by rfl),?_⟩) hHeld ?_ ?_
     rotate_left
     ·
      rintro w' s0
      go_simp
      with_reducible rfl
     rotate_left
     ·
      exact ap_
     refine pu_ 4 8 (bs_ 6 31) ?_
     refine pu_ 5 9 (bs_ 6 63) ?_
     refine done_ (by kernel_rfl) ?_
     go_wp2
     go_roundg k2
     case measure=>omega
     case rel=>exact⟨i + 1,_,by first|rfl|go_num,⟨(by omega)⟩,HI2,HL2,⟨zaf (zbc BKs.out (p:=⟨g6,_,none⟩) (Ne.symm NE6_s.out) _)⟩,⟨zaf (zbc BK2.out (p:=⟨g6,_,none⟩) (Ne.symm NE6_2.out) _)⟩,⟨zaf (zh0 BK6.out _ _)⟩,⟨zaf (zbc BK7.out (p:=⟨g6,_,none⟩) NE7_6.out _)⟩,⟨(HK.out.set (.inr GE6.out)).drew⟩⟩
end Go.Proofs.Ytgookagndlfehaa.PT
end
section
/- text: words as bytes. -/
namespace Go.Proofs.Ytgookagndlfehaa.PT
open Go.RowKit Go.Proofs.YtgookagndlfehaaW.PrintWords Go.Proofs.YtgookagndlfehaaW.PrintLast Go.Proofs.YtgookagndlfehaaW.PrintMore
set_option linter.unusedVariables false
set_option linter.unusedSimpArgs false
def zd4 (ls:List Int) (j:Nat) (out:List Int):List Int:=out++[(ls.getD (j / 8) 0 / 2 ^ (8 * (j % 8))) % 256]
def text_ (ls:List Int):List Int:=iter (zd4 ls) 200 0 []
theorem zi2.calls (g:Nat) (ls:List Int) (w:World) (hb0:w.heap[g]?=some (.cells (uarr .u64 ls) 134 (0,0))) (hlen:ls.length=25) :
  Calls Try.prog 99 #[.pointer (some ⟨g,0,none⟩)] w fun e w'=>∃ v0_:Value,e=.returned v0_∧Kd.R (Kd.int .u8) 5 w' w.heap.size (fun _=>True) v0_ (text_ ls)∧Below w.heap.size w w':=by
 have BK:=am_ hb0
 have HLEN:=am_ hlen
 have HB:=am_ (Below.refl w.heap.size w)
 have hu91:=Try.underlying134
 clear hb0 hlen
 generalize htt:text_ ls=tt
 unfold text_ at htt
 have HTT:=am_ htt
 clear htt
 go_enter Try.func99,Try.ntmps99
 go_wp2_with (first|((with_reducible refine zad (N:=5) rfl ?_);refine Kd.R_lit (Kd.int .u8) _ 5 ?hg (N:=5) ?hd (xs:=([]:List Int)) (inner:=[]) (ok:=fun _=>True) (okp:=fun _=>True) ?hr ?hp (fun _ hk=>hk) trivial (Below.refl _ _) (Nat.le_refl _) (by simp) ?_;(case hd=>rfl);(case hg=>rfl);(case hr=>first|(go_simp;done)|(go_simp;rfl));(case hp=>exact(Reps.none _ _));intro v102 w3 ho4 hb hg_ hnew_;clear hg_ hnew_;replace HO_3:=am_ (Kd.zdk ho4 (zac qz4_));replace HB:=am_ (zaj qz4_ hb);clear hb ho4))
 go_loopg [3,6] 200 (fun kq v3 v6 w'=>∃ (j:Nat) (out:List Int),v6=.int .i64 j∧zal (j + kq=200)∧zal (iter (zd4 ls) kq j out=tt)∧zal (out.length=j)∧zal (Kd.R (Kd.int .u8) 5 w' w.heap.size (fun _=>True) v3 out)∧zal (Below w.heap.size w w'))
 case atStart=>exact⟨0,[],rfl,⟨(by omega)⟩,HTT,⟨rfl⟩,⟨qz5_⟩,⟨qz4_⟩⟩
 case round=>
  clear HO_3 HB
  obtain⟨j,out,rfl,HJ,HI,HO,HO_3,HB⟩:=hrel
  cases gk with
  | zero=>
   have hj:=HJ.out
   have c1:decide ((j:Int)<200)=false:=decide_eq_false (by omega)
   have c2:decide (j<200)=false:=decide_eq_false (by omega)
   have hi:out=tt:=HI.out
   subst hi
   clear HI hj
   go_wp2
   go_ret
   exact⟨_,(by first|rfl|(simp;done)),qz5_,qz4_⟩
  | succ k1=>
   have hj:=HJ.out
   have hl:=HLEN.out
   have c1:decide ((j:Int)<200)=true:=decide_eq_true (by omega)
   have c2:decide (j<200)=true:=decide_eq_true (by omega)
   have p5:0≤(j:Int):=by omega
   have hs:wr.cell? ⟨g,j / 8,none⟩=some (.int .u64 (ls.getD (j / 8) 0)):=zb1 (zak BK.out HB.out) (by omega)
   have qn:(j / 8<25)=True:=eq_true (by omega)
   have qi:((j:Int) / 8<25)=True:=eq_true (by omega)
   have HI2:=am_ (show iter (zd4 ls) k1 (j + 1) (out++[(ls.getD (j / 8) 0 / 2 ^ (8 * (j % 8))) % 256])=tt from HI.out)
   clear HI hl
   generalize ls.getD (j / 8) 0=v at hs HI2
   generalize hb:v / 2 ^ (8 * (j % 8))=b at HI2
   go_wp2_with (first|((with_reducible refine zdc (b:=.append) (xs:=#[.tmp 9,.tmp 21]) rfl ?_);at_builtin;refine Kd.zgp (Kd.int .u8) (w0:=w) w.heap.size rfl (.tmp 9) (.tmp 21) 22 5 (.int .u8 0) 1 rfl Try.underlying22 info5 rfl (by decide) (by omega) u3 out (b % 256) [.int .u8 (b % 256)] (fun _=>True) (fun _=>False) rfl rfl ?aP (fun _ hk=>hk.elim) ?aF ?aO ?aB ?aS ?aL ?_;(case aP=>exact rfl);(case aB=>exact qz4_);(case aF=>exact(fun _ _=>trivial));(case aO=>exact qz5_);(case aS=>exact(zac qz4_));(case aL=>have:=HO.out;omega);intro v105 w10 ho hb hg hat;replace HB:=am_ (hb);replace HO_3:=am_ (ho);clear ho hb hg hat))
   go_roundg k1
   case measure=>omega
   case rel=>exact⟨j + 1,out++[b % 256],by first|rfl|go_num,⟨(by omega)⟩,HI2,⟨(by have:=HO.out;simp;omega)⟩,⟨qz5_⟩,⟨qz4_⟩⟩
end Go.Proofs.Ytgookagndlfehaa.PT
end
section
/- keccak: the hash of pieces. -/
namespace Go.Proofs.Ytgookagndlfehaa.PT
open Go.RowKit Go.Proofs.YtgookagndlfehaaW.PrintWords Go.Proofs.YtgookagndlfehaaW.PrintLast Go.Proofs.YtgookagndlfehaaW.PrintMore
set_option linter.unusedVariables false
set_option linter.unusedSimpArgs false
def zjs (w:World) (A:Option Addr) (ps:List (List Int)):Prop:=∀ j (h:j<ps.length),∃ ad B c,A=some ad∧w.cell? (ad.add j)=some (.slice B ps[j].length c)∧(Kd.int .u8).C w B ps[j].length ps[j]
def padN (n:Nat):Nat:=(136 - n % 136) % 136
def zg0 (l:List Int) (i:Nat) (s:List Int):List Int:=s.set i (xr (s.getD i 0) (l.getD i 0))
def xors (l s:List Int):List Int:=iter (zg0 l) 25 0 s
def zh9:Nat→List Int→List Int→List Int
 | 0,_,s=>s
 | k + 1,ys,s=>zh9 k (ys.drop 136) (perm (xors (zdf (ys.take 136)) s))
def mark (ys:List Int):List Int:=ys.set (ys.length - 1) (Go.bits .or .u8 (rdOf 0 ys ((ys.length - 1:Nat):Int)) 128)
theorem znd (ls:List Int):∀ k j x,(iter (zd4 ls) k j x).length=x.length + k
 | 0,_,_=>rfl
 | k + 1,j,x=>by rw [zdp,znd ls k (j + 1)];unfold zd4;rw [List.length_append];simp;omega
theorem ze0 (ls:List Int):(text_ ls).length=200:=by unfold text_;rw [znd];rfl
theorem zhb (l s:List Int):(xors l s).length=s.length:=zc7 (fun j x=>by simp [zg0]) 25 0 s
theorem zn6 (n:Nat):(n + padN n) % 136=0∧padN n<136:=by unfold padN;omega
def padded (xs:List Int):List Int:=xs++[1]++List.replicate (padN (xs.length + 1)) 0
def kec (xs:List Int):ByteArray:=strOfNums ((text_ (zh9 ((padded xs).length / 136) (mark (padded xs)) z25)).take 32)
theorem zf4 {xs:List Int} (h:xs.length≤4000000):(padded xs).length % 136=0∧(padded xs).length≤4000200:=by
 unfold padded
 rw [List.length_append,List.length_append,List.length_replicate]
 have:=zn6 (xs.length + 1)
 simp only [List.length_cons,List.length_nil]
 omega
theorem cap32 {ls:List Int} {w:World} {base g c:Nat} (h:Kd.R (Kd.int .u8) 5 w base (fun _=>True) (.slice (some ⟨g,0,none⟩) (text_ ls).length c) (text_ ls)):((32:Int)≤(c:Int))=True:=by
 have:=(Kd.R_reads' h).2.1
 rw [ze0] at this
 exact eq_true (by omega)
theorem cap32' {ls:List Int} {w:World} {base g c:Nat} (h:Kd.R (Kd.int .u8) 5 w base (fun _=>True) (.slice (some ⟨g,0,none⟩) (text_ ls).length c) (text_ ls)):(32≤c)=True:=by
 have:=(Kd.R_reads' h).2.1
 rw [ze0] at this
 exact eq_true (by omega)
theorem conv32 {ls:List Int} {w:World} {base g c:Nat} (h:Kd.R (Kd.int .u8) 5 w base (fun _=>True) (.slice (some ⟨g,0,none⟩) (text_ ls).length c) (text_ ls)):(convert 22 9 (.slice (some ⟨g,0,none⟩) 32 c)).run Try.prog w=.ok (.string (strOfNums ((text_ ls).take 32))) w:=by
 have hl:=ze0 ls
 refine run_convert_bytes_arg w 22 5 Try.underlying22 Try.underlying5 g 0 32 c ((text_ ls).take 32) (by rw [List.length_take];omega) (fun i hi=>?_) 9 Try.underlying9
 have h1:=(Kd.zps 0 h (i:Int) (by omega) (by omega)).1
 rw [Int.toNat_natCast] at h1
 rw [Nat.zero_add,h1]
 simp [rdOf,List.getD,List.getElem?_take,hi]
theorem zeq.walk (A0:Option Addr) (c0:Nat) (ps:List (List Int)) (w:World) (hp0:zjs w A0 ps) (hl0:ps.flatten.length≤4000000) (hn0:ps.length≤1000000) :
  Calls Try.prog 56 #[.slice A0 ps.length c0] w fun e w'=>e=.returned (.string (kec ps.flatten))∧Below w.heap.size w w':=by
 have HP:=am_ hp0
 have HL:=am_ hl0
 have HN:=am_ hn0
 have HB:=am_ (Below.refl w.heap.size w)
 clear hp0 hl0 hn0
 generalize hall:ps.flatten=all at HL ⊢
 have HALL:=am_ hall
 clear hall
 go_enter Try.func56,Try.ntmps56
 go_wp2_with (first|((with_reducible refine zad (N:=9) rfl ?_);refine Kd.R_lit (Kd.int .u8) _ 5 ?hg (N:=9) ?hd (xs:=([]:List Int)) (inner:=[]) (ok:=fun _=>True) (okp:=fun _=>True) ?hr ?hp (fun _ hk=>hk) trivial (Below.refl _ _) (Nat.le_refl _) (by simp) ?_;(case hd=>rfl);(case hg=>rfl);(case hr=>first|(go_simp;done)|(go_simp;rfl));(case hp=>exact(Reps.none _ _));intro v102 w3 ho4 hb hg_ hnew_;clear hg_ hnew_;replace HO_3:=am_ (Kd.zdk ho4 (zac qz4_));replace HB:=am_ (zaj qz4_ hb);clear hb ho4))
 go_loopg [3,12] ps.length (fun kq v3 v12 w'=>∃ (j:Nat) (out:List Int),v12=.int .i64 j∧zal (j + kq=ps.length)∧zal (out++(ps.drop j).flatten=all)∧zal (Kd.R (Kd.int .u8) 5 w' w.heap.size (fun _=>True) v3 out)∧zal (Below w.heap.size w w'))
 case atStart=>exact⟨0,[],rfl,⟨(by omega)⟩,⟨HALL.out⟩,⟨qz5_⟩,⟨qz4_⟩⟩
 case round=>
  clear HO_3 HB
  obtain⟨j,out,rfl,HJ,HI,HO_3,HB⟩:=hrel
  cases gk with
  | zero=>
   have hj:=HJ.out
   have c1:decide ((j:Int)<(ps.length:Int))=false:=decide_eq_false (by omega)
   have c2:decide (j<ps.length)=false:=decide_eq_false (by omega)
   have hi:=HI.out
   rw [List.drop_eq_nil_of_le (by omega),List.flatten_nil,List.append_nil] at hi
   subst hi
   clear HI hj
   go_wp2_with (first|((with_reducible refine zdc (b:=.append) (xs:=#[.tmp 20,.tmp 21]) rfl ?_);at_builtin;refine Kd.zgp (Kd.int .u8) (w0:=w) w.heap.size rfl (.tmp 20) (.tmp 21) 22 5 (.int .u8 0) 1 rfl Try.underlying22 info5 rfl (by decide) (by omega) u3 out 1 [.int .u8 1] (fun _=>True) (fun _=>False) rfl rfl ?aP (fun _ hk=>hk.elim) ?aF ?aO ?aB ?aS ?aL ?_;(case aP=>exact rfl);(case aB=>exact qz4_);(case aF=>exact(fun _ _=>trivial));(case aO=>exact qz5_);(case aS=>exact(zac qz4_));(case aL=>have:=HL.out;omega);intro v105 w10 ho hb hg hat;replace HB:=am_ (hb);replace HO_3:=am_ (ho);clear ho hb hg hat))
   clear c1 c2
   generalize hpd:padded out=pd
   have HPD:=am_ hpd
   have HM:=am_ (show pd.length % 136=0∧pd.length≤4000200 by rw [←hpd];exact zf4 HL.out)
   unfold padded at hpd
   have HP0:=am_ hpd
   clear hpd
   go_loopg [3] (padN (out.length + 1)) (fun kq v3 w'=>∃ (o:List Int),zal (o++List.replicate kq 0=pd)∧zal (kq<136)∧zal (Kd.R (Kd.int .u8) 5 w' w.heap.size (fun _=>True) v3 o)∧zal (Below w.heap.size w w'))
   case atStart=>exact⟨out++[1],HP0,⟨Nat.mod_lt _ (by decide)⟩,⟨qz5_⟩,⟨qz4_⟩⟩
   case round=>
    clear HO_3 HB HP0
    obtain⟨o,HI,HQ,HO_3,HB⟩:=hrel
    obtain⟨A3,c3,rfl,hc3,_⟩:=Kd.zgi HO_3.out
    have hle:=congrArg List.length HI.out
    rw [List.length_append,List.length_replicate] at hle
    have hm:=HM.out
    have hq:=HQ.out
    cases gk with
    | zero=>
     have m1:o.length % 136=0:=by omega
     have m2:(o.length:Int) % 136=0:=by omega
     have hi:o=pd:=by have h:=HI.out;rw [List.replicate_zero,List.append_nil] at h;exact h
     subst hi
     have ho1:1≤o.length:=by have h2:=congrArg List.length HPD.out;unfold padded at h2;simp only [List.length_append,List.length_cons,List.length_nil] at h2;omega
     have HOL:=am_ (show o.length % 136=0∧o.length≤4000200 from HM.out)
     clear hle hm hq HI HQ
     obtain⟨go,co,eo,gb,gl,cl,HG⟩:=Kd.zlk HO_3.out (by omega)
     (first|cases eo|(injection eo with ea_ en_ ec_;(first|subst ea_|(injection ea_ with ea_;subst ea_));subst ec_;clear en_))
     obtain⟨n1,hn1⟩:∃ n1:Nat,o.length - 1=n1:=⟨_,rfl⟩
     have e10:wrap64 ((o.length:Int) - 1)=(n1:Int):=by have:=HOL.out;unfold wrap64;omega
     have q10:(n1:Int)<(o.length:Int):=by omega
     have q10n:n1<o.length:=by omega
     obtain⟨hx10,hf10⟩:=Kd.zps 0 HO_3.out (n1:Int) (by omega) q10
     rw [Int.toNat_natCast] at hx10 hf10
     have HPU:=am_ (fun x=>(Kd.R_putg HO_3.out (n1:Int) x).1)
     simp only [Int.toNat_natCast] at HPU
     generalize hbe:rdOf 0 o (n1:Int)=b at hx10
     have HBE:=am_ hbe
     clear hbe
     have HCL:=am_ (show o.length≤c3 from hc3)
     have GE:=am_ gb
     have GG:=am_ HG
     have HN1:=am_ hn1
     replace q10:=eq_true q10
     replace q10n:=eq_true q10n
     clear gb gl HG ho1 hn1
     go_wp2_with (first|((with_reducible refine zaq (t:=5) (p:=37) (v:=.tmp 36) rfl ?_);(refine ze7 (t:=5) (p:=37) (v:=.tmp 36) (w1:=wr.setCell ⟨go,n1,none⟩ (.int .u8 (Go.bits .or .u8 b 128))) rfl rfl rfl ?hr ?_);(case hr=>first|(go_simp;done)|(go_simp;rfl));(intro w13 hw);replace HB:=am_ (show Below w.heap.size w w13 by rw [hw];exact za4 HB.out GE.out);replace HC:=am_ (show (Kd.int .u8).C w13 (some ⟨go,0,none⟩) (o.set n1 (Go.bits .or .u8 b 128)).length (o.set n1 (Go.bits .or .u8 b 128)) by rw [hw];exact(Kd.R_reads' (HPU.out _)).2.2);replace GL:=am_ (show go<w13.heap.size by rw [hw];have:=zar GG.out;simpa [World.setCell] using this);clear HO_3 HPU hw)|((with_reducible refine zad (N:=6) rfl ?_);refine zae rfl (N:=6) rfl (cs:=uarr .u64 z25) (t:=134) bx_ ?_;intro g6 hg w14 hbox hb;replace BK6:=am_ (hbox);replace GE6:=am_ ((by rw [hg];exact(zac HB.out)):w.heap.size≤g6);replace HB:=am_ (zaj HB.out hb);replace NEO:=am_ (show go≠g6 by rw [hg];have:=GL.out;omega);replace HC:=am_ (Kd.zbs HC.out hb);clear hb hbox hg)|((with_reducible refine zaq (p:=6) (v:=.tmp 38) (t:=134) rfl ?_);go_must (refine wpList_store_row rfl 134 _ _ rfl g6 (uarr .u64 z25) rfl qz0_ 134 (uarr .u64 z25) BK6.out (by first|(rw [zb8,zcg];kernel_rfl)|kernel_rfl) qz1_ (zdq _ _) ?_;generalize hw4:World.setRow w14 g6 (uarr .u64 z25)=w15;replace BK6:=am_ (show w15.heap[g6]?=some (.cells (uarr .u64 z25) 134 (0,0)) by rw [←hw4];exact setRow_heap _ _ _ _ _ _ BK6.out);replace HC:=am_ (Kd.C_keep (0:Int) HC.out (show zbj w14 w15 g6 none from by rw [←hw4];exact⟨(by simp),fun i hi hg _=>setRow_other _ _ _ _ hg⟩) (fun ad e _=>by injection e with e;rw [←e];exact NEO.out));replace HB:=am_ (show Below w.heap.size w w15 by rw [←hw4];exact below_setRow HB.out GE6.out _);clear hw4)))
     generalize hmk:o.set n1 (Go.bits .or .u8 b 128)=mk at HC
     have hml:mk.length=o.length:=by rw [←hmk,List.length_set]
     have HML:=am_ hml
     have HMK:=am_ hmk
     clear hmk hml e10 q10 q10n hx10 hf10 m1 m2
     generalize htt:zh9 (o.length / 136) mk z25=tt
     have HTT:=am_ htt
     have HTD:=am_ htt
     clear htt
     simp only [Act.put,List.setIfInBounds_toArray,List.set_cons_zero,List.set_cons_succ]
     go_loopg [3] (o.length / 136) (fun kq v3 w'=>∃ (A:Option Addr) (n c:Nat) (ys s:List Int),v3=.slice A n c∧zal (n=ys.length)∧zal (n≤c)∧zal (ys.length=136 * kq)∧zal (zh9 kq ys s=tt)∧zal ((Kd.int .u8).C w' A ys.length ys)∧zal (∀ ad,A=some ad→0<ys.length→ad.block≠g6)∧zal (s.length=25)∧zal (w'.heap[g6]?=some (.cells (uarr .u64 s) 134 (0,0)))∧zal (Below w.heap.size w w'))
     case atStart=>exact⟨_,_,_,mk,z25,rfl,⟨HML.out.symm⟩,⟨HCL.out⟩,⟨(by rw [HML.out];have:=HOL.out;omega)⟩,HTT,HC,⟨fun ad e _=>by injection e with e;rw [←e];exact NEO.out⟩,⟨rfl⟩,BK6,HB⟩
     case round=>
      clear HTT HC BK6 HB
      obtain⟨A,n,c,ys,s,rfl,HNL,HCC,HY,HI,HC,HNE,HSL,BK6,HB⟩:=hrel
      have hnl:=HNL.out
      have hy:=HY.out
      have hcc:=HCC.out
      cases gk with
      | zero=>
       obtain rfl:n=0:=by omega
       have hi:s=tt:=HI.out
       subst hi
       clear hnl hy hcc HI
       go_wp2_with (first|(go_at_call 99;(with_reducible refine(zi2.calls g6 s _ BK6.out HSL.out).mono ?_);rintro e w16 ⟨v0,rfl,hR,hb⟩;(obtain⟨g4,c4,rfl,_,_,_,_⟩:=Kd.zlk hR (by rw [ze0];decide));have hcv:=conv32 hR;have d1:=cap32 hR;have d2:=cap32' hR;rw [ze0];replace HB:=am_ (zaj HB.out hb);clear hR hb))
       go_ret
       refine⟨?_,qz4_⟩
       have hk:strOfNums ((text_ s).take 32)=kec out:=by
        unfold kec mark
        rw [HPD.out,HN1.out,HBE.out,HMK.out,HTD.out]
       rw [←hk]
       first|rfl|(simp;done)
      | succ k1=>
       have c1:decide (0<(n:Int))=true:=decide_eq_true (by omega)
       have c2:decide (0<n)=true:=decide_eq_true (by omega)
       have d1:(0<n)=True:=eq_true (by omega)
       have d2:((136:Int)≤(c:Int))=True:=eq_true (by omega)
       have d3:(136≤c)=True:=eq_true (by omega)
       have ht:(ys.take 136).length=136:=by rw [List.length_take];omega
       have hC1:=Kd.C_take (m:=136) HC.out (by omega)
       have hCL:=zlo.calls A c (ys.take 136) wr hC1 (by omega) (by omega)
       rw [ht] at hCL
       have HCL2:=am_ hCL
       have HI2:=am_ (show zh9 k1 (ys.drop 136) (perm (xors (zdf (ys.take 136)) s))=tt from HI.out)
       clear hC1 hCL ht hnl hy hcc HI
       go_wp2_with (first|(go_at_call 97;(refine HCL2.out.mono ?_);rintro e w17 ⟨rfl,hb⟩;replace HC:=am_ (Kd.zbs HC.out hb);replace BK6:=am_ (zak BK6.out hb);replace HB:=am_ (zaj HB.out hb);clear hb HCL2))
       have hll:=zcg (ys.take 136)
       generalize zdf (ys.take 136)=l at HI2 hll ⊢
       have HLL:=am_ hll
       clear hll
       generalize hX:xors l s=X at HI2
       have HXL:=am_ (show X.length=25 by rw [←hX,zhb];exact HSL.out)
       unfold xors at hX
       have HX:=am_ hX
       clear hX c1 c2 d1 d2 d3
       go_loopg [47] 25 (fun kq v47 w'=>∃ (i:Nat) (t:List Int),v47=.int .i64 i∧zal (i + kq=25)∧zal (iter (zg0 l) kq i t=X)∧zal (t.length=25)∧zal (KB w17 w' g6)∧zal (w'.heap[g6]?=some (.cells (uarr .u64 t) 134 (0,0)))∧zal (Below w.heap.size w w'))
       case atStart=>exact⟨0,s,rfl,⟨(by omega)⟩,HX,HSL,⟨KB.refl _ _⟩,BK6,HB⟩
       case round=>
        clear HX BK6 HB
        obtain⟨i,t,rfl,HJ1,HI1,HL1,HKB,BK6,HB⟩:=hrel
        cases gk with
        | zero=>
         have hj:=HJ1.out
         have c1:decide ((i:Int)<25)=false:=decide_eq_false (by omega)
         have c2:decide (i<25)=false:=decide_eq_false (by omega)
         have hi:t=X:=HI1.out
         subst hi
         have hnl:=HNL.out
         have hy:=HY.out
         have hcc:=HCC.out
         have d1:((136:Int)≤(n:Int))=True:=eq_true (by omega)
         have d2:(136≤n)=True:=eq_true (by omega)
         have d3:((136:Int)≤(c:Int))=True:=eq_true (by omega)
         have d4:(136≤c)=True:=eq_true (by omega)
         have d5:((n:Int)≤(c:Int))=True:=eq_true (by omega)
         have d6:(n≤c)=True:=eq_true hcc
         clear HI1 hj HJ1 hnl hy hcc
         have HCD:=am_ (fun w' (h:KB w17 w' g6)=>Kd.C_drop (m:=136) (c:=c) (Kd.C_keep (0:Int) HC.out h.keep HNE.out) (by have:=HY.out;omega) (by have:=HNL.out;have:=HCC.out;omega))
         by_cases h136:c=136
         ·
          subst h136
          go_wp2_with (first|(go_at_call 98;(with_reducible refine(zfq.calls g6 t _ BK6.out HL1.out).mono ?_);rintro e w18 ⟨rfl,hrow,hkb⟩;replace BK6:=am_ hrow;replace HKB:=am_ (HKB.out.trans hkb);replace HB:=am_ (hkb.onto HB.out (Nat.le_refl _) GE6.out);clear hrow hkb))
          go_roundg k1
          case measure=>omega
          case rel=>exact⟨A,0,0,ys.drop 136,perm t,by first|rfl|(simp;done),⟨(by rw [List.length_drop];have:=HNL.out;have:=HCC.out;omega)⟩,⟨(by omega)⟩,⟨(by rw [List.length_drop,HY.out];omega)⟩,HI2,⟨(by have h:=HCD.out _ HKB.out;rw [if_pos (by trivial)] at h;exact h)⟩,⟨fun ad e h=>by rw [List.length_drop] at h;exact HNE.out ad e (by omega)⟩,⟨(zio _).trans HL1.out⟩,BK6,HB⟩
         ·
          have e136:=eq_false h136
          go_wp2_with (first|(go_at_call 98;(with_reducible refine(zfq.calls g6 t _ BK6.out HL1.out).mono ?_);rintro e w18 ⟨rfl,hrow,hkb⟩;replace BK6:=am_ hrow;replace HKB:=am_ (HKB.out.trans hkb);replace HB:=am_ (hkb.onto HB.out (Nat.le_refl _) GE6.out);clear hrow hkb))
          go_roundg k1
          case measure=>omega
          case rel=>exact⟨A.map (fun x=>⟨x.block,x.off + 136,none⟩),n - 136,c - 136,ys.drop 136,perm t,by first|rfl|(simp;done),⟨(by rw [List.length_drop,HNL.out])⟩,⟨(by have:=HCC.out;omega)⟩,⟨(by rw [List.length_drop,HY.out];omega)⟩,HI2,⟨(by have h:=HCD.out _ HKB.out;rw [if_neg h136] at h;exact h)⟩,⟨fun ad e h=>by cases A with|none=>cases e|some a=>(injection e with e;rw [←e];rw [List.length_drop] at h;exact HNE.out a rfl (by omega))⟩,⟨(zio _).trans HL1.out⟩,BK6,HB⟩
        | succ k2=>
         have hj:=HJ1.out
         have hl1:=HL1.out
         have c1:decide ((i:Int)<25)=true:=decide_eq_true (by omega)
         have c2:decide (i<25)=true:=decide_eq_true (by omega)
         have ci:((i:Int)<25)=True:=eq_true (by omega)
         have cn:(i<25)=True:=eq_true (by omega)
         have hix:=zi1 Try.underlying134 (xs:=l) HLL.out (show i<25 by omega) wr
         have hs6:=zb1 BK6.out (i:=i) (by omega)
         have hf6:=zab BK6.out i
         have hi:=HI1.out
         rw [zdp] at hi
         unfold zg0 at hi
         have HL2:=am_ (show ∀ v,(t.set i v).length=25 from fun v=>by rw [List.length_set];exact hl1)
         generalize l.getD i 0=P at hix hi
         generalize t.getD i 0=Q at hs6 hi
         have HI4:=am_ hi
         clear HI1 hj hl1 hi HL1
         go_wp2
         go_roundg k2
         case measure=>omega
         case rel=>exact⟨i + 1,_,by first|rfl|go_num|(rw [w64_ (by have:=HJ1.out;omega) (by have:=HJ1.out;omega)];rfl),⟨(by have:=HJ1.out;omega)⟩,HI4,⟨HL2.out _⟩,⟨HKB.out.set (.inl rfl)⟩,⟨zh0 BK6.out _ _⟩,⟨za4 HB.out GE6.out⟩⟩
    | succ k1=>
     have m1:(o.length % 136=0)=False:=eq_false (by omega)
     have m2:((o.length:Int) % 136=0)=False:=eq_false (by omega)
     have m3:((o.length:Int) % 136 == 0)=false:=beq_eq_false_iff_ne.mpr (by omega)
     have m4:decide ((o.length:Int) % 136=0)=false:=decide_eq_false (by omega)
     have HLO:=am_ (show o.length≤4000200 by omega)
     have HI2:=am_ (show (o++[0])++List.replicate k1 0=pd by rw [List.append_assoc];exact HI.out)
     clear hle hm HI
     go_wp2_with (first|((with_reducible refine zdc (b:=.append) (xs:=#[.tmp 27,.tmp 28]) rfl ?_);at_builtin;refine Kd.zgp (Kd.int .u8) (w0:=w) w.heap.size rfl (.tmp 27) (.tmp 28) 22 5 (.int .u8 0) 1 rfl Try.underlying22 info5 rfl (by decide) (by omega) (.slice A3 o.length c3) o 0 [.int .u8 0] (fun _=>True) (fun _=>False) rfl rfl ?aP (fun _ hk=>hk.elim) ?aF ?aO ?aB ?aS ?aL ?_;(case aP=>exact rfl);(case aB=>exact qz4_);(case aF=>exact(fun _ _=>trivial));(case aO=>exact qz5_);(case aS=>exact(zac qz4_));(case aL=>have h1:=HLO.out;omega);intro v107 w12 ho hb hg hat;replace HB:=am_ (hb);replace HO_3:=am_ (ho);clear ho hb hg hat))
     go_roundg k1
     case measure=>omega
     case rel=>exact⟨o++[0],HI2,⟨(by omega)⟩,⟨qz5_⟩,⟨qz4_⟩⟩
  | succ k1=>
   have hj:=HJ.out
   have hn:=HN.out
   have hjl:j<ps.length:=by omega
   have c1:decide ((j:Int)<(ps.length:Int))=true:=decide_eq_true (by omega)
   have c2:decide (j<ps.length)=true:=decide_eq_true hjl
   have p6:=eq_true (show (j:Int)<(ps.length:Int) by omega)
   have p7:=eq_true hjl
   obtain⟨ad,B,c,hA,hc,hC⟩:=HP.out j hjl
   subst hA
   have hx:=(HB.out.cell (World.block_lt_of_cell? _ _ hc)).trans hc
   have HC:=am_ (Kd.zbs hC HB.out)
   have hi:=HI.out
   rw [List.drop_eq_getElem_cons hjl,List.flatten_cons,←List.append_assoc] at hi
   have HLO:=am_ (show (out++ps[j]).length≤4000000 by have h1:=congrArg List.length hi;have h2:=HL.out;rw [List.length_append] at h1;omega)
   have HI2:=am_ hi
   clear hi HI hc hC
   generalize ps[j]=ys at hx HC HI2 HLO
   go_wp2_with (first|((with_reducible refine zdc (b:=.append) (xs:=#[.tmp 16,.tmp 17]) rfl ?_);at_builtin;refine Kd.zfh (Kd.int .u8) (w0:=w) w.heap.size rfl (.tmp 16) (.tmp 17) 22 5 (.int .u8 0) 1 rfl Try.underlying22 info5 rfl (by decide) (by omega) u3 out ys _ _ _ (fun _=>True) (fun _=>False) rfl rfl ?aO ?aR (fun _ _ h=>h) (fun _ h=>h.elim) ?aF ?aB ?aS ?aL ?_;(case aR=>exact qc_ HC.out);(case aB=>exact qz4_);(case aF=>exact(fun _ _=>trivial));(case aO=>exact qz5_);(case aS=>exact(zac qz4_));(case aL=>have h1:=HLO.out;rw [List.length_append] at h1;omega);intro v106 w11 ho hb hg hat;replace HB:=am_ (hb);replace HO_3:=am_ (ho);clear ho hb hg hat))
   go_roundg k1
   case measure=>omega
   case rel=>exact⟨j + 1,out++ys,by first|rfl|go_num|(rw [w64_ (by omega) (by omega)];rfl),⟨(by omega)⟩,HI2,⟨qz5_⟩,⟨qz4_⟩⟩
end Go.Proofs.Ytgookagndlfehaa.PT
end
section
/- hashOf: the hash of a text. -/
namespace Go.Proofs.Ytgookagndlfehaa.PT
open Go.RowKit Go.Proofs.YtgookagndlfehaaW.PrintWords Go.Proofs.YtgookagndlfehaaW.PrintLast Go.Proofs.YtgookagndlfehaaW.PrintMore
set_option linter.unusedVariables false
set_option linter.unusedSimpArgs false
def nums_ (t:ByteArray):List Int:=t.data.toList.map fun b=>(b.toNat:Int)
theorem nums_length (t:ByteArray):(nums_ t).length=t.size:=by
 unfold nums_
 rw [List.length_map,Array.length_toList]
 rfl
theorem zmv (t:ByteArray) (j:Nat):(nums_ t).getD j 0=((t.data.toList.getD j 0).toNat:Int):=by
 unfold nums_
 rw [List.getD,List.getD,List.getElem?_map]
 cases t.data.toList[j]? <;> rfl
theorem nums_C (w:World) (t:ByteArray) (h:t.size≤2000000):(Kd.int .u8).C (Go.Lib.bytesWorld w 5 t) (some ⟨w.heap.size,0,none⟩) (nums_ t).length (nums_ t):=by
 refine Kd.zfk (d:=(0:Int)) ⟨rfl,by rw [nums_length];omega,fun _=>⟨_,rfl,fun j hj=>?_⟩⟩
 rw [nums_length] at hj
 have e:(⟨w.heap.size,0,none⟩:Addr).add j=⟨w.heap.size,j,none⟩:=by unfold Addr.add;split <;> simp_all
 rw [e,Go.Lib.bytesWorld_cell w 5 t j hj,zmv]
theorem zf7 (w:World) (t:ByteArray):Below w.heap.size w (Go.Lib.bytesWorld w 5 t):=
 ⟨rfl,rfl,rfl,(by rw [Go.Lib.bytesWorld_size];omega),fun k hk=>Go.Lib.bytesWorld_at_old w 5 t k hk⟩
theorem zn0 (w:World) (t:ByteArray) (h:t.size≤2000000):∃ A c w',(convert 9 22 (.string t)).run Try.prog w=.ok (.slice A (nums_ t).length c) w'∧(Kd.int .u8).C w' A (nums_ t).length (nums_ t)∧Below w.heap.size w w':=
 ⟨_,_,_,(by rw [nums_length];exact Go.Lib.run_convert_string_bytes w 9 22 5 t Try.underlying9 Try.underlying22 Try.underlying5),nums_C w t h,zf7 w t⟩
theorem znl {w:World} {A:Option Addr} {c:Nat} {xs:List Int} {t:TypeId} (h:(Kd.int .u8).C w A xs.length xs):zjs (w.alloc (.cells #[.slice A xs.length c] t)) (some ⟨w.heap.size,0,none⟩) [xs]:=by
 intro j hj
 obtain rfl:j=0:=by simp at hj;omega
 exact⟨_,A,c,rfl,World.cell?_alloc_new _ _ _ _,Kd.zg2 h _⟩
def zg6.f (a0:ByteArray):Option ByteArray:=if a0.size≤2000000 then some (kec (nums_ a0)) else none
theorem zg6.calls (a0:ByteArray) (r:ByteArray) (w:World) (h:zg6.f a0=some r) :
  Calls Try.prog 87 #[.string a0] w fun e w'=>e=.returned (.string r)∧Below w.heap.size w w':=by
 unfold zg6.f at h
 by_cases c:a0.size≤2000000
 ·
  rw [if_pos c] at h
  obtain rfl:=Option.some.inj h
  have HC:=am_ c
  have HB:=am_ (Below.refl w.heap.size w)
  obtain⟨A,cc,w4,hcv,hC,hb⟩:=zn0 w a0 c
  have HCR:=am_ hC
  have HB4:=am_ hb
  clear c h hC hb
  go_enter Try.func87,Try.ntmps87
  go_wp2_with (go_at_call 56;(refine(zeq.walk _ 1 [nums_ a0] _ (znl HCR.out) (by have:=HC.out;rw [List.flatten_cons,List.flatten_nil,List.append_nil,nums_length];omega) (by simp)).mono ?_);rintro e w16 ⟨rfl,hb⟩;replace HB:=am_ (zaj (za0 HB4.out _) hb);clear hb)
  go_ret
  exact⟨(by first|rfl|simp),HB.out⟩
 ·
  rw [if_neg c] at h;cases h
end Go.Proofs.Ytgookagndlfehaa.PT
end
section
/- A text's bytes as a row that grows: its block bears a mark behind its cells, so the kit's own rows do not take it. -/
namespace Go.Proofs.Ytgookagndlfehaa.PT
open Go.RowKit Go.Proofs.YtgookagndlfehaaW.PrintWords Go.Proofs.YtgookagndlfehaaW.PrintLast Go.Proofs.YtgookagndlfehaaW.PrintMore
set_option linter.unusedVariables false
set_option linter.unusedSimpArgs false
def Free (fz:Nat × Nat) (n:Nat):Prop:=∀ j,j<n→¬(fz.1≤j∧j<fz.2)
def RowT (w:World) (base:Nat) (v:Value) (xs:List Int):Prop:=
 ∃ g cap cur fz,v=.slice (some ⟨g,0,none⟩) xs.length cap∧base≤g∧w.heap[g]?=some (.cells cur 5 fz)∧Free fz cap∧xs.length≤cap∧cap≤maxLen∧cur.size=cap∧cur.toList.take xs.length=nums .u8 xs
theorem nmL (k:IntKind) (xs:List Int):(nums k xs).length=xs.length:=by simp [nums]
theorem hao (w:World) (o:Obj) {k:Nat} (h:k<w.heap.size):(w.alloc o).heap[k]?=w.heap[k]?:=by
 show (w.heap.push o)[k]?=w.heap[k]?
 rw [Array.getElem?_push,if_neg (Nat.ne_of_lt h)]
theorem znh {w:World} {g:Nat} {t:TypeId} {cs:Array Value} {fz:Nat × Nat} (h:w.heap[g]?=some (.cells cs t fz)) (i:Nat) (u:Value):(w.setCell ⟨g,i,none⟩ u).heap[g]?=some (.cells (cs.setIfInBounds i u) t fz):=by
 simp [World.setCell,Array.getElem?_modify,h]
theorem RowT.move {w w':World} {base:Nat} {v:Value} {xs:List Int} (h:RowT w base v xs) (hk:∀ k,v.ownBlock=some k→w'.heap[k]?=w.heap[k]?):RowT w' base v xs:=by
 obtain⟨g,cap,cur,fz,rfl,hb,hg,r⟩:=h
 exact⟨g,cap,cur,fz,rfl,hb,(hk g (by simp [Value.ownBlock])).trans hg,r⟩
theorem RowT.base {w:World} {base:Nat} {v:Value} {xs:List Int} (h:RowT w base v xs):∀ k,v.ownBlock=some k→base≤k∧k<w.heap.size:=by
 obtain⟨g,cap,cur,fz,rfl,hb,hg,r⟩:=h
 intro k hk
 obtain rfl:g=k:=by simpa [Value.ownBlock] using hk
 exact⟨hb,zar hg⟩
theorem RowT.cell {w:World} {base:Nat} {v:Value} {xs:List Int} (h:RowT w base v xs) {g:Nat} (hv:v.ownBlock=some g) {j:Nat} (hj:j<xs.length):w.cell? ⟨g,j,none⟩=some (.int .u8 (xs.getD j 0))∧w.frozen? ⟨g,j,none⟩=false:=by
 obtain⟨g',cap,cur,fz,rfl,hb,hg,hf,hn,hm,hs,ht⟩:=h
 obtain rfl:g'=g:=by simpa [Value.ownBlock] using hv
 have h1:cur.toList[j]?=some (.int .u8 (xs.getD j 0)):=by
  have h2:(cur.toList.take xs.length)[j]?=(nums .u8 xs)[j]?:=by rw [ht]
  rw [List.getElem?_take,if_pos hj] at h2
  rw [h2]
  simp [nums,List.getD,hj]
 refine⟨?_,?_⟩
 ·
  simp only [World.cell?,hg]
  simpa using h1
 ·
  have:=hf j (by omega)
  obtain⟨lo,hi⟩:=fz
  simp only [World.frozen?,hg,Bool.and_eq_false_iff,decide_eq_false_iff_not]
  simp only at this
  omega
theorem RowT.reads {w:World} {base:Nat} {v:Value} {xs:List Int} (h:RowT w base v xs):∃ A c,v=.slice A xs.length c∧xs.length≤c∧(Kd.int .u8).C w A xs.length xs:=by
 obtain⟨g,cap,cur,fz,rfl,hb,hg,hf,hn,hm,hs,ht⟩:=id h
 refine⟨_,_,rfl,hn,Kd.zfk (d:=(0:Int)) ⟨rfl,by unfold maxLen at hm;omega,fun _=>⟨_,rfl,fun j hj=>?_⟩⟩⟩
 rw [add_plain]
 exact(h.cell (by simp [Value.ownBlock]) hj).1
theorem cur_put {cur:Array Value} {n:Nat} (b:Value) (h:n<cur.size):(cur.setIfInBounds n b).toList.take (n + 1)=cur.toList.take n++[b]:=by
 rw [Array.toList_setIfInBounds,List.take_add_one,List.take_set_of_le (Nat.le_refl n)]
 simp [h]
theorem RowT.append1 {W:World} {base:Nat} {v:Value} {xs:List Int} (h:RowT W base v xs) (hl:xs.length + 1≤140737488355328) (hbase:base≤W.heap.size) (b:Int) (ty:TypeId) :
  ∃ v1 w1,(Builtin.append_ #[22,22] ty #[v,.slice (some ⟨W.heap.size,0,none⟩) 1 1]).run Try.prog (W.alloc (.cells #[.int .u8 b] 5))=.ok v1 w1∧RowT w1 base v1 (xs++[b])∧W.grownBy w1 v.ownBlock∧(v1.ownBlock=v.ownBlock∨∃ k,v1.ownBlock=some k∧W.heap.size≤k):=by
 obtain⟨i,hi,hz0,hz1,hz2⟩:=info_parts info5
 have hu:=Try.underlying22
 obtain⟨g,cap,cur,fz,rfl,hb,hg,hf,hn,hm,hs,ht⟩:=id h
 have hlt:=zar hg
 have hg2:(W.alloc (.cells #[.int .u8 b] 5)).heap[g]?=some (.cells cur 5 fz):=(hao W _ hlt).trans hg
 have hc2:(W.alloc (.cells #[.int .u8 b] 5)).cell? ((⟨W.heap.size,0,none⟩:Addr).add 0)=some (.int .u8 b):=by rw [add_plain];exact World.cell?_alloc_new _ _ _ _
 have hnews:∀ j u,[Value.int .u8 b][j]?=some u→(W.alloc (.cells #[.int .u8 b] 5)).cell? ((⟨W.heap.size,0,none⟩:Addr).add j)=some u:=by
  intro j u hj
  match j with
  | 0=>simp at hj;subst hj;exact hc2
  | j + 1=>simp at hj
 by_cases hroom:xs.length + 1≤cap
 ·
  have hff:=run_firstCells_some (P:=Try.prog) (W.alloc (.cells #[.int .u8 b] 5)) i.size 1 ⟨W.heap.size,0,none⟩ 1 1 [.int .u8 b] (by rw [hz1];rfl) hnews
  have hcell:(W.alloc (.cells #[.int .u8 b] 5)).cell? ⟨g,xs.length,none⟩=some (cur[xs.length]'(by omega)):=by simp [World.cell?,hg2,show xs.length<cur.size by omega]
  have hfr:(W.alloc (.cells #[.int .u8 b] 5)).frozen? ⟨g,xs.length,none⟩=false:=by
   have:=hf xs.length (by omega)
   obtain⟨lo,hi⟩:=fz
   simp only [World.frozen?,hg2,Bool.and_eq_false_iff,decide_eq_false_iff_not]
   simp only at this
   omega
  have hst:(storeCells ⟨g,xs.length,none⟩ [.int .u8 b] 0).run Try.prog (W.alloc (.cells #[.int .u8 b] 5))=.ok () ((W.alloc (.cells #[.int .u8 b] 5)).setCell ⟨g,xs.length,none⟩ (.int .u8 b)):=by
   have hadd:(⟨g,xs.length,none⟩:Addr).add 0=⟨g,xs.length,none⟩:=by unfold Addr.add;split <;> simp_all
   simp only [storeCells,Sem.run_bind,hadd]
   rw [run_store Try.prog _ _ _ _ rfl,hcell]
   simp [hfr,Result.andThen]
  refine⟨.slice (some ⟨g,0,none⟩) (xs.length + 1) cap,(W.alloc (.cells #[.int .u8 b] 5)).setCell ⟨g,xs.length,none⟩ (.int .u8 b),?_,⟨g,cap,cur.setIfInBounds xs.length (.int .u8 b),fz,(by simp),hb,?_,hf,(by simpa using hroom),hm,(by simpa using hs),?_⟩,⟨rfl,rfl,rfl,(by simp [World.setCell]),fun k hk hne=>?_⟩,.inl rfl⟩
  ·
   have hoff:(⟨g,0,none⟩:Addr).add (xs.length * 1)=⟨g,xs.length,none⟩:=by rw [add_plain,Nat.mul_one]
   rw [hz1] at hff
   simp [Builtin.append_,run_underlying hu,sizeOf,typeInfo,hi,hz1,Builtin.lenOf,hroom,hff,Addr.add_lit,hst]
  ·
   exact znh hg2 xs.length _
  ·
   rw [List.length_append,show xs.length + [b].length=xs.length + 1 from rfl,cur_put _ (by omega),ht]
   simp [nums]
  ·
   rw [Below.heap_setCell _ ⟨g,xs.length,none⟩ _ k (by intro he;exact hne (by simp [Value.ownBlock,he]))]
   exact hao W _ hk
 ·
  have holds:∀ j u,(nums .u8 xs)[j]?=some u→(W.alloc (.cells #[.int .u8 b] 5)).cell? ((⟨g,0,none⟩:Addr).add j)=some u:=by
   intro j u hj
   have hjl:j<xs.length:=by
    have:=(List.getElem?_eq_some_iff.1 hj).1
    rwa [nmL] at this
   rw [add_plain,World.cell?_alloc_old _ _ _ (show (⟨g,j,none⟩:Addr).block≠W.heap.size from Nat.ne_of_lt hlt),(h.cell (by simp [Value.ownBlock]) hjl).1,←hj]
   simp [nums,List.getD,hjl]
  have hr:=run_append_grow (P:=Try.prog) (W.alloc (.cells #[.int .u8 b] 5)) 22 ty 5 i (.int .u8 0) hu hi hz0 ⟨g,0,none⟩ xs.length cap (nums .u8 xs) (by rw [nmL,hz1,Nat.mul_one]) holds ⟨W.heap.size,0,none⟩ 1 1 [.int .u8 b] (by rw [hz1];rfl) hnews (by omega) (by omega) (growslice_fits (by omega) (by rw [hz2];omega))
  have hge:=grownCap_ge (W.alloc (.cells #[.int .u8 b] 5)) (xs.length + 1) cap 5
  have hle:=grownCap_le_maxLen (W.alloc (.cells #[.int .u8 b] 5)) (xs.length + 1) cap 5 (by unfold maxLen;omega)
  refine⟨_,_,hr,⟨_,_,_,(0,0),(by rw [List.length_append];rfl),(by simp;omega),heap_alloc_new _ _,fun j _ hj=>by simp at hj,(by simpa using hge),hle,?_,?_⟩,⟨rfl,rfl,rfl,(by simp;omega),fun k hk _=>?_⟩,.inr ⟨_,rfl,(by simp)⟩⟩
  ·
   simp only [Array.size_append,List.size_toArray,nmL,size_zeroCells]
   simp [Value.cells]
   omega
  ·
   simp only [Array.toList_append,List.append_assoc]
   rw [←List.append_assoc,List.length_append,show xs.length + [b].length=(nums .u8 xs++[Value.int .u8 b]).length by simp [nmL]]
   rw [List.take_left]
   simp [nums]
  ·
   rw [hao _ _ (by simp;omega)]
   exact hao W _ hk
theorem RowT.lower {w:World} {b b':Nat} {v:Value} {xs:List Int} (h:RowT w b v xs) (hb:b'≤b):RowT w b' v xs:=by
 obtain⟨g,cap,cur,fz,rfl,h1,r⟩:=h
 exact⟨g,cap,cur,fz,rfl,Nat.le_trans hb h1,r⟩
theorem RowT.bytes (w:World) (t:ByteArray) (h:t.size≤2000000):RowT (Go.Lib.bytesWorld w 5 t) w.heap.size (.slice (some ⟨w.heap.size,0,none⟩) t.size (grownCap w t.size 0 5)) (nums_ t):=by
 have hge:=grownCap_ge w t.size 0 5
 have hle:=grownCap_le_maxLen w t.size 0 5 (by unfold maxLen;omega)
 have hs:(Go.Lib.bytesCells w 5 t).size=grownCap w t.size 0 5:=by
  simp only [Go.Lib.bytesCells,Array.size_append,Array.size_map,Array.size_replicate]
  have:t.data.size=t.size:=rfl
  omega
 refine⟨w.heap.size,_,_,_,(by rw [nums_length]),Nat.le_refl _,Go.Lib.bytesWorld_at_new w 5 t,?_,(by rw [nums_length];exact hge),hle,hs,?_⟩
 ·
  intro j hj hh
  rw [hs] at hh
  exact absurd hh.1 (Nat.not_le.2 hj)
 ·
  rw [nums_length]
  unfold Go.Lib.bytesCells nums nums_
  rw [Array.toList_append,List.take_append_of_le_length (by simp),List.take_of_length_le (by simp)]
  simp [List.map_map]
theorem RowT.set {w:World} {base g:Nat} {v:Value} {xs:List Int} (h:RowT w base v xs) (hv:v.ownBlock=some g) {i:Nat} (hi:i<xs.length) (x:Int):RowT (w.setCell ⟨g,i,none⟩ (.int .u8 x)) base v (xs.set i x):=by
 obtain⟨g',cap,cur,fz,rfl,hb,hg,hf,hn,hm,hs,ht⟩:=h
 obtain rfl:g'=g:=by simpa [Value.ownBlock] using hv
 refine⟨g',cap,_,fz,(by simp),hb,znh hg i _,hf,(by simpa using hn),hm,(by simpa using hs),?_⟩
 rw [Array.toList_setIfInBounds,List.length_set]
 unfold nums at ht ⊢
 rw [List.map_set,←ht,List.take_set]
def rowT (base:Nat) (v:Value) (xs:List Int):Grp:=⟨fun k=>v.ownBlock=some k,fun w=>RowT w base v xs⟩
namespace Inv
variable {w0 w w1:World} {P:Nat→Prop} {L:List Grp} {F:World→Prop}
theorem pushT {v:Value} {xs:List Int} (h:Inv w0 P w L F) (hb:Below w.heap.size w w1) (hR:RowT w1 w.heap.size v xs):Inv w0 P w1 (rowT w0.heap.size v xs::L) F:=
 h.push hb _ (fun k hk=>hR.base k hk) (fun w' hw=>(hR.lower h.agr.size).move hw)
theorem rowT0 {b:Nat} {v:Value} {xs:List Int} (h:Inv w0 P w (rowT b v xs::L) F):RowT w b v xs:=h.get 0 rfl
theorem stepT {b:Nat} {v v1:Value} {xs ys:List Int} (h:Inv w0 P w (rowT b v xs::L) F) (hg:w.grownBy w1 v.ownBlock) (hR:RowT w1 b v1 ys) (hat:v1.ownBlock=v.ownBlock∨∃ k,v1.ownBlock=some k∧w.heap.size≤k):Inv w0 P w1 (rowT b v1 ys::L) F:=
 h.step ((Agr.zfs hg).mono (fun k hk=>hk.symm)) _ (fun k hk=>⟨by rcases hat with e|⟨k2,e,hle⟩;exact .inl (by show v.ownBlock=some k;rw [←e];exact hk);exact .inr (by rw [show v1.ownBlock=some k from hk] at e;injection e with e;rw [e];exact hle),(hR.base k hk).2⟩) (fun w' hw=>hR.move hw)
end Inv
section
variable {ops:Array Oper} {o:Oper} {rest:List Oper} {a:Act} {Q:Exit→Act→World→Prop}
theorem zj0 {W:World} {base:Nat} (hgd:o.guard=none) (s x:Operand) (ho:o.op=.call { callee:=.builtin .append,args:=#[s,x],argTypes:=#[22,22] }) (v:Value) (xs:List Int) (b:Int) (hs:a.eval s=v) (hx:a.eval x=.slice (some ⟨W.heap.size,0,none⟩) 1 1)
  (h:RowT W base v xs) (hl:xs.length + 1≤140737488355328) (hbase:base≤W.heap.size)
  (k:∀ v1 w1,RowT w1 base v1 (xs++[b])→W.grownBy w1 v.ownBlock→(v1.ownBlock=v.ownBlock∨∃ k,v1.ownBlock=some k∧W.heap.size≤k)→wpList Try.prog ops Q rest (a.put o.dst v1) w1) :
  wpList Try.prog ops Q (o::rest) a (W.alloc (.cells #[.int .u8 b] 5)):=by
 obtain⟨v1,w1,hr,h1,hg,hat⟩:=h.append1 hl hbase b o.type
 refine wpList_plain hgd fun K hK=>?_
 unfold Oper.wp execOp
 simp only [ho,resolve,invoke,builtin,Sem.run_bind,Sem.run_pure,Result.andThen_ok,List.map_toArray,List.map_cons,List.map_nil,hs,hx,hr]
 exact hK _ _ (k v1 w1 h1 hg hat)
end
end Go.Proofs.Ytgookagndlfehaa.PT
end
section
/- A constant text's bytes: the literal's row bears a mark; what is appended makes a new row. -/
namespace Go.Proofs.Ytgookagndlfehaa.PT
open Go.RowKit Go.Proofs.YtgookagndlfehaaW.PrintWords Go.Proofs.YtgookagndlfehaaW.PrintLast Go.Proofs.YtgookagndlfehaaW.PrintMore
set_option linter.unusedVariables false
set_option linter.unusedSimpArgs false
theorem zlf {w:World} {g n:Nat} {c:Array Value} {t:TypeId} (h:w.heap[g]?=some (.cells c t (0,0))):(w.freeze ⟨g,n,none⟩ 1).heap[g]?=some (.cells c t (n,n + 1)):=by
 simp [World.freeze,Array.getElem?_modify,h]
theorem zjv {w:World} {g n k:Nat} (h:g≠k):(w.freeze ⟨g,n,none⟩ 1).heap[k]?=w.heap[k]?:=by
 simp [World.freeze,Array.getElem?_modify,h]
theorem zg1 {w:World} {g n:Nat}:(w.freeze ⟨g,n,none⟩ 1).heap.size=w.heap.size:=by
 simp [World.freeze]
theorem conv_lit (W:World) (xs:List Int) (hl:xs.length≤1000000):∃ w2,(convert 22 22 (.slice (some ⟨W.heap.size,0,none⟩) xs.length xs.length)).run Try.prog (W.alloc (.cells (nums .u8 xs).toArray 5))=.ok (.slice (some ⟨W.heap.size,0,none⟩) xs.length xs.length) w2∧
  RowT w2 W.heap.size (.slice (some ⟨W.heap.size,0,none⟩) xs.length xs.length) xs∧Below W.heap.size W w2:=by
 have hu:=run_underlying (P:=Try.prog) Try.underlying22
 have hv:=run_underlying (P:=Try.prog) Try.underlying5
 have hsh:(W.alloc (.cells (nums .u8 xs).toArray 5)).shape? W.heap.size=some (5,xs.length):=by
  unfold World.shape?
  rw [heap_alloc_new]
  simp [nums]
 have hg:((W.alloc (.cells (nums .u8 xs).toArray 5)).freeze ⟨W.heap.size,xs.length,none⟩ 1).heap[W.heap.size]?=some (.cells (nums .u8 xs).toArray 5 (xs.length,xs.length + 1)):=by
  exact zlf (heap_alloc_new W _)
 refine⟨(W.alloc (.cells (nums .u8 xs).toArray 5)).freeze ⟨W.heap.size,xs.length,none⟩ 1,?_,⟨W.heap.size,xs.length,(nums .u8 xs).toArray,(xs.length,xs.length + 1),rfl,Nat.le_refl _,hg,?_,Nat.le_refl _,(by unfold maxLen;omega),(by simp [nums]),?_⟩,⟨rfl,rfl,rfl,?_,fun k hk=>?_⟩⟩
 ·
  simp [convert,hu,hv,markStringish,hsh,Result.andThen]
 ·
  intro j hj hh
  exact absurd hh.1 (Nat.not_le.2 hj)
 ·
  rw [List.take_of_length_le (by simp [nums])]
 ·
  rw [zg1];simp
 ·
  rw [zjv (by omega)]
  exact hao W _ hk
theorem RowT.grow {W:World} {base g n:Nat} {xs ys:List Int} (h:RowT W base (.slice (some ⟨g,0,none⟩) n n) xs) {A:Option Addr} {c:Nat} (hC:(Kd.int .u8).C W A ys.length ys) (hm:0<ys.length) (hl:xs.length + ys.length≤1000000) (ty:TypeId) :
  ∃ v1 w1,(Builtin.append_ #[22,22] ty #[.slice (some ⟨g,0,none⟩) n n,.slice A ys.length c]).run Try.prog W=.ok v1 w1∧Kd.R (Kd.int .u8) 5 w1 W.heap.size (fun _=>True) v1 (xs++ys)∧Below W.heap.size W w1:=by
 obtain⟨i,hi,hz0,hz1,hz2⟩:=info_parts info5
 have hu:=Try.underlying22
 obtain⟨g',cap,cur,fz,e,hb,hg,hf,hn,hcm,hs,ht⟩:=id h
 injection e with e1 e2 e3
 injection e1 with e1
 injection e1 with e1 _ _
 subst e1
 subst e2
 subst e3
 obtain⟨_,_,hr⟩:=hC
 obtain⟨ad,rfl,hc⟩:=hr hm
 have hnews:∀ j u,(nums .u8 ys)[j]?=some u→W.cell? (ad.add j)=some u:=by
  intro j u hj
  have hjl:j<ys.length:=by have:=(List.getElem?_eq_some_iff.1 hj).1;rwa [nmL] at this
  obtain⟨cc,hcl,hK,hcells⟩:=hc j (ys[j]) (by simp [hjl])
  have h2:cc=[.int .u8 ys[j]]:=hK
  subst h2
  have h3:=hcells 0 _ rfl
  rw [show (Kd.int .u8).sz=1 from rfl,Nat.mul_one,Nat.add_zero] at h3
  rw [h3,←hj]
  simp [nums,hjl]
 have holds:∀ j u,(nums .u8 xs)[j]?=some u→W.cell? ((⟨g,0,none⟩:Addr).add j)=some u:=by
  intro j u hj
  have hjl:j<xs.length:=by have:=(List.getElem?_eq_some_iff.1 hj).1;rwa [nmL] at this
  rw [add_plain,(h.cell (by simp [Value.ownBlock]) hjl).1,←hj]
  simp [nums,List.getD,hjl]
 have hr:=run_append_grow (P:=Try.prog) W 22 ty 5 i (.int .u8 0) hu hi hz0 ⟨g,0,none⟩ xs.length xs.length (nums .u8 xs) (by rw [nmL,hz1,Nat.mul_one]) holds ad ys.length c (nums .u8 ys) (by rw [nmL,hz1,Nat.mul_one]) hnews (by omega) (by omega) (growslice_fits (by omega) (by rw [hz2];omega))
 have hge:=grownCap_ge W (xs.length + ys.length) xs.length 5
 have hle:=grownCap_le_maxLen W (xs.length + ys.length) xs.length 5 (by unfold maxLen;omega)
 refine⟨_,_,hr,?_,za0 (zfy (Below.refl _ _)) _⟩
 refine⟨fun _ _=>trivial,nums .u8 (xs++ys),⟨by rw [nmL];exact(Nat.mul_one _).symm,.inr ⟨W.heap.size,_,_,(by rw [List.length_append]),Nat.le_refl _,heap_alloc_new _ _,(by rw [List.length_append];exact hge),hle,?_,?_⟩⟩,?_⟩
 ·
  simp only [Array.size_append,List.size_toArray,nmL,size_zeroCells]
  simp [Value.cells,Kd.int,Kd.scalar]
  omega
 ·
  have e2:(xs++ys).length * (Kd.int .u8).sz=(nums .u8 (xs++ys)).length:=by rw [nmL];exact Nat.mul_one _
  rw [e2,show nums .u8 (xs++ys)=nums .u8 xs++nums .u8 ys by simp [nums]]
  simp only [Array.toList_append]
  exact List.take_left
 ·
  exact Kd.zi5 (enc:=Value.int .u8) (xs++ys)
section
variable {ops:Array Oper} {o:Oper} {rest:List Oper} {a:Act} {Q:Exit→Act→World→Prop}
theorem wpT_grow {W:World} {base g n:Nat} (hgd:o.guard=none) (s x:Operand) (ho:o.op=.call { callee:=.builtin .append,args:=#[s,x],argTypes:=#[22,22] }) (xs ys:List Int) {A:Option Addr} {c:Nat} (hs:a.eval s=.slice (some ⟨g,0,none⟩) n n) (hx:a.eval x=.slice A ys.length c)
  (h:RowT W base (.slice (some ⟨g,0,none⟩) n n) xs) (hC:(Kd.int .u8).C W A ys.length ys) (hm:0<ys.length) (hl:xs.length + ys.length≤1000000)
  (k:∀ v1 w1,Kd.R (Kd.int .u8) 5 w1 W.heap.size (fun _=>True) v1 (xs++ys)→Below W.heap.size W w1→wpList Try.prog ops Q rest (a.put o.dst v1) w1):wpList Try.prog ops Q (o::rest) a W:=by
 obtain⟨v1,w1,hr,h1,hb⟩:=h.grow hC hm hl o.type (c:=c)
 refine wpList_plain hgd fun K hK=>?_
 unfold Oper.wp execOp
 simp only [ho,resolve,invoke,builtin,Sem.run_bind,Sem.run_pure,Result.andThen_ok,List.map_toArray,List.map_cons,List.map_nil,hs,hx,hr]
 exact hK _ _ (k v1 w1 h1 hb)
end
end Go.Proofs.Ytgookagndlfehaa.PT
end
section
/- Own parts of memory: what later texts need besides. -/
namespace Go.Proofs.Ytgookagndlfehaa.PT
open Go.RowKit Go.Proofs.YtgookagndlfehaaW.PrintWords Go.Proofs.YtgookagndlfehaaW.PrintLast Go.Proofs.YtgookagndlfehaaW.PrintMore
set_option linter.unusedVariables false
set_option linter.unusedSimpArgs false
namespace Inv
variable {w0 w w1:World} {P:Nat→Prop} {L:List Grp} {F:World→Prop}
theorem kept0 {α:Type} {d:Kd α} {e b:Nat} {v v1:Value} {xs ys:List α} {S ok:Nat→Prop} (h:Inv w0 NoB w (row d e b v xs S::L) F) (hB:Below w0.heap.size w0 w1) (hk:Kept w w1 S) (hR:d.R e w1 b ok v1 ys) (hok:∀ k,ok k→S k∨w.heap.size≤k) :
  Inv w0 NoB w1 (row d e b v1 ys (fun k=>(S k∨w.heap.size≤k)∧k<w1.heap.size)::L) F:=by
 have hR2:d.R e w1 b (fun k=>(S k∨w.heap.size≤k)∧k<w1.heap.size) v1 ys:=Kd.zbi (Kd.zee hR) (fun k hk=>⟨hok k hk.1,hk.2.2.1⟩)
 have hb:=h.below
 exact h.step ⟨hB.os.trans hb.os.symm,hB.tape.trans hb.tape.symm,hB.output.trans hb.output.symm,hk.1,fun k hlt hn=>hk.2 k hlt hn⟩ _ (fun k hk=>hk) (fun w' hw=>Kd.zft hR2 (fun k hk _=>hw k hk))
end Inv
def zez.f (l0:List Int) (a1:Int):Option (List Int):=(some (([(a1 / 16777216) % 256,(a1 / 65536) % 256,(a1 / 256) % 256,(a1) % 256]:List Int):List Int)).bind fun y101=>(if l0.length + y101.length<140737488355328 then(some (l0++y101)) else(none))
theorem zez.calls (P0_:Nat→Prop) (u9000_:Value) (l0:List Int) (a1:Int) (r:List Int) (w0 w:World) (hB:Below w0.heap.size w0 w) (ho0:Kd.R (Kd.int .u8) 5 w w0.heap.size P0_ u9000_ l0) (h:zez.f l0 a1=some r) :
  Calls Try.prog 88 #[u9000_,.int .i64 a1] w fun e w'=>∃ v0_:Value,e=.returned (v0_)∧Kd.R (Kd.int .u8) 5 w' w0.heap.size (fun k_=>(P0_ k_∨w.heap.size≤k_)) v0_ r∧Below w0.heap.size w0 w'∧Kept w w' (fun k_=>P0_ k_):=by
 have HO0:=am_ (show Kd.R (Kd.int .u8) 5 w w0.heap.size (fun k_=>(P0_ k_∨w.heap.size≤k_)) u9000_ l0 from Kd.zbi ho0 (fun k_ hk=>(.inl hk)))
 have HK:=am_ (Kept.refl w (fun k_=>P0_ k_))
 have HW0:=am_ hB.size
 have HB:=am_ hB
 clear hB
 have H:((some (([(a1 / 16777216) % 256,(a1 / 65536) % 256,(a1 / 256) % 256,(a1) % 256]:List Int):List Int)).bind fun y101=>(if l0.length + y101.length<140737488355328 then(some (l0++y101)) else(none)))=some r:=h
 clear h
 obtain⟨y101,hy101⟩:∃ y_:List Int,y_=(([(a1 / 16777216) % 256,(a1 / 65536) % 256,(a1 / 256) % 256,(a1) % 256]:List Int)):=⟨_,rfl⟩
 replace H:(if l0.length + y101.length<140737488355328 then(some (l0++y101)) else(none))=some r:=by first|(rw [hy101];with_reducible exact H)|(have H2_:=(Option.bind_some _ _).symm.trans H;rw [hy101];with_reducible exact H2_)|(have H2_:=(Option.bind_some _ _).symm.trans H;with_reducible exact H2_)|with_reducible exact H|(rw [hy101];exact H)|exact H
 have Ny101:=am_ hy101
 clear hy101
 by_cases c3:l0.length + y101.length<140737488355328
 ·
  rw [if_pos c3] at H
  have LMc3:=am_ c3
  clear c3
  obtain⟨y104,hy104⟩:∃ y_:List Int,y_=(l0++y101):=⟨_,rfl⟩
  replace H:(some y104)=some r:=by first|(rw [hy104];with_reducible exact H)|(have H2_:=(Option.bind_some _ _).symm.trans H;rw [hy104];with_reducible exact H2_)|(have H2_:=(Option.bind_some _ _).symm.trans H;with_reducible exact H2_)|with_reducible exact H|(rw [hy104];exact H)|exact H
  have Ny104:=am_ hy104
  clear hy104
  obtain rfl:=Option.some.inj H
  go_enter Try.func88,Try.ntmps88
  go_wp2_with (first|((with_reducible refine zad (N:=17) rfl ?_);refine Kd.R_lit (Kd.int .u8) _ 5 ?hg (N:=17) ?hd (xs:=([(a1 / 16777216) % 256,(a1 / 65536) % 256,(a1 / 256) % 256,(a1) % 256]:List Int)) (inner:=[.int .u8 ((a1 / 16777216) % 256),.int .u8 ((a1 / 65536) % 256),.int .u8 ((a1 / 256) % 256),.int .u8 ((a1) % 256)]) (ok:=fun _=>True) (okp:=fun _=>True) ?hr ?hp (fun _ hk=>hk) trivial (Below.refl _ _) (Nat.le_refl _) (by simp) ?_;(case hd=>rfl);(case hg=>rfl);(case hr=>first|(go_simp;done)|(go_simp;rfl));(case hp=>exact(Reps.one (show Kd.M (Kd.int .u8) _ _ _ ((a1 / 16777216) % 256) [.int .u8 ((a1 / 16777216) % 256)] from rfl) (Reps.one (show Kd.M (Kd.int .u8) _ _ _ ((a1 / 65536) % 256) [.int .u8 ((a1 / 65536) % 256)] from rfl) (Reps.one (show Kd.M (Kd.int .u8) _ _ _ ((a1 / 256) % 256) [.int .u8 ((a1 / 256) % 256)] from rfl) (Reps.one (show Kd.M (Kd.int .u8) _ _ _ ((a1) % 256) [.int .u8 ((a1) % 256)] from rfl) (Reps.none _ _))))));intro v102 w4 ho5 hb hg_ hnew_;clear hg_ hnew_;(first|rw [←Ny101.out] at ho5|(simp only [Int.reduceToNat] at ho5;rw [←Ny101.out] at ho5));replace HO103:=am_ (Kd.zdk (Kd.R_new' (Kd.znf (M:=fun k_=>(P0_ k_∨w.heap.size≤k_)) ho5 (by first|exact HK.out.1|exact(show Kept w _ (fun k_=>P0_ k_) from by repeat(first|(with_reducible first|exact HK.out|apply Kept.alloc|apply Kept.drewN|apply Kept.drew)|exact HK.out)).1) (fun k_ h_=>.inr h_)) (Kd.R_lt (by(with_reducible repeat(first|apply Kd.zb3|apply Kd.zb4|apply Kd.zch));exact HO0.out))) (zac qz4_));replace HO0:=am_ (Kd.R_elder' (by(with_reducible repeat(first|apply Kd.zb3|apply Kd.zb4|apply Kd.zch));exact HO0.out) (Kd.zh6 ho5) hb);replace HK:=am_ (Kept.below (S:=(fun k_=>P0_ k_)) qz6_ hb);replace HB:=am_ (zaj qz4_ hb);clear hb ho5;obtain⟨Ao7,co7,eo7⟩:=Kd.zb0 HO103.out;subst eo7)|((with_reducible refine zdc (b:=.append) (xs:=#[.tmp 5,.tmp 17]) rfl ?_);at_builtin;refine Kd.zfh (Kd.int .u8) (w0:=w0) w0.heap.size rfl (.tmp 5) (.tmp 17) 22 5 (.int .u8 0) 1 rfl Try.underlying22 info5 rfl (by decide) (by omega) u9000_ l0 y101 _ _ _ (fun k_=>(P0_ k_∨w.heap.size≤k_)∧some k_≠(.slice Ao7 y101.length co7:Value).ownBlock) (fun _=>False) rfl rfl ?aO ?aR (fun _ _ h=>h) (fun _ h=>h.elim) ?aF ?aB ?aS ?aL ?_;(case aR=>exact qc_ (Kd.R_reads' HO103.out).2.2);(case aB=>exact qz4_);(case aF=>exact(fun k_ hk=>⟨(.inr (Nat.le_trans (by first|exact HK.out.1|exact(show Kept w _ (fun k_=>P0_ k_) from by repeat(first|(with_reducible first|exact HK.out|apply Kept.alloc|apply Kept.drewN|apply Kept.drew)|exact HK.out)).1) hk)),Kd.fresh' (Kd.R_lt qz7_) k_ hk⟩));(case aO=>exact(by(with_reducible repeat(first|apply Kd.zb3|apply Kd.zb4|apply Kd.zch));exact HO0.out));(case aS=>exact(zac qz4_));(case aL=>have:=LMc3.out;omega);intro v105 w6 ho hb hg hat;rw [←Ny104.out] at ho;replace HO103:=am_ (Kd.zkh (ok:=(fun k_=>(P0_ k_∨w.heap.size≤k_))) (by(with_reducible repeat(first|apply Kd.zb3|apply Kd.zb4|apply Kd.zch));exact Kd.zbi HO103.out (fun _ hk=>⟨hk.1.1,hk.2⟩)) hg hat);replace HB:=am_ (hb);replace HK:=am_ (Kept.zfs (S:=(fun k_=>P0_ k_)) hg qz6_ (fun k_ e_=>(HO0.out.1 k_ e_).1));replace HO106:=am_ (ho);clear HO0;clear ho hb hg hat))
  go_ret
  exact⟨_,qz8_,(by(with_reducible repeat(first|apply Kd.zb3|apply Kd.zb4|apply Kd.zch));exact Kd.zbi HO106.out (fun _ hk=>hk.1)),qz4_,qz6_⟩
 ·
  rw [if_neg c3] at H
  exact absurd H (by simp)
end Go.Proofs.Ytgookagndlfehaa.PT
end
section
/- What the hashes of several pieces need: a constant's row at any place, pieces as a literal row, a number's four bytes. -/
namespace Go.Proofs.Ytgookagndlfehaa.PT
open Go.RowKit Go.Proofs.YtgookagndlfehaaW.PrintWords Go.Proofs.YtgookagndlfehaaW.PrintLast Go.Proofs.YtgookagndlfehaaW.PrintMore
set_option linter.unusedVariables false
set_option linter.unusedSimpArgs false
def four_ (n:Int):List Int:=[(n / 16777216) % 256,(n / 65536) % 256,(n / 256) % 256,n % 256]
theorem zme {l:List Int} {n:Int} (h:l.length + 4<140737488355328):zez.f l n=some (l++four_ n):=by
 unfold zez.f
 exact if_pos h
theorem zcu (n:Int):(four_ n).length=4:=rfl
theorem zky {W:World} {gl:Nat} {xs:List Int} (hg:W.heap[gl]?=some (.cells (nums .u8 xs).toArray 5 (0,0))) (hl:xs.length≤1000000) :
  (convert 22 22 (.slice (some ⟨gl,0,none⟩) xs.length xs.length)).run Try.prog W=.ok (.slice (some ⟨gl,0,none⟩) xs.length xs.length) (W.freeze ⟨gl,xs.length,none⟩ 1)∧
  (∀ w',w'.heap[gl]?=(W.freeze ⟨gl,xs.length,none⟩ 1).heap[gl]?→(Kd.int .u8).C w' (some ⟨gl,0,none⟩) xs.length xs):=by
 have hu:=run_underlying (P:=Try.prog) Try.underlying22
 have hv:=run_underlying (P:=Try.prog) Try.underlying5
 have hsh:W.shape? gl=some (5,xs.length):=by
  unfold World.shape?
  rw [hg]
  simp [nums]
 refine⟨?_,fun w' hw=>?_⟩
 ·
  simp [convert,hu,hv,markStringish,hsh,Result.andThen]
 ·
  rw [zlf hg] at hw
  have hR:RowT w' gl (.slice (some ⟨gl,0,none⟩) xs.length xs.length) xs:=⟨gl,xs.length,(nums .u8 xs).toArray,(xs.length,xs.length + 1),rfl,Nat.le_refl _,hw,fun j hj hh=>absurd hh.1 (Nat.not_le.2 hj),Nat.le_refl _,(by unfold maxLen;omega),(by simp [nums]),(by rw [List.take_of_length_le (by simp [nums])])⟩
  obtain⟨A,c,e,_,hC⟩:=hR.reads
  injection e with e1 e2 e3
  rw [e1]
  exact hC
namespace Inv
variable {w0 w w1:World} {P:Nat→Prop} {L:List Grp} {F:World→Prop}
theorem marked {gl:Nat} {xs:List Int} (h:Inv w0 P w (blk gl 5 (nums .u8 xs).toArray::L) F) (hl:xs.length≤1000000) :
  Inv w0 P (w.freeze ⟨gl,xs.length,none⟩ 1) L (fun w=>(Kd.int .u8).C w (some ⟨gl,0,none⟩) xs.length xs∧F w):=by
 have hm:=(zky h.blk0 hl).2
 have h2:Inv w0 P (w.freeze ⟨gl,xs.length,none⟩ 1) (⟨fun k=>k=gl,fun w=>(Kd.int .u8).C w (some ⟨gl,0,none⟩) xs.length xs⟩::L) F:=
  h.step (w1:=w.freeze ⟨gl,xs.length,none⟩ 1) ⟨rfl,rfl,rfl,(by rw [zg1];exact Nat.le_refl _),fun k _ hn=>zjv (fun e=>hn e.symm)⟩ ⟨fun k=>k=gl,fun w=>(Kd.int .u8).C w (some ⟨gl,0,none⟩) xs.length xs⟩ (fun k hk=>⟨.inl hk,(by rw [zg1];obtain rfl:k=gl:=hk;exact zar h.blk0)⟩) (fun w' hw=>hm w' (hw gl rfl))
 exact h2.freeze
end Inv
def Piece (v:Value) (xs:List Int) (w:World):Prop:=∃ A c,v=.slice A xs.length c∧xs.length≤c∧(Kd.int .u8).C w A xs.length xs
namespace Inv
variable {w0 w w1:World} {P:Nat→Prop} {L:List Grp} {F:World→Prop}
theorem zdx {gl:Nat} {xs:List Int} (h:Inv w0 P w (blk gl 5 (nums .u8 xs).toArray::L) F) (hl:xs.length≤1000000) :
  ∃ w1,(convert 22 22 (.slice (some ⟨gl,0,none⟩) xs.length xs.length)).run Try.prog w=.ok (.slice (some ⟨gl,0,none⟩) xs.length xs.length) w1∧Inv w0 P w1 L (fun w=>Piece (.slice (some ⟨gl,0,none⟩) xs.length xs.length) xs w∧F w):=
 ⟨_,(zky h.blk0 hl).1,(h.marked hl).weaken (fun _ h=>⟨⟨_,_,rfl,Nat.le_refl _,h.1⟩,h.2⟩)⟩
theorem zei {t:ByteArray} (h:Inv w0 P w L F) (hl:t.size≤2000000) :
  ∃ v w1,(convert 9 22 (.string t)).run Try.prog w=.ok v w1∧Inv w0 P w1 L (fun w=>Piece v (nums_ t) w∧F w):=by
 have hr:=Go.Lib.run_convert_string_bytes (P:=Try.prog) w 9 22 5 t Try.underlying9 Try.underlying22 Try.underlying5
 exact⟨_,_,hr,(h.pushT (zf7 w t) (RowT.bytes w t hl)).freeze.weaken (fun _ h=>⟨by obtain⟨A,c,e,hc,hC⟩:=RowT.reads h.1;exact⟨A,c,e,hc,hC⟩,h.2⟩)⟩
theorem zgr (h:Inv w0 P w L F) (cs:Array Value) (t:TypeId):Inv w0 P (w.alloc (.cells cs t)) (blk w.heap.size t cs::L) F:=
 h.box rfl (heap_alloc_new _ _) (za0 (Below.refl _ _) _)
theorem zen (h:Inv w0 P w L F) (n:Int):Calls Try.prog 88 #[.slice none 0 0,.int .i64 n] w (fun e w1=>∃ v,e=.returned v∧Inv w0 P w1 L (fun w=>Piece v (four_ n) w∧F w)):=by
 refine(zez.calls (fun _=>True) (.slice none 0 0) [] n (four_ n) w w (Below.refl _ _) (Kd.R_nil _ _ _ _ _) (zme (by decide))).mono ?_
 rintro e w1 ⟨v,rfl,hR,hb,_⟩
 obtain⟨A,c,rfl,hc,HI⟩:=h.zl4 hb hR
 exact⟨_,rfl,HI.weaken (fun _ h=>⟨⟨A,c,rfl,hc,h.1⟩,h.2⟩)⟩
end Inv
theorem zjw {W:World} {T:TypeId} {vs:List Value} {ps:List (List Int)} (h:∀ j (hj:j<ps.length),∃ v,vs[j]?=some v∧Piece v ps[j] W):zjs (W.alloc (.cells vs.toArray T)) (some ⟨W.heap.size,0,none⟩) ps:=by
 intro j hj
 obtain⟨v,hv,A,c,rfl,_,hC⟩:=h j hj
 refine⟨_,A,c,rfl,?_,Kd.zg2 hC _⟩
 rw [add_plain,World.cell?_alloc_new]
 simpa using hv
theorem pieces3 {W:World} {T:TypeId} {v0 v1 v2:Value} {a b c:List Int} (h0:Piece v0 a W) (h1:Piece v1 b W) (h2:Piece v2 c W):zjs (W.alloc (.cells #[v0,v1,v2] T)) (some ⟨W.heap.size,0,none⟩) [a,b,c]:=
 zjw (vs:=[v0,v1,v2]) (fun j hj=>by
  match j,hj with
  | 0,_=>exact⟨v0,rfl,h0⟩
  | 1,_=>exact⟨v1,rfl,h1⟩
  | 2,_=>exact⟨v2,rfl,h2⟩)
theorem pieces4 {W:World} {T:TypeId} {v0 v1 v2 v3:Value} {a b c d:List Int} (h0:Piece v0 a W) (h1:Piece v1 b W) (h2:Piece v2 c W) (h3:Piece v3 d W):zjs (W.alloc (.cells #[v0,v1,v2,v3] T)) (some ⟨W.heap.size,0,none⟩) [a,b,c,d]:=
 zjw (vs:=[v0,v1,v2,v3]) (fun j hj=>by
  match j,hj with
  | 0,_=>exact⟨v0,rfl,h0⟩
  | 1,_=>exact⟨v1,rfl,h1⟩
  | 2,_=>exact⟨v2,rfl,h2⟩
  | 3,_=>exact⟨v3,rfl,h3⟩)
end Go.Proofs.Ytgookagndlfehaa.PT
end
section
/- impl.keccak in the printed form: pieces as a row of rows. -/
namespace Go.Proofs.Ytgookagndlfehaa.PT
open Go.RowKit Go.Proofs.YtgookagndlfehaaW.PrintWords Go.Proofs.YtgookagndlfehaaW.PrintLast Go.Proofs.YtgookagndlfehaaW.PrintMore
set_option linter.unusedVariables false
set_option linter.unusedSimpArgs false
theorem zpn {w:World} {A:Option Addr} {ps:List (List Int)} (h:(Kd.slice 5 (Kd.int .u8)).C w A ps.length ps):zjs w A ps:=by
 intro j hj
 obtain⟨ad,cs,e,_,hK,hc0⟩:=Kd.C_get h [] (j:Int) (by omega) (by omega)
 obtain⟨B,c,rfl,hl,hC⟩:=hK
 rw [Int.toNat_natCast] at hC hc0 hl
 have e2:ps.getD j []=ps[j]:=by simp [List.getD,hj]
 rw [e2] at hC hc0 hl
 have h1:=hc0 0 _ rfl
 have h2:ad.add (j * (Kd.slice 5 (Kd.int .u8)).sz + 0)=ad.add j:=by rw [show (Kd.slice 5 (Kd.int .u8)).sz=1 from rfl,Nat.mul_one,Nat.add_zero]
 rw [h2] at h1
 exact⟨ad,B,c,e,h1,hC⟩
def zeq.f (l0:List (List Int)):Option ByteArray:=if l0.flatten.length≤4000000 then(if l0.length≤1000000 then some (kec l0.flatten) else none) else none
theorem zeq.calls (A0:Option Addr) (c0:Nat) (l0:List (List Int)) (r:ByteArray) (w:World) (hr0:Kd.C (Kd.slice 5 (Kd.int .u8)) w A0 l0.length l0) (hc0:l0.length≤c0) (h:zeq.f l0=some r) :
  Calls Try.prog 56 #[.slice A0 l0.length c0] w fun e w'=>e=.returned (.string r)∧Below w.heap.size w w':=by
 unfold zeq.f at h
 by_cases c:l0.flatten.length≤4000000
 ·
  rw [if_pos c] at h
  by_cases d:l0.length≤1000000
  ·
   rw [if_pos d] at h
   obtain rfl:=Option.some.inj h
   exact zeq.walk A0 c0 l0 w (zpn hr0) c d
  ·
   rw [if_neg d] at h;cases h
 ·
  rw [if_neg c] at h;cases h
end Go.Proofs.Ytgookagndlfehaa.PT
end
/- A slice's address and room as one number: so a state's word can say that its slice stays where it is. -/
namespace Go.Proofs.Ytgookagndlfehaa.PT
def encL:List Nat→Nat
 | []=>0
 | x::r=>2 ^ x * (2 * encL r + 1)
theorem pow_odd {a b c d:Nat} (h:2 ^ a * (2 * b + 1)=2 ^ c * (2 * d + 1)):a=c∧b=d:=by
 induction a generalizing c with
 | zero=>
  cases c with
  | zero=>simp only [Nat.pow_zero,Nat.one_mul] at h;exact⟨rfl,(by omega)⟩
  | succ c=>rw [Nat.pow_succ,Nat.mul_assoc,Nat.mul_left_comm,Nat.pow_zero,Nat.one_mul] at h;omega
 | succ a ih=>
  cases c with
  | zero=>rw [Nat.pow_succ,Nat.mul_assoc,Nat.mul_left_comm,Nat.pow_zero,Nat.one_mul] at h;omega
  | succ c=>
   have h2:2 ^ a * (2 * b + 1)=2 ^ c * (2 * d + 1):=by
    rw [Nat.pow_succ,Nat.pow_succ,Nat.mul_assoc,Nat.mul_assoc,Nat.mul_left_comm,Nat.mul_left_comm (2 ^ c)] at h
    omega
   obtain⟨e1,e2⟩:=ih h2
   exact⟨(by omega),e2⟩
theorem zms:∀ {a b:List Nat},encL a=encL b→a=b
 | [],[],_=>rfl
 | [],y::s,h=>by
  have:0<2 ^ y * (2 * encL s + 1):=Nat.mul_pos (Nat.two_pow_pos _) (by omega)
  simp only [encL] at h
  omega
 | x::r,[],h=>by
  have:0<2 ^ x * (2 * encL r + 1):=Nat.mul_pos (Nat.two_pow_pos _) (by omega)
  simp only [encL] at h
  omega
 | x::r,y::s,h=>by
  obtain⟨e1,e2⟩:=pow_odd (show 2 ^ x * (2 * encL r + 1)=2 ^ y * (2 * encL s + 1) from h)
  rw [e1,zms e2]
def codeA (A:Option Addr) (c:Nat):Nat:=
 match A with
 | none=>encL [c]
 | some ⟨b,o,none⟩=>encL [c,b,o]
 | some ⟨b,o,some s⟩=>encL [c,b,o,s]
theorem zhq {A B:Option Addr} {c d:Nat} (h:codeA A c=codeA B d):A=B∧c=d:=by
 rcases A with _|⟨b,o,_|s⟩ <;> rcases B with _|⟨b',o',_|s'⟩ <;> simp only [codeA] at h <;> have h2:=zms h <;> simp_all
end Go.Proofs.Ytgookagndlfehaa.PT
section
namespace Go.Proofs.Ytgookagndlfehaa.PT
open Go.RowKit Go.Proofs.YtgookagndlfehaaW.PrintWords Go.Proofs.YtgookagndlfehaaW.PrintLast Go.Proofs.YtgookagndlfehaaW.PrintMore
attribute [local go_sem] zex zev zfa ze8 zec zed zeu zew   -- for this text's walks alone
set_option linter.unusedVariables false
set_option linter.unusedSimpArgs false
def IsS27 (w0 W:World) (g:Nat) (f0:List (S34)) (f1:Int) (f2:ByteArray) (f3:Int):Prop:=∃ A0 c0,W.heap[g]?=some (.cells #[.slice A0 f0.length c0,.int .i64 f1,.string f2,.int .i64 f3] 27 (0,0))∧(w0.heap.size≤g∧w0.drawn=codeA A0 c0)∧Kd.C k34 w0 A0 f0.length f0
theorem IsS27.grown {w0 W:World} {g:Nat} {f0:List (S34)} {f1:Int} {f2:ByteArray} {f3:Int} {W1:World} {row:Option Nat} (h:IsS27 w0 W g f0 f1 f2 f3) (hw:W.grownBy W1 row) (hne:some g≠row):IsS27 w0 W1 g f0 f1 f2 f3:=by
 obtain⟨A0,c0,hb,hg,hr0⟩:=h
 exact⟨A0,c0,zi8 hb hw hne,hg,hr0⟩
theorem IsS27.below {w0 W:World} {g:Nat} {f0:List (S34)} {f1:Int} {f2:ByteArray} {f3:Int} {W1:World} (h:IsS27 w0 W g f0 f1 f2 f3) (hw:Below W.heap.size W W1):IsS27 w0 W1 g f0 f1 f2 f3:=h.grown (zgw hw none) (by simp)
theorem IsS27.alloc {w0 W:World} {g:Nat} {f0:List (S34)} {f1:Int} {f2:ByteArray} {f3:Int} (h:IsS27 w0 W g f0 f1 f2 f3) (o:Obj):IsS27 w0 (W.alloc o) g f0 f1 f2 f3:=h.below (za0 (Below.refl _ _) o)
theorem IsS27.drewN {w0 W:World} {g:Nat} {f0:List (S34)} {f1:Int} {f2:ByteArray} {f3:Int} (h:IsS27 w0 W g f0 f1 f2 f3) (m:Nat):IsS27 w0 (W.drewN m) g f0 f1 f2 f3:=h
theorem IsS27.drew {w0 W:World} {g:Nat} {f0:List (S34)} {f1:Int} {f2:ByteArray} {f3:Int} (h:IsS27 w0 W g f0 f1 f2 f3):IsS27 w0 W.drew g f0 f1 f2 f3:=h
theorem IsS27.at_ {w0 W:World} {g:Nat} {f0:List (S34)} {f1:Int} {f2:ByteArray} {f3:Int} {w':World} {m:Nat} (hq:W.drewN m=w') (h:IsS27 w0 W g f0 f1 f2 f3):IsS27 w0 w' g f0 f1 f2 f3:=by subst hq;exact IsS27.drewN h m
theorem IsS27.apart {w0 W:World} {g:Nat} {f0:List (S34)} {f1:Int} {f2:ByteArray} {f3:Int} {α:Type} {d:Kd α} {e:Nat} {base:Nat} {ok:Nat→Prop} {v:Value} {xs:List α} (h:IsS27 w0 W g f0 f1 f2 f3) (ho:d.R e W base ok v xs) (ht:∀ q,q∈e::d.E→q≠27):d.R e W base (fun k=>ok k∧k≠g) v xs:=by
 obtain⟨A0,c0,hb,hg,hr0⟩:=h
 exact Kd.zep ho hb ht
theorem IsS27.own_ne {w0 W:World} {g:Nat} {f0:List (S34)} {f1:Int} {f2:ByteArray} {f3:Int} {α:Type} {d:Kd α} {e:Nat} {base:Nat} {ok:Nat→Prop} {v:Value} {xs:List α} (h:IsS27 w0 W g f0 f1 f2 f3) (ho:d.R e W base ok v xs) (ht:e≠27):some g≠v.ownBlock:=by
 obtain⟨A0,c0,hb,hg,hr0⟩:=h
 exact Kd.R_ne ho hb ht
theorem IsS27.lt {w0 W:World} {g:Nat} {f0:List (S34)} {f1:Int} {f2:ByteArray} {f3:Int} (h:IsS27 w0 W g f0 f1 f2 f3):g<W.heap.size:=by
 obtain⟨A0,c0,hb,hg,hr0⟩:=h
 exact zar hb
theorem IsS27.ge {w0 W:World} {g:Nat} {f0:List (S34)} {f1:Int} {f2:ByteArray} {f3:Int} (h:IsS27 w0 W g f0 f1 f2 f3):w0.heap.size≤g:=by
 obtain⟨A0,c0,hb,hg,hr0⟩:=h
 exact hg.1
theorem IsS27.set_1 {w0 W:World} {g:Nat} {f0:List (S34)} {f1:Int} {f2:ByteArray} {f3:Int} (h:IsS27 w0 W g f0 f1 f2 f3) (x:Int):IsS27 w0 (W.setCell ⟨g,1,none⟩ (.int .i64 x)) g f0 x f2 f3:=by
 obtain⟨A0,c0,hb,hg,hr0⟩:=h
 exact⟨A0,c0,(by simpa using zgy hb 1 (.int .i64 x)),hg,hr0⟩
theorem IsS27.set_2 {w0 W:World} {g:Nat} {f0:List (S34)} {f1:Int} {f2:ByteArray} {f3:Int} (h:IsS27 w0 W g f0 f1 f2 f3) (x:ByteArray):IsS27 w0 (W.setCell ⟨g,2,none⟩ (.string x)) g f0 f1 x f3:=by
 obtain⟨A0,c0,hb,hg,hr0⟩:=h
 exact⟨A0,c0,(by simpa using zgy hb 2 (.string x)),hg,hr0⟩
theorem IsS27.set_3 {w0 W:World} {g:Nat} {f0:List (S34)} {f1:Int} {f2:ByteArray} {f3:Int} (h:IsS27 w0 W g f0 f1 f2 f3) (x:Int):IsS27 w0 (W.setCell ⟨g,3,none⟩ (.int .i64 x)) g f0 f1 f2 x:=by
 obtain⟨A0,c0,hb,hg,hr0⟩:=h
 exact⟨A0,c0,(by simpa using zgy hb 3 (.int .i64 x)),hg,hr0⟩
theorem IsS27.new (w0 W:World) (A0:Option Addr) (c0:Nat) (f0:List (S34)) (f1:Int) (f2:ByteArray) (f3:Int) (hB:Below w0.heap.size w0 W) (hr0:Kd.C k34 w0 A0 f0.length f0) (hd0:w0.drawn=codeA A0 c0):IsS27 w0 (W.alloc (.cells #[.slice A0 f0.length c0,.int .i64 f1,.string f2,.int .i64 f3] 27)) W.heap.size f0 f1 f2 f3:=⟨A0,c0,by simpa using heap_alloc_new W _,⟨hB.size,hd0⟩,hr0⟩
def zca.f (s0_0:List (S34)) (s0_1:Int) (s0_2:ByteArray) (s0_3:Int) (l1:List Int):Option (Int × ByteArray × Int):=if s0_2.size≤1000000 then(if l1.length≤1000000 then some (s0_1,kec ([nums_ s0_2,[97,98,115,111,114,98],four_ (l1.length:Int),l1].flatten),0) else none) else none
theorem zca.zpc (g:Nat) (s0_0:List (S34)) (s0_1:Int) (s0_2:ByteArray) (s0_3:Int) (A1:Option Addr) (c1:Nat) (l1:List Int) (r1:Int) (r2:ByteArray) (r3:Int) (w0 w:World) (hI:IsS27 w0 w g s0_0 s0_1 s0_2 s0_3) (hB:Below w0.heap.size w0 w) (hr1:∀ W_,zbj w W_ g none→Kd.C (Kd.int .u8) W_ A1 l1.length l1) (hc1:l1.length≤c1) (h:zca.f s0_0 s0_1 s0_2 s0_3 l1=some (r1,r2,r3)) :
  Calls Try.prog 49 #[.pointer (some ⟨g,0,none⟩),.slice A1 l1.length c1] w fun e w'=>e=.returned (.tuple #[])∧IsS27 w0 w' g s0_0 r1 r2 r3∧Below w0.heap.size w0 w'∧zbj w w' g none:=by
 unfold zca.f at h
 by_cases cs:s0_2.size≤1000000
 ·
  rw [if_pos cs] at h
  by_cases cl:l1.length≤1000000
  ·
   rw [if_pos cl] at h
   simp only [Option.some.injEq,Prod.mk.injEq] at h
   obtain⟨rfl,hk_,rfl⟩:=h
   have HKE:=am_ hk_
   clear hk_
   have HST:=am_ (show s0_2.size≤2000000 by omega)
   have HL1:=am_ cl
   have HC1:=am_ hc1
   have HB:=am_ hB
   have HGE:=am_ (IsS27.ge hI)
   obtain⟨A0,c0,hblk,hge,hr0⟩:=hI
   have HGQ:=am_ hge
   have HR0:=am_ hr0
   have HI:=am_ (Inv.zoz w hblk (fun w2=>Kd.C (Kd.int .u8) w2 A1 l1.length l1) (fun w' ha=>hr1 w' ha.keep))
   have hs2:w.cell? ⟨g,2,none⟩=some (.string s0_2):=(zaa hblk 2).trans rfl
   clear cs cl hc1 hB hr1 hblk hge hr0
   go_enter Try.func49,Try.ntmps49
   try go_wp2
   refine zcb (n:=21) (S:=fun w'=>w'.cell? ⟨g,2,none⟩=some (.string s0_2)) (ds:=[17,20]) (bs_ 21 0) (by kernel_rfl) rfl rfl ((zaa ((HI.out).get 0 rfl) 2).trans rfl) (fun hHeld=>?_)
   refine pu_ 0 4 (bs_ 21 1) ?_
   refine pu_ 1 5 (bs_ 21 3) ?_
   refine pu_ 2 6 (bs_ 21 7) ?_
   refine pu_ 3 7 (bs_ 21 15) ?_
   refine pu_ 4 8 (bs_ 21 31) ?_
   refine take_ (i:=5) (N:=some 9) (v:=?_) (a':=?_) (bs_ 21 63) rfl rfl (by kernel_rfl) (fun _ _ _ h=>h) (Or.inl ⟨(by rfl),?_⟩) hHeld ?_ ?_
   rotate_left
   ·
    rintro w' s0
    go_simp
    with_reducible rfl
   rotate_left
   ·
    exact ap_
   refine pu_ 9 13 (bs_ 21 575) ?_
   refine pu_ 10 14 (bs_ 21 1599) ?_
   refine pu_ 12 16 (bs_ 21 5695) ?_
   replace HI:=am_ (HI.out.drew)
   generalize w.drew=wd0 at HI hHeld ⊢
   refine join_ (σ:=Value × Value × Value × Value) 8 (bs_ 21 8191) (fun s=>[(10,s.1),(11,s.2.1),(12,s.2.2.1),(15,s.2.2.2)]) (fun s w'=>Inv w (fun k=>k=g) w' [blk g 27 #[.slice A0 s0_0.length c0,.int .i64 s0_1,.string s0_2,.int .i64 s0_3]] (fun w2=>Piece s.1 (nums_ s0_2) w2∧Piece s.2.2.1 [97,98,115,111,114,98] w2∧Piece s.2.2.2 (four_ ((l1.length:Int))) w2∧(fun w2=>Kd.C (Kd.int .u8) w2 A1 l1.length l1) w2)) ?_ ?_
   rotate_left
   ·
    intro hJ
    refine zle (i:=6) (j:=7) (k:=11) (Ni:=some 10) (Nj:=some 11) (Nk:=some 15) (bs_ 21 5759) (bs_ 21 5823) (bs_ 21 7743) rfl rfl rfl rfl rfl rfl (by kernel_rfl) (by decide) (by decide) (by decide) (fun K hK=>?_) (fun K hK=>?_) (fun K hK=>?_)
    ·
     obtain⟨vconv,wv1,hcv,HI_⟩:=HI.out.zei HST.out
     refine zbf (by rfl) rfl (v:=vconv) (w1:=wv1) qz9_ ?_
     clear HI hcv;have HI:=am_ HI_;clear HI_
     refine hK.out _ _ ((zaa ((HI.out).get 0 rfl) 2).trans rfl) (fun hHeld=>?_)
     clear hK K
     refine norm_ (a':=?_) ?_ ?_
     rotate_left
     ·
      show Act.put _ (some 10) _=_
      exact ap_
     refine two_ (i:=7) (j:=11) (Ni:=some 11) (Nj:=some 15) (bs_ 21 5887) (bs_ 21 7807) rfl rfl rfl rfl (by kernel_rfl) (by decide) (by decide) (fun K hK=>?_) (fun K hK=>?_)
     ·
      replace HI:=am_ (HI.out.zgr #[.int .u8 97,.int .u8 98,.int .u8 115,.int .u8 111,.int .u8 114,.int .u8 98] 5)
      refine zbf (by rfl) rfl (v:=.slice (some ⟨wv1.heap.size,0,none⟩) 6 6) (w1:=wv1.alloc (.cells #[.int .u8 97,.int .u8 98,.int .u8 115,.int .u8 111,.int .u8 114,.int .u8 98] 5)) qz9_ ?_
      generalize wv1.alloc (.cells #[.int .u8 97,.int .u8 98,.int .u8 115,.int .u8 111,.int .u8 114,.int .u8 98] 5)=wv2 at HI ⊢
      generalize wv1.heap.size=gl at HI ⊢
      refine hK.out _ _ ((zaa ((HI.out).get 1 rfl) 2).trans rfl) (fun hHeld=>?_)
      clear hK K
      refine norm_ (a':=?_) ?_ ?_
      rotate_left
      ·
       show Act.put _ (some 11) _=_
       exact ap_
      refine two_ (i:=8) (j:=11) (Ni:=some 12) (Nj:=some 15) (bs_ 21 6143) (bs_ 21 7935) rfl rfl rfl rfl (by kernel_rfl) (by decide) (by decide) (fun K hK=>?_) (fun K hK=>?_)
      ·
       obtain⟨wv3,hcv,HI_⟩:=HI.out.zdx (xs:=[97,98,115,111,114,98]) (by decide)
       replace hcv:(convert 22 22 (.slice (some ⟨gl,0,none⟩) 6 6)).run Try.prog wv2=.ok (.slice (some ⟨gl,0,none⟩) 6 6) wv3:=hcv
       refine zbf (by rfl) rfl (v:=.slice (some ⟨gl,0,none⟩) 6 6) (w1:=wv3) qz9_ ?_
       clear HI hcv;have HI:=am_ HI_;clear HI_
       refine hK.out _ _ ((zaa ((HI.out).get 0 rfl) 2).trans rfl) (fun hHeld=>?_)
       clear hK K
       refine norm_ (a':=?_) ?_ ?_
       rotate_left
       ·
        show Act.put _ (some 12) _=_
        exact ap_
       refine one_ (i:=11) (N:=some 15) (bs_ 21 8191) rfl rfl (by kernel_rfl) (by decide) (fun K hK=>?_)
       refine goes_ Try.func88 (by kernel_rfl) rfl #[.slice none 0 0,.int .i64 l1.length] (by rfl) rfl rfl qz3_ ?_
       refine(HI.out.zen ((l1.length:Int))).mono ?_
       rintro e wv4 ⟨vfour,rfl,HI_⟩
       refine⟨_,rfl,?_⟩
       clear HI;have HI:=am_ HI_;clear HI_
       refine hK.out _ _ ((zaa ((HI.out).get 0 rfl) 2).trans rfl) (fun hHeld=>?_)
       clear hK K
       refine norm_ (a':=?_) ?_ ?_
       rotate_left
       ·
        show Act.put _ (some 15) _=_
        exact ap_
       refine norm_ ?_ (hJ (vconv,.slice (some ⟨gl,0,none⟩) 6 6,.slice (some ⟨gl,0,none⟩) 6 6,vfour) wv4 (HI.out.weaken (fun _ h=>?_)))
       ·
        simp only [zdu];simp only [Act.put,List.setIfInBounds_toArray,List.set_cons_zero,List.set_cons_succ,i64_w,i32_w]
        try rfl
       ·
        refine⟨?_,?_,?_,?_⟩ <;> first|exact h.1|exact h.2.1|exact h.2.2.1|exact h.2.2.2
      ·
       refine goes_ Try.func88 (by kernel_rfl) rfl #[.slice none 0 0,.int .i64 l1.length] (by rfl) rfl rfl qz3_ ?_
       refine(HI.out.zen ((l1.length:Int))).mono ?_
       rintro e wv3 ⟨vfour,rfl,HI_⟩
       refine⟨_,rfl,?_⟩
       clear HI;have HI:=am_ HI_;clear HI_
       refine hK.out _ _ ((zaa ((HI.out).get 1 rfl) 2).trans rfl) (fun hHeld=>?_)
       clear hK K
       refine norm_ (a':=?_) ?_ ?_
       rotate_left
       ·
        show Act.put _ (some 15) _=_
        exact ap_
       refine one_ (i:=8) (N:=some 12) (bs_ 21 8191) rfl rfl (by kernel_rfl) (by decide) (fun K hK=>?_)
       obtain⟨wv4,hcv,HI_⟩:=HI.out.zdx (xs:=[97,98,115,111,114,98]) (by decide)
       replace hcv:(convert 22 22 (.slice (some ⟨gl,0,none⟩) 6 6)).run Try.prog wv3=.ok (.slice (some ⟨gl,0,none⟩) 6 6) wv4:=hcv
       refine zbf (by rfl) rfl (v:=.slice (some ⟨gl,0,none⟩) 6 6) (w1:=wv4) qz9_ ?_
       clear HI hcv;have HI:=am_ HI_;clear HI_
       refine hK.out _ _ ((zaa ((HI.out).get 0 rfl) 2).trans rfl) (fun hHeld=>?_)
       clear hK K
       refine norm_ (a':=?_) ?_ ?_
       rotate_left
       ·
        show Act.put _ (some 12) _=_
        exact ap_
       refine norm_ ?_ (hJ (vconv,.slice (some ⟨gl,0,none⟩) 6 6,.slice (some ⟨gl,0,none⟩) 6 6,vfour) wv4 (HI.out.weaken (fun _ h=>?_)))
       ·
        simp only [zdu];simp only [Act.put,List.setIfInBounds_toArray,List.set_cons_zero,List.set_cons_succ,i64_w,i32_w]
        try rfl
       ·
        refine⟨?_,?_,?_,?_⟩ <;> first|exact h.1|exact h.2.1|exact h.2.2.1|exact h.2.2.2
     ·
      refine goes_ Try.func88 (by kernel_rfl) rfl #[.slice none 0 0,.int .i64 l1.length] (by rfl) rfl rfl qz3_ ?_
      refine(HI.out.zen ((l1.length:Int))).mono ?_
      rintro e wv2 ⟨vfour,rfl,HI_⟩
      refine⟨_,rfl,?_⟩
      clear HI;have HI:=am_ HI_;clear HI_
      refine hK.out _ _ ((zaa ((HI.out).get 0 rfl) 2).trans rfl) (fun hHeld=>?_)
      clear hK K
      refine norm_ (a':=?_) ?_ ?_
      rotate_left
      ·
       show Act.put _ (some 15) _=_
       exact ap_
      refine one_ (i:=7) (N:=some 11) (bs_ 21 7935) rfl rfl (by kernel_rfl) (by decide) (fun K hK=>?_)
      replace HI:=am_ (HI.out.zgr #[.int .u8 97,.int .u8 98,.int .u8 115,.int .u8 111,.int .u8 114,.int .u8 98] 5)
      refine zbf (by rfl) rfl (v:=.slice (some ⟨wv2.heap.size,0,none⟩) 6 6) (w1:=wv2.alloc (.cells #[.int .u8 97,.int .u8 98,.int .u8 115,.int .u8 111,.int .u8 114,.int .u8 98] 5)) qz9_ ?_
      generalize wv2.alloc (.cells #[.int .u8 97,.int .u8 98,.int .u8 115,.int .u8 111,.int .u8 114,.int .u8 98] 5)=wv3 at HI ⊢
      generalize wv2.heap.size=gl at HI ⊢
      refine hK.out _ _ ((zaa ((HI.out).get 1 rfl) 2).trans rfl) (fun hHeld=>?_)
      clear hK K
      refine norm_ (a':=?_) ?_ ?_
      rotate_left
      ·
       show Act.put _ (some 11) _=_
       exact ap_
      refine one_ (i:=8) (N:=some 12) (bs_ 21 8191) rfl rfl (by kernel_rfl) (by decide) (fun K hK=>?_)
      obtain⟨wv4,hcv,HI_⟩:=HI.out.zdx (xs:=[97,98,115,111,114,98]) (by decide)
      replace hcv:(convert 22 22 (.slice (some ⟨gl,0,none⟩) 6 6)).run Try.prog wv3=.ok (.slice (some ⟨gl,0,none⟩) 6 6) wv4:=hcv
      refine zbf (by rfl) rfl (v:=.slice (some ⟨gl,0,none⟩) 6 6) (w1:=wv4) qz9_ ?_
      clear HI hcv;have HI:=am_ HI_;clear HI_
      refine hK.out _ _ ((zaa ((HI.out).get 0 rfl) 2).trans rfl) (fun hHeld=>?_)
      clear hK K
      refine norm_ (a':=?_) ?_ ?_
      rotate_left
      ·
       show Act.put _ (some 12) _=_
       exact ap_
      refine norm_ ?_ (hJ (vconv,.slice (some ⟨gl,0,none⟩) 6 6,.slice (some ⟨gl,0,none⟩) 6 6,vfour) wv4 (HI.out.weaken (fun _ h=>?_)))
      ·
       simp only [zdu];simp only [Act.put,List.setIfInBounds_toArray,List.set_cons_zero,List.set_cons_succ,i64_w,i32_w]
       try rfl
      ·
       refine⟨?_,?_,?_,?_⟩ <;> first|exact h.1|exact h.2.1|exact h.2.2.1|exact h.2.2.2
    ·
     replace HI:=am_ (HI.out.zgr #[.int .u8 97,.int .u8 98,.int .u8 115,.int .u8 111,.int .u8 114,.int .u8 98] 5)
     refine zbf (by rfl) rfl (v:=.slice (some ⟨wd0.heap.size,0,none⟩) 6 6) (w1:=wd0.alloc (.cells #[.int .u8 97,.int .u8 98,.int .u8 115,.int .u8 111,.int .u8 114,.int .u8 98] 5)) qz9_ ?_
     generalize wd0.alloc (.cells #[.int .u8 97,.int .u8 98,.int .u8 115,.int .u8 111,.int .u8 114,.int .u8 98] 5)=wv1 at HI ⊢
     generalize wd0.heap.size=gl at HI ⊢
     refine hK.out _ _ ((zaa ((HI.out).get 1 rfl) 2).trans rfl) (fun hHeld=>?_)
     clear hK K
     refine norm_ (a':=?_) ?_ ?_
     rotate_left
     ·
      show Act.put _ (some 11) _=_
      exact ap_
     refine zle (i:=6) (j:=8) (k:=11) (Ni:=some 10) (Nj:=some 12) (Nk:=some 15) (bs_ 21 5887) (bs_ 21 6079) (bs_ 21 7871) rfl rfl rfl rfl rfl rfl (by kernel_rfl) (by decide) (by decide) (by decide) (fun K hK=>?_) (fun K hK=>?_) (fun K hK=>?_)
     ·
      obtain⟨vconv,wv2,hcv,HI_⟩:=HI.out.zei HST.out
      refine zbf (by rfl) rfl (v:=vconv) (w1:=wv2) qz9_ ?_
      clear HI hcv;have HI:=am_ HI_;clear HI_
      refine hK.out _ _ ((zaa ((HI.out).get 1 rfl) 2).trans rfl) (fun hHeld=>?_)
      clear hK K
      refine norm_ (a':=?_) ?_ ?_
      rotate_left
      ·
       show Act.put _ (some 10) _=_
       exact ap_
      refine two_ (i:=8) (j:=11) (Ni:=some 12) (Nj:=some 15) (bs_ 21 6143) (bs_ 21 7935) rfl rfl rfl rfl (by kernel_rfl) (by decide) (by decide) (fun K hK=>?_) (fun K hK=>?_)
      ·
       obtain⟨wv3,hcv,HI_⟩:=HI.out.zdx (xs:=[97,98,115,111,114,98]) (by decide)
       replace hcv:(convert 22 22 (.slice (some ⟨gl,0,none⟩) 6 6)).run Try.prog wv2=.ok (.slice (some ⟨gl,0,none⟩) 6 6) wv3:=hcv
       refine zbf (by rfl) rfl (v:=.slice (some ⟨gl,0,none⟩) 6 6) (w1:=wv3) qz9_ ?_
       clear HI hcv;have HI:=am_ HI_;clear HI_
       refine hK.out _ _ ((zaa ((HI.out).get 0 rfl) 2).trans rfl) (fun hHeld=>?_)
       clear hK K
       refine norm_ (a':=?_) ?_ ?_
       rotate_left
       ·
        show Act.put _ (some 12) _=_
        exact ap_
       refine one_ (i:=11) (N:=some 15) (bs_ 21 8191) rfl rfl (by kernel_rfl) (by decide) (fun K hK=>?_)
       refine goes_ Try.func88 (by kernel_rfl) rfl #[.slice none 0 0,.int .i64 l1.length] (by rfl) rfl rfl qz3_ ?_
       refine(HI.out.zen ((l1.length:Int))).mono ?_
       rintro e wv4 ⟨vfour,rfl,HI_⟩
       refine⟨_,rfl,?_⟩
       clear HI;have HI:=am_ HI_;clear HI_
       refine hK.out _ _ ((zaa ((HI.out).get 0 rfl) 2).trans rfl) (fun hHeld=>?_)
       clear hK K
       refine norm_ (a':=?_) ?_ ?_
       rotate_left
       ·
        show Act.put _ (some 15) _=_
        exact ap_
       refine norm_ ?_ (hJ (vconv,.slice (some ⟨gl,0,none⟩) 6 6,.slice (some ⟨gl,0,none⟩) 6 6,vfour) wv4 (HI.out.weaken (fun _ h=>?_)))
       ·
        simp only [zdu];simp only [Act.put,List.setIfInBounds_toArray,List.set_cons_zero,List.set_cons_succ,i64_w,i32_w]
        try rfl
       ·
        refine⟨?_,?_,?_,?_⟩ <;> first|exact h.1|exact h.2.1|exact h.2.2.1|exact h.2.2.2
      ·
       refine goes_ Try.func88 (by kernel_rfl) rfl #[.slice none 0 0,.int .i64 l1.length] (by rfl) rfl rfl qz3_ ?_
       refine(HI.out.zen ((l1.length:Int))).mono ?_
       rintro e wv3 ⟨vfour,rfl,HI_⟩
       refine⟨_,rfl,?_⟩
       clear HI;have HI:=am_ HI_;clear HI_
       refine hK.out _ _ ((zaa ((HI.out).get 1 rfl) 2).trans rfl) (fun hHeld=>?_)
       clear hK K
       refine norm_ (a':=?_) ?_ ?_
       rotate_left
       ·
        show Act.put _ (some 15) _=_
        exact ap_
       refine one_ (i:=8) (N:=some 12) (bs_ 21 8191) rfl rfl (by kernel_rfl) (by decide) (fun K hK=>?_)
       obtain⟨wv4,hcv,HI_⟩:=HI.out.zdx (xs:=[97,98,115,111,114,98]) (by decide)
       replace hcv:(convert 22 22 (.slice (some ⟨gl,0,none⟩) 6 6)).run Try.prog wv3=.ok (.slice (some ⟨gl,0,none⟩) 6 6) wv4:=hcv
       refine zbf (by rfl) rfl (v:=.slice (some ⟨gl,0,none⟩) 6 6) (w1:=wv4) qz9_ ?_
       clear HI hcv;have HI:=am_ HI_;clear HI_
       refine hK.out _ _ ((zaa ((HI.out).get 0 rfl) 2).trans rfl) (fun hHeld=>?_)
       clear hK K
       refine norm_ (a':=?_) ?_ ?_
       rotate_left
       ·
        show Act.put _ (some 12) _=_
        exact ap_
       refine norm_ ?_ (hJ (vconv,.slice (some ⟨gl,0,none⟩) 6 6,.slice (some ⟨gl,0,none⟩) 6 6,vfour) wv4 (HI.out.weaken (fun _ h=>?_)))
       ·
        simp only [zdu];simp only [Act.put,List.setIfInBounds_toArray,List.set_cons_zero,List.set_cons_succ,i64_w,i32_w]
        try rfl
       ·
        refine⟨?_,?_,?_,?_⟩ <;> first|exact h.1|exact h.2.1|exact h.2.2.1|exact h.2.2.2
     ·
      obtain⟨wv2,hcv,HI_⟩:=HI.out.zdx (xs:=[97,98,115,111,114,98]) (by decide)
      replace hcv:(convert 22 22 (.slice (some ⟨gl,0,none⟩) 6 6)).run Try.prog wv1=.ok (.slice (some ⟨gl,0,none⟩) 6 6) wv2:=hcv
      refine zbf (by rfl) rfl (v:=.slice (some ⟨gl,0,none⟩) 6 6) (w1:=wv2) qz9_ ?_
      clear HI hcv;have HI:=am_ HI_;clear HI_
      refine hK.out _ _ ((zaa ((HI.out).get 0 rfl) 2).trans rfl) (fun hHeld=>?_)
      clear hK K
      refine norm_ (a':=?_) ?_ ?_
      rotate_left
      ·
       show Act.put _ (some 12) _=_
       exact ap_
      refine two_ (i:=6) (j:=11) (Ni:=some 10) (Nj:=some 15) (bs_ 21 6143) (bs_ 21 8127) rfl rfl rfl rfl (by kernel_rfl) (by decide) (by decide) (fun K hK=>?_) (fun K hK=>?_)
      ·
       obtain⟨vconv,wv3,hcv,HI_⟩:=HI.out.zei HST.out
       refine zbf (by rfl) rfl (v:=vconv) (w1:=wv3) qz9_ ?_
       clear HI hcv;have HI:=am_ HI_;clear HI_
       refine hK.out _ _ ((zaa ((HI.out).get 0 rfl) 2).trans rfl) (fun hHeld=>?_)
       clear hK K
       refine norm_ (a':=?_) ?_ ?_
       rotate_left
       ·
        show Act.put _ (some 10) _=_
        exact ap_
       refine one_ (i:=11) (N:=some 15) (bs_ 21 8191) rfl rfl (by kernel_rfl) (by decide) (fun K hK=>?_)
       refine goes_ Try.func88 (by kernel_rfl) rfl #[.slice none 0 0,.int .i64 l1.length] (by rfl) rfl rfl qz3_ ?_
       refine(HI.out.zen ((l1.length:Int))).mono ?_
       rintro e wv4 ⟨vfour,rfl,HI_⟩
       refine⟨_,rfl,?_⟩
       clear HI;have HI:=am_ HI_;clear HI_
       refine hK.out _ _ ((zaa ((HI.out).get 0 rfl) 2).trans rfl) (fun hHeld=>?_)
       clear hK K
       refine norm_ (a':=?_) ?_ ?_
       rotate_left
       ·
        show Act.put _ (some 15) _=_
        exact ap_
       refine norm_ ?_ (hJ (vconv,.slice (some ⟨gl,0,none⟩) 6 6,.slice (some ⟨gl,0,none⟩) 6 6,vfour) wv4 (HI.out.weaken (fun _ h=>?_)))
       ·
        simp only [zdu];simp only [Act.put,List.setIfInBounds_toArray,List.set_cons_zero,List.set_cons_succ,i64_w,i32_w]
        try rfl
       ·
        refine⟨?_,?_,?_,?_⟩ <;> first|exact h.1|exact h.2.1|exact h.2.2.1|exact h.2.2.2
      ·
       refine goes_ Try.func88 (by kernel_rfl) rfl #[.slice none 0 0,.int .i64 l1.length] (by rfl) rfl rfl qz3_ ?_
       refine(HI.out.zen ((l1.length:Int))).mono ?_
       rintro e wv3 ⟨vfour,rfl,HI_⟩
       refine⟨_,rfl,?_⟩
       clear HI;have HI:=am_ HI_;clear HI_
       refine hK.out _ _ ((zaa ((HI.out).get 0 rfl) 2).trans rfl) (fun hHeld=>?_)
       clear hK K
       refine norm_ (a':=?_) ?_ ?_
       rotate_left
       ·
        show Act.put _ (some 15) _=_
        exact ap_
       refine one_ (i:=6) (N:=some 10) (bs_ 21 8191) rfl rfl (by kernel_rfl) (by decide) (fun K hK=>?_)
       obtain⟨vconv,wv4,hcv,HI_⟩:=HI.out.zei HST.out
       refine zbf (by rfl) rfl (v:=vconv) (w1:=wv4) qz9_ ?_
       clear HI hcv;have HI:=am_ HI_;clear HI_
       refine hK.out _ _ ((zaa ((HI.out).get 0 rfl) 2).trans rfl) (fun hHeld=>?_)
       clear hK K
       refine norm_ (a':=?_) ?_ ?_
       rotate_left
       ·
        show Act.put _ (some 10) _=_
        exact ap_
       refine norm_ ?_ (hJ (vconv,.slice (some ⟨gl,0,none⟩) 6 6,.slice (some ⟨gl,0,none⟩) 6 6,vfour) wv4 (HI.out.weaken (fun _ h=>?_)))
       ·
        simp only [zdu];simp only [Act.put,List.setIfInBounds_toArray,List.set_cons_zero,List.set_cons_succ,i64_w,i32_w]
        try rfl
       ·
        refine⟨?_,?_,?_,?_⟩ <;> first|exact h.1|exact h.2.1|exact h.2.2.1|exact h.2.2.2
     ·
      refine goes_ Try.func88 (by kernel_rfl) rfl #[.slice none 0 0,.int .i64 l1.length] (by rfl) rfl rfl qz3_ ?_
      refine(HI.out.zen ((l1.length:Int))).mono ?_
      rintro e wv2 ⟨vfour,rfl,HI_⟩
      refine⟨_,rfl,?_⟩
      clear HI;have HI:=am_ HI_;clear HI_
      refine hK.out _ _ ((zaa ((HI.out).get 1 rfl) 2).trans rfl) (fun hHeld=>?_)
      clear hK K
      refine norm_ (a':=?_) ?_ ?_
      rotate_left
      ·
       show Act.put _ (some 15) _=_
       exact ap_
      refine two_ (i:=6) (j:=8) (Ni:=some 10) (Nj:=some 12) (bs_ 21 7935) (bs_ 21 8127) rfl rfl rfl rfl (by kernel_rfl) (by decide) (by decide) (fun K hK=>?_) (fun K hK=>?_)
      ·
       obtain⟨vconv,wv3,hcv,HI_⟩:=HI.out.zei HST.out
       refine zbf (by rfl) rfl (v:=vconv) (w1:=wv3) qz9_ ?_
       clear HI hcv;have HI:=am_ HI_;clear HI_
       refine hK.out _ _ ((zaa ((HI.out).get 1 rfl) 2).trans rfl) (fun hHeld=>?_)
       clear hK K
       refine norm_ (a':=?_) ?_ ?_
       rotate_left
       ·
        show Act.put _ (some 10) _=_
        exact ap_
       refine one_ (i:=8) (N:=some 12) (bs_ 21 8191) rfl rfl (by kernel_rfl) (by decide) (fun K hK=>?_)
       obtain⟨wv4,hcv,HI_⟩:=HI.out.zdx (xs:=[97,98,115,111,114,98]) (by decide)
       replace hcv:(convert 22 22 (.slice (some ⟨gl,0,none⟩) 6 6)).run Try.prog wv3=.ok (.slice (some ⟨gl,0,none⟩) 6 6) wv4:=hcv
       refine zbf (by rfl) rfl (v:=.slice (some ⟨gl,0,none⟩) 6 6) (w1:=wv4) qz9_ ?_
       clear HI hcv;have HI:=am_ HI_;clear HI_
       refine hK.out _ _ ((zaa ((HI.out).get 0 rfl) 2).trans rfl) (fun hHeld=>?_)
       clear hK K
       refine norm_ (a':=?_) ?_ ?_
       rotate_left
       ·
        show Act.put _ (some 12) _=_
        exact ap_
       refine norm_ ?_ (hJ (vconv,.slice (some ⟨gl,0,none⟩) 6 6,.slice (some ⟨gl,0,none⟩) 6 6,vfour) wv4 (HI.out.weaken (fun _ h=>?_)))
       ·
        simp only [zdu];simp only [Act.put,List.setIfInBounds_toArray,List.set_cons_zero,List.set_cons_succ,i64_w,i32_w]
        try rfl
       ·
        refine⟨?_,?_,?_,?_⟩ <;> first|exact h.1|exact h.2.1|exact h.2.2.1|exact h.2.2.2
      ·
       obtain⟨wv3,hcv,HI_⟩:=HI.out.zdx (xs:=[97,98,115,111,114,98]) (by decide)
       replace hcv:(convert 22 22 (.slice (some ⟨gl,0,none⟩) 6 6)).run Try.prog wv2=.ok (.slice (some ⟨gl,0,none⟩) 6 6) wv3:=hcv
       refine zbf (by rfl) rfl (v:=.slice (some ⟨gl,0,none⟩) 6 6) (w1:=wv3) qz9_ ?_
       clear HI hcv;have HI:=am_ HI_;clear HI_
       refine hK.out _ _ ((zaa ((HI.out).get 0 rfl) 2).trans rfl) (fun hHeld=>?_)
       clear hK K
       refine norm_ (a':=?_) ?_ ?_
       rotate_left
       ·
        show Act.put _ (some 12) _=_
        exact ap_
       refine one_ (i:=6) (N:=some 10) (bs_ 21 8191) rfl rfl (by kernel_rfl) (by decide) (fun K hK=>?_)
       obtain⟨vconv,wv4,hcv,HI_⟩:=HI.out.zei HST.out
       refine zbf (by rfl) rfl (v:=vconv) (w1:=wv4) qz9_ ?_
       clear HI hcv;have HI:=am_ HI_;clear HI_
       refine hK.out _ _ ((zaa ((HI.out).get 0 rfl) 2).trans rfl) (fun hHeld=>?_)
       clear hK K
       refine norm_ (a':=?_) ?_ ?_
       rotate_left
       ·
        show Act.put _ (some 10) _=_
        exact ap_
       refine norm_ ?_ (hJ (vconv,.slice (some ⟨gl,0,none⟩) 6 6,.slice (some ⟨gl,0,none⟩) 6 6,vfour) wv4 (HI.out.weaken (fun _ h=>?_)))
       ·
        simp only [zdu];simp only [Act.put,List.setIfInBounds_toArray,List.set_cons_zero,List.set_cons_succ,i64_w,i32_w]
        try rfl
       ·
        refine⟨?_,?_,?_,?_⟩ <;> first|exact h.1|exact h.2.1|exact h.2.2.1|exact h.2.2.2
    ·
     refine goes_ Try.func88 (by kernel_rfl) rfl #[.slice none 0 0,.int .i64 l1.length] (by rfl) rfl rfl qz3_ ?_
     refine(HI.out.zen ((l1.length:Int))).mono ?_
     rintro e wv1 ⟨vfour,rfl,HI_⟩
     refine⟨_,rfl,?_⟩
     clear HI;have HI:=am_ HI_;clear HI_
     refine hK.out _ _ ((zaa ((HI.out).get 0 rfl) 2).trans rfl) (fun hHeld=>?_)
     clear hK K
     refine norm_ (a':=?_) ?_ ?_
     rotate_left
     ·
      show Act.put _ (some 15) _=_
      exact ap_
     refine two_ (i:=6) (j:=7) (Ni:=some 10) (Nj:=some 11) (bs_ 21 7807) (bs_ 21 7871) rfl rfl rfl rfl (by kernel_rfl) (by decide) (by decide) (fun K hK=>?_) (fun K hK=>?_)
     ·
      obtain⟨vconv,wv2,hcv,HI_⟩:=HI.out.zei HST.out
      refine zbf (by rfl) rfl (v:=vconv) (w1:=wv2) qz9_ ?_
      clear HI hcv;have HI:=am_ HI_;clear HI_
      refine hK.out _ _ ((zaa ((HI.out).get 0 rfl) 2).trans rfl) (fun hHeld=>?_)
      clear hK K
      refine norm_ (a':=?_) ?_ ?_
      rotate_left
      ·
       show Act.put _ (some 10) _=_
       exact ap_
      refine one_ (i:=7) (N:=some 11) (bs_ 21 7935) rfl rfl (by kernel_rfl) (by decide) (fun K hK=>?_)
      replace HI:=am_ (HI.out.zgr #[.int .u8 97,.int .u8 98,.int .u8 115,.int .u8 111,.int .u8 114,.int .u8 98] 5)
      refine zbf (by rfl) rfl (v:=.slice (some ⟨wv2.heap.size,0,none⟩) 6 6) (w1:=wv2.alloc (.cells #[.int .u8 97,.int .u8 98,.int .u8 115,.int .u8 111,.int .u8 114,.int .u8 98] 5)) qz9_ ?_
      generalize wv2.alloc (.cells #[.int .u8 97,.int .u8 98,.int .u8 115,.int .u8 111,.int .u8 114,.int .u8 98] 5)=wv3 at HI ⊢
      generalize wv2.heap.size=gl at HI ⊢
      refine hK.out _ _ ((zaa ((HI.out).get 1 rfl) 2).trans rfl) (fun hHeld=>?_)
      clear hK K
      refine norm_ (a':=?_) ?_ ?_
      rotate_left
      ·
       show Act.put _ (some 11) _=_
       exact ap_
      refine one_ (i:=8) (N:=some 12) (bs_ 21 8191) rfl rfl (by kernel_rfl) (by decide) (fun K hK=>?_)
      obtain⟨wv4,hcv,HI_⟩:=HI.out.zdx (xs:=[97,98,115,111,114,98]) (by decide)
      replace hcv:(convert 22 22 (.slice (some ⟨gl,0,none⟩) 6 6)).run Try.prog wv3=.ok (.slice (some ⟨gl,0,none⟩) 6 6) wv4:=hcv
      refine zbf (by rfl) rfl (v:=.slice (some ⟨gl,0,none⟩) 6 6) (w1:=wv4) qz9_ ?_
      clear HI hcv;have HI:=am_ HI_;clear HI_
      refine hK.out _ _ ((zaa ((HI.out).get 0 rfl) 2).trans rfl) (fun hHeld=>?_)
      clear hK K
      refine norm_ (a':=?_) ?_ ?_
      rotate_left
      ·
       show Act.put _ (some 12) _=_
       exact ap_
      refine norm_ ?_ (hJ (vconv,.slice (some ⟨gl,0,none⟩) 6 6,.slice (some ⟨gl,0,none⟩) 6 6,vfour) wv4 (HI.out.weaken (fun _ h=>?_)))
      ·
       simp only [zdu];simp only [Act.put,List.setIfInBounds_toArray,List.set_cons_zero,List.set_cons_succ,i64_w,i32_w]
       try rfl
      ·
       refine⟨?_,?_,?_,?_⟩ <;> first|exact h.1|exact h.2.1|exact h.2.2.1|exact h.2.2.2
     ·
      replace HI:=am_ (HI.out.zgr #[.int .u8 97,.int .u8 98,.int .u8 115,.int .u8 111,.int .u8 114,.int .u8 98] 5)
      refine zbf (by rfl) rfl (v:=.slice (some ⟨wv1.heap.size,0,none⟩) 6 6) (w1:=wv1.alloc (.cells #[.int .u8 97,.int .u8 98,.int .u8 115,.int .u8 111,.int .u8 114,.int .u8 98] 5)) qz9_ ?_
      generalize wv1.alloc (.cells #[.int .u8 97,.int .u8 98,.int .u8 115,.int .u8 111,.int .u8 114,.int .u8 98] 5)=wv2 at HI ⊢
      generalize wv1.heap.size=gl at HI ⊢
      refine hK.out _ _ ((zaa ((HI.out).get 1 rfl) 2).trans rfl) (fun hHeld=>?_)
      clear hK K
      refine norm_ (a':=?_) ?_ ?_
      rotate_left
      ·
       show Act.put _ (some 11) _=_
       exact ap_
      refine two_ (i:=6) (j:=8) (Ni:=some 10) (Nj:=some 12) (bs_ 21 7935) (bs_ 21 8127) rfl rfl rfl rfl (by kernel_rfl) (by decide) (by decide) (fun K hK=>?_) (fun K hK=>?_)
      ·
       obtain⟨vconv,wv3,hcv,HI_⟩:=HI.out.zei HST.out
       refine zbf (by rfl) rfl (v:=vconv) (w1:=wv3) qz9_ ?_
       clear HI hcv;have HI:=am_ HI_;clear HI_
       refine hK.out _ _ ((zaa ((HI.out).get 1 rfl) 2).trans rfl) (fun hHeld=>?_)
       clear hK K
       refine norm_ (a':=?_) ?_ ?_
       rotate_left
       ·
        show Act.put _ (some 10) _=_
        exact ap_
       refine one_ (i:=8) (N:=some 12) (bs_ 21 8191) rfl rfl (by kernel_rfl) (by decide) (fun K hK=>?_)
       obtain⟨wv4,hcv,HI_⟩:=HI.out.zdx (xs:=[97,98,115,111,114,98]) (by decide)
       replace hcv:(convert 22 22 (.slice (some ⟨gl,0,none⟩) 6 6)).run Try.prog wv3=.ok (.slice (some ⟨gl,0,none⟩) 6 6) wv4:=hcv
       refine zbf (by rfl) rfl (v:=.slice (some ⟨gl,0,none⟩) 6 6) (w1:=wv4) qz9_ ?_
       clear HI hcv;have HI:=am_ HI_;clear HI_
       refine hK.out _ _ ((zaa ((HI.out).get 0 rfl) 2).trans rfl) (fun hHeld=>?_)
       clear hK K
       refine norm_ (a':=?_) ?_ ?_
       rotate_left
       ·
        show Act.put _ (some 12) _=_
        exact ap_
       refine norm_ ?_ (hJ (vconv,.slice (some ⟨gl,0,none⟩) 6 6,.slice (some ⟨gl,0,none⟩) 6 6,vfour) wv4 (HI.out.weaken (fun _ h=>?_)))
       ·
        simp only [zdu];simp only [Act.put,List.setIfInBounds_toArray,List.set_cons_zero,List.set_cons_succ,i64_w,i32_w]
        try rfl
       ·
        refine⟨?_,?_,?_,?_⟩ <;> first|exact h.1|exact h.2.1|exact h.2.2.1|exact h.2.2.2
      ·
       obtain⟨wv3,hcv,HI_⟩:=HI.out.zdx (xs:=[97,98,115,111,114,98]) (by decide)
       replace hcv:(convert 22 22 (.slice (some ⟨gl,0,none⟩) 6 6)).run Try.prog wv2=.ok (.slice (some ⟨gl,0,none⟩) 6 6) wv3:=hcv
       refine zbf (by rfl) rfl (v:=.slice (some ⟨gl,0,none⟩) 6 6) (w1:=wv3) qz9_ ?_
       clear HI hcv;have HI:=am_ HI_;clear HI_
       refine hK.out _ _ ((zaa ((HI.out).get 0 rfl) 2).trans rfl) (fun hHeld=>?_)
       clear hK K
       refine norm_ (a':=?_) ?_ ?_
       rotate_left
       ·
        show Act.put _ (some 12) _=_
        exact ap_
       refine one_ (i:=6) (N:=some 10) (bs_ 21 8191) rfl rfl (by kernel_rfl) (by decide) (fun K hK=>?_)
       obtain⟨vconv,wv4,hcv,HI_⟩:=HI.out.zei HST.out
       refine zbf (by rfl) rfl (v:=vconv) (w1:=wv4) qz9_ ?_
       clear HI hcv;have HI:=am_ HI_;clear HI_
       refine hK.out _ _ ((zaa ((HI.out).get 0 rfl) 2).trans rfl) (fun hHeld=>?_)
       clear hK K
       refine norm_ (a':=?_) ?_ ?_
       rotate_left
       ·
        show Act.put _ (some 10) _=_
        exact ap_
       refine norm_ ?_ (hJ (vconv,.slice (some ⟨gl,0,none⟩) 6 6,.slice (some ⟨gl,0,none⟩) 6 6,vfour) wv4 (HI.out.weaken (fun _ h=>?_)))
       ·
        simp only [zdu];simp only [Act.put,List.setIfInBounds_toArray,List.set_cons_zero,List.set_cons_succ,i64_w,i32_w]
        try rfl
       ·
        refine⟨?_,?_,?_,?_⟩ <;> first|exact h.1|exact h.2.1|exact h.2.2.1|exact h.2.2.2
   ·
    rintro⟨v0,v1,v2,v3⟩ wj HI0
    have HI:=am_ HI0
    clear HI0
    refine norm_ (a':=?_) ?_ ?_
    rotate_left
    ·
     simp only [zdu];simp only [Act.put,List.setIfInBounds_toArray,List.set_cons_zero,List.set_cons_succ,i64_w,i32_w]
     try rfl
    obtain⟨Aq0,cq0,eq_,_,_⟩:=HI.out.now.1;subst eq_
    obtain⟨Aq2,cq2,eq_,_,_⟩:=HI.out.now.2.1;subst eq_
    obtain⟨Aq3,cq3,eq_,_,_⟩:=HI.out.now.2.2.1;subst eq_
    refine one_ (i:=13) (N:=some 17) (bs_ 21 16383) rfl rfl (by kernel_rfl) (by decide) (fun K hK=>?_)
    refine zbf (by rfl) rfl (v:=.slice (some ⟨wj.heap.size,0,none⟩) 4 4) (w1:=wj.alloc (.cells #[.slice Aq0 (nums_ s0_2).length cq0,.slice Aq2 6 cq2,.slice Aq3 (four_ (l1.length:Int)).length cq3,.slice A1 l1.length c1] 22)) qz9_ ?_
    refine hK.out _ _ ((zaa ((HI.out.alloc _).get 0 rfl) 2).trans rfl) (fun hHeld=>?_)
    clear hK K
    refine norm_ (a':=?_) ?_ ?_
    rotate_left
    ·
     show Act.put _ (some 17) _=_
     exact ap_
    refine one_ (i:=14) (N:=some 18) (bs_ 21 32767) rfl rfl (by kernel_rfl) (by decide) (fun K hK=>?_)
    refine goes_ Try.func56 (by kernel_rfl) rfl #[.slice (some ⟨wj.heap.size,0,none⟩) 4 4] (by rfl) rfl rfl qz3_ ?_
    have hp:=pieces4 (W:=wj) (T:=22) HI.out.now.1 HI.out.now.2.1 HI.out.now.2.2.1 ⟨A1,c1,rfl,HC1.out,HI.out.now.2.2.2⟩
    refine(zeq.walk (some ⟨wj.heap.size,0,none⟩) 4 [nums_ s0_2,[97,98,115,111,114,98],four_ (l1.length:Int),l1] _ hp (by have:=HST.out;have:=HL1.out;simp [nums_length,zcu];omega) (by simp)).mono ?_
    rintro e wk ⟨rfl,hb⟩
    rw [HKE.out]
    refine⟨_,rfl,?_⟩
    replace HI:=am_ ((HI.out.alloc _).grow hb)
    clear hb hp
    refine hK.out _ _ ((zaa ((HI.out).get 0 rfl) 2).trans rfl) (fun hHeld=>?_)
    clear hK K
    refine norm_ (a':=?_) ?_ ?_
    rotate_left
    ·
     show Act.put _ (some 18) _=_
     exact ap_
    have hk2:wk.cell? ⟨g,2,none⟩=some (.string s0_2):=(zaa HI.out.blk0 2).trans rfl
    have hk3:wk.cell? ⟨g,3,none⟩=some (.int .i64 s0_3):=(zaa HI.out.blk0 3).trans rfl
    have hf2:=zab HI.out.blk0 2
    have hf3:=zab HI.out.blk0 3
    refine pu_ 15 19 (bs_ 21 65535) ?_
    refine pu_ 16 20 (bs_ 21 131071) ?_
    refine last_ (i:=17) (N:=none) (bs_ 21 262143) rfl rfl (by kernel_rfl) (by decide) (fun K hK=>?_)
    refine skip_ (w1:=?_) (by rfl) rfl ?_ ?_
    rotate_left
    ·
     go_simp
     rfl
    refine hK.out _ _ ?_
    clear hK K
    refine pu_ 18 21 (bs_ 21 524287) ?_
    refine pu_ 19 22 (bs_ 21 1048575) ?_
    refine last_ (i:=20) (N:=none) (bs_ 21 2097151) rfl rfl (by kernel_rfl) (by decide) (fun K hK=>?_)
    refine skip_ (w1:=?_) (by rfl) rfl ?_ ?_
    rotate_left
    ·
     go_simp
     rfl
    refine hK.out _ _ ?_
    clear hK K
    refine done_ (by kernel_rfl) ?_
    have HI2:=am_ ((HI.out.set0 2 (.string r2)).set0 3 (.int .i64 0))
    clear hk2 hk3 hf2 hf3
    try go_wp2
    first|go_end0|((try simp only [Exit.inBlock,Exit.then]);refine bodyPost_ret (results_none rfl _ _ _) rfl ?_)
    exact⟨by first|rfl|simp,⟨A0,c0,HI2.out.blk0,HGQ.out,HR0.out⟩,HI2.out.agr.onto HB.out (fun k hk=>by obtain rfl:k=g:=hk;exact HGE.out),HI2.out.agr.keep⟩
  ·
   rw [if_neg cl] at h;cases h
 ·
  rw [if_neg cs] at h;cases h
theorem zca.calls (g:Nat) (s0_0:List (S34)) (s0_1:Int) (s0_2:ByteArray) (s0_3:Int) (A1:Option Addr) (c1:Nat) (l1:List Int) (r1:Int) (r2:ByteArray) (r3:Int) (w0 w:World) (hI:IsS27 w0 w g s0_0 s0_1 s0_2 s0_3) (hB:Below w0.heap.size w0 w) (hr1:Kd.C (Kd.int .u8) w A1 l1.length l1) (hc1:l1.length≤c1) (hf1:∀ ad,A1=some ad→0<l1.length→ad.block≠g) (h:zca.f s0_0 s0_1 s0_2 s0_3 l1=some (r1,r2,r3)) :
  Calls Try.prog 49 #[.pointer (some ⟨g,0,none⟩),.slice A1 l1.length c1] w fun e w'=>e=.returned (.tuple #[])∧IsS27 w0 w' g s0_0 r1 r2 r3∧Below w0.heap.size w0 w'∧zbj w w' g none:=
 zca.zpc g s0_0 s0_1 s0_2 s0_3 A1 c1 l1 r1 r2 r3 w0 w hI hB (Kd.zov (d:=(Kd.int .u8)) (fun h=>h) hr1 hf1) hc1 h
def zcc.l0:Nat→Int→List Int→Int→Int→Option (Int)
 | 0,_,_,_,_=>none
 | k + 1,x3,x6,x7,x8=>if x8<x7 then(if 0≤x8 then(if x8<(x6.length:Int) then(zcc.l0 k (Go.bits .or .u64 (IntKind.u64.wrap (x3 * 256)) (IntKind.u64.wrap (rd x6 x8))) x6 x7 (wrap64 (x8 + 1))) else(none)) else(none)) else(some (wrap64 (Int.tmod x3 2130706433)))
def zcc.f (k:Nat) (l0:List Int):Option (Int):=zcc.l0 k 0 l0 (l0.length:Int) 0
theorem zcc.calls (k:Nat) (A0:Option Addr) (c0:Nat) (l0:List Int) (r:Int) (w:World) (hr0:Kd.C (Kd.int .u8) w A0 l0.length l0) (hc0:l0.length≤c0) (h:zcc.f k l0=some r) :
  Calls Try.prog 155 #[.slice A0 l0.length c0] w fun e w'=>e=.returned (.int .i64 r)∧zbr w w':=by
 have HR0:=am_ hr0
 have HC0:=am_ hc0
 clear hr0 hc0
 have H:(zcc.l0 k 0 l0 (l0.length:Int) 0)=some r:=h
 clear h
 have H':=am_ H
 clear H
 go_enter Try.func155,Try.ntmps155
 go_wp2
 go_loopg [3,8] k (fun kq v3 v8 w'=>∃ (x3_1:Int) (x8_1:Int),v3=.int .u64 x3_1∧v8=.int .i64 x8_1∧zal (zcc.l0 kq x3_1 l0 (l0.length:Int) x8_1=some r)∧zal (kq≤k)∧zbr w w')
 case atStart=>exact⟨(0),(0),qz10_,qz10_,H',⟨Nat.le_refl _⟩,by repeat(first|exact zbr.refl _|apply zbr.step)⟩
 case round=>
  clear H'
  try clear c1
  obtain⟨x3_1,x8_1,rfl,rfl,HA,HK1,⟨m1,rfl⟩⟩:=hrel
  cases gk with
  | zero=>exact absurd HA.out (by simp [zcc.l0])
  | succ k1=>
   have H:=HA.out
   clear HA
   simp only [zcc.l0] at H
   by_cases c2:x8_1<(l0.length:Int)
   ·
    rw [if_pos c2] at H
    have c2b0:decide (x8_1<(l0.length:Int))=true:=decide_eq_true c2
    clear c2
    by_cases c3:0≤x8_1
    ·
     rw [if_pos c3] at H
     have c3b0:decide (0≤x8_1)=true:=decide_eq_true c3
     clear c3
     by_cases c4:x8_1<(l0.length:Int)
     ·
      rw [if_pos c4] at H
      have c4b0:decide (x8_1<(l0.length:Int))=true:=decide_eq_true c4
      clear c4
      have H':=am_ H
      clear H
      have p101:0≤(x8_1:Int):=of_decide_eq_true qz11_
      have q101:x8_1<(l0.length:Int):=of_decide_eq_true qz11_
      obtain⟨ad101,e101,hx101_0⟩:=Kd.at_int HR0.out x8_1 p101 q101
      cases e101
      replace p101:=eq_true p101
      replace q101:=eq_true q101
      go_wp2
      go_roundg k1
      case measure=>have:=HK1.out;omega
      case rel=>exact⟨(Go.bits .or .u64 (IntKind.u64.wrap (x3_1 * 256)) (IntKind.u64.wrap (rd l0 x8_1))),(wrap64 (x8_1 + 1)),qz10_,qz10_,H',⟨(by have:=HK1.out;omega)⟩,by repeat(first|exact zbr.refl _|apply zbr.step)⟩
     ·
      rw [if_neg c4] at H
      exact absurd H (by simp)
    ·
     rw [if_neg c3] at H
     exact absurd H (by simp)
   ·
    rw [if_neg c2] at H
    have c2b0:decide (x8_1<(l0.length:Int))=false:=decide_eq_false c2
    clear c2
    obtain rfl:=Option.some.inj H
    go_wp2
    go_ret
    exact⟨qz10_,qz2_⟩
end Go.Proofs.Ytgookagndlfehaa.PT
end
section
/- l03Lanes: a text's bytes as words. -/
namespace Go.Proofs.Ytgookagndlfehaa.PT
open Go.RowKit Go.Proofs.YtgookagndlfehaaW.PrintWords Go.Proofs.YtgookagndlfehaaW.PrintLast Go.Proofs.YtgookagndlfehaaW.PrintMore
set_option linter.unusedVariables false
set_option linter.unusedSimpArgs false
theorem zn3 {ts:TypeId} (t:ByteArray) (hu:Try.prog.underlying ts=some .string) (j:Nat) (hj:j<t.size) (W:World):(Instr.index ts (.string t) (.int .i64 (j:Int))).run Try.prog W=.ok (.int .u8 (rd (nums_ t) (j:Int))) W:=by
 have hu2:=run_underlying (P:=Try.prog) hu
 have hlt:j<t.data.toList.length:=by rw [Array.length_toList];exact hj
 have e:rd (nums_ t) (j:Int)=((t.data.toList.getD j 0).toNat:Int):=zmv t j
 rw [e]
 simp [Instr.index,asIntOf,hu2,hj,List.getD,hlt]
 rfl
theorem zj8.calls (t:ByteArray) (w:World) (ht:t.size≤200) :
  Calls Try.prog 128 #[.string t] w fun e w'=>e=.returned (.agg (uarr .u64 (zdf (nums_ t))))∧Below w.heap.size w w':=by
 have HLEN:=am_ ht
 have hlx:=nums_length t
 have HX:=am_ hlx
 have HI:=am_ (Inv.start w (fun _=>True) (fun _ _=>trivial))
 have hu133:=Try.underlying133
 clear ht hlx
 go_enter Try.func128,Try.ntmps128
 go_wp2_with (first|((with_reducible refine zad (N:=2) rfl ?_);refine zae rfl (N:=2) rfl (cs:=uarr .u64 z25) (t:=133) bx_ ?_;intro g2 hg w2 hbox hb;replace HI:=am_ ((HI.out).box hg hbox hb);clear hb hbox hg)|((with_reducible refine zad (N:=3) rfl ?_);refine zae rfl (N:=3) rfl (cs:=uarr .u64 z25) (t:=133) bx_ ?_;intro g3 hg w3 hbox hb;replace HI:=am_ ((HI.out).box hg hbox hb);clear hb hbox hg)|((with_reducible refine zaq (p:=3) (v:=.tmp 5) (t:=133) rfl ?_);go_must (refine wpList_store_row rfl 133 _ _ rfl g3 (uarr .u64 z25) rfl qz0_ 133 (uarr .u64 z25) (Inv.blk0 (HI.out)) (by kernel_rfl) (by rfl) (zdq _ _) ?_;replace HI:=am_ (Inv.put0 (HI.out) (uarr .u64 z25));generalize World.setRow _ g3 (uarr .u64 z25)=w4 at HI ⊢)))
 go_loopg [4] t.size (fun kq v4 w'=>∃ (j:Nat) (out:List Int),v4=.int .i64 j∧zal (j + kq=t.size)∧zal (iter (zeh (nums_ t)) kq j out=zdf (nums_ t))∧zal (out.length=25)∧zal (Inv w NoB w' [blk g3 133 (uarr .u64 out),blk g2 133 (uarr .u64 z25)] (fun _=>True)))
 case atStart=>exact⟨0,z25,rfl,⟨(by omega)⟩,⟨(by unfold zdf;rw [HX.out])⟩,⟨rfl⟩,HI⟩
 case round=>
  clear HI
  obtain⟨j,out,rfl,HJ,HR,HO,HI⟩:=hrel
  have hj:=HJ.out
  cases gk with
  | zero=>
   have c1:decide ((j:Int)<(t.size:Int))=false:=decide_eq_false (by omega)
   have c2:decide (j<t.size)=false:=decide_eq_false (by omega)
   have hi:out=zdf (nums_ t):=HR.out
   subst hi
   clear HR hj
   go_wp2_with (first|((with_reducible refine zad (N:=27) rfl ?_);go_must (refine wpList_load_row rfl 133 _ rfl g3 rfl 133 (uarr .u64 (zdf (nums_ t))) (0,0) _ (HI.out.blk0) hu133 rfl (by rw [zb8,zcg];kernel_rfl) ?_))|((with_reducible refine zaq (p:=2) (v:=.tmp 27) (t:=133) rfl ?_);go_must (refine wpList_store_row rfl 133 _ _ rfl g2 (uarr .u64 (zdf (nums_ t))) rfl qz0_ 133 (uarr .u64 z25) (Inv.blk0 (HI.out.swap)) (by rw [zb8,zcg];kernel_rfl) (by rw [zb8,zb8,zcg];rfl) (zdq _ _) ?_;replace HI:=am_ (Inv.put0 (HI.out.swap) (uarr .u64 (zdf (nums_ t))));generalize World.setRow _ g2 (uarr .u64 (zdf (nums_ t)))=w5 at HI ⊢)))
   simp only [Act.put,List.setIfInBounds_toArray,List.set_cons_zero,List.set_cons_succ]
   refine bodyPost_ret (v:=.agg (uarr .u64 (zdf (nums_ t)))) ?hres rfl ?_
   case hres=>exact results_cell_row (fn:=Try.f128) (p:=2) rfl _ _ g2 133 (uarr .u64 (zdf (nums_ t))) (0,0) _ (by first|rfl|(simp;done)) HI.out.blk0 hu133 rfl (by rw [zb8,zcg];kernel_rfl)
   exact⟨rfl,HI.out.below⟩
  | succ k1=>
   have hl:=HLEN.out
   have c1:decide ((j:Int)<(t.size:Int))=true:=decide_eq_true (by omega)
   have c2:decide (j<t.size)=true:=decide_eq_true (by omega)
   have p5:0≤(j:Int):=by omega
   have hix:=zn3 t Try.underlying9 j (by omega)
   have ho:=HO.out
   obtain⟨q,hq⟩:∃ q:Nat,j / 8=q:=⟨_,rfl⟩
   obtain⟨m,hm⟩:∃ m:Nat,8 * (j % 8)=m:=⟨_,rfl⟩
   have hs:wr.cell? ⟨g3,q,none⟩=some (.int .u64 (out.getD q 0)):=zb1 HI.out.blk0 (by omega)
   have hfs:=zab HI.out.blk0 q
   have e1:wrap64 ((j:Int) / 8)=(q:Int):=by unfold wrap64;omega
   have e2:wrap64 (8 * ((j:Int) % 8))=(m:Int):=by unfold wrap64;omega
   have e3:wrap64 (8 * ((j:Int).tmod 8))=(m:Int):=by rw [Int.tmod_eq_emod_of_nonneg p5];exact e2
   have qq:((q:Int)<25)=True:=eq_true (by omega)
   have qn:(q<25)=True:=eq_true (by omega)
   have e4:IntKind.u64.wrap (m:Int)=(m:Int):=by rw [IntKind.wrap_u64];omega
   have HQ:=am_ hq
   have HM:=am_ hm
   clear hq hm ho hl hj
   go_wp2
   generalize hji0:rd (nums_ t) ↑j=b at hix ⊢
   refine zcb (n:=16) (S:=fun w'=>w'.cell? ⟨g3,q,none⟩=some (.int .u64 (out.getD q 0))) (ds:=[15]) (bs_ 16 0) (by kernel_rfl) rfl rfl hs (fun hHeld=>?_)
   refine pu_ 0 12 (bs_ 16 1) ?_
   refine pu_ 1 13 (bs_ 16 3) ?_
   refine pu_ 2 14 (bs_ 16 7) ?_
   refine take_ (i:=3) (N:=some 15) (v:=?_) (a':=?_) (bs_ 16 15) rfl rfl (by kernel_rfl) (fun _ _ _ h=>h) (Or.inl ⟨(by rfl),?_⟩) hHeld ?_ ?_
   rotate_left
   ·
    rintro w' s0
    go_simp
    with_reducible rfl
   rotate_left
   ·
    exact ap_
   refine pu_ 4 16 (bs_ 16 31) ?_
   refine pu_ 5 17 (bs_ 16 63) ?_
   refine pu_ 6 18 (bs_ 16 127) ?_
   refine pu_ 7 19 (bs_ 16 255) ?_
   refine pu_ 8 20 (bs_ 16 511) ?_
   refine pu_ 9 21 (bs_ 16 1023) ?_
   refine pu_ 10 22 (bs_ 16 2047) ?_
   refine pu_ 11 23 (bs_ 16 4095) ?_
   refine pu_ 12 24 (bs_ 16 8191) ?_
   refine pu_ 13 25 (bs_ 16 16383) ?_
   refine pu_ 14 26 (bs_ 16 32767) ?_
   refine last_ (i:=15) (N:=none) (bs_ 16 65535) rfl rfl (by kernel_rfl) (by decide) (fun K hK=>?_)
   refine skip_ (w1:=?_) (by rfl) rfl ?_ ?_
   rotate_left
   ·
    go_simp
    rfl
   refine hK.out _ _ ?_
   clear hK K
   refine done_ (by kernel_rfl) ?_
   have HI2:=am_ ((HI.out.set0 q (.int .u64 (Go.bits .or .u64 (out.getD q 0) (IntKind.u64.wrap (IntKind.u64.wrap b * 2 ^ min m 64))))).drew)
   rw [zfr] at HI2
   have hstep:zeh (nums_ t) j out=out.set q (Go.bits .or .u64 (out.getD q 0) (IntKind.u64.wrap (IntKind.u64.wrap b * 2 ^ min m 64))):=by unfold zeh;rw [HQ.out,HM.out,hji0]
   have HR2:=am_ (show iter (zeh (nums_ t)) k1 (j + 1) (zeh (nums_ t) j out)=zdf (nums_ t) from HR.out)
   have HO2:=am_ (show (zeh (nums_ t) j out).length=25 from(zfn (nums_ t) j out).trans HO.out)
   rw [hstep] at HR2 HO2
   clear HI HR HO hs hfs e1 e2 e3 e4 qq qn hstep hix hji0 HQ HM
   generalize out.set q (Go.bits .or .u64 (out.getD q 0) (IntKind.u64.wrap (IntKind.u64.wrap b * 2 ^ min m 64)))=out2 at HI2 HR2 HO2
   try go_wp2
   go_roundg k1
   case measure=>omega
   case rel=>exact⟨j + 1,out2,by have:=HLEN.out;have:=HJ.out;rw [w64_ (by omega) (by omega)];rfl,⟨(by have:=HJ.out;omega)⟩,HR2,HO2,HI2⟩
end Go.Proofs.Ytgookagndlfehaa.PT
end
section
/- l03Text: words as text. -/
namespace Go.Proofs.Ytgookagndlfehaa.PT
open Go.RowKit Go.Proofs.YtgookagndlfehaaW.PrintWords Go.Proofs.YtgookagndlfehaaW.PrintLast Go.Proofs.YtgookagndlfehaaW.PrintMore
set_option linter.unusedVariables false
set_option linter.unusedSimpArgs false
theorem zk9 (ls:List Int):∀ n k j x,n≤k→(iter (zd4 ls) k j x).take (x.length + n)=iter (zd4 ls) n j x
 | 0,k,j,x,_=>by
  rw [show iter (zd4 ls) 0 j x=x from rfl,Nat.add_zero]
  induction k generalizing j x with
  | zero=>exact List.take_length
  | succ k ih=>
   have h:=ih (j + 1) (zd4 ls j x) (Nat.zero_le _)
   rw [zdp]
   have e:x=(zd4 ls j x).take x.length:=by unfold zd4;simp
   have h2:=congrArg (List.take x.length) h
   rw [List.take_take,Nat.min_eq_left (by unfold zd4;simp)] at h2
   rw [h2,←e]
 | n + 1,0,j,x,h=>by omega
 | n + 1,k + 1,j,x,h=>by
  rw [zdp,zdp,←zk9 ls n k (j + 1) (zd4 ls j x) (by omega)]
  congr 1
  unfold zd4
  simp
  omega
theorem zlt.calls (ls:List Int) (n:Nat) (w:World) (hls:ls.length=25) (hn:n≤200) :
  Calls Try.prog 130 #[.agg (uarr .u64 ls),.int .i64 (n:Int)] w fun e w'=>e=.returned (.string (strOfNums ((text_ ls).take n)))∧Below w.heap.size w w':=by
 have HLEN:=am_ hls
 have HN:=am_ hn
 have HT:=am_ (show iter (zd4 ls) n 0 []=(text_ ls).take n from by unfold text_;rw [←zk9 ls n 200 0 [] hn];simp)
 generalize (text_ ls).take n=tt at HT
 have HI:=am_ (Inv.start w (fun _=>True) (fun _ _=>trivial))
 have hu133:=Try.underlying133
 clear hls hn
 go_enter Try.func130,Try.ntmps130
 go_wp2_with (first|((with_reducible refine zad (N:=2) rfl ?_);refine zae rfl (N:=2) rfl (cs:=uarr .u64 ls) (t:=133) bx_ ?_;intro g2 hg w2 hbox hb;replace HI:=am_ ((HI.out).box hg hbox hb);clear hb hbox hg)|((with_reducible refine zad (N:=7) rfl ?_);refine Kd.R_lit (Kd.int .u8) (w0:=_) _ 5 ?hg (N:=7) ?hd (xs:=([]:List Int)) (inner:=[]) (ok:=fun _=>True) (okp:=fun _=>True) ?hr ?hp (fun _ hk=>hk) trivial (Below.refl _ _) (Nat.le_refl _) (by simp) ?_;(case hd=>rfl);(case hg=>rfl);(case hr=>first|(go_simp;done)|(go_simp;rfl));(case hp=>exact(Reps.none _ _));intro v7 w7 hR hb hg hat;replace HI:=am_ ((HI.out).zdj hb hR);clear hR hb hg hat))
 go_loopg [5,6] n (fun kq v5 v6 w'=>∃ (j:Nat) (out:List Int) (S:Nat→Prop),v6=.int .i64 j∧zal (j + kq=n)∧zal (iter (zd4 ls) kq j out=tt)∧zal (out.length=j)∧zal (Inv w NoB w' [row (Kd.int .u8) 5 w.heap.size v5 out S,blk g2 133 (uarr .u64 ls)] (fun _=>True)))
 case atStart=>exact⟨0,[],_,rfl,⟨(by omega)⟩,HT,⟨rfl⟩,HI⟩
 case round=>
  clear HI
  obtain⟨j,out,S,rfl,HJ,HR,HO,HI⟩:=hrel
  have hj:=HJ.out
  have hn:=HN.out
  cases gk with
  | zero=>
   have c1:decide ((j:Int)<(n:Int))=false:=decide_eq_false (by omega)
   have c2:decide (j<n)=false:=decide_eq_false (by omega)
   have hi:out=tt:=HR.out
   subst hi
   obtain⟨A,c,rfl,_,hC⟩:=Kd.zgi HI.out.row0
   have hcv:=Kd.zm2 (c:=c) Try.underlying22 Try.underlying5 Try.underlying9 hC
   clear HR hj hC
   go_wp2
   go_ret
   exact⟨rfl,HI.out.below⟩
  | succ k1=>
   have hl:=HLEN.out
   have c1:decide ((j:Int)<(n:Int))=true:=decide_eq_true (by omega)
   have c2:decide (j<n)=true:=decide_eq_true (by omega)
   have p5:0≤(j:Int):=by omega
   have hs:wr.cell? ⟨g2,j / 8,none⟩=some (.int .u64 (ls.getD (j / 8) 0)):=zb1 HI.out.swap.blk0 (by omega)
   have qn:(j / 8<25)=True:=eq_true (by omega)
   have qi:((j:Int) / 8<25)=True:=eq_true (by omega)
   have e4:IntKind.u64.wrap (8 * ((j:Int) % 8))=8 * ((j:Int) % 8):=by rw [IntKind.wrap_u64];omega
   have HR2:=am_ (show iter (zd4 ls) k1 (j + 1) (out++[(ls.getD (j / 8) 0 / 2 ^ (8 * (j % 8))) % 256])=tt from HR.out)
   clear HR hl
   generalize ls.getD (j / 8) 0=v at hs HR2
   generalize hb:v / 2 ^ (8 * (j % 8))=b at HR2
   go_wp2_with (first|((with_reducible refine zdc (b:=.append) (xs:=#[.tmp 13,.tmp 24]) rfl ?_);at_builtin;refine Kd.zgp (Kd.int .u8) (w0:=_) w.heap.size rfl (.tmp 13) (.tmp 24) 22 5 (.int .u8 0) 1 rfl Try.underlying22 info5 rfl (by decide) (by omega) _ out (b % 256) [.int .u8 (b % 256)] _ (fun _=>False) rfl rfl ?aP (fun _ hk=>hk.elim) ?aF (Inv.row0W (HI.out)) (Below.refl _ _) (HI.out).agr.size ?aL ?_;(case aP=>exact rfl);(case aF=>exact(fun _ hk=>.inr hk));(case aL=>have:=HO.out;omega);intro v25 w25 hR hb hg hat;replace HI:=am_ ((HI.out).zpu hb hR (fun _ hk _=>hk) hg);clear hR hb hg hat))
   go_roundg k1
   case measure=>omega
   case rel=>exact⟨j + 1,out++[b % 256],_,by first|rfl|go_num,⟨(by omega)⟩,HR2,⟨(by have:=HO.out;simp;omega)⟩,HI⟩
def zdt.f (a0:Int) (a1:Int):Option (Int):=if a1=0 then(some a0) else(if 0≤a1 then(if 0≤(IntKind.u64.wrap (64 - a1)) then(some (Go.bits .or .u64 (shl .u64 a0 a1) (shr .u64 a0 (IntKind.u64.wrap (64 - a1))))) else(none)) else(none))
theorem zdt.calls (a0:Int) (a1:Int) (r:Int) (w:World) (h:zdt.f a0 a1=some r) :
  Calls Try.prog 162 #[.int .u64 a0,.int .u64 a1] w fun e w'=>e=.returned (.int .u64 r)∧zbr w w':=by
 have H:(if a1=0 then(some a0) else(if 0≤a1 then(if 0≤(IntKind.u64.wrap (64 - a1)) then(some (Go.bits .or .u64 (shl .u64 a0 a1) (shr .u64 a0 (IntKind.u64.wrap (64 - a1))))) else(none)) else(none)))=some r:=h
 clear h
 by_cases c3:a1=0
 ·
  rw [if_pos c3] at H
  have c3b0:(a1 == 0)=true:=beq_iff_eq.mpr c3
  have c3b1:(a1 != 0)=false:=bne_eq_false_iff_eq.mpr c3
  clear c3
  obtain rfl:=Option.some.inj H
  go_enter Try.func162,Try.ntmps162
  go_wp2
  go_ret
  exact⟨qz10_,qz2_⟩
 ·
  rw [if_neg c3] at H
  have c3b0:(a1 == 0)=false:=beq_eq_false_iff_ne.mpr c3
  have c3b1:(a1 != 0)=true:=bne_iff_ne.mpr c3
  by_cases c4:0≤a1
  ·
   rw [if_pos c4] at H
   have c4b0:=eq_true c4
   have c4b1:decide (0≤a1)=true:=decide_eq_true c4
   clear c4
   obtain⟨ji5,hji5⟩:∃ j_:Int,(shl .u64 a0 a1)=j_:=⟨_,rfl⟩
   replace H:(if 0≤(IntKind.u64.wrap (64 - a1)) then(some (Go.bits .or .u64 (ji5) (shr .u64 a0 (IntKind.u64.wrap (64 - a1))))) else(none))=some r:=by first|(rw [hji5] at H;exact H)|(simp only [hji5] at H ⊢;exact H)
   have hji5_:(IntKind.u64.wrap (a0 * 2 ^ min a1.toNat 64))=ji5:=hji5
   have hji5z:a1≤64→(IntKind.u64.wrap (a0 * 2 ^ a1.toNat))=ji5:=zls hji5
   obtain⟨ji6,hji6⟩:∃ j_:Int,(IntKind.u64.wrap (64 - a1))=j_:=⟨_,rfl⟩
   replace H:(if 0≤(ji6) then(some (Go.bits .or .u64 (ji5) (shr .u64 a0 (ji6)))) else(none))=some r:=by first|(rw [hji6] at H;exact H)|(simp only [hji6] at H ⊢;exact H)
   by_cases c7:0≤(ji6)
   ·
    rw [if_pos c7] at H
    have c7b0:=eq_true c7
    have c7b1:decide (0≤(ji6))=true:=decide_eq_true c7
    clear c7
    obtain⟨ji8,hji8⟩:∃ j_:Int,(shr .u64 a0 (ji6))=j_:=⟨_,rfl⟩
    replace H:(some (Go.bits .or .u64 (ji5) (ji8)))=some r:=by first|(rw [hji8] at H;exact H)|(simp only [hji8] at H ⊢;exact H)
    have hji8_:(a0 / 2 ^ min (ji6).toNat 64)=ji8:=hji8
    have hji8z:(ji6)≤64→(a0 / 2 ^ (ji6).toNat)=ji8:=zi7 hji8
    obtain rfl:=Option.some.inj H
    go_enter Try.func162,Try.ntmps162
    go_wp2
    go_ret
    exact⟨(by first|rfl|(simp;done)|(simp only [←hji5,←hji6,←hji8] <;> (first|rfl|simp))|(simp [*];done)),qz2_⟩
   ·
    rw [if_neg c7] at H
    exact absurd H (by simp)
  ·
   rw [if_neg c4] at H
   exact absurd H (by simp)
end Go.Proofs.Ytgookagndlfehaa.PT
end
section
/- l03Permute: a state permuted. -/
namespace Go.Proofs.Ytgookagndlfehaa.PT
open Go.RowKit Go.Proofs.YtgookagndlfehaaW.PrintWords Go.Proofs.YtgookagndlfehaaW.PrintLast Go.Proofs.YtgookagndlfehaaW.PrintMore
set_option linter.unusedVariables false
set_option linter.unusedSimpArgs false
theorem zoy {x k:Int} (h0:0≤k) (h1:k≤64):∃ r,zdt.f x k=some r:=by
 unfold zdt.f
 by_cases h:k=0
 ·
  exact⟨_,if_pos h⟩
 ·
  rw [if_neg h,if_pos h0,if_pos (by rw [IntKind.wrap_u64];omega)]
  exact⟨_,rfl⟩
def turn (x k:Int):Int:=(zdt.f x k).getD 0
theorem zos {x k:Int} (h0:0≤k) (h1:k≤64):zdt.f x k=some (turn x k):=by
 obtain⟨r,h⟩:=zoy (x:=x) h0 h1
 unfold turn
 rw [h]
 rfl
def cpl (x:Int):Int:=Go.bits .xor .u64 IntKind.u64.max x
def bnd (x y:Int):Int:=Go.bits .and .u64 x y
def cS (a:List Int) (x:Nat) (c:List Int):List Int:=c.set x (xr (xr (xr (xr (a.getD x 0) (a.getD (x + 5) 0)) (a.getD (x + 10) 0)) (a.getD (x + 15) 0)) (a.getD (x + 20) 0))
def tS (c:List Int) (i:Nat) (a:List Int):List Int:=a.set i (xr (a.getD i 0) (xr (c.getD ((i + 4) % 5) 0) (turn (c.getD ((i + 1) % 5) 0) 1)))
def bS1 (a:List Int) (x y:Nat) (b:List Int):List Int:=b.set (y + 5 * ((2 * x + 3 * y) % 5)) (turn (a.getD (x + 5 * y) 0) (zce.getD (x + 5 * y) 0))
def bRw (a:List Int) (x:Nat) (b:List Int):List Int:=iter (bS1 a x) 5 0 b
def hS1 (b:List Int) (x y:Nat) (a:List Int):List Int:=a.set (x + 5 * y) (xr (b.getD (x + 5 * y) 0) (bnd (cpl (b.getD ((x + 1) % 5 + 5 * y) 0)) (b.getD ((x + 2) % 5 + 5 * y) 0)))
def hS (b:List Int) (x:Nat) (a:List Int):List Int:=iter (hS1 b x) 5 0 a
def c_ (a:List Int):List Int:=iter (cS a) 5 0 z5
def t_ (a:List Int):List Int:=iter (tS (c_ a)) 25 0 a
def b_ (a:List Int):List Int:=iter (bRw a) 5 0 z25
def h_ (b a:List Int):List Int:=iter (hS b) 5 0 a
def zfe (r:Nat) (a:List Int):List Int:=roundEnd r (h_ (b_ (t_ a)) (t_ a))
def permS (a:List Int):List Int:=iter zfe 24 0 a
theorem zot (a:List Int) (j:Nat) (x:List Int):(cS a j x).length=x.length:=by simp [cS]
theorem zoh (a:List Int) (j:Nat) (x:List Int):(tS a j x).length=x.length:=by simp [tS]
theorem znn (a:List Int) (i j:Nat) (x:List Int):(bS1 a i j x).length=x.length:=by simp [bS1]
theorem zj3 (a:List Int) (j:Nat) (x:List Int):(bRw a j x).length=x.length:=zc7 (znn a j) 5 0 x
theorem znr (a:List Int) (i j:Nat) (x:List Int):(hS1 a i j x).length=x.length:=by simp [hS1]
theorem zk2 (a:List Int) (j:Nat) (x:List Int):(hS a j x).length=x.length:=zc7 (znr a j) 5 0 x
theorem zng (a:List Int):(c_ a).length=5:=zc7 (zot a) 5 0 z5
theorem zkb (a:List Int):(t_ a).length=a.length:=zc7 (zoh _) 25 0 a
theorem zm0 (a:List Int):(b_ a).length=25:=zc7 (zj3 a) 5 0 z25
theorem h_length (b a:List Int):(h_ b a).length=a.length:=zc7 (zk2 b) 5 0 a
theorem zhf (r:Nat) (a:List Int):(zfe r a).length=a.length:=by unfold zfe roundEnd;rw [List.length_set,h_length,zkb]
theorem zgf (a:List Int):(permS a).length=a.length:=zc7 zhf 24 0 a
theorem wr_ {n:Int} {p:Nat} (h:n=(p:Int)) (hp:p<1000):wrap64 n=(p:Int):=by rw [h];unfold wrap64;omega
theorem mv1' {i:Nat} (h:i<25):wrap64 ((i:Int) + 4)=(i:Int) + 4:=by unfold wrap64;omega
theorem mv3' {i:Nat} (h:i<25):wrap64 ((i:Int) + 1)=(i:Int) + 1:=by unfold wrap64;omega
theorem mv2' {i p:Nat} (h:i<25) (hp:(i + 4) % 5=p):Int.tmod ((i:Int) + 4) 5=(p:Int):=by rw [Int.tmod_eq_emod_of_nonneg (by omega)];omega
theorem mv4' {i p:Nat} (h:i<25) (hp:(i + 1) % 5=p):Int.tmod ((i:Int) + 1) 5=(p:Int):=by rw [Int.tmod_eq_emod_of_nonneg (by omega)];omega
theorem ix1_:∀ x y:Fin 5,wrap64 ((y.val:Int) + wrap64 (5 * Int.tmod (wrap64 (wrap64 (2 * (x.val:Int)) + wrap64 (3 * (y.val:Int)))) 5))=((y.val + 5 * ((2 * x.val + 3 * y.val) % 5):Nat):Int)∧y.val + 5 * ((2 * x.val + 3 * y.val) % 5)<25:=by decide +kernel
theorem ix1 {x y d:Nat} (hx:x<5) (hy:y<5) (hd:y + 5 * ((2 * x + 3 * y) % 5)=d):wrap64 ((y:Int) + wrap64 (5 * Int.tmod (wrap64 (wrap64 (2 * (x:Int)) + wrap64 (3 * (y:Int)))) 5))=(d:Int)∧d<25:=by rw [←hd];exact ix1_ ⟨x,hx⟩ ⟨y,hy⟩
theorem ix2_:∀ x y:Fin 5,wrap64 ((x.val:Int) + wrap64 (5 * (y.val:Int)))=((x.val + 5 * y.val:Nat):Int)∧x.val + 5 * y.val<25:=by decide +kernel
theorem ix2 {x y d:Nat} (hx:x<5) (hy:y<5) (hd:x + 5 * y=d):wrap64 ((x:Int) + wrap64 (5 * (y:Int)))=(d:Int)∧d<25:=by rw [←hd];exact ix2_ ⟨x,hx⟩ ⟨y,hy⟩
theorem ix3_:∀ x y:Fin 5,(wrap64 (Int.tmod (wrap64 ((x.val:Int) + 1)) 5 + wrap64 (5 * (y.val:Int)))=(((x.val + 1) % 5 + 5 * y.val:Nat):Int)∧(x.val + 1) % 5 + 5 * y.val<25)∧(wrap64 (Int.tmod (wrap64 ((x.val:Int) + 2)) 5 + wrap64 (5 * (y.val:Int)))=(((x.val + 2) % 5 + 5 * y.val:Nat):Int)∧(x.val + 2) % 5 + 5 * y.val<25):=by decide +kernel
theorem ix3 {x y d e:Nat} (hx:x<5) (hy:y<5) (hd:(x + 1) % 5 + 5 * y=d) (he:(x + 2) % 5 + 5 * y=e):(wrap64 (Int.tmod (wrap64 ((x:Int) + 1)) 5 + wrap64 (5 * (y:Int)))=(d:Int)∧d<25)∧(wrap64 (Int.tmod (wrap64 ((x:Int) + 2)) 5 + wrap64 (5 * (y:Int)))=(e:Int)∧e<25):=by rw [←hd,←he];exact ix3_ ⟨x,hx⟩ ⟨y,hy⟩
theorem sh_:∀ i:Fin 25,0≤zce.getD i.val 0∧zce.getD i.val 0≤64:=by decide +kernel
theorem sh {i:Nat} (h:i<25):0≤zce.getD i 0∧zce.getD i 0≤64:=sh_ ⟨i,h⟩
theorem zjm.calls (w:World) :
  Calls Try.prog 160 #[] w fun e w'=>e=.returned (.agg (uarr .u64 zdl))∧Below w.heap.size w w':=by
 have HI:=am_ (Inv.start w (fun _=>True) (fun _ _=>trivial))
 have hu157:=Try.underlying157
 go_enter Try.func160,Try.ntmps160
 go_wp2_with (first|((with_reducible refine zad (N:=0) rfl ?_);refine zae rfl (N:=0) rfl (cs:=uarr .u64 z24) (t:=157) bx_ ?_;intro g0 hg w0_ hbox hb;replace HI:=am_ ((HI.out).box hg hbox hb);clear hb hbox hg)|((with_reducible refine zaq (p:=0) (v:=.tmp 1) (t:=157) rfl ?_);go_must (refine wpList_store_row rfl 157 _ _ rfl g0 (uarr .u64 zdl) rfl qz0_ 157 (uarr .u64 z24) (Inv.blk0 (HI.out)) (by kernel_rfl) (by rfl) (zdq _ _) ?_;replace HI:=am_ (Inv.put0 (HI.out) (uarr .u64 zdl));generalize World.setRow _ g0 (uarr .u64 zdl)=w1_ at HI ⊢)))
 refine bodyPost_ret (v:=.agg (uarr .u64 zdl)) ?hres rfl ?_
 case hres=>exact results_cell_row (fn:=Try.f160) (p:=0) rfl _ _ g0 157 (uarr .u64 zdl) (0,0) _ (by first|rfl|(simp;done)) HI.out.blk0 hu157 rfl (by kernel_rfl)
 exact⟨rfl,HI.out.below⟩
theorem zjg.calls (w:World) :
  Calls Try.prog 161 #[] w fun e w'=>e=.returned (.agg (uarr .u64 zce))∧Below w.heap.size w w':=by
 have HI:=am_ (Inv.start w (fun _=>True) (fun _ _=>trivial))
 have hu168:=Try.underlying168
 go_enter Try.func161,Try.ntmps161
 go_wp2_with (first|((with_reducible refine zad (N:=0) rfl ?_);refine zae rfl (N:=0) rfl (cs:=uarr .u64 z25) (t:=168) bx_ ?_;intro g0 hg w0_ hbox hb;replace HI:=am_ ((HI.out).box hg hbox hb);clear hb hbox hg)|((with_reducible refine zaq (p:=0) (v:=.tmp 1) (t:=168) rfl ?_);go_must (refine wpList_store_row rfl 168 _ _ rfl g0 (uarr .u64 zce) rfl qz0_ 168 (uarr .u64 z25) (Inv.blk0 (HI.out)) (by kernel_rfl) (by rfl) (zdq _ _) ?_;replace HI:=am_ (Inv.put0 (HI.out) (uarr .u64 zce));generalize World.setRow _ g0 (uarr .u64 zce)=w1_ at HI ⊢)))
 refine bodyPost_ret (v:=.agg (uarr .u64 zce)) ?hres rfl ?_
 case hres=>exact results_cell_row (fn:=Try.f161) (p:=0) rfl _ _ g0 168 (uarr .u64 zce) (0,0) _ (by first|rfl|(simp;done)) HI.out.blk0 hu168 rfl (by kernel_rfl)
 exact⟨rfl,HI.out.below⟩
theorem ziw.calls (a0:List Int) (w:World) (hlen:a0.length=25) :
  Calls Try.prog 129 #[.agg (uarr .u64 a0)] w fun e w'=>e=.returned (.agg (uarr .u64 (permS a0)))∧Below w.heap.size w w':=by
 have HL:=am_ hlen
 have hu133:=Try.underlying133
 have HTT:=am_ (show iter zfe 24 0 a0=permS a0 from rfl)
 have HTL:=am_ (show (permS a0).length=25 from(zgf a0).trans hlen)
 generalize permS a0=tt at HTT HTL
 have HI:=am_ (Inv.start w (fun _=>True) (fun _ _=>trivial))
 clear hlen
 go_enter Try.func129,Try.ntmps129
 go_wp2_with (first|((with_reducible refine zad (N:=1) rfl ?_);refine zae rfl (N:=1) rfl (cs:=uarr .u64 a0) (t:=133) bx_ ?_;intro g1 hg w1 hbox hb;replace HI:=am_ ((HI.out).box hg hbox hb);clear hb hbox hg)|((with_reducible refine zad (N:=2) rfl ?_);refine zae rfl (N:=2) rfl (cs:=uarr .u64 z25) (t:=133) bx_ ?_;intro g2 hg w2 hbox hb;replace HI:=am_ ((HI.out).box hg hbox hb);clear hb hbox hg)|(go_at_call 160;refine(zjm.calls _).mono ?_;rintro e w14 ⟨rfl,hb⟩;replace HI:=am_ (HI.out.grow hb);clear hb)|((with_reducible refine zad (N:=3) rfl ?_);refine zae rfl (N:=3) rfl (cs:=uarr .u64 z24) (t:=157) bx_ ?_;intro g3 hg w3 hbox hb;replace HI:=am_ ((HI.out).box hg hbox hb);clear hb hbox hg)|((with_reducible refine zaq (p:=3) (v:=.tmp 14) (t:=157) rfl ?_);go_must (refine wpList_store_row rfl 157 _ _ rfl g3 (uarr .u64 zdl) rfl qz0_ 157 (uarr .u64 z24) (Inv.blk0 (HI.out)) (by kernel_rfl) (by rfl) (zdq _ _) ?_;replace HI:=am_ (Inv.put0 (HI.out) (uarr .u64 zdl));generalize World.setRow _ g3 (uarr .u64 zdl)=w4 at HI ⊢))|(go_at_call 161;refine(zjg.calls _).mono ?_;rintro e w15 ⟨rfl,hb⟩;replace HI:=am_ (HI.out.grow hb);clear hb)|((with_reducible refine zad (N:=4) rfl ?_);refine zae rfl (N:=4) rfl (cs:=uarr .u64 z25) (t:=168) bx_ ?_;intro g4 hg w5 hbox hb;replace HI:=am_ ((HI.out).box hg hbox hb);clear hb hbox hg)|((with_reducible refine zaq (p:=4) (v:=.tmp 15) (t:=168) rfl ?_);go_must (refine wpList_store_row rfl 168 _ _ rfl g4 (uarr .u64 zce) rfl qz0_ 168 (uarr .u64 z25) (Inv.blk0 (HI.out)) (by kernel_rfl) (by rfl) (zdq _ _) ?_;replace HI:=am_ (Inv.put0 (HI.out) (uarr .u64 zce));generalize World.setRow _ g4 (uarr .u64 zce)=w6 at HI ⊢)))
 go_loopg [5] 24 (fun kq v5 w'=>∃ (r:Nat) (a:List Int),v5=.int .i64 r∧zal (r + kq=24)∧zal (iter zfe kq r a=tt)∧zal (a.length=25)∧zal (Inv w NoB w' [blk g1 133 (uarr .u64 a),blk g4 168 (uarr .u64 zce),blk g3 157 (uarr .u64 zdl),blk g2 133 (uarr .u64 z25)] (fun _=>True)))
 case atStart=>exact⟨0,a0,rfl,⟨(by omega)⟩,HTT,HL,⟨HI.out.zmu⟩⟩
 case round=>
  clear HTT HL HI
  obtain⟨r,a,rfl,HJ,HR,HL,HI⟩:=hrel
  cases gk with
  | zero=>
   have hj:=HJ.out
   have c1:decide ((r:Int)<24)=false:=decide_eq_false (by omega)
   have c2:decide (r<24)=false:=decide_eq_false (by omega)
   have hi:a=tt:=HR.out
   subst hi
   have hl:=HL.out
   clear HR hj
   go_wp2_with (first|((with_reducible refine zad (N:=148) rfl ?_);go_must (refine wpList_load_row rfl 133 _ rfl g1 rfl 133 (uarr .u64 a) (0,0) _ (HI.out.blk0) hu133 rfl (by rw [zb8,hl];kernel_rfl) ?_))|((with_reducible refine zaq (p:=2) (v:=.tmp 148) (t:=133) rfl ?_);go_must (refine wpList_store_row rfl 133 _ _ rfl g2 (uarr .u64 a) rfl qz0_ 133 (uarr .u64 z25) (Inv.blk0 (HI.out.zmu)) (by rw [zb8,hl];kernel_rfl) (by rw [zb8,zb8,hl];rfl) (zdq _ _) ?_;replace HI:=am_ (Inv.put0 (HI.out.zmu) (uarr .u64 a));generalize World.setRow _ g2 (uarr .u64 a)=w150 at HI ⊢)))
   simp only [Act.put,List.setIfInBounds_toArray,List.set_cons_zero,List.set_cons_succ]
   refine bodyPost_ret (v:=.agg (uarr .u64 a)) ?hres rfl ?_
   case hres=>exact results_cell_row (fn:=Try.f129) (p:=2) rfl _ _ g2 133 (uarr .u64 a) (0,0) _ (by first|rfl|(simp;done)) HI.out.blk0 hu133 rfl (by rw [zb8,hl];kernel_rfl)
   exact⟨rfl,HI.out.below⟩
  | succ k1=>
   have hj:=HJ.out
   have c1:decide ((r:Int)<24)=true:=decide_eq_true (by omega)
   have c2:decide (r<24)=true:=decide_eq_true (by omega)
   have HR2:=am_ (show iter zfe k1 (r + 1) (zfe r a)=tt from HR.out)
   clear HR hj
   go_wp2_with (first|((with_reducible refine zad (N:=6) rfl ?_);refine zae rfl (N:=6) rfl (cs:=uarr .u64 z5) (t:=158) bx_ ?_;intro g6 hg w7 hbox hb;replace HI:=am_ ((HI.out).box hg hbox hb);clear hb hbox hg)|((with_reducible refine zaq (p:=6) (v:=.tmp 20) (t:=158) rfl ?_);go_must (refine wpList_store_row rfl 158 _ _ rfl g6 (uarr .u64 z5) rfl qz0_ 158 (uarr .u64 z5) (Inv.blk0 (HI.out)) (by kernel_rfl) (by rfl) (zdq _ _) ?_;replace HI:=am_ (Inv.put0 (HI.out) (uarr .u64 z5));generalize World.setRow _ g6 (uarr .u64 z5)=w8 at HI ⊢)))
   clear c1 c2
   have HCD:=am_ (show iter (cS a) 5 0 z5=c_ a from rfl)
   have HCL:=am_ (zng a)
   generalize hC:c_ a=C at HCD HCL
   have HC:=am_ hC
   clear hC
   go_loopg [7] 5 (fun kq v7 w'=>∃ (i:Nat) (c:List Int),v7=.int .i64 i∧zal (i + kq=5)∧zal (iter (cS a) kq i c=C)∧zal (c.length=5)∧zal (Inv w NoB w' [blk g6 158 (uarr .u64 c),blk g1 133 (uarr .u64 a),blk g4 168 (uarr .u64 zce),blk g3 157 (uarr .u64 zdl),blk g2 133 (uarr .u64 z25)] (fun _=>True)))
   case atStart=>exact⟨0,z5,rfl,⟨(by omega)⟩,HCD,⟨rfl⟩,HI⟩
   case round=>
    clear HCD HI
    obtain⟨i,c,rfl,HJ1,HR1,HL1,HI⟩:=hrel
    cases gk with
    | zero=>
     have hj:=HJ1.out
     have c1:decide ((i:Int)<5)=false:=decide_eq_false (by omega)
     have c2:decide (i<5)=false:=decide_eq_false (by omega)
     have hi:c=C:=HR1.out
     subst hi
     clear HR1 hj HJ1
     go_wp2
     clear c1 c2
     have HTD:=am_ (show iter (tS c) 25 0 a=t_ a by unfold t_;rw [HC.out])
     have HTL2:=am_ ((zkb a).trans HL.out)
     generalize hT:t_ a=T at HTD HTL2
     have HT:=am_ hT
     clear hT
     have HI2:=am_ HI.out.swap
     clear HI
     have HI:=HI2
     clear HI2
     go_loopg [8] 25 (fun kq v8 w'=>∃ (i:Nat) (t:List Int),v8=.int .i64 i∧zal (i + kq=25)∧zal (iter (tS c) kq i t=T)∧zal (t.length=25)∧zal (Inv w NoB w' [blk g1 133 (uarr .u64 t),blk g6 158 (uarr .u64 c),blk g4 168 (uarr .u64 zce),blk g3 157 (uarr .u64 zdl),blk g2 133 (uarr .u64 z25)] (fun _=>True)))
     case atStart=>exact⟨0,a,rfl,⟨(by omega)⟩,HTD,HL,HI⟩
     case round=>
      clear HTD HI
      obtain⟨i,t,rfl,HJ1,HR1,HAL,HI⟩:=hrel
      cases gk with
      | zero=>
       have hj:=HJ1.out
       have c1:decide ((i:Int)<25)=false:=decide_eq_false (by omega)
       have c2:decide (i<25)=false:=decide_eq_false (by omega)
       have hi:t=T:=HR1.out
       subst hi
       clear HR1 hj HJ1 HAL
       have HI2:=am_ HI.out.swap.drop
       clear HI
       have HI:=HI2
       clear HI2
       go_wp2_with (first|((with_reducible refine zad (N:=9) rfl ?_);refine zae rfl (N:=9) rfl (cs:=uarr .u64 z25) (t:=133) bx_ ?_;intro g9 hg w9 hbox hb;replace HI:=am_ ((HI.out).box hg hbox hb);clear hb hbox hg)|((with_reducible refine zaq (p:=9) (v:=.tmp 71) (t:=133) rfl ?_);go_must (refine wpList_store_row rfl 133 _ _ rfl g9 (uarr .u64 z25) rfl qz0_ 133 (uarr .u64 z25) (Inv.blk0 (HI.out)) (by kernel_rfl) (by rfl) (zdq _ _) ?_;replace HI:=am_ (Inv.put0 (HI.out) (uarr .u64 z25));generalize World.setRow _ g9 (uarr .u64 z25)=w10 at HI ⊢)))
       clear c1 c2
       have HBD:=am_ (show iter (bRw t) 5 0 z25=b_ t from rfl)
       have HBL:=am_ (zm0 t)
       generalize hB:b_ t=B at HBD HBL
       have HB:=am_ hB
       clear hB
       go_loopg [10] 5 (fun kq v10 w'=>∃ (x:Nat) (b:List Int),v10=.int .i64 x∧zal (x + kq=5)∧zal (iter (bRw t) kq x b=B)∧zal (b.length=25)∧zal (Inv w NoB w' [blk g9 133 (uarr .u64 b),blk g1 133 (uarr .u64 t),blk g4 168 (uarr .u64 zce),blk g3 157 (uarr .u64 zdl),blk g2 133 (uarr .u64 z25)] (fun _=>True)))
       case atStart=>exact⟨0,z25,rfl,⟨(by omega)⟩,HBD,⟨rfl⟩,HI⟩
       case round=>
        clear HBD HI
        obtain⟨x,b,rfl,HJ1,HR1,HBL2,HI⟩:=hrel
        cases gk with
        | zero=>
         have hj:=HJ1.out
         have c1:decide ((x:Int)<5)=false:=decide_eq_false (by omega)
         have c2:decide (x<5)=false:=decide_eq_false (by omega)
         have hi:b=B:=HR1.out
         subst hi
         clear HR1 hj HJ1 HBL2
         go_wp2
         clear c1 c2
         have HZD:=am_ (show iter (hS b) 5 0 t=h_ b t from rfl)
         generalize hZ:h_ b t=Z at HZD
         have HZ:=am_ hZ
         clear hZ
         have HI2:=am_ HI.out.swap
         clear HI
         have HI:=HI2
         clear HI2
         go_loopg [12] 5 (fun kq v12 w'=>∃ (x:Nat) (z:List Int),v12=.int .i64 x∧zal (x + kq=5)∧zal (iter (hS b) kq x z=Z)∧zal (z.length=25)∧zal (Inv w NoB w' [blk g1 133 (uarr .u64 z),blk g9 133 (uarr .u64 b),blk g4 168 (uarr .u64 zce),blk g3 157 (uarr .u64 zdl),blk g2 133 (uarr .u64 z25)] (fun _=>True)))
         case atStart=>exact⟨0,t,rfl,⟨(by omega)⟩,HZD,HTL2,HI⟩
         case round=>
          clear HZD HI
          obtain⟨x,z,rfl,HJ1,HR1,HAL,HI⟩:=hrel
          cases gk with
          | zero=>
           have hj:=HJ1.out
           have c1:decide ((x:Int)<5)=false:=decide_eq_false (by omega)
           have c2:decide (x<5)=false:=decide_eq_false (by omega)
           have hi:z=Z:=HR1.out
           subst hi
           clear HR1 hj HJ1
           go_wp2
           clear c1 c2
           have hl:=HAL.out
           have hs0:=zb1 HI.out.blk0 (i:=0) (by omega)
           have hf0:=zab HI.out.blk0 0
           have hr24:r<24:=by have:=HJ.out;omega
           have h3:wr.heap[g3]?=_:=HI.out.get 3 rfl
           have hs1:wr.cell? ⟨g3,r,none⟩=some (.int .u64 (zdl.getD r 0)):=zb1 h3 (i:=r) hr24
           clear h3
           have hh:=HR2.out
           rw [show zfe r a=z.set 0 (xr (z.getD 0 0) (zdl.getD r 0)) by unfold zfe;rw [HT.out,HB.out,HZ.out];rfl] at hh
           generalize z.getD 0 0=A at hs0 hh
           generalize zdl.getD r 0=D at hs1 hh
           have HR3:=am_ hh
           have HL3:=am_ (show (z.set 0 (xr A D)).length=25 by rw [List.length_set];exact hl)
           have cr:((r:Int)<24)=True:=eq_true (by omega)
           have cn:(r<24)=True:=eq_true hr24
           clear hh hl HR2 HAL hr24
           refine zcb (n:=8) (S:=fun w'=>w'.cell? ⟨g1,0,none⟩=some (.int .u64 A)∧w'.cell? ⟨g3,r,none⟩=some (.int .u64 D)) (ds:=[7]) (bs_ 8 0) (by kernel_rfl) rfl rfl ⟨hs0,hs1⟩ (fun hHeld=>?_)
           refine pu_ 0 141 (bs_ 8 1) ?_
           refine take_ (i:=1) (N:=some 142) (v:=?_) (a':=?_) (bs_ 8 3) rfl rfl (by kernel_rfl) (fun _ _ _ h=>h) (Or.inl ⟨(by rfl),?_⟩) hHeld ?_ ?_
           rotate_left
           ·
            rintro w' ⟨s0,s1⟩
            go_simp
            with_reducible rfl
           rotate_left
           ·
            exact ap_
           refine pu_ 2 143 (bs_ 8 7) ?_
           refine pu_ 3 144 (bs_ 8 15) ?_
           refine take_ (i:=4) (N:=some 145) (v:=?_) (a':=?_) (bs_ 8 31) rfl rfl (by kernel_rfl) (fun _ _ _ h=>h) (Or.inl ⟨(by rfl),?_⟩) hHeld ?_ ?_
           rotate_left
           ·
            rintro w' ⟨s0,s1⟩
            go_simp
            with_reducible rfl
           rotate_left
           ·
            exact ap_
           refine pu_ 5 146 (bs_ 8 63) ?_
           refine pu_ 6 147 (bs_ 8 127) ?_
           refine last_ (i:=7) (N:=none) (bs_ 8 255) rfl rfl (by kernel_rfl) (by decide) (fun K hK=>?_)
           refine skip_ (w1:=?_) (by rfl) rfl ?_ ?_
           rotate_left
           ·
            go_simp
            rfl
           refine hK.out _ _ ?_
           clear hK K
           refine done_ (by kernel_rfl) ?_
           have HI2:=am_ ((HI.out.set0 0 (.int .u64 (xr A D))).swap.drop)
           rw [zfr] at HI2
           clear HI hs0 hs1 hf0
           try go_wp2
           go_roundg k1
           case measure=>omega
           case rel=>exact⟨r + 1,_,by have:=HJ.out;rw [w64_ (by omega) (by omega)];rfl,⟨(by have:=HJ.out;omega)⟩,HR3,HL3,⟨(by(with_reducible repeat(first|refine Inv.drewN ?_ _|refine Inv.drew ?_));exact HI2.out)⟩⟩
          | succ k2=>
           have hj:=HJ1.out
           have c1:decide ((x:Int)<5)=true:=decide_eq_true (by omega)
           have c2:decide (x<5)=true:=decide_eq_true (by omega)
           have HR2i:=am_ (show iter (hS b) k2 (x + 1) (hS b x z)=Z from HR1.out)
           have HYD:=am_ (show iter (hS1 b x) 5 0 z=hS b x z from rfl)
           have HYL:=am_ ((zk2 b x z).trans HAL.out)
           generalize hS b x z=Y at HR2i HYD HYL
           clear HR1 hj
           go_wp2
           clear c1 c2
           go_loopg [13] 5 (fun kq v13 w'=>∃ (y:Nat) (z:List Int),v13=.int .i64 y∧zal (y + kq=5)∧zal (iter (hS1 b x) kq y z=Y)∧zal (z.length=25)∧zal (Inv w NoB w' [blk g1 133 (uarr .u64 z),blk g9 133 (uarr .u64 b),blk g4 168 (uarr .u64 zce),blk g3 157 (uarr .u64 zdl),blk g2 133 (uarr .u64 z25)] (fun _=>True)))
           case atStart=>exact⟨0,z,rfl,⟨(by omega)⟩,HYD,HAL,HI⟩
           case round=>
            clear HYD HAL HI z
            obtain⟨y,z,rfl,HJ2,HR3,HAL,HI⟩:=hrel
            cases gk with
            | zero=>
             have hj:=HJ2.out
             have c1:decide ((y:Int)<5)=false:=decide_eq_false (by omega)
             have c2:decide (y<5)=false:=decide_eq_false (by omega)
             have hi:z=Y:=HR3.out
             subst hi
             clear HR3 hj HJ2
             try go_wp2
             clear c1 c2
             go_roundg k2
             case measure=>omega
             case rel=>exact⟨x + 1,_,by have:=HJ1.out;rw [w64_ (by omega) (by omega)];rfl,⟨(by have:=HJ1.out;omega)⟩,HR2i,HAL,HI⟩
            | succ k3=>
             have hj:=HJ2.out
             have c1:decide ((y:Int)<5)=true:=decide_eq_true (by omega)
             have c2:decide (y<5)=true:=decide_eq_true (by omega)
             have hi:=HR3.out
             rw [zdp] at hi
             unfold hS1 at hi
             have hj5:y<5:=by omega
             have hx5:x<5:=by have:=HJ1.out;omega
             have hl:=HAL.out
             have hb9:=HBL.out
             have h9:wr.heap[g9]?=_:=HI.out.get 1 rfl
             generalize hp:x + 5 * y=p at hi
             generalize hq:(x + 1) % 5 + 5 * y=q at hi
             generalize hs:(x + 2) % 5 + 5 * y=s at hi
             obtain⟨f1,b1⟩:=ix2 hx5 hj5 hp
             obtain⟨⟨f2,b2⟩,⟨f3,b3⟩⟩:=ix3 hx5 hj5 hq hs
             have HL2:=am_ (show ∀ v,(z.set p v).length=25 from fun v=>by rw [List.length_set];exact hl)
             clear hp hq hs hj5 hx5 hj
             have hs0:=zb1 h9 (i:=p) (by rw [hb9];exact b1)
             have hs1:=zb1 h9 (i:=q) (by rw [hb9];exact b2)
             have hs2:=zb1 h9 (i:=s) (by rw [hb9];exact b3)
             have hsp:=zb1 HI.out.blk0 (i:=p) (by rw [hl];exact b1)
             have hfs:=zab HI.out.blk0 p
             clear h9 HR3 hl hb9 HAL
             generalize b.getD p 0=A at hs0 hi
             generalize b.getD q 0=U at hs1 hi
             generalize b.getD s 0=V at hs2 hi
             have HR4:=am_ hi
             have hun:∀ W,(Op.unary .xor (.int .u64 U)).run Try.prog W=.ok (.int .u64 (cpl U)) W:=fun W=>rfl
             clear hi
             have e1:=lt25 b1
             have e2:=lt25 b2
             have e3:=lt25 b3
             replace b1:=eq_true b1
             replace b2:=eq_true b2
             replace b3:=eq_true b3
             go_wp2
             refine zcb (n:=31) (S:=fun w'=>w'.cell? ⟨g9,p,none⟩=some (.int .u64 A)∧w'.cell? ⟨g9,q,none⟩=some (.int .u64 U)∧w'.cell? ⟨g9,s,none⟩=some (.int .u64 V)) (ds:=[30]) (bs_ 31 0) (by kernel_rfl) rfl rfl ⟨hs0,hs1,hs2⟩ (fun hHeld=>?_)
             refine pu_ 0 111 (bs_ 31 1) ?_
             refine pu_ 1 112 (bs_ 31 3) ?_
             refine pu_ 2 113 (bs_ 31 7) ?_
             refine pu_ 3 114 (bs_ 31 15) ?_
             refine pu_ 4 115 (bs_ 31 31) ?_
             refine pu_ 5 116 (bs_ 31 63) ?_
             refine pu_ 6 117 (bs_ 31 127) ?_
             refine pu_ 7 118 (bs_ 31 255) ?_
             refine pu_ 8 119 (bs_ 31 511) ?_
             refine take_ (i:=9) (N:=some 120) (v:=?_) (a':=?_) (bs_ 31 1023) rfl rfl (by kernel_rfl) (fun _ _ _ h=>h) (Or.inl ⟨(by rfl),?_⟩) hHeld ?_ ?_
             rotate_left
             ·
              rintro w' ⟨s0,s1,s2⟩
              go_simp
              with_reducible rfl
             rotate_left
             ·
              exact ap_
             refine pu_ 10 121 (bs_ 31 2047) ?_
             refine pu_ 11 122 (bs_ 31 4095) ?_
             refine pu_ 12 123 (bs_ 31 8191) ?_
             refine pu_ 13 124 (bs_ 31 16383) ?_
             refine pu_ 14 125 (bs_ 31 32767) ?_
             refine pu_ 15 126 (bs_ 31 65535) ?_
             refine pu_ 16 127 (bs_ 31 131071) ?_
             refine take_ (i:=17) (N:=some 128) (v:=?_) (a':=?_) (bs_ 31 262143) rfl rfl (by kernel_rfl) (fun _ _ _ h=>h) (Or.inl ⟨(by rfl),?_⟩) hHeld ?_ ?_
             rotate_left
             ·
              rintro w' ⟨s0,s1,s2⟩
              go_simp
              with_reducible rfl
             rotate_left
             ·
              exact ap_
             refine pu_ 18 129 (bs_ 31 524287) ?_
             refine pu_ 19 130 (bs_ 31 1048575) ?_
             refine pu_ 20 131 (bs_ 31 2097151) ?_
             refine pu_ 21 132 (bs_ 31 4194303) ?_
             refine pu_ 22 133 (bs_ 31 8388607) ?_
             refine pu_ 23 134 (bs_ 31 16777215) ?_
             refine pu_ 24 135 (bs_ 31 33554431) ?_
             refine pu_ 25 136 (bs_ 31 67108863) ?_
             refine take_ (i:=26) (N:=some 137) (v:=?_) (a':=?_) (bs_ 31 134217727) rfl rfl (by kernel_rfl) (fun _ _ _ h=>h) (Or.inl ⟨(by rfl),?_⟩) hHeld ?_ ?_
             rotate_left
             ·
              rintro w' ⟨s0,s1,s2⟩
              go_simp
              with_reducible rfl
             rotate_left
             ·
              exact ap_
             refine pu_ 27 138 (bs_ 31 268435455) ?_
             refine pu_ 28 139 (bs_ 31 536870911) ?_
             refine pu_ 29 140 (bs_ 31 1073741823) ?_
             refine last_ (i:=30) (N:=none) (bs_ 31 2147483647) rfl rfl (by kernel_rfl) (by decide) (fun K hK=>?_)
             refine skip_ (w1:=?_) (by rfl) rfl ?_ ?_
             rotate_left
             ·
              go_simp
              rfl
             refine hK.out _ _ ?_
             clear hK K
             refine done_ (by kernel_rfl) ?_
             clear f1 f2 f3 e1 e2 e3 b1 b2 b3 hun
             have HI2:=am_ (HI.out.set0 p (.int .u64 (xr A (bnd (cpl U) V))))
             rw [zfr] at HI2
             clear HI hs0 hs1 hs2 hsp hfs
             try go_wp2
             go_roundg k3
             case measure=>omega
             case rel=>exact⟨y + 1,_,by have:=HJ2.out;rw [w64_ (by omega) (by omega)];rfl,⟨(by have:=HJ2.out;omega)⟩,HR4,⟨HL2.out _⟩,⟨(by(with_reducible repeat(first|refine Inv.drewN ?_ _|refine Inv.drew ?_));exact HI2.out)⟩⟩
        | succ k2=>
         have hj:=HJ1.out
         have c1:decide ((x:Int)<5)=true:=decide_eq_true (by omega)
         have c2:decide (x<5)=true:=decide_eq_true (by omega)
         have HR2i:=am_ (show iter (bRw t) k2 (x + 1) (bRw t x b)=B from HR1.out)
         have HYD:=am_ (show iter (bS1 t x) 5 0 b=bRw t x b from rfl)
         have HYL:=am_ ((zj3 t x b).trans HBL2.out)
         generalize bRw t x b=Y at HR2i HYD HYL
         clear HR1 hj
         go_wp2
         clear c1 c2
         go_loopg [11] 5 (fun kq v11 w'=>∃ (y:Nat) (b:List Int),v11=.int .i64 y∧zal (y + kq=5)∧zal (iter (bS1 t x) kq y b=Y)∧zal (b.length=25)∧zal (Inv w NoB w' [blk g9 133 (uarr .u64 b),blk g1 133 (uarr .u64 t),blk g4 168 (uarr .u64 zce),blk g3 157 (uarr .u64 zdl),blk g2 133 (uarr .u64 z25)] (fun _=>True)))
         case atStart=>exact⟨0,b,rfl,⟨(by omega)⟩,HYD,HBL2,HI⟩
         case round=>
          clear HYD HBL2 HI b
          obtain⟨y,b,rfl,HJ2,HR3,HBL,HI⟩:=hrel
          cases gk with
          | zero=>
           have hj:=HJ2.out
           have c1:decide ((y:Int)<5)=false:=decide_eq_false (by omega)
           have c2:decide (y<5)=false:=decide_eq_false (by omega)
           have hi:b=Y:=HR3.out
           subst hi
           clear HR3 hj HJ2
           try go_wp2
           clear c1 c2
           go_roundg k2
           case measure=>omega
           case rel=>exact⟨x + 1,_,by have:=HJ1.out;rw [w64_ (by omega) (by omega)];rfl,⟨(by have:=HJ1.out;omega)⟩,HR2i,HBL,HI⟩
          | succ k3=>
           have hj:=HJ2.out
           have c1:decide ((y:Int)<5)=true:=decide_eq_true (by omega)
           have c2:decide (y<5)=true:=decide_eq_true (by omega)
           have hi:=HR3.out
           rw [zdp] at hi
           unfold bS1 at hi
           have hj5:y<5:=by omega
           have hx5:x<5:=by have:=HJ1.out;omega
           have hl:=HBL.out
           have hla:=HTL2.out
           have h1:wr.heap[g1]?=_:=HI.out.get 1 rfl
           have h4:wr.heap[g4]?=_:=HI.out.get 2 rfl
           generalize hp:x + 5 * y=p at hi
           generalize hd:y + 5 * ((2 * x + 3 * y) % 5)=d at hi
           obtain⟨f1,b1⟩:=ix2 hx5 hj5 hp
           obtain⟨f2,b2⟩:=ix1 hx5 hj5 hd
           have HL2:=am_ (show ∀ v,(b.set d v).length=25 from fun v=>by rw [List.length_set];exact hl)
           clear hp hd hj5 hx5 hj
           have hs0:=zb1 h1 (i:=p) (by rw [hla];exact b1)
           have hs1:wr.cell? ⟨g4,p,none⟩=some (.int .u64 (zce.getD p 0)):=zb1 h4 (i:=p) b1
           have HSH:=am_ (sh b1)
           have hsd:=zb1 HI.out.blk0 (i:=d) (by rw [hl];exact b2)
           have hfs:=zab HI.out.blk0 d
           clear h1 h4 HR3 hl hla HBL
           generalize t.getD p 0=A at hs0 hi
           generalize zce.getD p 0=D at hs1 hi HSH
           have HR4:=am_ hi
           clear hi
           have e1:=lt25 b1
           have e2:=lt25 b2
           replace b1:=eq_true b1
           replace b2:=eq_true b2
           go_wp2
           refine zcb (n:=24) (S:=fun w'=>w'.cell? ⟨g1,p,none⟩=some (.int .u64 A)∧w'.cell? ⟨g4,p,none⟩=some (.int .u64 D)) (ds:=[23]) (bs_ 24 0) (by kernel_rfl) rfl rfl ⟨hs0,hs1⟩ (fun hHeld=>?_)
           refine pu_ 0 80 (bs_ 24 1) ?_
           refine pu_ 1 81 (bs_ 24 3) ?_
           refine pu_ 2 82 (bs_ 24 7) ?_
           refine pu_ 3 83 (bs_ 24 15) ?_
           refine pu_ 4 84 (bs_ 24 31) ?_
           refine pu_ 5 85 (bs_ 24 63) ?_
           refine pu_ 6 86 (bs_ 24 127) ?_
           refine pu_ 7 87 (bs_ 24 255) ?_
           refine pu_ 8 88 (bs_ 24 511) ?_
           refine pu_ 9 89 (bs_ 24 1023) ?_
           refine pu_ 10 90 (bs_ 24 2047) ?_
           refine pu_ 11 91 (bs_ 24 4095) ?_
           refine pu_ 12 92 (bs_ 24 8191) ?_
           refine pu_ 13 93 (bs_ 24 16383) ?_
           refine take_ (i:=14) (N:=some 94) (v:=?_) (a':=?_) (bs_ 24 32767) rfl rfl (by kernel_rfl) (fun _ _ _ h=>h) (Or.inl ⟨(by rfl),?_⟩) hHeld ?_ ?_
           rotate_left
           ·
            rintro w' ⟨s0,s1⟩
            go_simp
            with_reducible rfl
           rotate_left
           ·
            exact ap_
           refine pu_ 15 95 (bs_ 24 65535) ?_
           refine pu_ 16 96 (bs_ 24 131071) ?_
           refine pu_ 17 97 (bs_ 24 262143) ?_
           refine pu_ 18 98 (bs_ 24 524287) ?_
           refine pu_ 19 99 (bs_ 24 1048575) ?_
           refine take_ (i:=20) (N:=some 100) (v:=?_) (a':=?_) (bs_ 24 2097151) rfl rfl (by kernel_rfl) (fun _ _ _ h=>h) (Or.inl ⟨(by rfl),?_⟩) hHeld ?_ ?_
           rotate_left
           ·
            rintro w' ⟨s0,s1⟩
            go_simp
            with_reducible rfl
           rotate_left
           ·
            exact ap_
           refine one_ (i:=21) (N:=some 101) (bs_ 24 4194303) rfl rfl (by kernel_rfl) (by decide) (fun K hK=>?_)
           refine goes_ Try.func162 (by kernel_rfl) rfl #[.int .u64 A,.int .u64 D] (by rfl) rfl rfl qz3_ ?_
           with_reducible refine(zdt.calls A D (turn A D) _ (zos HSH.out.1 HSH.out.2)).mono ?_
           rintro e w12 ⟨rfl,⟨m1,rfl⟩⟩
           refine⟨_,rfl,?_⟩
           refine hK.out _ _ ⟨hs0,hs1⟩ (fun hHeld=>?_)
           clear hK K
           refine norm_ (a':=?_) ?_ ?_
           rotate_left
           ·
            show Act.put _ (some 101) _=_
            exact ap_
           refine pu_ 22 102 (bs_ 24 8388607) ?_
           refine last_ (i:=23) (N:=none) (bs_ 24 16777215) rfl rfl (by kernel_rfl) (by decide) (fun K hK=>?_)
           refine skip_ (w1:=?_) (by rfl) rfl ?_ ?_
           rotate_left
           ·
            go_simp
            rfl
           refine hK.out _ _ ?_
           clear hK K
           refine done_ (by kernel_rfl) ?_
           clear f1 f2 e1 e2 b1 b2
           have HI2:=am_ (fun n=>by have h:=(HI.out.drewN n).set0 d (.int .u64 (turn A D));rw [zfr] at h;exact h)
           clear HI hs0 hs1 hsd hfs
           try go_wp2
           go_roundg k3
           case measure=>omega
           case rel=>exact⟨y + 1,_,by have:=HJ2.out;rw [w64_ (by omega) (by omega)];rfl,⟨(by have:=HJ2.out;omega)⟩,HR4,⟨HL2.out _⟩,⟨(by(with_reducible repeat(first|refine Inv.drewN ?_ _|refine Inv.drew ?_));exact HI2.out _)⟩⟩
      | succ k2=>
       have hj:=HJ1.out
       have c1:decide ((i:Int)<25)=true:=decide_eq_true (by omega)
       have c2:decide (i<25)=true:=decide_eq_true (by omega)
       have hi:=HR1.out
       rw [zdp] at hi
       unfold tS at hi
       have hi25:i<25:=by omega
       have hl:=HAL.out
       have hcl:=HCL.out
       have h6:wr.heap[g6]?=_:=HI.out.get 1 rfl
       have f3:=mv3' hi25
       generalize hp:(i + 4) % 5=p at hi
       have f2:=mv2' hi25 hp
       have hp5:=mv5 hp
       clear hp
       generalize hq:(i + 1) % 5=q at hi
       have f4:=mv4' hi25 hq
       have hq5:=mv5 hq
       clear hq
       have HL2:=am_ (show ∀ v,(t.set i v).length=25 from fun v=>by rw [List.length_set];exact hl)
       have hs0:=zb1 HI.out.blk0 (i:=i) (by omega)
       have hfs:=zab HI.out.blk0 i
       have hs1:=zb1 h6 (i:=p) (by omega)
       have hs2:=zb1 h6 (i:=q) (by omega)
       clear h6 HR1 hj hl hcl HAL
       have f1:=mv1' hi25
       have ci:((i:Int)<25)=True:=eq_true (by omega)
       have cn:(i<25)=True:=eq_true hi25
       have pp:=lt5 hp5
       have pq:=lt5 hq5
       have pn:=eq_true hp5
       have qn:=eq_true hq5
       generalize t.getD i 0=A at hs0 hi
       generalize c.getD p 0=U at hs1 hi
       generalize c.getD q 0=V at hs2 hi
       have HR3:=am_ hi
       clear hi hi25 hp5 hq5
       go_wp2
       refine zcb (n:=18) (S:=fun w'=>w'.cell? ⟨g1,i,none⟩=some (.int .u64 A)∧w'.cell? ⟨g6,p,none⟩=some (.int .u64 U)∧w'.cell? ⟨g6,q,none⟩=some (.int .u64 V)) (ds:=[17]) (bs_ 18 0) (by kernel_rfl) rfl rfl ⟨hs0,hs1,hs2⟩ (fun hHeld=>?_)
       refine pu_ 0 54 (bs_ 18 1) ?_
       refine pu_ 1 55 (bs_ 18 3) ?_
       refine take_ (i:=2) (N:=some 56) (v:=?_) (a':=?_) (bs_ 18 7) rfl rfl (by kernel_rfl) (fun _ _ _ h=>h) (Or.inl ⟨(by rfl),?_⟩) hHeld ?_ ?_
       rotate_left
       ·
        rintro w' ⟨s0,s1,s2⟩
        go_simp
        with_reducible rfl
       rotate_left
       ·
        exact ap_
       refine pu_ 3 57 (bs_ 18 15) ?_
       refine pu_ 4 58 (bs_ 18 31) ?_
       refine pu_ 5 59 (bs_ 18 63) ?_
       refine pu_ 6 60 (bs_ 18 127) ?_
       refine take_ (i:=7) (N:=some 61) (v:=?_) (a':=?_) (bs_ 18 255) rfl rfl (by kernel_rfl) (fun _ _ _ h=>h) (Or.inl ⟨(by rfl),?_⟩) hHeld ?_ ?_
       rotate_left
       ·
        rintro w' ⟨s0,s1,s2⟩
        go_simp
        with_reducible rfl
       rotate_left
       ·
        exact ap_
       refine pu_ 8 62 (bs_ 18 511) ?_
       refine pu_ 9 63 (bs_ 18 1023) ?_
       refine pu_ 10 64 (bs_ 18 2047) ?_
       refine pu_ 11 65 (bs_ 18 4095) ?_
       refine take_ (i:=12) (N:=some 66) (v:=?_) (a':=?_) (bs_ 18 8191) rfl rfl (by kernel_rfl) (fun _ _ _ h=>h) (Or.inl ⟨(by rfl),?_⟩) hHeld ?_ ?_
       rotate_left
       ·
        rintro w' ⟨s0,s1,s2⟩
        go_simp
        with_reducible rfl
       rotate_left
       ·
        exact ap_
       refine one_ (i:=13) (N:=some 67) (bs_ 18 16383) rfl rfl (by kernel_rfl) (by decide) (fun K hK=>?_)
       refine goes_ Try.func162 (by kernel_rfl) rfl #[.int .u64 V,.int .u64 1] (by rfl) rfl rfl qz3_ ?_
       with_reducible refine(zdt.calls V 1 (turn V 1) _ (zos (by decide) (by decide))).mono ?_
       rintro e w12 ⟨rfl,⟨m1,rfl⟩⟩
       refine⟨_,rfl,?_⟩
       refine hK.out _ _ ⟨hs0,hs1,hs2⟩ (fun hHeld=>?_)
       clear hK K
       refine norm_ (a':=?_) ?_ ?_
       rotate_left
       ·
        show Act.put _ (some 67) _=_
        exact ap_
       refine pu_ 14 68 (bs_ 18 32767) ?_
       refine pu_ 15 69 (bs_ 18 65535) ?_
       refine pu_ 16 70 (bs_ 18 131071) ?_
       refine last_ (i:=17) (N:=none) (bs_ 18 262143) rfl rfl (by kernel_rfl) (by decide) (fun K hK=>?_)
       refine skip_ (w1:=?_) (by rfl) rfl ?_ ?_
       rotate_left
       ·
        go_simp
        rfl
       refine hK.out _ _ ?_
       clear hK K
       refine done_ (by kernel_rfl) ?_
       clear f1 f2 f3 f4 pp pq pn qn
       have HI2:=am_ (fun n=>by have h:=(HI.out.drewN n).set0 i (.int .u64 (xr A (xr U (turn V 1))));rw [zfr] at h;exact h)
       clear HI hs0 hs1 hs2 hfs
       try go_wp2
       go_roundg k2
       case measure=>omega
       case rel=>exact⟨i + 1,_,by have:=HJ1.out;rw [w64_ (by omega) (by omega)];rfl,⟨(by have:=HJ1.out;omega)⟩,HR3,⟨HL2.out _⟩,⟨(by(with_reducible repeat(first|refine Inv.drewN ?_ _|refine Inv.drew ?_));exact HI2.out _)⟩⟩
    | succ k2=>
     have hj:=HJ1.out
     have c1:decide ((i:Int)<5)=true:=decide_eq_true (by omega)
     have c2:decide (i<5)=true:=decide_eq_true (by omega)
     have hi:=HR1.out
     rw [zdp] at hi
     unfold cS at hi
     have hi5:i<5:=by omega
     have hl:=HL.out
     have hl1:=HL1.out
     have h1:wr.heap[g1]?=_:=HI.out.get 1 rfl
     have HL2:=am_ (show ∀ v,(c.set i v).length=5 from fun v=>by rw [List.length_set];exact hl1)
     have hs0:=zb1 h1 (i:=i) (by omega)
     have hs1:=zb1 h1 (i:=i + 5) (by omega)
     have hs2:=zb1 h1 (i:=i + 10) (by omega)
     have hs3:=zb1 h1 (i:=i + 15) (by omega)
     have hs4:=zb1 h1 (i:=i + 20) (by omega)
     have hs6:=zb1 HI.out.blk0 (i:=i) (by omega)
     have hfs:=zab HI.out.blk0 i
     clear h1 HR1 hj hl hl1
     have ci:((i:Int)<5)=True:=eq_true (by omega)
     have cn:(i<5)=True:=eq_true (by omega)
     have di:((i:Int)<25)=True:=eq_true (by omega)
     have dn:(i<25)=True:=eq_true (by omega)
     have f1:=wr_ (n:=(i:Int) + 5) (p:=i + 5) (by omega) (by omega)
     have f2:=wr_ (n:=(i:Int) + 10) (p:=i + 10) (by omega) (by omega)
     have f3:=wr_ (n:=(i:Int) + 15) (p:=i + 15) (by omega) (by omega)
     have f4:=wr_ (n:=(i:Int) + 20) (p:=i + 20) (by omega) (by omega)
     have b1:i + 5<25:=by omega
     have b2:i + 10<25:=by omega
     have b3:i + 15<25:=by omega
     have b4:i + 20<25:=by omega
     generalize a.getD i 0=A0 at hs0 hi
     generalize a.getD (i + 5) 0=A1 at hs1 hi
     generalize a.getD (i + 10) 0=A2 at hs2 hi
     generalize a.getD (i + 15) 0=A3 at hs3 hi
     generalize a.getD (i + 20) 0=A4 at hs4 hi
     have HR3:=am_ hi
     clear hi hi5
     generalize i + 5=p1 at f1 b1 hs1
     generalize i + 10=p2 at f2 b2 hs2
     generalize i + 15=p3 at f3 b3 hs3
     generalize i + 20=p4 at f4 b4 hs4
     have e1:=lt25 b1
     have e2:=lt25 b2
     have e3:=lt25 b3
     have e4:=lt25 b4
     replace b1:=eq_true b1
     replace b2:=eq_true b2
     replace b3:=eq_true b3
     replace b4:=eq_true b4
     go_wp2
     refine zcb (n:=26) (S:=fun w'=>w'.cell? ⟨g1,i,none⟩=some (.int .u64 A0)∧w'.cell? ⟨g1,p1,none⟩=some (.int .u64 A1)∧w'.cell? ⟨g1,p2,none⟩=some (.int .u64 A2)∧w'.cell? ⟨g1,p3,none⟩=some (.int .u64 A3)∧w'.cell? ⟨g1,p4,none⟩=some (.int .u64 A4)) (ds:=[25]) (bs_ 26 0) (by kernel_rfl) rfl rfl ⟨hs0,hs1,hs2,hs3,hs4⟩ (fun hHeld=>?_)
     refine pu_ 0 25 (bs_ 26 1) ?_
     refine pu_ 1 26 (bs_ 26 3) ?_
     refine pu_ 2 27 (bs_ 26 7) ?_
     refine take_ (i:=3) (N:=some 28) (v:=?_) (a':=?_) (bs_ 26 15) rfl rfl (by kernel_rfl) (fun _ _ _ h=>h) (Or.inl ⟨(by rfl),?_⟩) hHeld ?_ ?_
     rotate_left
     ·
      rintro w' ⟨s0,s1,s2,s3,s4⟩
      go_simp
      with_reducible rfl
     rotate_left
     ·
      exact ap_
     refine pu_ 4 29 (bs_ 26 31) ?_
     refine pu_ 5 30 (bs_ 26 63) ?_
     refine pu_ 6 31 (bs_ 26 127) ?_
     refine take_ (i:=7) (N:=some 32) (v:=?_) (a':=?_) (bs_ 26 255) rfl rfl (by kernel_rfl) (fun _ _ _ h=>h) (Or.inl ⟨(by rfl),?_⟩) hHeld ?_ ?_
     rotate_left
     ·
      rintro w' ⟨s0,s1,s2,s3,s4⟩
      go_simp
      with_reducible rfl
     rotate_left
     ·
      exact ap_
     refine pu_ 8 33 (bs_ 26 511) ?_
     refine pu_ 9 34 (bs_ 26 1023) ?_
     refine pu_ 10 35 (bs_ 26 2047) ?_
     refine pu_ 11 36 (bs_ 26 4095) ?_
     refine take_ (i:=12) (N:=some 37) (v:=?_) (a':=?_) (bs_ 26 8191) rfl rfl (by kernel_rfl) (fun _ _ _ h=>h) (Or.inl ⟨(by rfl),?_⟩) hHeld ?_ ?_
     rotate_left
     ·
      rintro w' ⟨s0,s1,s2,s3,s4⟩
      go_simp
      with_reducible rfl
     rotate_left
     ·
      exact ap_
     refine pu_ 13 38 (bs_ 26 16383) ?_
     refine pu_ 14 39 (bs_ 26 32767) ?_
     refine pu_ 15 40 (bs_ 26 65535) ?_
     refine pu_ 16 41 (bs_ 26 131071) ?_
     refine take_ (i:=17) (N:=some 42) (v:=?_) (a':=?_) (bs_ 26 262143) rfl rfl (by kernel_rfl) (fun _ _ _ h=>h) (Or.inl ⟨(by rfl),?_⟩) hHeld ?_ ?_
     rotate_left
     ·
      rintro w' ⟨s0,s1,s2,s3,s4⟩
      go_simp
      with_reducible rfl
     rotate_left
     ·
      exact ap_
     refine pu_ 18 43 (bs_ 26 524287) ?_
     refine pu_ 19 44 (bs_ 26 1048575) ?_
     refine pu_ 20 45 (bs_ 26 2097151) ?_
     refine pu_ 21 46 (bs_ 26 4194303) ?_
     refine take_ (i:=22) (N:=some 47) (v:=?_) (a':=?_) (bs_ 26 8388607) rfl rfl (by kernel_rfl) (fun _ _ _ h=>h) (Or.inl ⟨(by rfl),?_⟩) hHeld ?_ ?_
     rotate_left
     ·
      rintro w' ⟨s0,s1,s2,s3,s4⟩
      go_simp
      with_reducible rfl
     rotate_left
     ·
      exact ap_
     refine pu_ 23 48 (bs_ 26 16777215) ?_
     refine pu_ 24 49 (bs_ 26 33554431) ?_
     refine last_ (i:=25) (N:=none) (bs_ 26 67108863) rfl rfl (by kernel_rfl) (by decide) (fun K hK=>?_)
     refine skip_ (w1:=?_) (by rfl) rfl ?_ ?_
     rotate_left
     ·
      go_simp
      rfl
     refine hK.out _ _ ?_
     clear hK K
     refine done_ (by kernel_rfl) ?_
     clear f1 f2 f3 f4 e1 e2 e3 e4 b1 b2 b3 b4
     have HI2:=am_ ((HI.out.set0 i (.int .u64 (xr (xr (xr (xr A0 A1) A2) A3) A4))).drew)
     rw [zfr] at HI2
     clear HI hs0 hs1 hs2 hs3 hs4 hs6 hfs
     try go_wp2
     go_roundg k2
     case measure=>omega
     case rel=>exact⟨i + 1,_,by have:=HJ1.out;rw [w64_ (by omega) (by omega)];rfl,⟨(by have:=HJ1.out;omega)⟩,HR3,⟨HL2.out _⟩,HI2⟩
end Go.Proofs.Ytgookagndlfehaa.PT
end
section
/- l03Hash: the reference's hash of a text. -/
namespace Go.Proofs.Ytgookagndlfehaa.PT
open Go.RowKit Go.Proofs.YtgookagndlfehaaW.PrintWords Go.Proofs.YtgookagndlfehaaW.PrintLast Go.Proofs.YtgookagndlfehaaW.PrintMore
set_option linter.unusedVariables false
set_option linter.unusedSimpArgs false
def zfu:Nat→List Int→List Int→List Int
 | 0,_,s=>s
 | k + 1,ys,s=>zfu k (ys.drop 136) (permS (xors (zdf (ys.take 136)) s))
def kecS (xs:List Int):ByteArray:=strOfNums ((text_ (zfu ((padded xs).length / 136) (mark (padded xs)) z25)).take 32)
def Byt (xs:List Int):Prop:=∀ x,x∈xs→0≤x∧x<256
theorem nums_byt (t:ByteArray):Byt (nums_ t):=by
 intro x hx
 unfold nums_ at hx
 obtain⟨b,_,rfl⟩:=List.mem_map.1 hx
 have:=b.toNat_lt
 omega
theorem zib {xs:List Int} (h:Byt xs):nums_ (strOfNums xs)=xs:=by
 unfold nums_
 rw [strOfNums_data,List.map_map]
 refine(List.map_congr_left (fun x hx=>?_)).trans (List.map_id xs)
 obtain⟨h0,h1⟩:=h x hx
 simp only [Function.comp,id]
 rw [UInt8.toNat_ofNat']
 omega
theorem zob:∀ b:Fin 256,0≤Go.bits .or .u8 (b.val:Int) 128∧Go.bits .or .u8 (b.val:Int) 128<256:=by decide +kernel
theorem znx {xs:List Int} (h:Byt xs):Byt (padded xs):=by
 intro x hx
 unfold padded at hx
 rcases List.mem_append.1 hx with hx|hx
 ·
  rcases List.mem_append.1 hx with hx|hx
  ·
   exact h x hx
  ·
   simp at hx;omega
 ·
  have:=(List.mem_replicate.1 hx).2;omega
theorem mark_byt {ys:List Int} (h:Byt ys) (hn:0<ys.length):Byt (mark ys):=by
 intro x hx
 unfold mark at hx
 rcases List.mem_or_eq_of_mem_set hx with hx|hx
 ·
  exact h x hx
 ·
  have h2:=h (rdOf 0 ys ((ys.length - 1:Nat):Int)) (by unfold rdOf;simp [List.getD,show ys.length - 1<ys.length by omega])
  have h3:=zob ⟨(rdOf 0 ys ((ys.length - 1:Nat):Int)).toNat,(by omega)⟩
  simp only [Int.toNat_of_nonneg h2.1] at h3
  rw [hx]
  exact h3
theorem byt_mid {xs:List Int} (h:Byt xs) (a b:Nat):Byt ((xs.take b).drop a):=fun x hx=>h x (List.mem_of_mem_take (List.mem_of_mem_drop hx))
theorem zmn (ys:List Int):(mark ys).length=ys.length:=by unfold mark;rw [List.length_set]
theorem zcm.zpc (t:ByteArray) (w:World) (ht:t.size≤2000000) :
  Calls Try.prog 92 #[.string t] w fun e w'=>e=.returned (.string (kecS (nums_ t)))∧Below w.heap.size w w':=by
 have HLEN:=am_ (show (nums_ t).length≤2000000 by rw [nums_length];exact ht)
 have hu133:=Try.underlying133
 have HKS:=am_ (show strOfNums ((text_ (zfu ((padded (nums_ t)).length / 136) (mark (padded (nums_ t))) z25)).take 32)=kecS (nums_ t) from rfl)
 generalize kecS (nums_ t)=ks at HKS ⊢
 have HBY:=am_ (nums_byt t)
 obtain⟨i5,hi5,_,hsz5,_⟩:=info_parts info5
 have HI5:=am_ hi5
 have HZ5:=am_ hsz5
 have HRT:=am_ (RowT.bytes w t ht)
 have hcv:=Go.Lib.run_convert_string_bytes w 9 22 5 t Try.underlying9 Try.underlying22 Try.underlying5
 have HBW:=am_ (zf7 w t)
 generalize Go.Lib.bytesWorld w 5 t=wb at HRT hcv HBW
 have HI:=am_ ((Inv.start w (fun _=>True) (fun _ _=>trivial)).pushT HBW.out HRT.out)
 generalize nums_ t=xs at HLEN HKS HBY HRT HI
 generalize Value.slice (some ⟨w.heap.size,0,none⟩) t.size (grownCap w t.size 0 5)=vb at HRT hcv HI
 clear hi5 hsz5 ht HRT HBW
 go_enter Try.func92,Try.ntmps92
 go_wp2_with (first|((with_reducible refine zdc (b:=.append) (xs:=#[.tmp 9,.tmp 10]) rfl ?_);at_builtin;refine zj0 (base:=w.heap.size) rfl (.tmp 9) (.tmp 10) rfl _ _ (1) rfl rfl (Inv.rowT0 HI.out) ?aL HI.out.agr.size ?_;(case aL=>have:=HLEN.out;omega);intro v11 w11 hR hg hat;replace HI:=am_ (HI.out.stepT hg hR hat);clear hR hg hat))
 clear hcv
 generalize hpd:padded xs=pd at HKS
 have HPD:=am_ hpd
 have HM:=am_ (show pd.length % 136=0∧pd.length≤4000200∧1≤pd.length by rw [←hpd];exact⟨(zf4 (by have:=HLEN.out;omega)).1,(zf4 (by have:=HLEN.out;omega)).2,(by unfold padded;simp;omega)⟩)
 have HPB:=am_ (show Byt pd by rw [←hpd];exact znx HBY.out)
 unfold padded at hpd
 have HP0:=am_ hpd
 clear hpd
 go_loopg [3] (padN (xs.length + 1)) (fun kq v3 w'=>∃ (o:List Int),zal (o++List.replicate kq 0=pd)∧zal (kq<136)∧zal (Inv w NoB w' [rowT w.heap.size v3 o] (fun _=>True)))
 case atStart=>exact⟨xs++[1],HP0,⟨Nat.mod_lt _ (by decide)⟩,HI⟩
 case round=>
  clear HI HP0
  obtain⟨o,HR,HQ,HI⟩:=hrel
  have hle:=congrArg List.length HR.out
  rw [List.length_append,List.length_replicate] at hle
  have hm:=HM.out
  have hq:=HQ.out
  cases gk with
  | zero=>
   have hi:o=pd:=by have h:=HR.out;rw [List.replicate_zero,List.append_nil] at h;exact h
   subst hi
   obtain⟨hm1,hm2,hm3⟩:=hm
   have m2:(o.length:Int) % 136=0:=by omega
   obtain⟨go,co,cur,fz,rfl,_,_,_,hco,_⟩:=id HI.out.rowT0
   obtain⟨n1,hn1⟩:∃ n1:Nat,o.length - 1=n1:=⟨_,rfl⟩
   have e10:wrap64 ((o.length:Int) - 1)=(n1:Int):=by unfold wrap64;omega
   have q10:((n1:Int)<(o.length:Int))=True:=eq_true (by omega)
   have q10n:(n1<o.length)=True:=eq_true (by omega)
   obtain⟨hx10,hf10⟩:=HI.out.rowT0.cell (g:=go) rfl (j:=n1) (by omega)
   have hmk:mark o=o.set n1 (Go.bits .or .u8 (o.getD n1 0) 128):=by unfold mark rdOf;rw [hn1,Int.toNat_natCast]
   have HML:=am_ (zmn o)
   have HMB:=am_ (mark_byt HPB.out (show 0<o.length by omega))
   have HI2:=am_ (Inv.freeze (HI.out.stepT (w1:=wr.setCell ⟨go,n1,none⟩ (.int .u8 (Go.bits .or .u8 (o.getD n1 0) 128))) ⟨rfl,rfl,rfl,by simp [World.setCell],fun k _ hne=>Below.heap_setCell wr ⟨go,n1,none⟩ _ k (fun he=>hne (by simp [Value.ownBlock,he]))⟩ (HI.out.rowT0.set (g:=go) rfl (i:=n1) (by omega) _) (.inl rfl)))
   rw [←hmk] at HI2
   generalize mark o=mk at HKS HML HMB HI2
   generalize o.getD n1 0=b at hx10 HI2
   have HI3:=am_ (HI2.out.weaken (G:=fun w'=>(Kd.int .u8).C w' (some ⟨go,0,none⟩) mk.length mk∧True) (fun w' h=>by obtain⟨A,c,e,_,hC⟩:=RowT.reads h.1;injection e with e1 e2 e3;rw [e1];exact⟨hC,trivial⟩))
   have HCC:=am_ (show mk.length≤co by rw [HML.out];exact hco)
   have HOL:=am_ (show o.length % 136=0∧o.length≤4000200 from⟨hm1,hm2⟩)
   clear HR HQ hle hm1 hm2 hm3 hq hmk HI HI2 hn1 hco
   have HI:=HI3
   clear HI3
   go_wp2_with (first|((with_reducible refine zaq (t:=5) (p:=26) (v:=.tmp 25) rfl ?_);(refine ze7 (t:=5) (p:=26) (v:=.tmp 25) (w1:=wr.setCell ⟨go,n1,none⟩ (.int .u8 (Go.bits .or .u8 b 128))) rfl rfl rfl ?hr ?_);(case hr=>first|(go_simp;done)|(go_simp;rfl));(intro w13 hw);rw [←hw] at HI;clear hw)|((with_reducible refine zad (N:=4) rfl ?_);refine zae rfl (N:=4) rfl (cs:=uarr .u64 z25) (t:=133) bx_ ?_;intro g4 hg w14 hbox hb;replace HI:=am_ ((HI.out).box hg hbox hb);clear hb hbox hg)|((with_reducible refine zaq (p:=4) (v:=.tmp 27) (t:=133) rfl ?_);go_must (refine wpList_store_row rfl 133 _ _ rfl g4 (uarr .u64 z25) rfl qz0_ 133 (uarr .u64 z25) (Inv.blk0 (HI.out)) (by kernel_rfl) (by rfl) (zdq _ _) ?_;replace HI:=am_ (Inv.put0 (HI.out) (uarr .u64 z25));generalize World.setRow _ g4 (uarr .u64 z25)=w15 at HI ⊢)))
   clear m2 e10 q10 q10n hx10 hf10
   rw [←HML.out] at HKS HOL
   generalize hA:(some ⟨go,0,none⟩:Option Addr)=A at HI ⊢
   clear hA
   rw [←HML.out]
   have HTT:=am_ (show zfu (mk.length / 136) (mk.drop 0) z25=zfu (mk.length / 136) mk z25 from rfl)
   generalize zfu (mk.length / 136) mk z25=tt at HKS HTT
   go_loopg [5] (mk.length / 136) (fun kq v5 w'=>∃ (q:Nat) (s:List Int),v5=.int .i64 q∧zal (q + 136 * kq=mk.length)∧zal (zfu kq (mk.drop q) s=tt)∧zal (s.length=25)∧zal (Inv w NoB w' [blk g4 133 (uarr .u64 s)] (fun w=>(Kd.int .u8).C w A mk.length mk∧True)))
   case atStart=>exact⟨0,z25,rfl,⟨(by have:=HOL.out;omega)⟩,HTT,⟨rfl⟩,HI⟩
   case round=>
    clear HI HTT
    obtain⟨q,s,rfl,HJ,HR,HSL,HI⟩:=hrel
    have hj:=HJ.out
    cases gk with
    | zero=>
     have c1:decide ((q:Int)<(mk.length:Int))=false:=decide_eq_false (by omega)
     have c2:decide (q<mk.length)=false:=decide_eq_false (by omega)
     have hi:s=tt:=HR.out
     subst hi
     have hl:=HSL.out
     clear HR hj
     go_wp2_with (first|((with_reducible refine zad (N:=55) rfl ?_);go_must (refine wpList_load_row rfl 133 _ rfl g4 rfl 133 (uarr .u64 s) (0,0) _ (HI.out.blk0) hu133 rfl (by rw [zb8,hl];kernel_rfl) ?_))|(go_at_call 130;(refine(zlt.calls s 32 _ hl (by decide)).mono ?_);rintro e w56 ⟨rfl,hb⟩;replace HI:=am_ (HI.out.grow hb);clear hb))
     go_ret
     refine⟨?_,HI.out.below⟩
     rw [←HKS.out]
     rfl
    | succ k1=>
     have c1:decide ((q:Int)<(mk.length:Int))=true:=decide_eq_true (by omega)
     have c2:decide (q<mk.length)=true:=decide_eq_true (by omega)
     have hml:mk.length≤4000200:=HOL.out.2
     have e37:wrap64 ((q:Int) + 136)=(q:Int) + 136:=by unfold wrap64;omega
     obtain⟨A2,hcut,hC2,hc2⟩:=zhh (P:=Try.prog) (k:=.u8) 22 5 Try.underlying22 HI5.out HZ5.out A co mk (q:Int) ((q:Int) + 136) (by omega) (by omega) (by omega) HCC.out
     have hC3:=Kd.zfk (h1:=fun _=>rfl) (hC2 _ (Kd.zfl HI.out.now.1))
     have hmid:(mk.take ((q:Int) + 136).toNat).drop (q:Int).toNat=(mk.drop q).take 136:=by
      rw [show ((q:Int) + 136).toNat=q + 136 by omega,Int.toNat_natCast,List.drop_take]
      congr 1
      omega
     have hpl:((mk.drop q).take 136).length=136:=by rw [List.length_take,List.length_drop];omega
     rw [hmid] at hcut hC3
     have HPC:=am_ (zib (show Byt ((mk.drop q).take 136) from fun x hx=>HMB.out x (List.mem_of_mem_drop (List.mem_of_mem_take hx))))
     have hd2:(mk.drop q).drop 136=mk.drop (q + 136):=by rw [List.drop_drop]
     have HR2:=am_ (show zfu k1 (mk.drop (q + 136)) (permS (xors (zdf ((mk.drop q).take 136)) s))=tt by rw [←hd2];exact HR.out)
     generalize (mk.drop q).take 136=pc at hcut hC3 hpl HPC HR2
     have hcv:=fun c=>Kd.zm2 (P:=Try.prog) (src:=22) (dst:=9) (c:=c) Try.underlying22 Try.underlying5 Try.underlying9 hC3
     have HPS:=am_ (show (strOfNums pc).size≤200 by rw [strOfNums_size,hpl];decide)
     clear hC2 hc2 hC3 hmid hpl hd2 HR hj hml
     have hcv1:=hcv (co - q)
     clear hcv
     go_wp2_with (first|(go_at_call 128;(refine(zj8.calls (strOfNums pc) _ HPS.out).mono ?_);rintro e w40 ⟨rfl,hb⟩;replace HI:=am_ (HI.out.grow hb);clear hb)|((with_reducible refine zad (N:=6) rfl ?_);refine zae rfl (N:=6) rfl (cs:=uarr .u64 z25) (t:=133) bx_ ?_;intro g6 hg w41 hbox hb;replace HI:=am_ ((HI.out).box hg hbox hb);clear hb hbox hg)|((with_reducible refine zaq (p:=6) (v:=.tmp 40) (t:=133) rfl ?_);go_must (refine wpList_store_row rfl 133 _ _ rfl g6 (uarr .u64 (zdf (nums_ (strOfNums pc)))) rfl qz0_ 133 (uarr .u64 z25) (Inv.blk0 (HI.out)) (by rw [zb8,zcg];kernel_rfl) (by rw [zb8,zb8,zcg];rfl) (zdq _ _) ?_;replace HI:=am_ (Inv.put0 (HI.out) (uarr .u64 (zdf (nums_ (strOfNums pc)))));generalize World.setRow _ g6 (uarr .u64 (zdf (nums_ (strOfNums pc))))=w42 at HI ⊢)))
     clear hcut hcv1 e37 c1 c2
     rw [HPC.out] at HI ⊢
     have HLL:=am_ (zcg pc)
     generalize zdf pc=l at HI HR2 HLL ⊢
     have HXL:=am_ ((zhb l s).trans HSL.out)
     have HXD:=am_ (show iter (zg0 l) 25 0 s=xors l s from rfl)
     generalize xors l s=X at HR2 HXL HXD
     have HI2:=am_ HI.out.swap
     clear HI
     have HI:=HI2
     clear HI2
     go_loopg [7] 25 (fun kq v7 w'=>∃ (i:Nat) (s:List Int),v7=.int .i64 i∧zal (i + kq=25)∧zal (iter (zg0 l) kq i s=X)∧zal (s.length=25)∧zal (Inv w NoB w' [blk g4 133 (uarr .u64 s),blk g6 133 (uarr .u64 l)] (fun w=>(Kd.int .u8).C w A mk.length mk∧True)))
     case atStart=>exact⟨0,s,rfl,⟨(by omega)⟩,HXD,HSL,HI⟩
     case round=>
      clear HXD HSL HI s
      obtain⟨i,s,rfl,HJ1,HR1,HSL,HI⟩:=hrel
      cases gk with
      | zero=>
       have hj:=HJ1.out
       have c1:decide ((i:Int)<25)=false:=decide_eq_false (by omega)
       have c2:decide (i<25)=false:=decide_eq_false (by omega)
       have hi:s=X:=HR1.out
       subst hi
       have hl:=HSL.out
       have hpl:=zgf s
       rw [hl] at hpl
       clear HR1 hj HJ1
       go_wp2_with (first|((with_reducible refine zad (N:=53) rfl ?_);go_must (refine wpList_load_row rfl 133 _ rfl g4 rfl 133 (uarr .u64 s) (0,0) _ (HI.out.blk0) hu133 rfl (by rw [zb8,hl];kernel_rfl) ?_))|(go_at_call 129;(refine(ziw.calls s _ hl).mono ?_);rintro e w54 ⟨rfl,hb⟩;replace HI:=am_ (HI.out.grow hb);clear hb)|((with_reducible refine zaq (p:=4) (v:=.tmp 54) (t:=133) rfl ?_);go_must (refine wpList_store_row rfl 133 _ _ rfl g4 (uarr .u64 (permS s)) rfl qz0_ 133 (uarr .u64 s) (Inv.blk0 (HI.out)) (by rw [zb8,hpl];kernel_rfl) (by rw [zb8,zb8,hpl,hl]) (zdq _ _) ?_;replace HI:=am_ (Inv.put0 (HI.out) (uarr .u64 (permS s)));generalize World.setRow _ g4 (uarr .u64 (permS s))=w55 at HI ⊢)))
       clear c1 c2 hl
       have HI2:=am_ HI.out.swap.drop
       have e33:wrap64 ((q:Int) + 136)=(q:Int) + 136:=by have:=HJ.out;have:=HOL.out.2;unfold wrap64;omega
       try go_wp2
       go_roundg k1
       case measure=>omega
       case rel=>exact⟨q + 136,permS s,by first|rfl|(rw [e33];rfl)|go_num,⟨(by have:=HJ.out;omega)⟩,HR2,⟨hpl⟩,HI2⟩
      | succ k2=>
       have hj:=HJ1.out
       have c1:decide ((i:Int)<25)=true:=decide_eq_true (by omega)
       have c2:decide (i<25)=true:=decide_eq_true (by omega)
       have hi:=HR1.out
       rw [zdp] at hi
       unfold zg0 at hi
       have hl:=HSL.out
       have hll:=HLL.out
       have h6:wr.heap[g6]?=_:=HI.out.get 1 rfl
       have HL2:=am_ (show ∀ v,(s.set i v).length=25 from fun v=>by rw [List.length_set];exact hl)
       have hs0:=zb1 HI.out.blk0 (i:=i) (by omega)
       have hs1:=zb1 h6 (i:=i) (by omega)
       have hfs:=zab HI.out.blk0 i
       have ci:((i:Int)<25)=True:=eq_true (by omega)
       have cn:(i<25)=True:=eq_true (by omega)
       generalize s.getD i 0=A0 at hs0 hi
       generalize l.getD i 0=A1 at hs1 hi
       have HR3:=am_ hi
       clear hi hl hll h6 HR1 hj
       go_wp2
       refine zcb (n:=9) (S:=fun w'=>w'.cell? ⟨g4,i,none⟩=some (.int .u64 A0)∧w'.cell? ⟨g6,i,none⟩=some (.int .u64 A1)) (ds:=[8]) (bs_ 9 0) (by kernel_rfl) rfl rfl ⟨hs0,hs1⟩ (fun hHeld=>?_)
       refine pu_ 0 45 (bs_ 9 1) ?_
       refine pu_ 1 46 (bs_ 9 3) ?_
       refine take_ (i:=2) (N:=some 47) (v:=?_) (a':=?_) (bs_ 9 7) rfl rfl (by kernel_rfl) (fun _ _ _ h=>h) (Or.inl ⟨(by rfl),?_⟩) hHeld ?_ ?_
       rotate_left
       ·
        rintro w' ⟨s0,s1⟩
        go_simp
        with_reducible rfl
       rotate_left
       ·
        exact ap_
       refine pu_ 3 48 (bs_ 9 15) ?_
       refine pu_ 4 49 (bs_ 9 31) ?_
       refine take_ (i:=5) (N:=some 50) (v:=?_) (a':=?_) (bs_ 9 63) rfl rfl (by kernel_rfl) (fun _ _ _ h=>h) (Or.inl ⟨(by rfl),?_⟩) hHeld ?_ ?_
       rotate_left
       ·
        rintro w' ⟨s0,s1⟩
        go_simp
        with_reducible rfl
       rotate_left
       ·
        exact ap_
       refine pu_ 6 51 (bs_ 9 127) ?_
       refine pu_ 7 52 (bs_ 9 255) ?_
       refine last_ (i:=8) (N:=none) (bs_ 9 511) rfl rfl (by kernel_rfl) (by decide) (fun K hK=>?_)
       refine skip_ (w1:=?_) (by rfl) rfl ?_ ?_
       rotate_left
       ·
        go_simp
        rfl
       refine hK.out _ _ ?_
       clear hK K
       refine done_ (by kernel_rfl) ?_
       have HI2:=am_ (HI.out.set0 i (.int .u64 (xr A0 A1)))
       rw [zfr] at HI2
       clear HI hs0 hs1 hfs
       try go_wp2
       go_roundg k2
       case measure=>omega
       case rel=>exact⟨i + 1,_,by have:=HJ1.out;rw [w64_ (by omega) (by omega)];rfl,⟨(by have:=HJ1.out;omega)⟩,HR3,⟨HL2.out _⟩,⟨(by(with_reducible repeat(first|refine Inv.drewN ?_ _|refine Inv.drew ?_));exact HI2.out)⟩⟩
  | succ k1=>
   have m2:((o.length:Int) % 136 == 0)=false:=beq_eq_false_iff_ne.mpr (by omega)
   have m3:((o.length:Int) % 136 != 0)=true:=bne_iff_ne.mpr (by omega)
   have HR2:=am_ (show (o++[0])++List.replicate k1 0=pd by rw [←HR.out,List.append_assoc];congr 1)
   obtain⟨A3,c3,rfl,hc3,_⟩:=HI.out.rowT0.reads
   have HOL:=am_ (show o.length≤4000200 by omega)
   clear hle hm HR
   go_wp2_with (first|((with_reducible refine zdc (b:=.append) (xs:=#[.tmp 16,.tmp 17]) rfl ?_);at_builtin;refine zj0 (base:=w.heap.size) rfl (.tmp 16) (.tmp 17) rfl _ _ (0) rfl rfl (Inv.rowT0 HI.out) ?aL HI.out.agr.size ?_;(case aL=>have:=HOL.out;omega);intro v18 w18 hR hg hat;replace HI:=am_ (HI.out.stepT hg hR hat);clear hR hg hat))
   go_roundg k1
   case measure=>omega
   case rel=>exact⟨o++[0],HR2,⟨(by omega)⟩,HI⟩
end Go.Proofs.Ytgookagndlfehaa.PT
end
