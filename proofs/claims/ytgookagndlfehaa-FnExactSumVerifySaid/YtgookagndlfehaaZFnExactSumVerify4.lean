/- Part 4 of the proof of FnExactSumVerify: what functions compute, shown step by step, and what that says (the claim's last text states the law). -/
import Derived.Test.YtgookagndlfehaaProg
import Derived.Test.YtgookagndlfehaaVMore
import Derived.Test.YtgookagndlfehaaVWords
import Derived.Test.YtgookagndlfehaaVLast
import Derived.Test.YtgookagndlfehaaVTab
import Derived.Test.YtgookagndlfehaaVFour
import Derived.Test.YtgookagndlfehaaVQPut
import Derived.Test.YtgookagndlfehaaVApart
import Derived.Test.YtgookagndlfehaaVArr
import Derived.Test.YtgookagndlfehaaVZeros
import Derived.Test.YtgookagndlfehaaVFoot
import Derived.Test.YtgookagndlfehaaVKept
import Derived.Test.YtgookagndlfehaaVShare
import Derived.Test.YtgookagndlfehaaVN
import Derived.Test.YtgookagndlfehaaVFootNe
import Derived.Test.YtgookagndlfehaaVAt
import Derived.Test.YtgookagndlfehaaVRepsOne
import Derived.Test.YtgookagndlfehaaVInv
import Derived.Test.YtgookagndlfehaaVInvWords
import Derived.Test.YtgookagndlfehaaVGuard
import Derived.Test.YtgookagndlfehaaVNEv
import Derived.Test.YtgookagndlfehaaRows
import Derived.JoinedOf
import Derived.WalkKit
import Derived.ProofKit
import Derived.Below
import Derived.Deep.Draws
import Derived.Deep.AppendLies
import Derived.Maps.AppendAt
import Derived.OwnWalk
import Derived.Laws.BytesArg
import Derived.Laws.MakeOwn
import Derived.Laws.OwnMore
import Derived.Deep.OwnRows
import Derived.Tactics
import Derived.Lib.ConvBytes
import Derived.Laws.Slices
import Derived.KernelRfl
import Derived.RowKit3
import Derived.Deep.LoopGhost
import Derived.Deep.QuietTactic
import Derived.BigQuiet
import Derived.WideLaws
import Derived.Deep.DeepCutAuto
import Derived.Deep.CutBlock
import Derived.Deep.RegionHeld3
import Derived.Laws.Rows
import Derived.Lib.AppendStr
import Derived.ArgAppend
import Derived.Laws.IdiomCopy
import Derived.OrdersHeld
import Derived.Laws.BitsLemmas
import Derived.RowKit
import Derived.Deep.DeepMust
import Derived.Laws.CopyOwn
import Derived.Lib.BufferMore
import Derived.Lib.SliceRun
import Derived.OpenShut
import Derived.ShutString
import Derived.ChangeOld
import Derived.SizedLaws
import Derived.Deep.Slices
import Derived.ChangeArms
import Derived.Shelf.Small.Bits
import Derived.Shelf.Strconv.Itoa0
import Derived.Laws.Bits64b
import Derived.Test.YtgookagndlfehaaZFnExactSumVerify3
section
namespace Go.Proofs.Ytgookagndlfehaa.PT
open Go.RowKit Go.Proofs.YtgookagndlfehaaW.PrintWords Go.Proofs.YtgookagndlfehaaW.PrintLast Go.Proofs.YtgookagndlfehaaW.PrintMore
attribute [local go_sem] max2_int min2_int max_two min_two max_three min_three max_four min_four   -- for this text's walks alone
set_option linter.unusedVariables false
set_option linter.unusedSimpArgs false
open Go Go.RowKit
theorem rowR {α:Type} {d:Kd α} {e b:Nat} {v:Value} {xs:List α} {S:Nat→Prop} {W:World} (h:(row d e b v xs S).A W):d.R e W b S v xs:=h
theorem ownRow {α:Type} {d:Kd α} {e b:Nat} {v:Value} {xs:List α} {S P:Nat→Prop} {w0 w:World} {L:List Grp} {F:World→Prop} (h:Inv w0 P w(row d e b v xs S::L)F):∀ k,some k=v.ownBlock→(row d e b v xs S).S k:=fun k hk=>h.row0.1 k hk.symm
theorem gifA {c:Bool} {g:Grp} {W:World} (h:(gif c g).A W)(hc:c=true):g.A W:=h hc
theorem tagC {f:Nat→Nat} {W:World} {e b:Nat} {ok:Nat→Prop} {A:Option Addr} {n c:Nat} {L:List(List S34)} (h:(Kd.tag f(Kd.slice 34 k34)).R e W b ok(.slice A n c)L.zipIdx):Kd.C(Kd.slice 34 k34)W A L.length L∧L.length≤c:=by
 have h2:=Kd.R_reads'(Kd.S_R⟨f,h⟩)
 exact⟨h2.2.2,(by have:=h2.1;have:=h2.2.1;omega)⟩
theorem heldExtS_R(k:Nat){A:Option Addr} {n c e b:Nat} {ok:Nat→Prop} {l:List S34} (a r:Int)(w:World)(hR:Kd.R k34 e w b ok(.slice A n c)l)(h:laws_heldExtS.f k l a=some r):Calls Try.prog 37 #[.slice A n c,.int .i64 a] w fun e w'=>e=.returned(.int .i64 r)∧Drawn0 w w':=by
 obtain⟨rfl,hc,hC⟩:=Kd.R_reads' hR
 exact laws_heldExtS.calls k A c l a r w hC hc h
theorem heldSource_R(k:Nat){A:Option Addr} {n c e b:Nat} {ok:Nat→Prop} {l:List S34} (a1:Int)(a2:ByteArray)(a3 a r:Int)(w:World)(hR:Kd.R k34 e w b ok(.slice A n c)l)(h:laws_heldSource.f k l a1 a2 a3 a=some r):Calls Try.prog 38 #[.agg #[.slice A n c,.int .i64 a1,.string a2,.int .i64 a3],.int .i64 a] w fun e w'=>e=.returned(.int .i64 r)∧Below w.heap.size w w':=by
 obtain⟨rfl,hc,hC⟩:=Kd.R_reads' hR
 exact laws_heldSource.calls k A c l a1 a2 a3 a r w hC hc h
theorem ite_some {α:Type} {c:Prop} [Decidable c] {x:Option α} {r:α} (h:(if c then x else none)=some r):c∧x=some r:=by
 by_cases hc:c
 ·
  rw [if_pos hc] at h;exact⟨hc,h⟩
 ·
  rw [if_neg hc] at h;cases h
def laws_FnExactSumVerify.f(k:Nat)(kind d0 d1:Int)(l2:List(List S56))(vars:Int)(m0:List S56)(m1:Int)(m2:ByteArray)(m3:Int):Option Bool:=
 (laws_szExtSS.f k l2 1048576).bind fun t1=>if t1<0 then some true else(laws_szSource.f m0 m1 m2 m3 t1).bind fun t2=>if t2<0 then some true else
 (laws_toExt.f d0 d1).bind fun c=>(laws_toExtSS.f k l2).bind fun L=>(laws_toSource.f k m0 m1 m2 m3).bind fun q=>(spec_SumVerify.f k kind c.1 c.2 L vars q.1 q.2.1 q.2.2.1 q.2.2.2).bind fun x=>(impl_SumVerify.f k kind c.1 c.2 L vars q.1 q.2.1 q.2.2.1 q.2.2.2).bind fun g=>
 if laws_eqExtS.f k g.1 x.1=some true∧laws_eqExt.f g.2.1 g.2.2.1 x.2.1 x.2.2.1=some true∧laws_eqSource.f k g.2.2.2.1 g.2.2.2.2.1 g.2.2.2.2.2.1 g.2.2.2.2.2.2.1 x.2.2.2.1 x.2.2.2.2.1 x.2.2.2.2.2.1 x.2.2.2.2.2.2.1=some true∧g.2.2.2.2.2.2.2=x.2.2.2.2.2.2.2∧laws_eqExtSS.f k L L=some true∧laws_eqSource.f k q.1 q.2.1 q.2.2.1 q.2.2.2 q.1 q.2.1 q.2.2.1 q.2.2.2=some true then
  ((laws_markExtSS.f k L 1).bind fun n1=>(laws_markSource.f k q.1 q.2.1 q.2.2.1 q.2.2.2 n1).bind fun n2=>if n2.1<0 then none else(laws_markExtS.f k g.1 1).bind fun n3=>(laws_markSource.f k g.2.2.2.1 g.2.2.2.2.1 g.2.2.2.2.2.1 g.2.2.2.2.2.2.1 n3.1).bind fun n4=>(laws_heldExtS.f k n3.2 1).bind fun n5=>if n5<0 then none else(laws_heldSource.f k n4.2 g.2.2.2.2.1 g.2.2.2.2.2.1 g.2.2.2.2.2.2.1 n5).bind fun n6=>if n6<0 then none else if n6=n4.1 then some true else none)else none
def laws_FnExactSumVerify.T8:Bool × List(List Nat × List Nat):=(true,[([],[]),([],[]),([1],[1]),([],[]),([3,2],[3]),([],[]),([],[]),([6,4],[6]),([0,2,4,5,7,7],[0,2,4,5,7]),([8],[8]),([9],[9]),([9],[9]),([9],[9]),([9],[9]),([],[]),([],[]),([10,8,0,1,2,3,4,5,6,7,8,9,10,14,15],[10]),([14,11,16,0,1,2,3,4,5,6,7,8,9,10,11,14,15,16],[11,14]),([15,12,17,0,1,2,3,4,5,6,7,8,9,10,11,12,14,15,16,17],[12,15]),([13,18,0,1,2,3,4,5,6,7,8,9,10,11,12,13,14,15,16,17,18],[13])])
def laws_FnExactSumVerify.B8:List Nat:=[0,0,2,0,14,0,0,94,255,511,1023,1023,1023,1023,0,0,51199,118783,253951,524287]
theorem laws_FnExactSumVerify.tab8:rtab .any(opsOf Try.f6 8)=laws_FnExactSumVerify.T8:=by kernel_rfl
theorem laws_FnExactSumVerify.bits8:waitsOk laws_FnExactSumVerify.T8.2 laws_FnExactSumVerify.B8=true:=by kernel_rfl
def laws_FnExactSumVerify.T11:Bool × List(List Nat × List Nat):=(true,[([],[]),([],[]),([1],[1]),([],[]),([],[]),([],[]),([0,2,3,4,5,2],[0,2,3,4,5]),([6],[6]),([7],[7]),([7],[7]),([7],[7]),([7],[7]),([],[]),([],[]),([8,6,0,1,2,3,4,5,6,7,8,12,13],[8]),([12,9,14,0,1,2,3,4,5,6,7,8,9,12,13,14],[9,12]),([13,10,15,0,1,2,3,4,5,6,7,8,9,10,12,13,14,15],[10,13]),([11,16,0,1,2,3,4,5,6,7,8,9,10,11,12,13,14,15,16],[11])])
def laws_FnExactSumVerify.B11:List Nat:=[0,0,2,0,0,0,63,127,255,255,255,255,0,0,12799,29695,63487,131071]
theorem laws_FnExactSumVerify.tab11:rtab .any(opsOf Try.f6 11)=laws_FnExactSumVerify.T11:=by kernel_rfl
theorem laws_FnExactSumVerify.bits11:waitsOk laws_FnExactSumVerify.T11.2 laws_FnExactSumVerify.B11=true:=by kernel_rfl
def laws_FnExactSumVerify.T35:Bool × List(List Nat × List Nat):=(true,[([],[]),([],[]),([1],[1]),([],[]),([3,2],[3]),([],[]),([],[]),([6,4],[6]),([0,2,4,5,7,7],[0,2,4,5,7]),([8],[8]),([9],[9]),([9],[9]),([9],[9]),([9],[9]),([],[]),([],[]),([10,8,0,1,2,3,4,5,6,7,8,9,10,14,15],[10]),([14,11,16,0,1,2,3,4,5,6,7,8,9,10,11,14,15,16],[11,14]),([15,12,17,0,1,2,3,4,5,6,7,8,9,10,11,12,14,15,16,17],[12,15]),([13,18,0,1,2,3,4,5,6,7,8,9,10,11,12,13,14,15,16,17,18],[13])])
def laws_FnExactSumVerify.B35:List Nat:=[0,0,2,0,14,0,0,94,255,511,1023,1023,1023,1023,0,0,51199,118783,253951,524287]
theorem laws_FnExactSumVerify.tab35:rtab .any(opsOf Try.f6 35)=laws_FnExactSumVerify.T35:=by kernel_rfl
theorem laws_FnExactSumVerify.bits35:waitsOk laws_FnExactSumVerify.T35.2 laws_FnExactSumVerify.B35=true:=by kernel_rfl
set_option maxHeartbeats 4000000 in
set_option maxRecDepth 100000 in
theorem laws_FnExactSumVerify.calls(k:Nat)(kind d0 d1:Int)(A2:Option Addr)(c2:Nat)(l2:List(List S56))(vars:Int)(A4:Option Addr)(c4:Nat)(m0:List S56)(m1:Int)(m2:ByteArray)(m3:Int)(r:Bool)(w:World)(hr2:Kd.C(Kd.slice 56 k56)w A2 l2.length l2)(hc2:l2.length≤c2)(hr4:Kd.C k56 w A4 m0.length m0)(hc4:m0.length≤c4)(hr_:r=true)(h:laws_FnExactSumVerify.f k kind d0 d1 l2 vars m0 m1 m2 m3=some r):
  Calls Try.prog 6 #[.int .i64 kind,.agg #[.int .i64 d0,.int .i64 d1],.slice A2 l2.length c2,.int .i64 vars,.agg #[.slice A4 m0.length c4,.int .i64 m1,.string m2,.int .i64 m3]] w fun e w'=>e=.returned(.bool r)∧Below w.heap.size w w':=by
 subst hr_
 have hu34:=Try.underlying34
 have hu27:=Try.underlying27
 have hu56:=Try.underlying56
 have hu59:=Try.underlying59
 have HC2:=am_ hc2
 have HC4:=am_ hc4
 have HI:=am_(Inv.start w(fun w2=>Kd.C(Kd.slice 56 k56)w2 A2 l2.length l2∧Kd.C k56 w2 A4 m0.length m0)(fun w' hb=>⟨Kd.C_below hr2 hb,Kd.C_below hr4 hb⟩))
 clear hr2 hr4 hc2 hc4
 unfold laws_FnExactSumVerify.f at h
 replace h:=Option.bind_eq_some_iff.1 h
 obtain⟨t1,hz1_,h⟩:=h
 have HZ1:=am_ hz1_
 clear hz1_
 by_cases ct1:t1<0
 ·
  have f1_:decide(t1<0)=true:=decide_eq_true ct1
  clear ct1 h
  go_enter Try.func6,Try.ntmps6
  go_wp2_with(first|((with_reducible refine gate_dst(N:=6)rfl ?_);refine box_event rfl(N:=6)rfl(cs:=#[.int .i64 d0,.int .i64 d1])(t:=56)bx_ ?_;intro g6 hg w6_ hbox hb;replace HI:=am_((HI.out).box hg hbox hb);clear hb hbox hg)|((with_reducible refine gate_dst(N:=9)rfl ?_);refine box_event rfl(N:=9)rfl(cs:=#[.slice A4 m0.length c4,.int .i64 m1,.string m2,.int .i64 m3])(t:=59)bx_ ?_;intro g9 hg w9_ hbox hb;replace HI:=am_((HI.out).box hg hbox hb);clear hb hbox hg)|(go_at_call 24;(refine(laws_szExtSS.calls k A2 c2 l2 1048576 t1 _ HI.out.now.1 HC2.out HZ1.out).mono ?_);rintro e w31⟨rfl,⟨n31,rfl⟩⟩;replace HI:=am_(HI.out.drewN n31);generalize World.drewN _ n31=wn31 at HI ⊢))
  go_ret
  exact⟨rfl,HI.out.below⟩
 rw [if_neg ct1] at h
 have f1_:decide(t1<0)=false:=decide_eq_false ct1
 clear ct1
 replace h:=Option.bind_eq_some_iff.1 h
 obtain⟨t2,hz2_,h⟩:=h
 have HZ2:=am_ hz2_
 clear hz2_
 by_cases ct2:t2<0
 ·
  have f2_:decide(t2<0)=true:=decide_eq_true ct2
  clear ct2 h
  go_enter Try.func6,Try.ntmps6
  go_wp2_with(first|((with_reducible refine gate_dst(N:=6)rfl ?_);refine box_event rfl(N:=6)rfl(cs:=#[.int .i64 d0,.int .i64 d1])(t:=56)bx_ ?_;intro g6 hg w6_ hbox hb;replace HI:=am_((HI.out).box hg hbox hb);clear hb hbox hg)|((with_reducible refine gate_dst(N:=9)rfl ?_);refine box_event rfl(N:=9)rfl(cs:=#[.slice A4 m0.length c4,.int .i64 m1,.string m2,.int .i64 m3])(t:=59)bx_ ?_;intro g9 hg w9_ hbox hb;replace HI:=am_((HI.out).box hg hbox hb);clear hb hbox hg)|(go_at_call 24;(refine(laws_szExtSS.calls k A2 c2 l2 1048576 t1 _ HI.out.now.1 HC2.out HZ1.out).mono ?_);rintro e w31⟨rfl,⟨n31,rfl⟩⟩;replace HI:=am_(HI.out.drewN n31);generalize World.drewN _ n31=wn31 at HI ⊢)|((with_reducible refine gate_dst(N:=34)rfl ?_);go_must(refine wpList_load_row rfl 59 _ rfl g9 rfl 59(#[.slice A4 m0.length c4,.int .i64 m1,.string m2,.int .i64 m3])(0,0)_(HI.out.at_(blk g9 59 #[.slice A4 m0.length c4,.int .i64 m1,.string m2,.int .i64 m3])qz40_)hu59 rfl(by first|exact draw_side _ _|kernel_rfl) ?_))|(go_at_call 25;(refine(laws_szSource.calls A4 c4 m0 m1 m2 m3 t1 t2 _ HI.out.now.2 HC4.out HZ2.out).mono ?_);rintro e w36⟨rfl,hb⟩;replace HI:=am_(HI.out.grow hb);clear hb))
  go_ret
  exact⟨rfl,HI.out.below⟩
 rw [if_neg ct2] at h
 have f1b_:decide(t2<0)=false:=decide_eq_false ct2
 clear ct2
 replace h:=Option.bind_eq_some_iff.1 h
 obtain⟨⟨c0,c1⟩,hte_,h⟩:=h
 have HTE:=am_(show laws_toExt.f d0 d1=some(c0,c1)from hte_)
 clear hte_
 replace h:=Option.bind_eq_some_iff.1 h
 obtain⟨L,htl_,h⟩:=h
 have HTL:=am_ htl_
 clear htl_
 replace h:=Option.bind_eq_some_iff.1 h
 obtain⟨⟨q0,q1,q2,q3⟩,hts_,h⟩:=h
 have HTS:=am_(show laws_toSource.f k m0 m1 m2 m3=some(q0,q1,q2,q3)from hts_)
 clear hts_
 replace h:=Option.bind_eq_some_iff.1 h
 obtain⟨⟨x1,x2,x3,x4,x5,x6,x7,x8⟩,hsv_,h⟩:=h
 have HSV:=am_(show spec_SumVerify.f k kind c0 c1 L vars q0 q1 q2 q3=some(x1,x2,x3,x4,x5,x6,x7,x8)from hsv_)
 clear hsv_
 replace h:=Option.bind_eq_some_iff.1 h
 obtain⟨⟨g1,g2,g3,g4,g5,g6_,g7,g8⟩,hiv_,h⟩:=h
 have HIV:=am_(show impl_SumVerify.f k kind c0 c1 L vars q0 q1 q2 q3=some(g1,g2,g3,g4,g5,g6_,g7,g8)from hiv_)
 clear hiv_
 replace h:=ite_some h
 obtain⟨hq,h⟩:=h
 have HQ1:=am_(show laws_eqExtS.f k g1 x1=some true from hq.1)
 have HQ2:=am_(show laws_eqExt.f g2 g3 x2 x3=some true from hq.2.1)
 have HQ3:=am_(show laws_eqSource.f k g4 g5 g6_ g7 x4 x5 x6 x7=some true from hq.2.2.1)
 obtain rfl:g8=x8:=hq.2.2.2.1
 have HQ4:=am_ hq.2.2.2.2.1
 have HQ5:=am_(show laws_eqSource.f k q0 q1 q2 q3 q0 q1 q2 q3=some true from hq.2.2.2.2.2)
 clear hq
 replace h:=Option.bind_eq_some_iff.1 h
 obtain⟨n1,hm1_,h⟩:=h
 have HM1:=am_ hm1_
 clear hm1_
 replace h:=Option.bind_eq_some_iff.1 h
 obtain⟨⟨n2,ql⟩,hm2_,h⟩:=h
 have HM2:=am_(show laws_markSource.f k q0 q1 q2 q3 n1=some(n2,ql)from hm2_)
 clear hm2_
 by_cases cn2:n2<0
 ·
  rw [if_pos(show(n2,ql).1<0 from cn2)] at h;cases h
 rw [if_neg(show ¬(n2,ql).1<0 from cn2)] at h
 have f2_:decide(n2<0)=false:=decide_eq_false cn2
 clear cn2
 replace h:=Option.bind_eq_some_iff.1 h
 obtain⟨⟨n3,gl⟩,hm3_,h⟩:=h
 have HM3:=am_(show laws_markExtS.f k g1 1=some(n3,gl)from hm3_)
 clear hm3_
 replace h:=Option.bind_eq_some_iff.1 h
 obtain⟨⟨n4,hl_⟩,hm4_,h⟩:=h
 have HM4:=am_(show laws_markSource.f k g4 g5 g6_ g7 n3=some(n4,hl_)from hm4_)
 clear hm4_
 replace h:=Option.bind_eq_some_iff.1 h
 obtain⟨n5,hh1_,h⟩:=h
 have HH1:=am_(show laws_heldExtS.f k gl 1=some n5 from hh1_)
 clear hh1_
 by_cases cn5:n5<0
 ·
  rw [if_pos cn5] at h;cases h
 rw [if_neg cn5] at h
 have f5_:decide(n5<0)=false:=decide_eq_false cn5
 clear cn5
 replace h:=Option.bind_eq_some_iff.1 h
 obtain⟨n6,hh2_,h⟩:=h
 by_cases cn6:n6<0
 ·
  rw [if_pos cn6] at h;cases h
 rw [if_neg cn6] at h
 by_cases c64:n6=n4
 ·
  subst c64
  have HH2:=am_(show laws_heldSource.f k hl_ g5 g6_ g7 n5=some n6 from hh2_)
  clear hh2_ h
  have f6_:decide(n6<0)=false:=decide_eq_false cn6
  clear cn6
  go_enter Try.func6,Try.ntmps6
  go_wp2_with(first|((with_reducible refine gate_dst(N:=6)rfl ?_);refine box_event rfl(N:=6)rfl(cs:=#[.int .i64 d0,.int .i64 d1])(t:=56)bx_ ?_;intro g6 hg w6_ hbox hb;replace HI:=am_((HI.out).box hg hbox hb);clear hb hbox hg)|((with_reducible refine gate_dst(N:=9)rfl ?_);refine box_event rfl(N:=9)rfl(cs:=#[.slice A4 m0.length c4,.int .i64 m1,.string m2,.int .i64 m3])(t:=59)bx_ ?_;intro g9 hg w9_ hbox hb;replace HI:=am_((HI.out).box hg hbox hb);clear hb hbox hg)|(go_at_call 24;(refine(laws_szExtSS.calls k A2 c2 l2 1048576 t1 _ HI.out.now.1 HC2.out HZ1.out).mono ?_);rintro e w31⟨rfl,⟨n31,rfl⟩⟩;replace HI:=am_(HI.out.drewN n31);generalize World.drewN _ n31=wn31 at HI ⊢)|((with_reducible refine gate_dst(N:=34)rfl ?_);go_must(refine wpList_load_row rfl 59 _ rfl g9 rfl 59(#[.slice A4 m0.length c4,.int .i64 m1,.string m2,.int .i64 m3])(0,0)_(HI.out.at_(blk g9 59 #[.slice A4 m0.length c4,.int .i64 m1,.string m2,.int .i64 m3])qz40_)hu59 rfl(by first|exact draw_side _ _|kernel_rfl) ?_))|(go_at_call 25;(refine(laws_szSource.calls A4 c4 m0 m1 m2 m3 t1 t2 _ HI.out.now.2 HC4.out HZ2.out).mono ?_);rintro e w36⟨rfl,hb⟩;replace HI:=am_(HI.out.grow hb);clear hb))
  refine start_(n:=20)(S:=fun w'=>True)(ds:=[])(bs_ 20 0)(by kernel_rfl)rfl rfl trivial(fun hHeld=>?_)
  refine with_tabW laws_FnExactSumVerify.tab8 laws_FnExactSumVerify.bits8(fun HT_ HW_=>?_)
  have CBa:True:=trivial
  replace HI:=am_(HI.out.drew)
  generalize World.drew _=wd8 at HI ⊢
  refine pt_ HT_.out 0 40 (bs_ 20 1) ?_
  refine pt_ HT_.out 3 43 (bs_ 20 9) ?_
  refine pt_ HT_.out 5 45 (bs_ 20 41) ?_
  refine inv_at [1,2,4,6,7,8,9,10,11,12,13,14,15,16,17,18,19](fun a0_ b a w'=>∃ (L1:Option Addr)(cl1:Nat)(f1:Nat→Nat)(S1_:Nat→Prop)(Q1:Option Addr)(cq1:Nat)(T1_:Nat→Prop)(X1:Option Addr)(cx1:Nat)(X4:Option Addr)(cx4:Nat)(g13:Nat)(g14:Nat)(CB8:Array Value)(m4_:Value)(m7_:Value)(m8_:Value)(m9_:Value)(m10_:Value)(m12_:Value)(m14_:Value)(m15_:Value)(m16_:Value),a=putSel a0_ b [(1,41,.agg #[.int .i64 d0,.int .i64 d1]),(2,42,.agg #[.int .i64 c0,.int .i64 c1]),(4,44,m4_),(6,46,.agg #[.slice A4 m0.length c4,.int .i64 m1,.string m2,.int .i64 m3]),(7,47,m7_),(8,48,m8_),(9,39,m9_),(10,49,m10_),(11,50,.agg #[.int .i64 x2,.int .i64 x3]),(12,51,m12_),(13,52,.int .i64 g8),(14,13,m14_),(15,14,m15_),(16,12,m16_),(19,15,.int .i64 g8)]∧(b 18=false→CB8=#[.slice none 0 0,.int .i64 0,.string(⟨#[]⟩:ByteArray),.int .i64 0])∧(b 18=true→CB8=#[.slice X4 x4.length cx4,.int .i64 x5,.string x6,.int .i64 x7])∧(Inv w NoB w' [gif(b 14)(blk g13 34(cond(b 17)(#[.int .i64 x2,.int .i64 x3])(#[.int .i64 0,.int .i64 0]))),gif(b 15)(blk g14 27 CB8),gif(b 8)(row k34 34 w.heap.size(.slice X1 x1.length cx1)x1(fun k=>some k=(Value.ownBlock(.slice X1 x1.length cx1)))),gif(b 8)(row k34 34 w.heap.size(.slice X4 x4.length cx4)x4(fun k=>some k=(Value.ownBlock(.slice X4 x4.length cx4)))),gif(b 4)(row(Kd.tag f1(Kd.slice 34 k34))24 w.heap.size(.slice L1 L.length cl1)L.zipIdx S1_),gif(!(b 8)&& b 7)(row k34 34 w.heap.size(.slice Q1 q0.length cq1)q0 T1_),blk g9 59 #[.slice A4 m0.length c4,.int .i64 m1,.string m2,.int .i64 m3],blk g6 56 #[.int .i64 d0,.int .i64 d1]](fun w2=>Kd.C(Kd.slice 56 k56)w2 A2 l2.length l2∧Kd.C k56 w2 A4 m0.length m0))∧(b 4=true→(m4_:Value)=.slice L1 L.length cl1)∧(b 7=true→(m7_:Value)=.agg #[.slice Q1 q0.length cq1,.int .i64 q1,.string q2,.int .i64 q3])∧(b 8=true→(m8_:Value)=.tuple #[.slice X1 x1.length cx1,.agg #[.int .i64 x2,.int .i64 x3],.agg #[.slice X4 x4.length cx4,.int .i64 x5,.string x6,.int .i64 x7],.int .i64 g8])∧(b 9=true→(m9_:Value)=.tuple #[.slice X1 x1.length cx1,.agg #[.int .i64 x2,.int .i64 x3],.agg #[.slice X4 x4.length cx4,.int .i64 x5,.string x6,.int .i64 x7],.int .i64 g8])∧(b 10=true→(m10_:Value)=.slice X1 x1.length cx1)∧(b 12=true→(m12_:Value)=.agg #[.slice X4 x4.length cx4,.int .i64 x5,.string x6,.int .i64 x7])∧(b 14=true→(m14_:Value)=.pointer(some⟨g13,0,none⟩))∧(b 15=true→(m15_:Value)=.pointer(some⟨g14,0,none⟩))∧(b 16=true→(m16_:Value)=.slice X1 x1.length cx1))HT_.out HW_.out(by kernel_rfl)(by kernel_rfl) ?_ ?_ ?_
  ·
   exact⟨none,0,fun _=>0,fun _=>False,none,0,fun _=>False,none,0,none,0,0,0,#[.slice none 0 0,.int .i64 0,.string(⟨#[]⟩:ByteArray),.int .i64 0],.bool false,.bool false,.bool false,.bool false,.bool false,.bool false,.bool false,.bool false,.bool false,by simp only [putSel,Bool.false_eq_true,if_false],fun _=>rfl,fun h_=>absurd h_(by decide),Inv.off(Inv.off(Inv.off(Inv.off(Inv.off(Inv.off(HI.out)))))),fun h_=>absurd h_(by decide),fun h_=>absurd h_(by decide),fun h_=>absurd h_(by decide),fun h_=>absurd h_(by decide),fun h_=>absurd h_(by decide),fun h_=>absurd h_(by decide),fun h_=>absurd h_(by decide),fun h_=>absurd h_(by decide),fun h_=>absurd h_(by decide)⟩
  ·
   skip
   clear CBa HI
   refine steps_cons ?_ ?_
   ·
    rintro b a w'⟨L1,cl1,f1,S1_,Q1,cq1,T1_,X1,cx1,X4,cx4,g13,g14,CB8,m4_,m7_,m8_,m9_,m10_,m12_,m14_,m15_,m16_,ha,Q_CBa,Q_CBb,Q_HI,Q_X4_,Q_X7_,Q_X8_,Q_X9_,Q_X10_,Q_X12_,Q_X14_,Q_X15_,Q_X16_⟩hb_ hon hoff
    refine⟨_,rfl,fun K hK=>?_⟩
    have e6:a.tmps[6]?=some(.pointer(some⟨g6,0,none⟩)):=by rw [ha];exact(putSel_off rfl).trans rfl
    replace ha:=am_ ha
    have CBa:=am_(Q_CBa(hoff 18(by kernel_rfl)))
    have HI:=am_ Q_HI
    have y_0:w'.cell?⟨g6,0,none⟩=some(.int .i64 d0):=(blk_cell(HI.out.at_(blk g6 56 #[.int .i64 d0,.int .i64 d1])qz40_)0).trans rfl
    have y_1:w'.cell?⟨g6,1,none⟩=some(.int .i64 d1):=(blk_cell(HI.out.at_(blk g6 56 #[.int .i64 d0,.int .i64 d1])qz40_)1).trans rfl
    refine value_(w1:=w')(v:=.agg #[.int .i64 d0,.int .i64 d1])(by rfl)rfl ?_ ?_
    ·
     go_simp
     (try simp only [i64_w])
     try rfl
    refine hK.out _ _⟨L1,cl1,f1,S1_,Q1,cq1,T1_,X1,cx1,X4,cx4,g13,g14,CB8,m4_,m7_,m8_,m9_,m10_,m12_,m14_,m15_,m16_,(by rw [ha.out];exact putSel_upk 0 hb_ rfl rfl rfl),Q_CBa,fun h0_=>ab_(hoff 18(by kernel_rfl))h0_,Q_HI,fun h0_=>ab_(hoff 4(by kernel_rfl))h0_,fun h0_=>ab_(hoff 7(by kernel_rfl))h0_,fun h0_=>ab_(hoff 8(by kernel_rfl))h0_,fun h0_=>ab_(hoff 9(by kernel_rfl))h0_,fun h0_=>ab_(hoff 10(by kernel_rfl))h0_,fun h0_=>ab_(hoff 12(by kernel_rfl))h0_,Q_X14_,Q_X15_,fun h0_=>ab_(hoff 16(by kernel_rfl))h0_⟩
   refine steps_cons ?_ ?_
   ·
    rintro b a w'⟨L1,cl1,f1,S1_,Q1,cq1,T1_,X1,cx1,X4,cx4,g13,g14,CB8,m4_,m7_,m8_,m9_,m10_,m12_,m14_,m15_,m16_,ha,Q_CBa,Q_CBb,Q_HI,Q_X4_,Q_X7_,Q_X8_,Q_X9_,Q_X10_,Q_X12_,Q_X14_,Q_X15_,Q_X16_⟩hb_ hon hoff
    refine⟨_,rfl,fun K hK=>?_⟩
    have e41:a.tmps[41]?=some(.agg #[.int .i64 d0,.int .i64 d1]):=by rw [ha];exact putSel_on(e:=(1,41,.agg #[.int .i64 d0,.int .i64 d1]))0 rfl rfl(hon 1(by kernel_rfl))rfl
    replace ha:=am_ ha
    have CBa:=am_(Q_CBa(hoff 18(by kernel_rfl)))
    have HI:=am_ Q_HI
    refine goes_ Try.func27(by kernel_rfl)rfl #[.agg #[.int .i64 d0,.int .i64 d1]](by rfl)rfl rfl(by first|(simp only [List.map_toArray,List.map_cons,List.map_nil,Act.eval,Array.getD_eq_getD_getElem?,Option.getD_some,e41];done)|(simp only [List.map_toArray,List.map_cons,List.map_nil,Act.eval,Array.getD_eq_getD_getElem?,Option.getD_some,e41];rfl)) ?_
    with_reducible refine(laws_toExt.calls d0 d1 c0 c1 _ HTE.out).mono ?_
    rintro e wt⟨rfl,hb⟩
    refine⟨_,rfl,?_⟩
    have HI2:=am_(HI.out.grow hb)
    refine hK.out _ _⟨L1,cl1,f1,S1_,Q1,cq1,T1_,X1,cx1,X4,cx4,g13,g14,CB8,m4_,m7_,m8_,m9_,m10_,m12_,m14_,m15_,m16_,(by rw [ha.out];exact putSel_upk 1 hb_ rfl rfl rfl),Q_CBa,fun h0_=>ab_(hoff 18(by kernel_rfl))h0_,HI2.out,fun h0_=>ab_(hoff 4(by kernel_rfl))h0_,fun h0_=>ab_(hoff 7(by kernel_rfl))h0_,fun h0_=>ab_(hoff 8(by kernel_rfl))h0_,fun h0_=>ab_(hoff 9(by kernel_rfl))h0_,fun h0_=>ab_(hoff 10(by kernel_rfl))h0_,fun h0_=>ab_(hoff 12(by kernel_rfl))h0_,Q_X14_,Q_X15_,fun h0_=>ab_(hoff 16(by kernel_rfl))h0_⟩
   refine steps_cons ?_ ?_
   ·
    rintro b a w'⟨L1,cl1,f1,S1_,Q1,cq1,T1_,X1,cx1,X4,cx4,g13,g14,CB8,m4_,m7_,m8_,m9_,m10_,m12_,m14_,m15_,m16_,ha,Q_CBa,Q_CBb,Q_HI,Q_X4_,Q_X7_,Q_X8_,Q_X9_,Q_X10_,Q_X12_,Q_X14_,Q_X15_,Q_X16_⟩hb_ hon hoff
    refine⟨_,rfl,fun K hK=>?_⟩
    have e43:a.tmps[43]?=some(.slice A2 l2.length c2):=by rw [ha];exact(putSel_off rfl).trans rfl
    replace ha:=am_ ha
    have CBa:=am_(Q_CBa(hoff 18(by kernel_rfl)))
    have HI:=am_ Q_HI
    refine goes_ Try.func28(by kernel_rfl)rfl #[.slice A2 l2.length c2](by rfl)rfl rfl(by first|(simp only [List.map_toArray,List.map_cons,List.map_nil,Act.eval,Array.getD_eq_getD_getElem?,Option.getD_some,e43];done)|(simp only [List.map_toArray,List.map_cons,List.map_nil,Act.eval,Array.getD_eq_getD_getElem?,Option.getD_some,e43];rfl)) ?_
    with_reducible refine(laws_toExtSS.calls k A2 c2 l2 L _ HI.out.now.1 HC2.out HTL.out).mono ?_
    rintro e wt⟨vl_,rfl,hS,hb⟩
    obtain⟨L_n,cl_n,el_⟩:=Kd.R_slice(Kd.S_R hS)
    subst el_
    obtain⟨f_n,hR⟩:=hS
    refine⟨_,rfl,?_⟩
    have HI2:=am_(Inv.fill true(HI.out.rowPush hb hR)4 rfl)
    refine hK.out _ _⟨L_n,cl_n,f_n,(fun k=>w'.heap.size≤k∧k<wt.heap.size),Q1,cq1,T1_,X1,cx1,X4,cx4,g13,g14,CB8,(.slice L_n L.length cl_n),m7_,m8_,m9_,m10_,m12_,m14_,m15_,m16_,(by rw [ha.out];exact putSel_upk 2 hb_ rfl rfl rfl),Q_CBa,fun h0_=>ab_(hoff 18(by kernel_rfl))h0_,HI2.out,fun _=>rfl,fun h0_=>ab_(hoff 7(by kernel_rfl))h0_,fun h0_=>ab_(hoff 8(by kernel_rfl))h0_,fun h0_=>ab_(hoff 9(by kernel_rfl))h0_,fun h0_=>ab_(hoff 10(by kernel_rfl))h0_,fun h0_=>ab_(hoff 12(by kernel_rfl))h0_,Q_X14_,Q_X15_,fun h0_=>ab_(hoff 16(by kernel_rfl))h0_⟩
   refine steps_cons ?_ ?_
   ·
    rintro b a w'⟨L1,cl1,f1,S1_,Q1,cq1,T1_,X1,cx1,X4,cx4,g13,g14,CB8,m4_,m7_,m8_,m9_,m10_,m12_,m14_,m15_,m16_,ha,Q_CBa,Q_CBb,Q_HI,Q_X4_,Q_X7_,Q_X8_,Q_X9_,Q_X10_,Q_X12_,Q_X14_,Q_X15_,Q_X16_⟩hb_ hon hoff
    refine⟨_,rfl,fun K hK=>?_⟩
    have e9:a.tmps[9]?=some(.pointer(some⟨g9,0,none⟩)):=by rw [ha];exact(putSel_off rfl).trans rfl
    replace ha:=am_ ha
    have CBa:=am_(Q_CBa(hoff 18(by kernel_rfl)))
    have HI:=am_ Q_HI
    have y_0:w'.cell?⟨g9,0,none⟩=some(.slice A4 m0.length c4):=(blk_cell(HI.out.at_(blk g9 59 #[.slice A4 m0.length c4,.int .i64 m1,.string m2,.int .i64 m3])qz40_)0).trans rfl
    have y_1:w'.cell?⟨g9,1,none⟩=some(.int .i64 m1):=(blk_cell(HI.out.at_(blk g9 59 #[.slice A4 m0.length c4,.int .i64 m1,.string m2,.int .i64 m3])qz40_)1).trans rfl
    have y_2:w'.cell?⟨g9,2,none⟩=some(.string m2):=(blk_cell(HI.out.at_(blk g9 59 #[.slice A4 m0.length c4,.int .i64 m1,.string m2,.int .i64 m3])qz40_)2).trans rfl
    have y_3:w'.cell?⟨g9,3,none⟩=some(.int .i64 m3):=(blk_cell(HI.out.at_(blk g9 59 #[.slice A4 m0.length c4,.int .i64 m1,.string m2,.int .i64 m3])qz40_)3).trans rfl
    refine value_(w1:=w')(v:=.agg #[.slice A4 m0.length c4,.int .i64 m1,.string m2,.int .i64 m3])(by rfl)rfl ?_ ?_
    ·
     go_simp
     (try simp only [i64_w])
     try rfl
    refine hK.out _ _⟨L1,cl1,f1,S1_,Q1,cq1,T1_,X1,cx1,X4,cx4,g13,g14,CB8,m4_,m7_,m8_,m9_,m10_,m12_,m14_,m15_,m16_,(by rw [ha.out];exact putSel_upk 3 hb_ rfl rfl rfl),Q_CBa,fun h0_=>ab_(hoff 18(by kernel_rfl))h0_,Q_HI,Q_X4_,fun h0_=>ab_(hoff 7(by kernel_rfl))h0_,fun h0_=>ab_(hoff 8(by kernel_rfl))h0_,fun h0_=>ab_(hoff 9(by kernel_rfl))h0_,fun h0_=>ab_(hoff 10(by kernel_rfl))h0_,fun h0_=>ab_(hoff 12(by kernel_rfl))h0_,Q_X14_,Q_X15_,fun h0_=>ab_(hoff 16(by kernel_rfl))h0_⟩
   refine steps_cons ?_ ?_
   ·
    rintro b a w'⟨L1,cl1,f1,S1_,Q1,cq1,T1_,X1,cx1,X4,cx4,g13,g14,CB8,m4_,m7_,m8_,m9_,m10_,m12_,m14_,m15_,m16_,ha,Q_CBa,Q_CBb,Q_HI,Q_X4_,Q_X7_,Q_X8_,Q_X9_,Q_X10_,Q_X12_,Q_X14_,Q_X15_,Q_X16_⟩hb_ hon hoff
    refine⟨_,rfl,fun K hK=>?_⟩
    have e46:a.tmps[46]?=some(.agg #[.slice A4 m0.length c4,.int .i64 m1,.string m2,.int .i64 m3]):=by rw [ha];exact putSel_on(e:=(6,46,.agg #[.slice A4 m0.length c4,.int .i64 m1,.string m2,.int .i64 m3]))3 rfl rfl(hon 6(by kernel_rfl))rfl
    replace ha:=am_ ha
    have CBa:=am_(Q_CBa(hoff 18(by kernel_rfl)))
    have HI:=am_ Q_HI
    refine goes_ Try.func29(by kernel_rfl)rfl #[.agg #[.slice A4 m0.length c4,.int .i64 m1,.string m2,.int .i64 m3]](by rfl)rfl rfl(by first|(simp only [List.map_toArray,List.map_cons,List.map_nil,Act.eval,Array.getD_eq_getD_getElem?,Option.getD_some,e46];done)|(simp only [List.map_toArray,List.map_cons,List.map_nil,Act.eval,Array.getD_eq_getD_getElem?,Option.getD_some,e46];rfl)) ?_
    with_reducible refine(laws_toSource.calls k A4 c4 m0 m1 m2 m3 q0 q1 q2 q3 _ HI.out.now.2 HC4.out HTS.out).mono ?_
    rintro e wt⟨vq_,rfl,hR,hb⟩
    obtain⟨Q_n,cq_n,eq_⟩:=Kd.R_slice hR
    subst eq_
    refine⟨_,rfl,?_⟩
    have HI2:=am_(Inv.fill(!(b 8)&& true)(HI.out.rowPush hb hR)5 rfl)
    refine hK.out _ _⟨L1,cl1,f1,S1_,Q_n,cq_n,(fun k=>w'.heap.size≤k∧k<wt.heap.size),X1,cx1,X4,cx4,g13,g14,CB8,m4_,(.agg #[.slice Q_n q0.length cq_n,.int .i64 q1,.string q2,.int .i64 q3]),m8_,m9_,m10_,m12_,m14_,m15_,m16_,(by rw [ha.out];exact putSel_upk 4 hb_ rfl rfl rfl),Q_CBa,fun h0_=>ab_(hoff 18(by kernel_rfl))h0_,HI2.out,Q_X4_,fun _=>rfl,fun h0_=>ab_(hoff 8(by kernel_rfl))h0_,fun h0_=>ab_(hoff 9(by kernel_rfl))h0_,fun h0_=>ab_(hoff 10(by kernel_rfl))h0_,fun h0_=>ab_(hoff 12(by kernel_rfl))h0_,Q_X14_,Q_X15_,fun h0_=>ab_(hoff 16(by kernel_rfl))h0_⟩
   refine steps_cons ?_ ?_
   ·
    rintro b a w'⟨L1,cl1,f1,S1_,Q1,cq1,T1_,X1,cx1,X4,cx4,g13,g14,CB8,m4_,m7_,m8_,m9_,m10_,m12_,m14_,m15_,m16_,ha,Q_CBa,Q_CBb,Q_HI,Q_X4_,Q_X7_,Q_X8_,Q_X9_,Q_X10_,Q_X12_,Q_X14_,Q_X15_,Q_X16_⟩hb_ hon hoff
    refine⟨_,rfl,fun K hK=>?_⟩
    have e40:a.tmps[40]?=some(.int .i64 kind):=by rw [ha];exact(putSel_off rfl).trans rfl
    have e42:a.tmps[42]?=some(.agg #[.int .i64 c0,.int .i64 c1]):=by rw [ha];exact putSel_on(e:=(2,42,.agg #[.int .i64 c0,.int .i64 c1]))1 rfl rfl(hon 2(by kernel_rfl))rfl
    have e44:a.tmps[44]?=some(m4_):=by rw [ha];exact putSel_on(e:=(4,44,m4_))2 rfl rfl(hon 4(by kernel_rfl))rfl
    rw [Q_X4_(hon 4(by kernel_rfl))] at e44
    have e45:a.tmps[45]?=some(.int .i64 vars):=by rw [ha];exact(putSel_off rfl).trans rfl
    have e47:a.tmps[47]?=some(m7_):=by rw [ha];exact putSel_on(e:=(7,47,m7_))4 rfl rfl(hon 7(by kernel_rfl))rfl
    rw [Q_X7_(hon 7(by kernel_rfl))] at e47
    replace ha:=am_ ha
    have CBa:=am_(Q_CBa(hoff 18(by kernel_rfl)))
    have HI:=am_ Q_HI
    have HI3:Aside0(Inv w NoB w'(row k34 34 w.heap.size(.slice Q1 q0.length cq1)q0 T1_::[gif(b 14)(blk g13 34(cond(b 17)(#[.int .i64 x2,.int .i64 x3])(#[.int .i64 0,.int .i64 0]))),gif(b 15)(blk g14 27 CB8),gif(b 8)(row k34 34 w.heap.size(.slice X1 x1.length cx1)x1(fun k=>some k=(Value.ownBlock(.slice X1 x1.length cx1)))),gif(b 8)(row k34 34 w.heap.size(.slice X4 x4.length cx4)x4(fun k=>some k=(Value.ownBlock(.slice X4 x4.length cx4)))),gif(b 4)(row(Kd.tag f1(Kd.slice 34 k34))24 w.heap.size(.slice L1 L.length cl1)L.zipIdx S1_),gif false(row k34 34 w.heap.size(.slice Q1 q0.length cq1)q0 T1_),blk g9 59 #[.slice A4 m0.length c4,.int .i64 m1,.string m2,.int .i64 m3],blk g6 56 #[.int .i64 d0,.int .i64 d1]])(fun w2=>Kd.C(Kd.slice 56 k56)w2 A2 l2.length l2∧Kd.C k56 w2 A4 m0.length m0)):=⟨Inv.take HI.out 5 rfl(show(!(b 8)&& b 7)=true from by rw [hb_,(hon 7(by kernel_rfl))];rfl)⟩
    refine goes_ Try.func26(by kernel_rfl)rfl #[.int .i64 kind,.agg #[.int .i64 c0,.int .i64 c1],.slice L1 L.length cl1,.int .i64 vars,.agg #[.slice Q1 q0.length cq1,.int .i64 q1,.string q2,.int .i64 q3]](by rfl)rfl rfl(by first|(simp only [List.map_toArray,List.map_cons,List.map_nil,Act.eval,Array.getD_eq_getD_getElem?,Option.getD_some,e40,e42,e44,e45,e47];done)|(simp only [List.map_toArray,List.map_cons,List.map_nil,Act.eval,Array.getD_eq_getD_getElem?,Option.getD_some,e40,e42,e44,e45,e47];rfl)) ?_
    with_reducible refine(spec_SumVerify.calls k kind c0 c1 L1 cl1 L vars _(.slice Q1 q0.length cq1)q0 q1 q2 q3 x1 x2 x3 x4 x5 x6 x7 g8 w _ HI3.out.below HI3.out.row0(fun W_ ha=>(tagC(rowR(gifA(HI3.out.ownOther ha(ownRow HI3.out)(gif(b 4)(row(Kd.tag f1(Kd.slice 34 k34))24 w.heap.size(.slice L1 L.length cl1)L.zipIdx S1_))qz40_)(hon 4(by kernel_rfl))))).1)(tagC(rowR(gifA(HI3.out.at_(gif(b 4)(row(Kd.tag f1(Kd.slice 34 k34))24 w.heap.size(.slice L1 L.length cl1)L.zipIdx S1_))qz40_)(hon 4(by kernel_rfl))))).2 HSV.out).mono ?_
    rintro e wt⟨v0_,v3_,rfl,hR0,hR3,hB2,hk⟩
    obtain⟨X_n,cx_n,ex_⟩:=Kd.R_slice hR0
    subst ex_
    obtain⟨Y_n,cy_n,ey_⟩:=Kd.R_slice hR3
    subst ey_
    refine⟨_,rfl,?_⟩
    have HI5:=am_(Inv.keptTwo(b3:=w.heap.size)rfl rfl HI3.out(Agr.of_kept hk HI3.out.below hB2(ownRow HI3.out))hR0(Nat.le_refl _)HI3.out.agr.size(Kd.R_lower(Kd.R_bound hR3)HI3.out.agr.size)(fun k hk=>.inr hk.2.1)(fun k hk=>hk.1))
    have HI2:=am_(Inv.fill true(Inv.fill true HI5.out 3 rfl)3 rfl)
    refine hK.out _ _⟨L1,cl1,f1,S1_,Q1,cq1,T1_,X_n,cx_n,Y_n,cy_n,g13,g14,CB8,m4_,m7_,(.tuple #[.slice X_n x1.length cx_n,.agg #[.int .i64 x2,.int .i64 x3],.agg #[.slice Y_n x4.length cy_n,.int .i64 x5,.string x6,.int .i64 x7],.int .i64 g8]),m9_,m10_,m12_,m14_,m15_,m16_,(by rw [ha.out];exact putSel_upk 5 hb_ rfl rfl rfl),Q_CBa,fun h0_=>ab_(hoff 18(by kernel_rfl))h0_,HI2.out,Q_X4_,Q_X7_,fun _=>rfl,fun h0_=>ab_(hoff 9(by kernel_rfl))h0_,fun h0_=>ab_(hoff 10(by kernel_rfl))h0_,fun h0_=>ab_(hoff 12(by kernel_rfl))h0_,Q_X14_,Q_X15_,fun h0_=>ab_(hoff 16(by kernel_rfl))h0_⟩
   refine steps_cons ?_ ?_
   ·
    rintro b a w'⟨L1,cl1,f1,S1_,Q1,cq1,T1_,X1,cx1,X4,cx4,g13,g14,CB8,m4_,m7_,m8_,m9_,m10_,m12_,m14_,m15_,m16_,ha,Q_CBa,Q_CBb,Q_HI,Q_X4_,Q_X7_,Q_X8_,Q_X9_,Q_X10_,Q_X12_,Q_X14_,Q_X15_,Q_X16_⟩hb_ hon hoff
    refine⟨_,rfl,fun K hK=>?_⟩
    have e48:a.tmps[48]?=some(m8_):=by rw [ha];exact putSel_on(e:=(8,48,m8_))5 rfl rfl(hon 8(by kernel_rfl))rfl
    rw [Q_X8_(hon 8(by kernel_rfl))] at e48
    replace ha:=am_ ha
    have CBa:=am_(Q_CBa(hoff 18(by kernel_rfl)))
    have HI:=am_ Q_HI
    refine value_(w1:=w')(v:=.tuple #[.slice X1 x1.length cx1,.agg #[.int .i64 x2,.int .i64 x3],.agg #[.slice X4 x4.length cx4,.int .i64 x5,.string x6,.int .i64 x7],.int .i64 g8])(by rfl)rfl ?_ ?_
    ·
     go_simp
     (try simp only [i64_w])
     try rfl
    refine hK.out _ _⟨L1,cl1,f1,S1_,Q1,cq1,T1_,X1,cx1,X4,cx4,g13,g14,CB8,m4_,m7_,m8_,(.tuple #[.slice X1 x1.length cx1,.agg #[.int .i64 x2,.int .i64 x3],.agg #[.slice X4 x4.length cx4,.int .i64 x5,.string x6,.int .i64 x7],.int .i64 g8]),m10_,m12_,m14_,m15_,m16_,(by rw [ha.out];exact putSel_upk 6 hb_ rfl rfl rfl),Q_CBa,fun h0_=>ab_(hoff 18(by kernel_rfl))h0_,Q_HI,Q_X4_,Q_X7_,Q_X8_,fun _=>rfl,fun h0_=>ab_(hoff 10(by kernel_rfl))h0_,fun h0_=>ab_(hoff 12(by kernel_rfl))h0_,Q_X14_,Q_X15_,fun h0_=>ab_(hoff 16(by kernel_rfl))h0_⟩
   refine steps_cons ?_ ?_
   ·
    rintro b a w'⟨L1,cl1,f1,S1_,Q1,cq1,T1_,X1,cx1,X4,cx4,g13,g14,CB8,m4_,m7_,m8_,m9_,m10_,m12_,m14_,m15_,m16_,ha,Q_CBa,Q_CBb,Q_HI,Q_X4_,Q_X7_,Q_X8_,Q_X9_,Q_X10_,Q_X12_,Q_X14_,Q_X15_,Q_X16_⟩hb_ hon hoff
    refine⟨_,rfl,fun K hK=>?_⟩
    have e39:a.tmps[39]?=some(m9_):=by rw [ha];exact putSel_on(e:=(9,39,m9_))6 rfl rfl(hon 9(by kernel_rfl))rfl
    rw [Q_X9_(hon 9(by kernel_rfl))] at e39
    replace ha:=am_ ha
    have CBa:=am_(Q_CBa(hoff 18(by kernel_rfl)))
    have HI:=am_ Q_HI
    refine value_(w1:=w')(v:=.slice X1 x1.length cx1)(by rfl)rfl ?_ ?_
    ·
     go_simp
     (try simp only [i64_w])
     try rfl
    refine hK.out _ _⟨L1,cl1,f1,S1_,Q1,cq1,T1_,X1,cx1,X4,cx4,g13,g14,CB8,m4_,m7_,m8_,m9_,(.slice X1 x1.length cx1),m12_,m14_,m15_,m16_,(by rw [ha.out];exact putSel_upk 7 hb_ rfl rfl rfl),Q_CBa,fun h0_=>ab_(hoff 18(by kernel_rfl))h0_,Q_HI,Q_X4_,Q_X7_,Q_X8_,Q_X9_,fun _=>rfl,Q_X12_,Q_X14_,Q_X15_,fun h0_=>ab_(hoff 16(by kernel_rfl))h0_⟩
   refine steps_cons ?_ ?_
   ·
    rintro b a w'⟨L1,cl1,f1,S1_,Q1,cq1,T1_,X1,cx1,X4,cx4,g13,g14,CB8,m4_,m7_,m8_,m9_,m10_,m12_,m14_,m15_,m16_,ha,Q_CBa,Q_CBb,Q_HI,Q_X4_,Q_X7_,Q_X8_,Q_X9_,Q_X10_,Q_X12_,Q_X14_,Q_X15_,Q_X16_⟩hb_ hon hoff
    refine⟨_,rfl,fun K hK=>?_⟩
    have e39:a.tmps[39]?=some(m9_):=by rw [ha];exact putSel_on(e:=(9,39,m9_))6 rfl rfl(hon 9(by kernel_rfl))rfl
    rw [Q_X9_(hon 9(by kernel_rfl))] at e39
    replace ha:=am_ ha
    have CBa:=am_(Q_CBa(hoff 18(by kernel_rfl)))
    have HI:=am_ Q_HI
    refine value_(w1:=w')(v:=.agg #[.int .i64 x2,.int .i64 x3])(by rfl)rfl ?_ ?_
    ·
     go_simp
     (try simp only [i64_w])
     try rfl
    refine hK.out _ _⟨L1,cl1,f1,S1_,Q1,cq1,T1_,X1,cx1,X4,cx4,g13,g14,CB8,m4_,m7_,m8_,m9_,m10_,m12_,m14_,m15_,m16_,(by rw [ha.out];exact putSel_upk 8 hb_ rfl rfl rfl),Q_CBa,fun h0_=>ab_(hoff 18(by kernel_rfl))h0_,Q_HI,Q_X4_,Q_X7_,Q_X8_,Q_X9_,Q_X10_,Q_X12_,Q_X14_,Q_X15_,Q_X16_⟩
   refine steps_cons ?_ ?_
   ·
    rintro b a w'⟨L1,cl1,f1,S1_,Q1,cq1,T1_,X1,cx1,X4,cx4,g13,g14,CB8,m4_,m7_,m8_,m9_,m10_,m12_,m14_,m15_,m16_,ha,Q_CBa,Q_CBb,Q_HI,Q_X4_,Q_X7_,Q_X8_,Q_X9_,Q_X10_,Q_X12_,Q_X14_,Q_X15_,Q_X16_⟩hb_ hon hoff
    refine⟨_,rfl,fun K hK=>?_⟩
    have e39:a.tmps[39]?=some(m9_):=by rw [ha];exact putSel_on(e:=(9,39,m9_))6 rfl rfl(hon 9(by kernel_rfl))rfl
    rw [Q_X9_(hon 9(by kernel_rfl))] at e39
    replace ha:=am_ ha
    have CBa:=am_(Q_CBa(hoff 18(by kernel_rfl)))
    have HI:=am_ Q_HI
    refine value_(w1:=w')(v:=.agg #[.slice X4 x4.length cx4,.int .i64 x5,.string x6,.int .i64 x7])(by rfl)rfl ?_ ?_
    ·
     go_simp
     (try simp only [i64_w])
     try rfl
    refine hK.out _ _⟨L1,cl1,f1,S1_,Q1,cq1,T1_,X1,cx1,X4,cx4,g13,g14,CB8,m4_,m7_,m8_,m9_,m10_,(.agg #[.slice X4 x4.length cx4,.int .i64 x5,.string x6,.int .i64 x7]),m14_,m15_,m16_,(by rw [ha.out];exact putSel_upk 9 hb_ rfl rfl rfl),Q_CBa,fun h0_=>ab_(hoff 18(by kernel_rfl))h0_,Q_HI,Q_X4_,Q_X7_,Q_X8_,Q_X9_,Q_X10_,fun _=>rfl,Q_X14_,Q_X15_,Q_X16_⟩
   refine steps_cons ?_ ?_
   ·
    rintro b a w'⟨L1,cl1,f1,S1_,Q1,cq1,T1_,X1,cx1,X4,cx4,g13,g14,CB8,m4_,m7_,m8_,m9_,m10_,m12_,m14_,m15_,m16_,ha,Q_CBa,Q_CBb,Q_HI,Q_X4_,Q_X7_,Q_X8_,Q_X9_,Q_X10_,Q_X12_,Q_X14_,Q_X15_,Q_X16_⟩hb_ hon hoff
    refine⟨_,rfl,fun K hK=>?_⟩
    have e39:a.tmps[39]?=some(m9_):=by rw [ha];exact putSel_on(e:=(9,39,m9_))6 rfl rfl(hon 9(by kernel_rfl))rfl
    rw [Q_X9_(hon 9(by kernel_rfl))] at e39
    replace ha:=am_ ha
    have HI:=am_ Q_HI
    refine value_(w1:=w')(v:=.int .i64 g8)(by rfl)rfl ?_ ?_
    ·
     go_simp
     (try simp only [i64_w])
     try rfl
    refine hK.out _ _⟨L1,cl1,f1,S1_,Q1,cq1,T1_,X1,cx1,X4,cx4,g13,g14,CB8,m4_,m7_,m8_,m9_,m10_,m12_,m14_,m15_,m16_,(by rw [ha.out];exact putSel_upk 10 hb_ rfl rfl rfl),Q_CBa,Q_CBb,Q_HI,Q_X4_,Q_X7_,Q_X8_,Q_X9_,Q_X10_,Q_X12_,Q_X14_,Q_X15_,Q_X16_⟩
   refine steps_cons ?_ ?_
   ·
    rintro b a w'⟨L1,cl1,f1,S1_,Q1,cq1,T1_,X1,cx1,X4,cx4,g13,g14,CB8,m4_,m7_,m8_,m9_,m10_,m12_,m14_,m15_,m16_,ha,Q_CBa,Q_CBb,Q_HI,Q_X4_,Q_X7_,Q_X8_,Q_X9_,Q_X10_,Q_X12_,Q_X14_,Q_X15_,Q_X16_⟩hb_ hon hoff
    refine⟨_,rfl,fun K hK=>?_⟩
    replace ha:=am_ ha
    have CBa:=am_(Q_CBa(hoff 18(by kernel_rfl)))
    have HI:=am_ Q_HI
    refine value_(w1:=w'.alloc(.cells #[.int .i64 0,.int .i64 0] 34))(v:=.pointer(some⟨w'.heap.size,0,none⟩))(by rfl)rfl ?_ ?_
    ·
     first|(go_simp;done)|(go_simp;rfl)
    have HI2:=am_(Inv.fill true(Inv.cellsEq(HI.out.allocBox 34(#[.int .i64 0,.int .i64 0]))(cs':=cond(b 17)(#[.int .i64 x2,.int .i64 x3])(#[.int .i64 0,.int .i64 0]))(by rw [hoff 17(by kernel_rfl)];rfl))0 rfl)
    refine hK.out _ _⟨L1,cl1,f1,S1_,Q1,cq1,T1_,X1,cx1,X4,cx4,w'.heap.size,g14,CB8,m4_,m7_,m8_,m9_,m10_,m12_,(.pointer(some⟨w'.heap.size,0,none⟩)),m15_,m16_,(by rw [ha.out];exact putSel_upk 11 hb_ rfl rfl rfl),Q_CBa,fun h0_=>ab_(hoff 18(by kernel_rfl))h0_,HI2.out,Q_X4_,Q_X7_,Q_X8_,Q_X9_,Q_X10_,Q_X12_,fun _=>rfl,Q_X15_,fun h0_=>ab_(hoff 16(by kernel_rfl))h0_⟩
   refine steps_cons ?_ ?_
   ·
    rintro b a w'⟨L1,cl1,f1,S1_,Q1,cq1,T1_,X1,cx1,X4,cx4,g13,g14,CB8,m4_,m7_,m8_,m9_,m10_,m12_,m14_,m15_,m16_,ha,Q_CBa,Q_CBb,Q_HI,Q_X4_,Q_X7_,Q_X8_,Q_X9_,Q_X10_,Q_X12_,Q_X14_,Q_X15_,Q_X16_⟩hb_ hon hoff
    refine⟨_,rfl,fun K hK=>?_⟩
    replace ha:=am_ ha
    have CBa:=am_(Q_CBa(hoff 18(by kernel_rfl)))
    have HI:=am_ Q_HI
    refine value_(w1:=w'.alloc(.cells #[.slice none 0 0,.int .i64 0,.string(⟨#[]⟩:ByteArray),.int .i64 0] 27))(v:=.pointer(some⟨w'.heap.size,0,none⟩))(by rfl)rfl ?_ ?_
    ·
     first|(go_simp;done)|(go_simp;rfl)
    have HI2:=am_(Inv.fill true(Inv.cellsEq(HI.out.allocBox 27(#[.slice none 0 0,.int .i64 0,.string(⟨#[]⟩:ByteArray),.int .i64 0]))(cs':=CB8)CBa.out)1 rfl)
    refine hK.out _ _⟨L1,cl1,f1,S1_,Q1,cq1,T1_,X1,cx1,X4,cx4,g13,w'.heap.size,CB8,m4_,m7_,m8_,m9_,m10_,m12_,m14_,(.pointer(some⟨w'.heap.size,0,none⟩)),m16_,(by rw [ha.out];exact putSel_upk 12 hb_ rfl rfl rfl),Q_CBa,fun h0_=>ab_(hoff 18(by kernel_rfl))h0_,HI2.out,Q_X4_,Q_X7_,Q_X8_,Q_X9_,Q_X10_,Q_X12_,Q_X14_,fun _=>rfl,fun h0_=>ab_(hoff 16(by kernel_rfl))h0_⟩
   refine steps_cons ?_ ?_
   ·
    rintro b a w'⟨L1,cl1,f1,S1_,Q1,cq1,T1_,X1,cx1,X4,cx4,g13,g14,CB8,m4_,m7_,m8_,m9_,m10_,m12_,m14_,m15_,m16_,ha,Q_CBa,Q_CBb,Q_HI,Q_X4_,Q_X7_,Q_X8_,Q_X9_,Q_X10_,Q_X12_,Q_X14_,Q_X15_,Q_X16_⟩hb_ hon hoff
    refine⟨_,rfl,fun K hK=>?_⟩
    have e49:a.tmps[49]?=some(m10_):=by rw [ha];exact putSel_on(e:=(10,49,m10_))7 rfl rfl(hon 10(by kernel_rfl))rfl
    rw [Q_X10_(hon 10(by kernel_rfl))] at e49
    replace ha:=am_ ha
    have CBa:=am_(Q_CBa(hoff 18(by kernel_rfl)))
    have HI:=am_ Q_HI
    refine value_(w1:=w')(v:=.slice X1 x1.length cx1)(by rfl)rfl ?_ ?_
    ·
     go_simp
     (try simp only [i64_w])
     try rfl
    refine hK.out _ _⟨L1,cl1,f1,S1_,Q1,cq1,T1_,X1,cx1,X4,cx4,g13,g14,CB8,m4_,m7_,m8_,m9_,m10_,m12_,m14_,m15_,(.slice X1 x1.length cx1),(by rw [ha.out];exact putSel_upk 13 hb_ rfl rfl rfl),Q_CBa,fun h0_=>ab_(hoff 18(by kernel_rfl))h0_,Q_HI,Q_X4_,Q_X7_,Q_X8_,Q_X9_,Q_X10_,Q_X12_,Q_X14_,Q_X15_,fun _=>rfl⟩
   refine steps_cons ?_ ?_
   ·
    rintro b a w'⟨L1,cl1,f1,S1_,Q1,cq1,T1_,X1,cx1,X4,cx4,g13,g14,CB8,m4_,m7_,m8_,m9_,m10_,m12_,m14_,m15_,m16_,ha,Q_CBa,Q_CBb,Q_HI,Q_X4_,Q_X7_,Q_X8_,Q_X9_,Q_X10_,Q_X12_,Q_X14_,Q_X15_,Q_X16_⟩hb_ hon hoff
    refine⟨_,rfl,fun K hK=>?_⟩
    have e13:a.tmps[13]?=some(m14_):=by rw [ha];exact putSel_on(e:=(14,13,m14_))11 rfl rfl(hon 14(by kernel_rfl))rfl
    rw [Q_X14_(hon 14(by kernel_rfl))] at e13
    have e50:a.tmps[50]?=some(.agg #[.int .i64 x2,.int .i64 x3]):=by rw [ha];exact putSel_on(e:=(11,50,.agg #[.int .i64 x2,.int .i64 x3]))8 rfl rfl(hon 11(by kernel_rfl))rfl
    replace ha:=am_ ha
    have CBa:=am_(Q_CBa(hoff 18(by kernel_rfl)))
    have HI:=am_ Q_HI
    rw [if_pos(by rfl)]
    have HI3:=am_(Inv.cellsEq(Inv.take HI.out 0 rfl(hon 14(by kernel_rfl)))(cs':=#[.int .i64 0,.int .i64 0])(by rw [hb_];rfl))
    refine wp_store_row 34 _ _ rfl g13(#[.int .i64 x2,.int .i64 x3])(eval_of e13)(eval_of e50)34(#[.int .i64 0,.int .i64 0])HI3.out.blk0(draw_side x2 x3)(draw_len x2 x3)(draw_one x2 x3) ?_
    have HI2:=am_(Inv.fill(b 14)(HI3.out.put0(#[.int .i64 x2,.int .i64 x3]))0 rfl)
    refine hK.out _ _⟨L1,cl1,f1,S1_,Q1,cq1,T1_,X1,cx1,X4,cx4,g13,g14,CB8,m4_,m7_,m8_,m9_,m10_,m12_,m14_,m15_,m16_,(by rw [ha.out];exact putSel_none(v:=undef)rfl),Q_CBa,fun h0_=>ab_(hoff 18(by kernel_rfl))h0_,HI2.out,Q_X4_,Q_X7_,Q_X8_,Q_X9_,Q_X10_,Q_X12_,Q_X14_,Q_X15_,Q_X16_⟩
   refine steps_cons ?_ ?_
   ·
    rintro b a w'⟨L1,cl1,f1,S1_,Q1,cq1,T1_,X1,cx1,X4,cx4,g13,g14,CB8,m4_,m7_,m8_,m9_,m10_,m12_,m14_,m15_,m16_,ha,Q_CBa,Q_CBb,Q_HI,Q_X4_,Q_X7_,Q_X8_,Q_X9_,Q_X10_,Q_X12_,Q_X14_,Q_X15_,Q_X16_⟩hb_ hon hoff
    refine⟨_,rfl,fun K hK=>?_⟩
    have e14:a.tmps[14]?=some(m15_):=by rw [ha];exact putSel_on(e:=(15,14,m15_))12 rfl rfl(hon 15(by kernel_rfl))rfl
    rw [Q_X15_(hon 15(by kernel_rfl))] at e14
    have e51:a.tmps[51]?=some(m12_):=by rw [ha];exact putSel_on(e:=(12,51,m12_))9 rfl rfl(hon 12(by kernel_rfl))rfl
    rw [Q_X12_(hon 12(by kernel_rfl))] at e51
    replace ha:=am_ ha
    have CBa:=am_(Q_CBa hb_)
    have HI:=am_ Q_HI
    rw [if_pos(by rfl)]
    have HI3:=am_(Inv.cellsEq(Inv.take HI.out 1 rfl(hon 15(by kernel_rfl)))(cs':=#[.slice none 0 0,.int .i64 0,.string(⟨#[]⟩:ByteArray),.int .i64 0])CBa.out.symm)
    refine wp_store_row 27 _ _ rfl g14(#[.slice X4 x4.length cx4,.int .i64 x5,.string x6,.int .i64 x7])(eval_of e14)(eval_of e51)27(#[.slice none 0 0,.int .i64 0,.string(⟨#[]⟩:ByteArray),.int .i64 0])HI3.out.blk0(by kernel_rfl)rfl qz12_ ?_
    have HI2:=am_(Inv.fill(b 15)(HI3.out.put0(#[.slice X4 x4.length cx4,.int .i64 x5,.string x6,.int .i64 x7]))1 rfl)
    refine hK.out _ _⟨L1,cl1,f1,S1_,Q1,cq1,T1_,X1,cx1,X4,cx4,g13,g14,#[.slice X4 x4.length cx4,.int .i64 x5,.string x6,.int .i64 x7],m4_,m7_,m8_,m9_,m10_,m12_,m14_,m15_,m16_,(by rw [ha.out];exact putSel_none(v:=undef)rfl),fun h0_=>absurd((up_self b 18).symm.trans h0_)(by decide),fun _=>rfl,HI2.out,Q_X4_,Q_X7_,Q_X8_,Q_X9_,Q_X10_,Q_X12_,Q_X14_,Q_X15_,Q_X16_⟩
   refine steps_cons ?_ ?_
   ·
    rintro b a w'⟨L1,cl1,f1,S1_,Q1,cq1,T1_,X1,cx1,X4,cx4,g13,g14,CB8,m4_,m7_,m8_,m9_,m10_,m12_,m14_,m15_,m16_,ha,Q_CBa,Q_CBb,Q_HI,Q_X4_,Q_X7_,Q_X8_,Q_X9_,Q_X10_,Q_X12_,Q_X14_,Q_X15_,Q_X16_⟩hb_ hon hoff
    refine⟨_,rfl,fun K hK=>?_⟩
    have e52:a.tmps[52]?=some(.int .i64 g8):=by rw [ha];exact putSel_on(e:=(13,52,.int .i64 g8))10 rfl rfl(hon 13(by kernel_rfl))rfl
    replace ha:=am_ ha
    have CBb:=am_(Q_CBb(hon 18(by kernel_rfl)))
    have HI:=am_ Q_HI
    refine value_(w1:=w')(v:=.int .i64 g8)(by rfl)rfl ?_ ?_
    ·
     go_simp
     (try simp only [i64_w])
     try rfl
    refine hK.out _ _⟨L1,cl1,f1,S1_,Q1,cq1,T1_,X1,cx1,X4,cx4,g13,g14,CB8,m4_,m7_,m8_,m9_,m10_,m12_,m14_,m15_,m16_,(by rw [ha.out];exact putSel_upk 14 hb_ rfl rfl rfl),fun h0_=>ab_(hon 18(by kernel_rfl))h0_,Q_CBb,Q_HI,Q_X4_,Q_X7_,Q_X8_,Q_X9_,Q_X10_,Q_X12_,Q_X14_,Q_X15_,Q_X16_⟩
   exact steps_nil
  rintro b a w' hall⟨L1,cl1,f1,S1_,Q1,cq1,T1_,X1,cx1,X4,cx4,g13,g14,CB8,m4_,m7_,m8_,m9_,m10_,m12_,m14_,m15_,m16_,ha,Q_CBa,Q_CBb,Q_HI,Q_X4_,Q_X7_,Q_X8_,Q_X9_,Q_X10_,Q_X12_,Q_X14_,Q_X15_,Q_X16_⟩
  clear CBa HI
  have hb1_:=hall 1(by kernel_rfl)
  have hb2_:=hall 2(by kernel_rfl)
  have hb4_:=hall 4(by kernel_rfl)
  have hb6_:=hall 6(by kernel_rfl)
  have hb7_:=hall 7(by kernel_rfl)
  have hb8_:=hall 8(by kernel_rfl)
  have hb9_:=hall 9(by kernel_rfl)
  have hb10_:=hall 10(by kernel_rfl)
  have hb11_:=hall 11(by kernel_rfl)
  have hb12_:=hall 12(by kernel_rfl)
  have hb13_:=hall 13(by kernel_rfl)
  have hb14_:=hall 14(by kernel_rfl)
  have hb15_:=hall 15(by kernel_rfl)
  have hb16_:=hall 16(by kernel_rfl)
  have hb17_:=hall 17(by kernel_rfl)
  have hb18_:=hall 18(by kernel_rfl)
  have hb19_:=hall 19(by kernel_rfl)
  subst ha
  obtain rfl:=Q_X4_ hb4_
  obtain rfl:=Q_X7_ hb7_
  obtain rfl:=Q_X8_ hb8_
  obtain rfl:=Q_X9_ hb9_
  obtain rfl:=Q_X10_ hb10_
  obtain rfl:=Q_X12_ hb12_
  obtain rfl:=Q_X14_ hb14_
  obtain rfl:=Q_X15_ hb15_
  obtain rfl:=Q_X16_ hb16_
  simp only [putSel,hb1_,hb2_,hb4_,hb6_,hb7_,hb8_,hb9_,hb10_,hb11_,hb12_,hb13_,hb14_,hb15_,hb16_,hb17_,hb18_,hb19_,if_true,Act.put,List.setIfInBounds_toArray,List.set_cons_zero,List.set_cons_succ]
  clear Q_CBa
  have CBb:=am_(Q_CBb hb18_)
  clear Q_CBb
  have hCB_:=CBb.out
  clear CBb
  subst hCB_
  have HI:=am_ Q_HI
  replace HI:=am_(Inv.take HI.out 4 rfl hb4_)
  replace HI:=am_(Inv.take HI.out 4 rfl hb8_)
  replace HI:=am_(Inv.take HI.out 4 rfl hb8_)
  replace HI:=am_(Inv.take HI.out 4 rfl hb15_)
  replace HI:=am_(Inv.take HI.out 4 rfl hb14_)
  replace HI:Aside0(Inv w NoB w' [blk g13 34 #[.int .i64 x2,.int .i64 x3],blk g14 27 #[.slice X4 x4.length cx4,.int .i64 x5,.string x6,.int .i64 x7],row k34 34 w.heap.size(.slice X1 x1.length cx1)x1(fun k=>some k=(Value.ownBlock(.slice X1 x1.length cx1))),row k34 34 w.heap.size(.slice X4 x4.length cx4)x4(fun k=>some k=(Value.ownBlock(.slice X4 x4.length cx4))),row(Kd.tag f1(Kd.slice 34 k34))24 w.heap.size(.slice L1 L.length cl1)L.zipIdx S1_,blk g9 59 #[.slice A4 m0.length c4,.int .i64 m1,.string m2,.int .i64 m3],blk g6 56 #[.int .i64 d0,.int .i64 d1]](fun w2=>Kd.C(Kd.slice 56 k56)w2 A2 l2.length l2∧Kd.C k56 w2 A4 m0.length m0)):=⟨Inv.cellsEq(HI.out.subL(L':=[blk g13 34(cond(b 17)(#[.int .i64 x2,.int .i64 x3])(#[.int .i64 0,.int .i64 0])),blk g14 27(#[.slice X4 x4.length cx4,.int .i64 x5,.string x6,.int .i64 x7]),row k34 34 w.heap.size(.slice X1 x1.length cx1)x1(fun k=>some k=(Value.ownBlock(.slice X1 x1.length cx1))),row k34 34 w.heap.size(.slice X4 x4.length cx4)x4(fun k=>some k=(Value.ownBlock(.slice X4 x4.length cx4))),row(Kd.tag f1(Kd.slice 34 k34))24 w.heap.size(.slice L1 L.length cl1)L.zipIdx S1_,blk g9 59 #[.slice A4 m0.length c4,.int .i64 m1,.string m2,.int .i64 m3],blk g6 56 #[.int .i64 d0,.int .i64 d1]])qz34_)(by rw [hb17_];rfl)⟩
  clear Q_HI
  clear hall hb1_ hb2_ hb4_ hb6_ hb7_ hb8_ hb9_ hb10_ hb11_ hb12_ hb13_ hb14_ hb15_ hb16_ hb17_ hb18_ hb19_
  go_wp2_with(first|((go_at_call 28;(refine(laws_toExtSS.calls k A2 c2 l2 L _ HI.out.now.1 HC2.out HTL.out).mono ?_);rintro e w54⟨vl_,rfl,hS,hb⟩;obtain⟨L2,cl2,el_⟩:=Kd.R_slice(Kd.S_R hS);subst el_;obtain⟨f2,hR⟩:=hS;replace HI:=am_(HI.out.rowPush hb hR);clear hR hb))|((with_reducible refine gate_dst(N:=55)rfl ?_);go_must(refine wpList_load_row rfl 59 _ rfl g9 rfl 59(#[.slice A4 m0.length c4,.int .i64 m1,.string m2,.int .i64 m3])(0,0)_(HI.out.at_(blk g9 59 #[.slice A4 m0.length c4,.int .i64 m1,.string m2,.int .i64 m3])qz40_)hu59 rfl(by first|exact draw_side _ _|kernel_rfl) ?_))|((go_at_call 29;(refine(laws_toSource.calls k A4 c4 m0 m1 m2 m3 q0 q1 q2 q3 _ HI.out.now.2 HC4.out HTS.out).mono ?_);rintro e w56⟨vq_,rfl,hR,hb⟩;obtain⟨Q2,cq2,eq_⟩:=Kd.R_slice hR;subst eq_;replace HI:=am_(HI.out.rowPush hb hR);clear hR hb))|((with_reducible refine gate_dst(N:=17)rfl ?_);refine box_event rfl(N:=17)rfl(cs:=#[.slice none 0 0,.int .i64 0,.string(⟨#[]⟩:ByteArray),.int .i64 0])(t:=27)bx_ ?_;intro g17 hg w17_ hbox hb;replace HI:=am_((HI.out).box hg hbox hb);clear hb hbox hg)|((with_reducible refine gate_store(p:=17)(v:=(.tmp 56))(t:=27)rfl ?_);go_must(refine wpList_store_row rfl 27 _ _ rfl g17(#[.slice Q2 q0.length cq2,.int .i64 q1,.string q2,.int .i64 q3])rfl(by first|rfl|(go_simp;done)|(go_simp;rfl))27(#[.slice none 0 0,.int .i64 0,.string(⟨#[]⟩:ByteArray),.int .i64 0])(HI.out.get 0 rfl)(by kernel_rfl)rfl qz12_ ?_;replace HI:=am_((HI.out).put0(#[.slice Q2 q0.length cq2,.int .i64 q1,.string q2,.int .i64 q3]));generalize World.setRow _ g17(#[.slice Q2 q0.length cq2,.int .i64 q1,.string q2,.int .i64 q3])=w56 at HI ⊢)))
  have HE_:∃ (S3_:Nat→Prop)(S2_:Nat→Prop),Inv w NoB _ [blk g17 27 #[.slice Q2 q0.length cq2,.int .i64 q1,.string q2,.int .i64 q3],row k34 34 w.heap.size(.slice Q2 q0.length cq2)q0 S3_,row(Kd.tag f2(Kd.slice 34 k34))24 w.heap.size(.slice L2 L.length cl2)L.zipIdx S2_,blk g13 34 #[.int .i64 x2,.int .i64 x3],blk g14 27 #[.slice X4 x4.length cx4,.int .i64 x5,.string x6,.int .i64 x7],row k34 34 w.heap.size(.slice X1 x1.length cx1)x1(fun k=>some k=(Value.ownBlock(.slice X1 x1.length cx1))),row k34 34 w.heap.size(.slice X4 x4.length cx4)x4(fun k=>some k=(Value.ownBlock(.slice X4 x4.length cx4))),row(Kd.tag f1(Kd.slice 34 k34))24 w.heap.size(.slice L1 L.length cl1)L.zipIdx S1_,blk g9 59 #[.slice A4 m0.length c4,.int .i64 m1,.string m2,.int .i64 m3],blk g6 56 #[.int .i64 d0,.int .i64 d1]](fun w2=>Kd.C(Kd.slice 56 k56)w2 A2 l2.length l2∧Kd.C k56 w2 A4 m0.length m0):=⟨_,_,HI.out⟩
  clear HI
  obtain⟨S3_,S2_,HI_⟩:=HE_
  have HI:=am_ HI_
  clear HI_
  refine start_(n:=18)(S:=fun w'=>True)(ds:=[])(bs_ 18 0)(by kernel_rfl)rfl rfl trivial(fun hHeld=>?_)
  refine with_tabW laws_FnExactSumVerify.tab11 laws_FnExactSumVerify.bits11(fun HT_ HW_=>?_)
  have CBa:True:=trivial
  replace HI:=am_(HI.out.drew)
  generalize World.drew _=wd11 at HI ⊢
  refine pt_ HT_.out 0 58 (bs_ 18 1) ?_
  refine pt_ HT_.out 3 61 (bs_ 18 9) ?_
  refine pt_ HT_.out 4 62 (bs_ 18 25) ?_
  refine inv_at [1,2,5,6,7,8,9,10,11,12,13,14,15,16,17](fun a0_ b a w'=>∃ (G1:Option Addr)(cg1:Nat)(G4:Option Addr)(cg4:Nat)(g19:Nat)(g20:Nat)(CB11:Array Value)(m6_:Value)(m7_:Value)(m8_:Value)(m10_:Value)(m12_:Value)(m13_:Value)(m14_:Value),a=putSel a0_ b [(1,59,.agg #[.int .i64 d0,.int .i64 d1]),(2,60,.agg #[.int .i64 c0,.int .i64 c1]),(5,63,.agg #[.slice Q2 q0.length cq2,.int .i64 q1,.string q2,.int .i64 q3]),(6,64,m6_),(7,57,m7_),(8,65,m8_),(9,66,.agg #[.int .i64 g2,.int .i64 g3]),(10,67,m10_),(11,68,.int .i64 g8),(12,19,m12_),(13,20,m13_),(14,18,m14_),(17,21,.int .i64 g8)]∧(b 16=false→CB11=#[.slice none 0 0,.int .i64 0,.string(⟨#[]⟩:ByteArray),.int .i64 0])∧(b 16=true→CB11=#[.slice G4 g4.length cg4,.int .i64 g5,.string g6_,.int .i64 g7])∧(Inv w NoB w' [gif(b 12)(blk g19 34(cond(b 15)(#[.int .i64 g2,.int .i64 g3])(#[.int .i64 0,.int .i64 0]))),gif(b 13)(blk g20 27 CB11),gif(b 6)(row k34 34 w.heap.size(.slice G1 g1.length cg1)g1(fun k=>some k=(Value.ownBlock(.slice G1 g1.length cg1)))),gif(b 6)(row k34 34 w.heap.size(.slice G4 g4.length cg4)g4(fun k=>some k=(Value.ownBlock(.slice G4 g4.length cg4)))),blk g17 27 #[.slice Q2 q0.length cq2,.int .i64 q1,.string q2,.int .i64 q3],row k34 34 w.heap.size(.slice Q2 q0.length cq2)q0 S3_,row(Kd.tag f2(Kd.slice 34 k34))24 w.heap.size(.slice L2 L.length cl2)L.zipIdx S2_,blk g13 34 #[.int .i64 x2,.int .i64 x3],blk g14 27 #[.slice X4 x4.length cx4,.int .i64 x5,.string x6,.int .i64 x7],row k34 34 w.heap.size(.slice X1 x1.length cx1)x1(fun k=>some k=(Value.ownBlock(.slice X1 x1.length cx1))),row k34 34 w.heap.size(.slice X4 x4.length cx4)x4(fun k=>some k=(Value.ownBlock(.slice X4 x4.length cx4))),row(Kd.tag f1(Kd.slice 34 k34))24 w.heap.size(.slice L1 L.length cl1)L.zipIdx S1_,blk g9 59 #[.slice A4 m0.length c4,.int .i64 m1,.string m2,.int .i64 m3],blk g6 56 #[.int .i64 d0,.int .i64 d1]](fun w2=>Kd.C(Kd.slice 56 k56)w2 A2 l2.length l2∧Kd.C k56 w2 A4 m0.length m0))∧(b 6=true→(m6_:Value)=.tuple #[.slice G1 g1.length cg1,.agg #[.int .i64 g2,.int .i64 g3],.agg #[.slice G4 g4.length cg4,.int .i64 g5,.string g6_,.int .i64 g7],.int .i64 g8])∧(b 7=true→(m7_:Value)=.tuple #[.slice G1 g1.length cg1,.agg #[.int .i64 g2,.int .i64 g3],.agg #[.slice G4 g4.length cg4,.int .i64 g5,.string g6_,.int .i64 g7],.int .i64 g8])∧(b 8=true→(m8_:Value)=.slice G1 g1.length cg1)∧(b 10=true→(m10_:Value)=.agg #[.slice G4 g4.length cg4,.int .i64 g5,.string g6_,.int .i64 g7])∧(b 12=true→(m12_:Value)=.pointer(some⟨g19,0,none⟩))∧(b 13=true→(m13_:Value)=.pointer(some⟨g20,0,none⟩))∧(b 14=true→(m14_:Value)=.slice G1 g1.length cg1))HT_.out HW_.out(by kernel_rfl)(by kernel_rfl) ?_ ?_ ?_
  ·
   exact⟨none,0,none,0,0,0,#[.slice none 0 0,.int .i64 0,.string(⟨#[]⟩:ByteArray),.int .i64 0],.bool false,.bool false,.bool false,.bool false,.bool false,.bool false,.bool false,by simp only [putSel,Bool.false_eq_true,if_false],fun _=>rfl,fun h_=>absurd h_(by decide),Inv.off(Inv.off(Inv.off(Inv.off(HI.out)))),fun h_=>absurd h_(by decide),fun h_=>absurd h_(by decide),fun h_=>absurd h_(by decide),fun h_=>absurd h_(by decide),fun h_=>absurd h_(by decide),fun h_=>absurd h_(by decide),fun h_=>absurd h_(by decide)⟩
  ·
   skip
   clear CBa HI
   refine steps_cons ?_ ?_
   ·
    rintro b a w'⟨G1,cg1,G4,cg4,g19,g20,CB11,m6_,m7_,m8_,m10_,m12_,m13_,m14_,ha,Q_CBa,Q_CBb,Q_HI,Q_X6_,Q_X7_,Q_X8_,Q_X10_,Q_X12_,Q_X13_,Q_X14_⟩hb_ hon hoff
    refine⟨_,rfl,fun K hK=>?_⟩
    have e6:a.tmps[6]?=some(.pointer(some⟨g6,0,none⟩)):=by rw [ha];exact(putSel_off rfl).trans rfl
    replace ha:=am_ ha
    have CBa:=am_(Q_CBa(hoff 16(by kernel_rfl)))
    have HI:=am_ Q_HI
    have y_0:w'.cell?⟨g6,0,none⟩=some(.int .i64 d0):=(blk_cell(HI.out.at_(blk g6 56 #[.int .i64 d0,.int .i64 d1])qz40_)0).trans rfl
    have y_1:w'.cell?⟨g6,1,none⟩=some(.int .i64 d1):=(blk_cell(HI.out.at_(blk g6 56 #[.int .i64 d0,.int .i64 d1])qz40_)1).trans rfl
    refine value_(w1:=w')(v:=.agg #[.int .i64 d0,.int .i64 d1])(by rfl)rfl ?_ ?_
    ·
     go_simp
     (try simp only [i64_w])
     try rfl
    refine hK.out _ _⟨G1,cg1,G4,cg4,g19,g20,CB11,m6_,m7_,m8_,m10_,m12_,m13_,m14_,(by rw [ha.out];exact putSel_upk 0 hb_ rfl rfl rfl),Q_CBa,fun h0_=>ab_(hoff 16(by kernel_rfl))h0_,Q_HI,fun h0_=>ab_(hoff 6(by kernel_rfl))h0_,fun h0_=>ab_(hoff 7(by kernel_rfl))h0_,fun h0_=>ab_(hoff 8(by kernel_rfl))h0_,fun h0_=>ab_(hoff 10(by kernel_rfl))h0_,Q_X12_,Q_X13_,fun h0_=>ab_(hoff 14(by kernel_rfl))h0_⟩
   refine steps_cons ?_ ?_
   ·
    rintro b a w'⟨G1,cg1,G4,cg4,g19,g20,CB11,m6_,m7_,m8_,m10_,m12_,m13_,m14_,ha,Q_CBa,Q_CBb,Q_HI,Q_X6_,Q_X7_,Q_X8_,Q_X10_,Q_X12_,Q_X13_,Q_X14_⟩hb_ hon hoff
    refine⟨_,rfl,fun K hK=>?_⟩
    have e59:a.tmps[59]?=some(.agg #[.int .i64 d0,.int .i64 d1]):=by rw [ha];exact putSel_on(e:=(1,59,.agg #[.int .i64 d0,.int .i64 d1]))0 rfl rfl(hon 1(by kernel_rfl))rfl
    replace ha:=am_ ha
    have CBa:=am_(Q_CBa(hoff 16(by kernel_rfl)))
    have HI:=am_ Q_HI
    refine goes_ Try.func27(by kernel_rfl)rfl #[.agg #[.int .i64 d0,.int .i64 d1]](by rfl)rfl rfl(by first|(simp only [List.map_toArray,List.map_cons,List.map_nil,Act.eval,Array.getD_eq_getD_getElem?,Option.getD_some,e59];done)|(simp only [List.map_toArray,List.map_cons,List.map_nil,Act.eval,Array.getD_eq_getD_getElem?,Option.getD_some,e59];rfl)) ?_
    with_reducible refine(laws_toExt.calls d0 d1 c0 c1 _ HTE.out).mono ?_
    rintro e wt⟨rfl,hb⟩
    refine⟨_,rfl,?_⟩
    have HI2:=am_(HI.out.grow hb)
    refine hK.out _ _⟨G1,cg1,G4,cg4,g19,g20,CB11,m6_,m7_,m8_,m10_,m12_,m13_,m14_,(by rw [ha.out];exact putSel_upk 1 hb_ rfl rfl rfl),Q_CBa,fun h0_=>ab_(hoff 16(by kernel_rfl))h0_,HI2.out,fun h0_=>ab_(hoff 6(by kernel_rfl))h0_,fun h0_=>ab_(hoff 7(by kernel_rfl))h0_,fun h0_=>ab_(hoff 8(by kernel_rfl))h0_,fun h0_=>ab_(hoff 10(by kernel_rfl))h0_,Q_X12_,Q_X13_,fun h0_=>ab_(hoff 14(by kernel_rfl))h0_⟩
   refine steps_cons ?_ ?_
   ·
    rintro b a w'⟨G1,cg1,G4,cg4,g19,g20,CB11,m6_,m7_,m8_,m10_,m12_,m13_,m14_,ha,Q_CBa,Q_CBb,Q_HI,Q_X6_,Q_X7_,Q_X8_,Q_X10_,Q_X12_,Q_X13_,Q_X14_⟩hb_ hon hoff
    refine⟨_,rfl,fun K hK=>?_⟩
    have e17:a.tmps[17]?=some(.pointer(some⟨g17,0,none⟩)):=by rw [ha];exact(putSel_off rfl).trans rfl
    replace ha:=am_ ha
    have CBa:=am_(Q_CBa(hoff 16(by kernel_rfl)))
    have HI:=am_ Q_HI
    have y_0:w'.cell?⟨g17,0,none⟩=some(.slice Q2 q0.length cq2):=(blk_cell(HI.out.at_(blk g17 27 #[.slice Q2 q0.length cq2,.int .i64 q1,.string q2,.int .i64 q3])qz40_)0).trans rfl
    have y_1:w'.cell?⟨g17,1,none⟩=some(.int .i64 q1):=(blk_cell(HI.out.at_(blk g17 27 #[.slice Q2 q0.length cq2,.int .i64 q1,.string q2,.int .i64 q3])qz40_)1).trans rfl
    have y_2:w'.cell?⟨g17,2,none⟩=some(.string q2):=(blk_cell(HI.out.at_(blk g17 27 #[.slice Q2 q0.length cq2,.int .i64 q1,.string q2,.int .i64 q3])qz40_)2).trans rfl
    have y_3:w'.cell?⟨g17,3,none⟩=some(.int .i64 q3):=(blk_cell(HI.out.at_(blk g17 27 #[.slice Q2 q0.length cq2,.int .i64 q1,.string q2,.int .i64 q3])qz40_)3).trans rfl
    refine value_(w1:=w')(v:=.agg #[.slice Q2 q0.length cq2,.int .i64 q1,.string q2,.int .i64 q3])(by rfl)rfl ?_ ?_
    ·
     go_simp
     (try simp only [i64_w])
     try rfl
    refine hK.out _ _⟨G1,cg1,G4,cg4,g19,g20,CB11,m6_,m7_,m8_,m10_,m12_,m13_,m14_,(by rw [ha.out];exact putSel_upk 2 hb_ rfl rfl rfl),Q_CBa,fun h0_=>ab_(hoff 16(by kernel_rfl))h0_,Q_HI,fun h0_=>ab_(hoff 6(by kernel_rfl))h0_,fun h0_=>ab_(hoff 7(by kernel_rfl))h0_,fun h0_=>ab_(hoff 8(by kernel_rfl))h0_,fun h0_=>ab_(hoff 10(by kernel_rfl))h0_,Q_X12_,Q_X13_,fun h0_=>ab_(hoff 14(by kernel_rfl))h0_⟩
   refine steps_cons ?_ ?_
   ·
    rintro b a w'⟨G1,cg1,G4,cg4,g19,g20,CB11,m6_,m7_,m8_,m10_,m12_,m13_,m14_,ha,Q_CBa,Q_CBb,Q_HI,Q_X6_,Q_X7_,Q_X8_,Q_X10_,Q_X12_,Q_X13_,Q_X14_⟩hb_ hon hoff
    refine⟨_,rfl,fun K hK=>?_⟩
    have e58:a.tmps[58]?=some(.int .i64 kind):=by rw [ha];exact(putSel_off rfl).trans rfl
    have e60:a.tmps[60]?=some(.agg #[.int .i64 c0,.int .i64 c1]):=by rw [ha];exact putSel_on(e:=(2,60,.agg #[.int .i64 c0,.int .i64 c1]))1 rfl rfl(hon 2(by kernel_rfl))rfl
    have e61:a.tmps[61]?=some(.slice L2 L.length cl2):=by rw [ha];exact(putSel_off rfl).trans rfl
    have e62:a.tmps[62]?=some(.int .i64 vars):=by rw [ha];exact(putSel_off rfl).trans rfl
    have e63:a.tmps[63]?=some(.agg #[.slice Q2 q0.length cq2,.int .i64 q1,.string q2,.int .i64 q3]):=by rw [ha];exact putSel_on(e:=(5,63,.agg #[.slice Q2 q0.length cq2,.int .i64 q1,.string q2,.int .i64 q3]))2 rfl rfl(hon 5(by kernel_rfl))rfl
    replace ha:=am_ ha
    have CBa:=am_(Q_CBa(hoff 16(by kernel_rfl)))
    have HI:=am_ Q_HI
    refine goes_ Try.func30(by kernel_rfl)rfl #[.int .i64 kind,.agg #[.int .i64 c0,.int .i64 c1],.slice L2 L.length cl2,.int .i64 vars,.agg #[.slice Q2 q0.length cq2,.int .i64 q1,.string q2,.int .i64 q3]](by rfl)rfl rfl(by first|(simp only [List.map_toArray,List.map_cons,List.map_nil,Act.eval,Array.getD_eq_getD_getElem?,Option.getD_some,e58,e60,e61,e62,e63];done)|(simp only [List.map_toArray,List.map_cons,List.map_nil,Act.eval,Array.getD_eq_getD_getElem?,Option.getD_some,e58,e60,e61,e62,e63];rfl)) ?_
    have hQ_:=Kd.R_reads'(rowR(HI.out.at_(row k34 34 w.heap.size(.slice Q2 q0.length cq2)q0 S3_)qz40_))
    with_reducible refine(impl_SumVerify.calls k kind c0 c1 L2 cl2 L vars Q2 cq2 q0 q1 q2 q3 g1 g2 g3 g4 g5 g6_ g7 g8 _(tagC(rowR(HI.out.at_(row(Kd.tag f2(Kd.slice 34 k34))24 w.heap.size(.slice L2 L.length cl2)L.zipIdx S2_)qz40_))).1(tagC(rowR(HI.out.at_(row(Kd.tag f2(Kd.slice 34 k34))24 w.heap.size(.slice L2 L.length cl2)L.zipIdx S2_)qz40_))).2 hQ_.2.2 hQ_.2.1 HIV.out).mono ?_
    rintro e wt⟨v0_,v3_,rfl,hR0,hR3,hb⟩
    obtain⟨X_n,cx_n,ex_⟩:=Kd.R_slice hR0
    subst ex_
    obtain⟨Y_n,cy_n,ey_⟩:=Kd.R_slice hR3
    subst ey_
    refine⟨_,rfl,?_⟩
    have HI5:=am_(Inv.keptTwo(b3:=w.heap.size)rfl rfl HI.out.nil0((Agr.of_below hb).mono(fun _ h=>h.elim))hR0(Nat.le_refl _)HI.out.agr.size(Kd.R_lower(Kd.R_bound hR3)HI.out.agr.size)(fun k hk=>.inr hk.2.1)(fun k hk=>hk.1))
    have HI2:=am_(Inv.fill true(Inv.fill true HI5.out 3 rfl)3 rfl)
    refine hK.out _ _⟨X_n,cx_n,Y_n,cy_n,g19,g20,CB11,(.tuple #[.slice X_n g1.length cx_n,.agg #[.int .i64 g2,.int .i64 g3],.agg #[.slice Y_n g4.length cy_n,.int .i64 g5,.string g6_,.int .i64 g7],.int .i64 g8]),m7_,m8_,m10_,m12_,m13_,m14_,(by rw [ha.out];exact putSel_upk 3 hb_ rfl rfl rfl),Q_CBa,fun h0_=>ab_(hoff 16(by kernel_rfl))h0_,HI2.out,fun _=>rfl,fun h0_=>ab_(hoff 7(by kernel_rfl))h0_,fun h0_=>ab_(hoff 8(by kernel_rfl))h0_,fun h0_=>ab_(hoff 10(by kernel_rfl))h0_,Q_X12_,Q_X13_,fun h0_=>ab_(hoff 14(by kernel_rfl))h0_⟩
   refine steps_cons ?_ ?_
   ·
    rintro b a w'⟨G1,cg1,G4,cg4,g19,g20,CB11,m6_,m7_,m8_,m10_,m12_,m13_,m14_,ha,Q_CBa,Q_CBb,Q_HI,Q_X6_,Q_X7_,Q_X8_,Q_X10_,Q_X12_,Q_X13_,Q_X14_⟩hb_ hon hoff
    refine⟨_,rfl,fun K hK=>?_⟩
    have e64:a.tmps[64]?=some(m6_):=by rw [ha];exact putSel_on(e:=(6,64,m6_))3 rfl rfl(hon 6(by kernel_rfl))rfl
    rw [Q_X6_(hon 6(by kernel_rfl))] at e64
    replace ha:=am_ ha
    have CBa:=am_(Q_CBa(hoff 16(by kernel_rfl)))
    have HI:=am_ Q_HI
    refine value_(w1:=w')(v:=.tuple #[.slice G1 g1.length cg1,.agg #[.int .i64 g2,.int .i64 g3],.agg #[.slice G4 g4.length cg4,.int .i64 g5,.string g6_,.int .i64 g7],.int .i64 g8])(by rfl)rfl ?_ ?_
    ·
     go_simp
     (try simp only [i64_w])
     try rfl
    refine hK.out _ _⟨G1,cg1,G4,cg4,g19,g20,CB11,m6_,(.tuple #[.slice G1 g1.length cg1,.agg #[.int .i64 g2,.int .i64 g3],.agg #[.slice G4 g4.length cg4,.int .i64 g5,.string g6_,.int .i64 g7],.int .i64 g8]),m8_,m10_,m12_,m13_,m14_,(by rw [ha.out];exact putSel_upk 4 hb_ rfl rfl rfl),Q_CBa,fun h0_=>ab_(hoff 16(by kernel_rfl))h0_,Q_HI,Q_X6_,fun _=>rfl,fun h0_=>ab_(hoff 8(by kernel_rfl))h0_,fun h0_=>ab_(hoff 10(by kernel_rfl))h0_,Q_X12_,Q_X13_,fun h0_=>ab_(hoff 14(by kernel_rfl))h0_⟩
   refine steps_cons ?_ ?_
   ·
    rintro b a w'⟨G1,cg1,G4,cg4,g19,g20,CB11,m6_,m7_,m8_,m10_,m12_,m13_,m14_,ha,Q_CBa,Q_CBb,Q_HI,Q_X6_,Q_X7_,Q_X8_,Q_X10_,Q_X12_,Q_X13_,Q_X14_⟩hb_ hon hoff
    refine⟨_,rfl,fun K hK=>?_⟩
    have e57:a.tmps[57]?=some(m7_):=by rw [ha];exact putSel_on(e:=(7,57,m7_))4 rfl rfl(hon 7(by kernel_rfl))rfl
    rw [Q_X7_(hon 7(by kernel_rfl))] at e57
    replace ha:=am_ ha
    have CBa:=am_(Q_CBa(hoff 16(by kernel_rfl)))
    have HI:=am_ Q_HI
    refine value_(w1:=w')(v:=.slice G1 g1.length cg1)(by rfl)rfl ?_ ?_
    ·
     go_simp
     (try simp only [i64_w])
     try rfl
    refine hK.out _ _⟨G1,cg1,G4,cg4,g19,g20,CB11,m6_,m7_,(.slice G1 g1.length cg1),m10_,m12_,m13_,m14_,(by rw [ha.out];exact putSel_upk 5 hb_ rfl rfl rfl),Q_CBa,fun h0_=>ab_(hoff 16(by kernel_rfl))h0_,Q_HI,Q_X6_,Q_X7_,fun _=>rfl,Q_X10_,Q_X12_,Q_X13_,fun h0_=>ab_(hoff 14(by kernel_rfl))h0_⟩
   refine steps_cons ?_ ?_
   ·
    rintro b a w'⟨G1,cg1,G4,cg4,g19,g20,CB11,m6_,m7_,m8_,m10_,m12_,m13_,m14_,ha,Q_CBa,Q_CBb,Q_HI,Q_X6_,Q_X7_,Q_X8_,Q_X10_,Q_X12_,Q_X13_,Q_X14_⟩hb_ hon hoff
    refine⟨_,rfl,fun K hK=>?_⟩
    have e57:a.tmps[57]?=some(m7_):=by rw [ha];exact putSel_on(e:=(7,57,m7_))4 rfl rfl(hon 7(by kernel_rfl))rfl
    rw [Q_X7_(hon 7(by kernel_rfl))] at e57
    replace ha:=am_ ha
    have CBa:=am_(Q_CBa(hoff 16(by kernel_rfl)))
    have HI:=am_ Q_HI
    refine value_(w1:=w')(v:=.agg #[.int .i64 g2,.int .i64 g3])(by rfl)rfl ?_ ?_
    ·
     go_simp
     (try simp only [i64_w])
     try rfl
    refine hK.out _ _⟨G1,cg1,G4,cg4,g19,g20,CB11,m6_,m7_,m8_,m10_,m12_,m13_,m14_,(by rw [ha.out];exact putSel_upk 6 hb_ rfl rfl rfl),Q_CBa,fun h0_=>ab_(hoff 16(by kernel_rfl))h0_,Q_HI,Q_X6_,Q_X7_,Q_X8_,Q_X10_,Q_X12_,Q_X13_,Q_X14_⟩
   refine steps_cons ?_ ?_
   ·
    rintro b a w'⟨G1,cg1,G4,cg4,g19,g20,CB11,m6_,m7_,m8_,m10_,m12_,m13_,m14_,ha,Q_CBa,Q_CBb,Q_HI,Q_X6_,Q_X7_,Q_X8_,Q_X10_,Q_X12_,Q_X13_,Q_X14_⟩hb_ hon hoff
    refine⟨_,rfl,fun K hK=>?_⟩
    have e57:a.tmps[57]?=some(m7_):=by rw [ha];exact putSel_on(e:=(7,57,m7_))4 rfl rfl(hon 7(by kernel_rfl))rfl
    rw [Q_X7_(hon 7(by kernel_rfl))] at e57
    replace ha:=am_ ha
    have CBa:=am_(Q_CBa(hoff 16(by kernel_rfl)))
    have HI:=am_ Q_HI
    refine value_(w1:=w')(v:=.agg #[.slice G4 g4.length cg4,.int .i64 g5,.string g6_,.int .i64 g7])(by rfl)rfl ?_ ?_
    ·
     go_simp
     (try simp only [i64_w])
     try rfl
    refine hK.out _ _⟨G1,cg1,G4,cg4,g19,g20,CB11,m6_,m7_,m8_,(.agg #[.slice G4 g4.length cg4,.int .i64 g5,.string g6_,.int .i64 g7]),m12_,m13_,m14_,(by rw [ha.out];exact putSel_upk 7 hb_ rfl rfl rfl),Q_CBa,fun h0_=>ab_(hoff 16(by kernel_rfl))h0_,Q_HI,Q_X6_,Q_X7_,Q_X8_,fun _=>rfl,Q_X12_,Q_X13_,Q_X14_⟩
   refine steps_cons ?_ ?_
   ·
    rintro b a w'⟨G1,cg1,G4,cg4,g19,g20,CB11,m6_,m7_,m8_,m10_,m12_,m13_,m14_,ha,Q_CBa,Q_CBb,Q_HI,Q_X6_,Q_X7_,Q_X8_,Q_X10_,Q_X12_,Q_X13_,Q_X14_⟩hb_ hon hoff
    refine⟨_,rfl,fun K hK=>?_⟩
    have e57:a.tmps[57]?=some(m7_):=by rw [ha];exact putSel_on(e:=(7,57,m7_))4 rfl rfl(hon 7(by kernel_rfl))rfl
    rw [Q_X7_(hon 7(by kernel_rfl))] at e57
    replace ha:=am_ ha
    have HI:=am_ Q_HI
    refine value_(w1:=w')(v:=.int .i64 g8)(by rfl)rfl ?_ ?_
    ·
     go_simp
     (try simp only [i64_w])
     try rfl
    refine hK.out _ _⟨G1,cg1,G4,cg4,g19,g20,CB11,m6_,m7_,m8_,m10_,m12_,m13_,m14_,(by rw [ha.out];exact putSel_upk 8 hb_ rfl rfl rfl),Q_CBa,Q_CBb,Q_HI,Q_X6_,Q_X7_,Q_X8_,Q_X10_,Q_X12_,Q_X13_,Q_X14_⟩
   refine steps_cons ?_ ?_
   ·
    rintro b a w'⟨G1,cg1,G4,cg4,g19,g20,CB11,m6_,m7_,m8_,m10_,m12_,m13_,m14_,ha,Q_CBa,Q_CBb,Q_HI,Q_X6_,Q_X7_,Q_X8_,Q_X10_,Q_X12_,Q_X13_,Q_X14_⟩hb_ hon hoff
    refine⟨_,rfl,fun K hK=>?_⟩
    replace ha:=am_ ha
    have CBa:=am_(Q_CBa(hoff 16(by kernel_rfl)))
    have HI:=am_ Q_HI
    refine value_(w1:=w'.alloc(.cells #[.int .i64 0,.int .i64 0] 34))(v:=.pointer(some⟨w'.heap.size,0,none⟩))(by rfl)rfl ?_ ?_
    ·
     first|(go_simp;done)|(go_simp;rfl)
    have HI2:=am_(Inv.fill true(Inv.cellsEq(HI.out.allocBox 34(#[.int .i64 0,.int .i64 0]))(cs':=cond(b 15)(#[.int .i64 g2,.int .i64 g3])(#[.int .i64 0,.int .i64 0]))(by rw [hoff 15(by kernel_rfl)];rfl))0 rfl)
    refine hK.out _ _⟨G1,cg1,G4,cg4,w'.heap.size,g20,CB11,m6_,m7_,m8_,m10_,(.pointer(some⟨w'.heap.size,0,none⟩)),m13_,m14_,(by rw [ha.out];exact putSel_upk 9 hb_ rfl rfl rfl),Q_CBa,fun h0_=>ab_(hoff 16(by kernel_rfl))h0_,HI2.out,Q_X6_,Q_X7_,Q_X8_,Q_X10_,fun _=>rfl,Q_X13_,fun h0_=>ab_(hoff 14(by kernel_rfl))h0_⟩
   refine steps_cons ?_ ?_
   ·
    rintro b a w'⟨G1,cg1,G4,cg4,g19,g20,CB11,m6_,m7_,m8_,m10_,m12_,m13_,m14_,ha,Q_CBa,Q_CBb,Q_HI,Q_X6_,Q_X7_,Q_X8_,Q_X10_,Q_X12_,Q_X13_,Q_X14_⟩hb_ hon hoff
    refine⟨_,rfl,fun K hK=>?_⟩
    replace ha:=am_ ha
    have CBa:=am_(Q_CBa(hoff 16(by kernel_rfl)))
    have HI:=am_ Q_HI
    refine value_(w1:=w'.alloc(.cells #[.slice none 0 0,.int .i64 0,.string(⟨#[]⟩:ByteArray),.int .i64 0] 27))(v:=.pointer(some⟨w'.heap.size,0,none⟩))(by rfl)rfl ?_ ?_
    ·
     first|(go_simp;done)|(go_simp;rfl)
    have HI2:=am_(Inv.fill true(Inv.cellsEq(HI.out.allocBox 27(#[.slice none 0 0,.int .i64 0,.string(⟨#[]⟩:ByteArray),.int .i64 0]))(cs':=CB11)CBa.out)1 rfl)
    refine hK.out _ _⟨G1,cg1,G4,cg4,g19,w'.heap.size,CB11,m6_,m7_,m8_,m10_,m12_,(.pointer(some⟨w'.heap.size,0,none⟩)),m14_,(by rw [ha.out];exact putSel_upk 10 hb_ rfl rfl rfl),Q_CBa,fun h0_=>ab_(hoff 16(by kernel_rfl))h0_,HI2.out,Q_X6_,Q_X7_,Q_X8_,Q_X10_,Q_X12_,fun _=>rfl,fun h0_=>ab_(hoff 14(by kernel_rfl))h0_⟩
   refine steps_cons ?_ ?_
   ·
    rintro b a w'⟨G1,cg1,G4,cg4,g19,g20,CB11,m6_,m7_,m8_,m10_,m12_,m13_,m14_,ha,Q_CBa,Q_CBb,Q_HI,Q_X6_,Q_X7_,Q_X8_,Q_X10_,Q_X12_,Q_X13_,Q_X14_⟩hb_ hon hoff
    refine⟨_,rfl,fun K hK=>?_⟩
    have e65:a.tmps[65]?=some(m8_):=by rw [ha];exact putSel_on(e:=(8,65,m8_))5 rfl rfl(hon 8(by kernel_rfl))rfl
    rw [Q_X8_(hon 8(by kernel_rfl))] at e65
    replace ha:=am_ ha
    have CBa:=am_(Q_CBa(hoff 16(by kernel_rfl)))
    have HI:=am_ Q_HI
    refine value_(w1:=w')(v:=.slice G1 g1.length cg1)(by rfl)rfl ?_ ?_
    ·
     go_simp
     (try simp only [i64_w])
     try rfl
    refine hK.out _ _⟨G1,cg1,G4,cg4,g19,g20,CB11,m6_,m7_,m8_,m10_,m12_,m13_,(.slice G1 g1.length cg1),(by rw [ha.out];exact putSel_upk 11 hb_ rfl rfl rfl),Q_CBa,fun h0_=>ab_(hoff 16(by kernel_rfl))h0_,Q_HI,Q_X6_,Q_X7_,Q_X8_,Q_X10_,Q_X12_,Q_X13_,fun _=>rfl⟩
   refine steps_cons ?_ ?_
   ·
    rintro b a w'⟨G1,cg1,G4,cg4,g19,g20,CB11,m6_,m7_,m8_,m10_,m12_,m13_,m14_,ha,Q_CBa,Q_CBb,Q_HI,Q_X6_,Q_X7_,Q_X8_,Q_X10_,Q_X12_,Q_X13_,Q_X14_⟩hb_ hon hoff
    refine⟨_,rfl,fun K hK=>?_⟩
    have e19:a.tmps[19]?=some(m12_):=by rw [ha];exact putSel_on(e:=(12,19,m12_))9 rfl rfl(hon 12(by kernel_rfl))rfl
    rw [Q_X12_(hon 12(by kernel_rfl))] at e19
    have e66:a.tmps[66]?=some(.agg #[.int .i64 g2,.int .i64 g3]):=by rw [ha];exact putSel_on(e:=(9,66,.agg #[.int .i64 g2,.int .i64 g3]))6 rfl rfl(hon 9(by kernel_rfl))rfl
    replace ha:=am_ ha
    have CBa:=am_(Q_CBa(hoff 16(by kernel_rfl)))
    have HI:=am_ Q_HI
    rw [if_pos(by rfl)]
    have HI3:=am_(Inv.cellsEq(Inv.take HI.out 0 rfl(hon 12(by kernel_rfl)))(cs':=#[.int .i64 0,.int .i64 0])(by rw [hb_];rfl))
    refine wp_store_row 34 _ _ rfl g19(#[.int .i64 g2,.int .i64 g3])(eval_of e19)(eval_of e66)34(#[.int .i64 0,.int .i64 0])HI3.out.blk0(draw_side g2 g3)(draw_len g2 g3)(draw_one g2 g3) ?_
    have HI2:=am_(Inv.fill(b 12)(HI3.out.put0(#[.int .i64 g2,.int .i64 g3]))0 rfl)
    refine hK.out _ _⟨G1,cg1,G4,cg4,g19,g20,CB11,m6_,m7_,m8_,m10_,m12_,m13_,m14_,(by rw [ha.out];exact putSel_none(v:=undef)rfl),Q_CBa,fun h0_=>ab_(hoff 16(by kernel_rfl))h0_,HI2.out,Q_X6_,Q_X7_,Q_X8_,Q_X10_,Q_X12_,Q_X13_,Q_X14_⟩
   refine steps_cons ?_ ?_
   ·
    rintro b a w'⟨G1,cg1,G4,cg4,g19,g20,CB11,m6_,m7_,m8_,m10_,m12_,m13_,m14_,ha,Q_CBa,Q_CBb,Q_HI,Q_X6_,Q_X7_,Q_X8_,Q_X10_,Q_X12_,Q_X13_,Q_X14_⟩hb_ hon hoff
    refine⟨_,rfl,fun K hK=>?_⟩
    have e20:a.tmps[20]?=some(m13_):=by rw [ha];exact putSel_on(e:=(13,20,m13_))10 rfl rfl(hon 13(by kernel_rfl))rfl
    rw [Q_X13_(hon 13(by kernel_rfl))] at e20
    have e67:a.tmps[67]?=some(m10_):=by rw [ha];exact putSel_on(e:=(10,67,m10_))7 rfl rfl(hon 10(by kernel_rfl))rfl
    rw [Q_X10_(hon 10(by kernel_rfl))] at e67
    replace ha:=am_ ha
    have CBa:=am_(Q_CBa hb_)
    have HI:=am_ Q_HI
    rw [if_pos(by rfl)]
    have HI3:=am_(Inv.cellsEq(Inv.take HI.out 1 rfl(hon 13(by kernel_rfl)))(cs':=#[.slice none 0 0,.int .i64 0,.string(⟨#[]⟩:ByteArray),.int .i64 0])CBa.out.symm)
    refine wp_store_row 27 _ _ rfl g20(#[.slice G4 g4.length cg4,.int .i64 g5,.string g6_,.int .i64 g7])(eval_of e20)(eval_of e67)27(#[.slice none 0 0,.int .i64 0,.string(⟨#[]⟩:ByteArray),.int .i64 0])HI3.out.blk0(by kernel_rfl)rfl qz12_ ?_
    have HI2:=am_(Inv.fill(b 13)(HI3.out.put0(#[.slice G4 g4.length cg4,.int .i64 g5,.string g6_,.int .i64 g7]))1 rfl)
    refine hK.out _ _⟨G1,cg1,G4,cg4,g19,g20,#[.slice G4 g4.length cg4,.int .i64 g5,.string g6_,.int .i64 g7],m6_,m7_,m8_,m10_,m12_,m13_,m14_,(by rw [ha.out];exact putSel_none(v:=undef)rfl),fun h0_=>absurd((up_self b 16).symm.trans h0_)(by decide),fun _=>rfl,HI2.out,Q_X6_,Q_X7_,Q_X8_,Q_X10_,Q_X12_,Q_X13_,Q_X14_⟩
   refine steps_cons ?_ ?_
   ·
    rintro b a w'⟨G1,cg1,G4,cg4,g19,g20,CB11,m6_,m7_,m8_,m10_,m12_,m13_,m14_,ha,Q_CBa,Q_CBb,Q_HI,Q_X6_,Q_X7_,Q_X8_,Q_X10_,Q_X12_,Q_X13_,Q_X14_⟩hb_ hon hoff
    refine⟨_,rfl,fun K hK=>?_⟩
    have e68:a.tmps[68]?=some(.int .i64 g8):=by rw [ha];exact putSel_on(e:=(11,68,.int .i64 g8))8 rfl rfl(hon 11(by kernel_rfl))rfl
    replace ha:=am_ ha
    have CBb:=am_(Q_CBb(hon 16(by kernel_rfl)))
    have HI:=am_ Q_HI
    refine value_(w1:=w')(v:=.int .i64 g8)(by rfl)rfl ?_ ?_
    ·
     go_simp
     (try simp only [i64_w])
     try rfl
    refine hK.out _ _⟨G1,cg1,G4,cg4,g19,g20,CB11,m6_,m7_,m8_,m10_,m12_,m13_,m14_,(by rw [ha.out];exact putSel_upk 12 hb_ rfl rfl rfl),fun h0_=>ab_(hon 16(by kernel_rfl))h0_,Q_CBb,Q_HI,Q_X6_,Q_X7_,Q_X8_,Q_X10_,Q_X12_,Q_X13_,Q_X14_⟩
   exact steps_nil
  rintro b a w' hall⟨G1,cg1,G4,cg4,g19,g20,CB11,m6_,m7_,m8_,m10_,m12_,m13_,m14_,ha,Q_CBa,Q_CBb,Q_HI,Q_X6_,Q_X7_,Q_X8_,Q_X10_,Q_X12_,Q_X13_,Q_X14_⟩
  clear CBa HI
  have hb1_:=hall 1(by kernel_rfl)
  have hb2_:=hall 2(by kernel_rfl)
  have hb5_:=hall 5(by kernel_rfl)
  have hb6_:=hall 6(by kernel_rfl)
  have hb7_:=hall 7(by kernel_rfl)
  have hb8_:=hall 8(by kernel_rfl)
  have hb9_:=hall 9(by kernel_rfl)
  have hb10_:=hall 10(by kernel_rfl)
  have hb11_:=hall 11(by kernel_rfl)
  have hb12_:=hall 12(by kernel_rfl)
  have hb13_:=hall 13(by kernel_rfl)
  have hb14_:=hall 14(by kernel_rfl)
  have hb15_:=hall 15(by kernel_rfl)
  have hb16_:=hall 16(by kernel_rfl)
  have hb17_:=hall 17(by kernel_rfl)
  subst ha
  obtain rfl:=Q_X6_ hb6_
  obtain rfl:=Q_X7_ hb7_
  obtain rfl:=Q_X8_ hb8_
  obtain rfl:=Q_X10_ hb10_
  obtain rfl:=Q_X12_ hb12_
  obtain rfl:=Q_X13_ hb13_
  obtain rfl:=Q_X14_ hb14_
  simp only [putSel,hb1_,hb2_,hb5_,hb6_,hb7_,hb8_,hb9_,hb10_,hb11_,hb12_,hb13_,hb14_,hb15_,hb16_,hb17_,if_true,Act.put,List.setIfInBounds_toArray,List.set_cons_zero,List.set_cons_succ]
  clear Q_CBa
  have CBb:=am_(Q_CBb hb16_)
  clear Q_CBb
  have hCB_:=CBb.out
  clear CBb
  subst hCB_
  have HI:=am_ Q_HI
  replace HI:=am_(Inv.take HI.out 3 rfl hb6_)
  replace HI:=am_(Inv.take HI.out 3 rfl hb6_)
  replace HI:=am_(Inv.take HI.out 3 rfl hb13_)
  replace HI:=am_(Inv.take HI.out 3 rfl hb12_)
  replace HI:Aside0(Inv w NoB w' [blk g19 34 #[.int .i64 g2,.int .i64 g3],blk g20 27 #[.slice G4 g4.length cg4,.int .i64 g5,.string g6_,.int .i64 g7],row k34 34 w.heap.size(.slice G1 g1.length cg1)g1(fun k=>some k=(Value.ownBlock(.slice G1 g1.length cg1))),row k34 34 w.heap.size(.slice G4 g4.length cg4)g4(fun k=>some k=(Value.ownBlock(.slice G4 g4.length cg4))),blk g17 27 #[.slice Q2 q0.length cq2,.int .i64 q1,.string q2,.int .i64 q3],row k34 34 w.heap.size(.slice Q2 q0.length cq2)q0 S3_,row(Kd.tag f2(Kd.slice 34 k34))24 w.heap.size(.slice L2 L.length cl2)L.zipIdx S2_,blk g13 34 #[.int .i64 x2,.int .i64 x3],blk g14 27 #[.slice X4 x4.length cx4,.int .i64 x5,.string x6,.int .i64 x7],row k34 34 w.heap.size(.slice X1 x1.length cx1)x1(fun k=>some k=(Value.ownBlock(.slice X1 x1.length cx1))),row k34 34 w.heap.size(.slice X4 x4.length cx4)x4(fun k=>some k=(Value.ownBlock(.slice X4 x4.length cx4))),row(Kd.tag f1(Kd.slice 34 k34))24 w.heap.size(.slice L1 L.length cl1)L.zipIdx S1_,blk g9 59 #[.slice A4 m0.length c4,.int .i64 m1,.string m2,.int .i64 m3],blk g6 56 #[.int .i64 d0,.int .i64 d1]](fun w2=>Kd.C(Kd.slice 56 k56)w2 A2 l2.length l2∧Kd.C k56 w2 A4 m0.length m0)):=⟨Inv.cellsEq(HI.out.subL(L':=[blk g19 34(cond(b 15)(#[.int .i64 g2,.int .i64 g3])(#[.int .i64 0,.int .i64 0])),blk g20 27(#[.slice G4 g4.length cg4,.int .i64 g5,.string g6_,.int .i64 g7]),row k34 34 w.heap.size(.slice G1 g1.length cg1)g1(fun k=>some k=(Value.ownBlock(.slice G1 g1.length cg1))),row k34 34 w.heap.size(.slice G4 g4.length cg4)g4(fun k=>some k=(Value.ownBlock(.slice G4 g4.length cg4))),blk g17 27 #[.slice Q2 q0.length cq2,.int .i64 q1,.string q2,.int .i64 q3],row k34 34 w.heap.size(.slice Q2 q0.length cq2)q0 S3_,row(Kd.tag f2(Kd.slice 34 k34))24 w.heap.size(.slice L2 L.length cl2)L.zipIdx S2_,blk g13 34 #[.int .i64 x2,.int .i64 x3],blk g14 27 #[.slice X4 x4.length cx4,.int .i64 x5,.string x6,.int .i64 x7],row k34 34 w.heap.size(.slice X1 x1.length cx1)x1(fun k=>some k=(Value.ownBlock(.slice X1 x1.length cx1))),row k34 34 w.heap.size(.slice X4 x4.length cx4)x4(fun k=>some k=(Value.ownBlock(.slice X4 x4.length cx4))),row(Kd.tag f1(Kd.slice 34 k34))24 w.heap.size(.slice L1 L.length cl1)L.zipIdx S1_,blk g9 59 #[.slice A4 m0.length c4,.int .i64 m1,.string m2,.int .i64 m3],blk g6 56 #[.int .i64 d0,.int .i64 d1]])qz34_)(by rw [hb15_];rfl)⟩
  clear Q_HI
  clear hall hb1_ hb2_ hb5_ hb6_ hb7_ hb8_ hb9_ hb10_ hb11_ hb12_ hb13_ hb14_ hb15_ hb16_ hb17_
  go_wp2_with(first|((go_at_call 23;(refine(laws_eqExtS.calls k G1 cg1 g1 X1 cx1 x1 true _(Kd.R_reads'(rowR(HI.out.at_(row k34 34 w.heap.size(.slice G1 g1.length cg1)g1 _)qz40_))).2.2(Kd.R_reads'(rowR(HI.out.at_(row k34 34 w.heap.size(.slice G1 g1.length cg1)g1 _)qz40_))).2.1(Kd.R_reads'(rowR(HI.out.at_(row k34 34 w.heap.size(.slice X1 x1.length cx1)x1 _)qz40_))).2.2(Kd.R_reads'(rowR(HI.out.at_(row k34 34 w.heap.size(.slice X1 x1.length cx1)x1 _)qz40_))).2.1 HQ1.out).mono ?_);rintro e w71⟨rfl,hb⟩;replace HI:=am_(HI.out.grow hb);clear hb;have ha0:World.cell? _⟨g19,0,none⟩=some(.int .i64 g2):=(blk_cell(HI.out.at_(blk g19 34 #[.int .i64 g2,.int .i64 g3])qz40_)0).trans rfl;have ha1:World.cell? _⟨g19,1,none⟩=some(.int .i64 g3):=(blk_cell(HI.out.at_(blk g19 34 #[.int .i64 g2,.int .i64 g3])qz40_)1).trans rfl;have hab0:World.cell? _⟨g13,0,none⟩=some(.int .i64 x2):=(blk_cell(HI.out.at_(blk g13 34 #[.int .i64 x2,.int .i64 x3])qz40_)0).trans rfl;have hab1:World.cell? _⟨g13,1,none⟩=some(.int .i64 x3):=(blk_cell(HI.out.at_(blk g13 34 #[.int .i64 x2,.int .i64 x3])qz40_)1).trans rfl))|((go_at_call 31;(refine(laws_eqExt.calls g2 g3 x2 x3 true _ HQ2.out).mono ?_);rintro e w76⟨rfl,hb⟩;replace HI:=am_(HI.out.grow hb);clear hb;have hb_0:World.cell? _⟨g20,0,none⟩=some(.slice G4 g4.length cg4):=(blk_cell(HI.out.at_(blk g20 27 #[.slice G4 g4.length cg4,.int .i64 g5,.string g6_,.int .i64 g7])qz40_)0).trans rfl;have hb_1:World.cell? _⟨g20,1,none⟩=some(.int .i64 g5):=(blk_cell(HI.out.at_(blk g20 27 #[.slice G4 g4.length cg4,.int .i64 g5,.string g6_,.int .i64 g7])qz40_)1).trans rfl;have hb_2:World.cell? _⟨g20,2,none⟩=some(.string g6_):=(blk_cell(HI.out.at_(blk g20 27 #[.slice G4 g4.length cg4,.int .i64 g5,.string g6_,.int .i64 g7])qz40_)2).trans rfl;have hb_3:World.cell? _⟨g20,3,none⟩=some(.int .i64 g7):=(blk_cell(HI.out.at_(blk g20 27 #[.slice G4 g4.length cg4,.int .i64 g5,.string g6_,.int .i64 g7])qz40_)3).trans rfl;have hb_b0:World.cell? _⟨g14,0,none⟩=some(.slice X4 x4.length cx4):=(blk_cell(HI.out.at_(blk g14 27 #[.slice X4 x4.length cx4,.int .i64 x5,.string x6,.int .i64 x7])qz40_)0).trans rfl;have hb_b1:World.cell? _⟨g14,1,none⟩=some(.int .i64 x5):=(blk_cell(HI.out.at_(blk g14 27 #[.slice X4 x4.length cx4,.int .i64 x5,.string x6,.int .i64 x7])qz40_)1).trans rfl;have hb_b2:World.cell? _⟨g14,2,none⟩=some(.string x6):=(blk_cell(HI.out.at_(blk g14 27 #[.slice X4 x4.length cx4,.int .i64 x5,.string x6,.int .i64 x7])qz40_)2).trans rfl;have hb_b3:World.cell? _⟨g14,3,none⟩=some(.int .i64 x7):=(blk_cell(HI.out.at_(blk g14 27 #[.slice X4 x4.length cx4,.int .i64 x5,.string x6,.int .i64 x7])qz40_)3).trans rfl))|((go_at_call 32;(refine(laws_eqSource.calls k G4 cg4 g4 g5 g6_ g7 X4 cx4 x4 x5 x6 x7 true _(Kd.R_reads'(rowR(HI.out.at_(row k34 34 w.heap.size(.slice G4 g4.length cg4)g4 _)qz40_))).2.2(Kd.R_reads'(rowR(HI.out.at_(row k34 34 w.heap.size(.slice G4 g4.length cg4)g4 _)qz40_))).2.1(Kd.R_reads'(rowR(HI.out.at_(row k34 34 w.heap.size(.slice X4 x4.length cx4)x4 _)qz40_))).2.2(Kd.R_reads'(rowR(HI.out.at_(row k34 34 w.heap.size(.slice X4 x4.length cx4)x4 _)qz40_))).2.1 HQ3.out).mono ?_);rintro e w82⟨rfl,hb⟩;replace HI:=am_(HI.out.grow hb);clear hb))|((go_at_call 28;(refine(laws_toExtSS.calls k A2 c2 l2 L _ HI.out.now.1 HC2.out HTL.out).mono ?_);rintro e w92⟨vl_,rfl,hS,hb⟩;obtain⟨L3,cl3,el_⟩:=Kd.R_slice(Kd.S_R hS);subst el_;obtain⟨f3,hR⟩:=hS;replace HI:=am_(HI.out.rowPush hb hR);clear hR hb))|(go_at_call 33;(refine(laws_eqExtSS.calls k L2 cl2 L L3 cl3 L true _(tagC(rowR(HI.out.at_(row(Kd.tag f2(Kd.slice 34 k34))24 w.heap.size(.slice L2 L.length cl2)L.zipIdx _)qz40_))).1(tagC(rowR(HI.out.at_(row(Kd.tag f2(Kd.slice 34 k34))24 w.heap.size(.slice L2 L.length cl2)L.zipIdx _)qz40_))).2(tagC(rowR(HI.out.at_(row(Kd.tag f3(Kd.slice 34 k34))24 w.heap.size(.slice L3 L.length cl3)L.zipIdx _)qz40_))).1(tagC(rowR(HI.out.at_(row(Kd.tag f3(Kd.slice 34 k34))24 w.heap.size(.slice L3 L.length cl3)L.zipIdx _)qz40_))).2 HQ4.out).mono ?_);rintro e w93⟨rfl,hb⟩;replace HI:=am_(HI.out.grow hb);clear hb))
  refine start_(n:=5)(S:=fun w'=>w'.cell?⟨g17,0,none⟩=some(.slice Q2 q0.length cq2)∧w'.cell?⟨g17,1,none⟩=some(.int .i64 q1)∧w'.cell?⟨g17,2,none⟩=some(.string q2)∧w'.cell?⟨g17,3,none⟩=some(.int .i64 q3)∧w'.cell?⟨g9,0,none⟩=some(.slice A4 m0.length c4)∧w'.cell?⟨g9,1,none⟩=some(.int .i64 m1)∧w'.cell?⟨g9,2,none⟩=some(.string m2)∧w'.cell?⟨g9,3,none⟩=some(.int .i64 m3))(ds:=[])(bs_ 5 0)(by kernel_rfl)rfl rfl⟨(blk_cell(HI.out.drew.at_(blk g17 27 #[.slice Q2 q0.length cq2,.int .i64 q1,.string q2,.int .i64 q3])qz40_)0).trans rfl,(blk_cell(HI.out.drew.at_(blk g17 27 #[.slice Q2 q0.length cq2,.int .i64 q1,.string q2,.int .i64 q3])qz40_)1).trans rfl,(blk_cell(HI.out.drew.at_(blk g17 27 #[.slice Q2 q0.length cq2,.int .i64 q1,.string q2,.int .i64 q3])qz40_)2).trans rfl,(blk_cell(HI.out.drew.at_(blk g17 27 #[.slice Q2 q0.length cq2,.int .i64 q1,.string q2,.int .i64 q3])qz40_)3).trans rfl,(blk_cell(HI.out.drew.at_(blk g9 59 #[.slice A4 m0.length c4,.int .i64 m1,.string m2,.int .i64 m3])qz40_)0).trans rfl,(blk_cell(HI.out.drew.at_(blk g9 59 #[.slice A4 m0.length c4,.int .i64 m1,.string m2,.int .i64 m3])qz40_)1).trans rfl,(blk_cell(HI.out.drew.at_(blk g9 59 #[.slice A4 m0.length c4,.int .i64 m1,.string m2,.int .i64 m3])qz40_)2).trans rfl,(blk_cell(HI.out.drew.at_(blk g9 59 #[.slice A4 m0.length c4,.int .i64 m1,.string m2,.int .i64 m3])qz40_)3).trans rfl⟩(fun hHeld=>?_)
  replace HI:=am_(HI.out.drew)
  generalize World.drew _=wd0 at HI hHeld ⊢
  refine take_(i:=0)(N:=some 95)(v:=?_)(a':=?_)(bs_ 5 1)rfl rfl(by kernel_rfl)(fun _ _ _ h=>h)(Or.inl⟨(by rfl),?_⟩)hHeld ?_ ?_
  rotate_left
  ·
   rintro w'⟨s_0,s_1,s_2,s_3,s_4,s_5,s_6,s_7⟩
   go_simp
   with_reducible rfl
  rotate_left
  ·
   exact ap_
  refine take_(i:=1)(N:=some 96)(v:=?_)(a':=?_)(bs_ 5 3)rfl rfl(by kernel_rfl)(fun _ _ _ h=>h)(Or.inl⟨(by rfl),?_⟩)hHeld ?_ ?_
  rotate_left
  ·
   rintro w'⟨s_0,s_1,s_2,s_3,s_4,s_5,s_6,s_7⟩
   go_simp
   with_reducible rfl
  rotate_left
  ·
   exact ap_
  refine one_(i:=2)(N:=some 97)(bs_ 5 7)rfl rfl(by kernel_rfl)(by decide)(fun K hK=>?_)
  refine goes_ Try.func29(by kernel_rfl)rfl #[.agg #[.slice A4 m0.length c4,.int .i64 m1,.string m2,.int .i64 m3]](by rfl)rfl rfl qz3_ ?_
  with_reducible refine(laws_toSource.calls k A4 c4 m0 m1 m2 m3 q0 q1 q2 q3 _ HI.out.now.2 HC4.out HTS.out).mono ?_
  rintro e w97⟨vq_,rfl,hR,hb⟩
  obtain⟨Q3,cq3,eq_⟩:=Kd.R_slice hR
  subst eq_
  refine⟨_,rfl,?_⟩
  replace HI:=am_(HI.out.rowPush hb hR)
  clear hR hb
  refine hK.out _ _⟨(blk_cell(HI.out.at_(blk g17 27 #[.slice Q2 q0.length cq2,.int .i64 q1,.string q2,.int .i64 q3])qz40_)0).trans rfl,(blk_cell(HI.out.at_(blk g17 27 #[.slice Q2 q0.length cq2,.int .i64 q1,.string q2,.int .i64 q3])qz40_)1).trans rfl,(blk_cell(HI.out.at_(blk g17 27 #[.slice Q2 q0.length cq2,.int .i64 q1,.string q2,.int .i64 q3])qz40_)2).trans rfl,(blk_cell(HI.out.at_(blk g17 27 #[.slice Q2 q0.length cq2,.int .i64 q1,.string q2,.int .i64 q3])qz40_)3).trans rfl,(blk_cell(HI.out.at_(blk g9 59 #[.slice A4 m0.length c4,.int .i64 m1,.string m2,.int .i64 m3])qz40_)0).trans rfl,(blk_cell(HI.out.at_(blk g9 59 #[.slice A4 m0.length c4,.int .i64 m1,.string m2,.int .i64 m3])qz40_)1).trans rfl,(blk_cell(HI.out.at_(blk g9 59 #[.slice A4 m0.length c4,.int .i64 m1,.string m2,.int .i64 m3])qz40_)2).trans rfl,(blk_cell(HI.out.at_(blk g9 59 #[.slice A4 m0.length c4,.int .i64 m1,.string m2,.int .i64 m3])qz40_)3).trans rfl⟩(fun hHeld=>?_)
  clear hK K
  refine norm_(a':=?_) ?_ ?_
  rotate_left
  ·
   show Act.put _(some 97)_=_
   exact ap_
  refine one_(i:=3)(N:=some 98)(bs_ 5 15)rfl rfl(by kernel_rfl)(by decide)(fun K hK=>?_)
  refine goes_ Try.func32(by kernel_rfl)rfl #[.agg #[.slice Q2 q0.length cq2,.int .i64 q1,.string q2,.int .i64 q3],.agg #[.slice Q3 q0.length cq3,.int .i64 q1,.string q2,.int .i64 q3]](by rfl)rfl rfl qz3_ ?_
  with_reducible refine(laws_eqSource.calls k Q2 cq2 q0 q1 q2 q3 Q3 cq3 q0 q1 q2 q3 true _(Kd.R_reads'(rowR(HI.out.at_(row k34 34 w.heap.size(.slice Q2 q0.length cq2)q0 _)qz40_))).2.2(Kd.R_reads'(rowR(HI.out.at_(row k34 34 w.heap.size(.slice Q2 q0.length cq2)q0 _)qz40_))).2.1(Kd.R_reads'(rowR(HI.out.at_(row k34 34 w.heap.size(.slice Q3 q0.length cq3)q0 _)qz40_))).2.2(Kd.R_reads'(rowR(HI.out.at_(row k34 34 w.heap.size(.slice Q3 q0.length cq3)q0 _)qz40_))).2.1 HQ5.out).mono ?_
  rintro e w98⟨rfl,hb⟩
  refine⟨_,rfl,?_⟩
  replace HI:=am_(HI.out.grow hb)
  clear hb
  refine hK.out _ _⟨(blk_cell(HI.out.at_(blk g17 27 #[.slice Q2 q0.length cq2,.int .i64 q1,.string q2,.int .i64 q3])qz40_)0).trans rfl,(blk_cell(HI.out.at_(blk g17 27 #[.slice Q2 q0.length cq2,.int .i64 q1,.string q2,.int .i64 q3])qz40_)1).trans rfl,(blk_cell(HI.out.at_(blk g17 27 #[.slice Q2 q0.length cq2,.int .i64 q1,.string q2,.int .i64 q3])qz40_)2).trans rfl,(blk_cell(HI.out.at_(blk g17 27 #[.slice Q2 q0.length cq2,.int .i64 q1,.string q2,.int .i64 q3])qz40_)3).trans rfl,(blk_cell(HI.out.at_(blk g9 59 #[.slice A4 m0.length c4,.int .i64 m1,.string m2,.int .i64 m3])qz40_)0).trans rfl,(blk_cell(HI.out.at_(blk g9 59 #[.slice A4 m0.length c4,.int .i64 m1,.string m2,.int .i64 m3])qz40_)1).trans rfl,(blk_cell(HI.out.at_(blk g9 59 #[.slice A4 m0.length c4,.int .i64 m1,.string m2,.int .i64 m3])qz40_)2).trans rfl,(blk_cell(HI.out.at_(blk g9 59 #[.slice A4 m0.length c4,.int .i64 m1,.string m2,.int .i64 m3])qz40_)3).trans rfl⟩(fun hHeld=>?_)
  clear hK K
  refine norm_(a':=?_) ?_ ?_
  rotate_left
  ·
   show Act.put _(some 98)_=_
   exact ap_
  refine pu_ 4 99 (bs_ 5 31) ?_
  refine done_(by kernel_rfl) ?_
  replace HI:Aside0(Inv w NoB _ [blk g19 34 #[.int .i64 g2,.int .i64 g3],blk g20 27 #[.slice G4 g4.length cg4,.int .i64 g5,.string g6_,.int .i64 g7],row k34 34 w.heap.size(.slice G1 g1.length cg1)g1(fun k=>some k=(Value.ownBlock(.slice G1 g1.length cg1))),row k34 34 w.heap.size(.slice G4 g4.length cg4)g4(fun k=>some k=(Value.ownBlock(.slice G4 g4.length cg4))),blk g17 27 #[.slice Q2 q0.length cq2,.int .i64 q1,.string q2,.int .i64 q3],row k34 34 w.heap.size(.slice Q2 q0.length cq2)q0 S3_,row(Kd.tag f2(Kd.slice 34 k34))24 w.heap.size(.slice L2 L.length cl2)L.zipIdx S2_,blk g13 34 #[.int .i64 x2,.int .i64 x3],blk g14 27 #[.slice X4 x4.length cx4,.int .i64 x5,.string x6,.int .i64 x7],row k34 34 w.heap.size(.slice X1 x1.length cx1)x1(fun k=>some k=(Value.ownBlock(.slice X1 x1.length cx1))),row k34 34 w.heap.size(.slice X4 x4.length cx4)x4(fun k=>some k=(Value.ownBlock(.slice X4 x4.length cx4))),blk g9 59 #[.slice A4 m0.length c4,.int .i64 m1,.string m2,.int .i64 m3],blk g6 56 #[.int .i64 d0,.int .i64 d1]](fun w2=>Kd.C(Kd.slice 56 k56)w2 A2 l2.length l2∧Kd.C k56 w2 A4 m0.length m0)):=⟨HI.out.subL qz34_⟩
  go_wp2_with(first|(go_at_call 34;(refine(laws_markExtSS.calls k _(.slice L2 L.length cl2)L 1 n1 w _ HI.out.below⟨f2,rowR(HI.out.get 6 rfl)⟩HM1.out).mono ?_);rintro e w102⟨rfl,hB2,hk⟩;replace HI:=am_(Inv.lose(HI.out.front 6 rfl)(Agr.of_kept hk HI.out.below hB2(fun _ h=>h)));clear hB2 hk)|((with_reducible refine gate_dst(N:=103)rfl ?_);go_must(refine wpList_load_row rfl 27 _ rfl g17 rfl 27(#[.slice Q2 q0.length cq2,.int .i64 q1,.string q2,.int .i64 q3])(0,0)_(HI.out.at_(blk g17 27 #[.slice Q2 q0.length cq2,.int .i64 q1,.string q2,.int .i64 q3])qz40_)hu27 rfl(by first|exact draw_side _ _|kernel_rfl) ?_))|((go_at_call 35;(refine(laws_markSource.calls k _(.slice Q2 q0.length cq2)q0 q1 q2 q3 n1 n2 ql w _ HI.out.below(HI.out.get 5 rfl)HM2.out).mono ?_);rintro e w105⟨rfl,_,hB2,hk⟩;replace HI:=am_(Inv.lose(HI.out.front 5 rfl)(Agr.of_kept hk HI.out.below hB2(fun _ h=>h)));clear hB2 hk))|((go_at_call 23;(refine(laws_eqExtS.calls k G1 cg1 g1 X1 cx1 x1 true _(Kd.R_reads'(rowR(HI.out.at_(row k34 34 w.heap.size(.slice G1 g1.length cg1)g1 _)qz40_))).2.2(Kd.R_reads'(rowR(HI.out.at_(row k34 34 w.heap.size(.slice G1 g1.length cg1)g1 _)qz40_))).2.1(Kd.R_reads'(rowR(HI.out.at_(row k34 34 w.heap.size(.slice X1 x1.length cx1)x1 _)qz40_))).2.2(Kd.R_reads'(rowR(HI.out.at_(row k34 34 w.heap.size(.slice X1 x1.length cx1)x1 _)qz40_))).2.1 HQ1.out).mono ?_);rintro e w71⟨rfl,hb⟩;replace HI:=am_(HI.out.grow hb);clear hb;have ha0:World.cell? _⟨g19,0,none⟩=some(.int .i64 g2):=(blk_cell(HI.out.at_(blk g19 34 #[.int .i64 g2,.int .i64 g3])qz40_)0).trans rfl;have ha1:World.cell? _⟨g19,1,none⟩=some(.int .i64 g3):=(blk_cell(HI.out.at_(blk g19 34 #[.int .i64 g2,.int .i64 g3])qz40_)1).trans rfl;have hab0:World.cell? _⟨g13,0,none⟩=some(.int .i64 x2):=(blk_cell(HI.out.at_(blk g13 34 #[.int .i64 x2,.int .i64 x3])qz40_)0).trans rfl;have hab1:World.cell? _⟨g13,1,none⟩=some(.int .i64 x3):=(blk_cell(HI.out.at_(blk g13 34 #[.int .i64 x2,.int .i64 x3])qz40_)1).trans rfl))|((go_at_call 31;(refine(laws_eqExt.calls g2 g3 x2 x3 true _ HQ2.out).mono ?_);rintro e w76⟨rfl,hb⟩;replace HI:=am_(HI.out.grow hb);clear hb;have hb_0:World.cell? _⟨g20,0,none⟩=some(.slice G4 g4.length cg4):=(blk_cell(HI.out.at_(blk g20 27 #[.slice G4 g4.length cg4,.int .i64 g5,.string g6_,.int .i64 g7])qz40_)0).trans rfl;have hb_1:World.cell? _⟨g20,1,none⟩=some(.int .i64 g5):=(blk_cell(HI.out.at_(blk g20 27 #[.slice G4 g4.length cg4,.int .i64 g5,.string g6_,.int .i64 g7])qz40_)1).trans rfl;have hb_2:World.cell? _⟨g20,2,none⟩=some(.string g6_):=(blk_cell(HI.out.at_(blk g20 27 #[.slice G4 g4.length cg4,.int .i64 g5,.string g6_,.int .i64 g7])qz40_)2).trans rfl;have hb_3:World.cell? _⟨g20,3,none⟩=some(.int .i64 g7):=(blk_cell(HI.out.at_(blk g20 27 #[.slice G4 g4.length cg4,.int .i64 g5,.string g6_,.int .i64 g7])qz40_)3).trans rfl;have hb_b0:World.cell? _⟨g14,0,none⟩=some(.slice X4 x4.length cx4):=(blk_cell(HI.out.at_(blk g14 27 #[.slice X4 x4.length cx4,.int .i64 x5,.string x6,.int .i64 x7])qz40_)0).trans rfl;have hb_b1:World.cell? _⟨g14,1,none⟩=some(.int .i64 x5):=(blk_cell(HI.out.at_(blk g14 27 #[.slice X4 x4.length cx4,.int .i64 x5,.string x6,.int .i64 x7])qz40_)1).trans rfl;have hb_b2:World.cell? _⟨g14,2,none⟩=some(.string x6):=(blk_cell(HI.out.at_(blk g14 27 #[.slice X4 x4.length cx4,.int .i64 x5,.string x6,.int .i64 x7])qz40_)2).trans rfl;have hb_b3:World.cell? _⟨g14,3,none⟩=some(.int .i64 x7):=(blk_cell(HI.out.at_(blk g14 27 #[.slice X4 x4.length cx4,.int .i64 x5,.string x6,.int .i64 x7])qz40_)3).trans rfl))|((go_at_call 32;(refine(laws_eqSource.calls k G4 cg4 g4 g5 g6_ g7 X4 cx4 x4 x5 x6 x7 true _(Kd.R_reads'(rowR(HI.out.at_(row k34 34 w.heap.size(.slice G4 g4.length cg4)g4 _)qz40_))).2.2(Kd.R_reads'(rowR(HI.out.at_(row k34 34 w.heap.size(.slice G4 g4.length cg4)g4 _)qz40_))).2.1(Kd.R_reads'(rowR(HI.out.at_(row k34 34 w.heap.size(.slice X4 x4.length cx4)x4 _)qz40_))).2.2(Kd.R_reads'(rowR(HI.out.at_(row k34 34 w.heap.size(.slice X4 x4.length cx4)x4 _)qz40_))).2.1 HQ3.out).mono ?_);rintro e w82⟨rfl,hb⟩;replace HI:=am_(HI.out.grow hb);clear hb))|(go_at_call 36;(refine(laws_markExtS.calls k _(.slice G1 g1.length cg1)g1 1 n3 gl w _ HI.out.below(HI.out.get 2 rfl)HM3.out).mono ?_);rintro e w133⟨rfl,hR,hB2,hk⟩;replace HI:=am_(Inv.kept0(HI.out.front 2 rfl)hB2 hk hR(fun _ h=>h));clear hR hB2 hk)|((with_reducible refine gate_dst(N:=134)rfl ?_);go_must(refine wpList_load_row rfl 27 _ rfl g20 rfl 27(#[.slice G4 g4.length cg4,.int .i64 g5,.string g6_,.int .i64 g7])(0,0)_(HI.out.at_(blk g20 27 #[.slice G4 g4.length cg4,.int .i64 g5,.string g6_,.int .i64 g7])qz40_)hu27 rfl(by first|exact draw_side _ _|kernel_rfl) ?_))|((go_at_call 35;(refine(laws_markSource.calls k _(.slice G4 g4.length cg4)g4 g5 g6_ g7 n3 n6 hl_ w _ HI.out.below(HI.out.get 3 rfl)HM4.out).mono ?_);rintro e w136⟨rfl,hR,hB2,hk⟩;replace HI:=am_(Inv.kept0(HI.out.front 3 rfl)hB2 hk hR(fun _ h=>h));clear hR hB2 hk))|(go_at_call 37;(refine(heldExtS_R k 1 n5 _(rowR(HI.out.at_(row k34 34 w.heap.size(.slice G1 g1.length cg1)gl _)qz40_))HH1.out).mono ?_);rintro e w139⟨rfl,⟨n139,rfl⟩⟩;replace HI:=am_(HI.out.drewN n139);generalize World.drewN _ n139=wn139 at HI ⊢)|((with_reducible refine gate_dst(N:=142)rfl ?_);go_must(refine wpList_load_row rfl 27 _ rfl g20 rfl 27(#[.slice G4 g4.length cg4,.int .i64 g5,.string g6_,.int .i64 g7])(0,0)_(HI.out.at_(blk g20 27 #[.slice G4 g4.length cg4,.int .i64 g5,.string g6_,.int .i64 g7])qz40_)hu27 rfl(by first|exact draw_side _ _|kernel_rfl) ?_))|(go_at_call 38;(refine(heldSource_R k g5 g6_ g7 n5 n6 _(rowR(HI.out.at_(row k34 34 w.heap.size(.slice G4 g4.length cg4)hl_ _)qz40_))HH2.out).mono ?_);rintro e w144⟨rfl,hb⟩;replace HI:=am_(HI.out.grow hb);clear hb))
  have HE_:∃ (S5_:Nat→Prop)(S4_:Nat→Prop),Inv w NoB _ [row k34 34 w.heap.size(.slice G4 g4.length cg4)hl_ S5_,row k34 34 w.heap.size(.slice G1 g1.length cg1)gl S4_,blk g19 34 #[.int .i64 g2,.int .i64 g3],blk g20 27 #[.slice G4 g4.length cg4,.int .i64 g5,.string g6_,.int .i64 g7],blk g17 27 #[.slice Q2 q0.length cq2,.int .i64 q1,.string q2,.int .i64 q3],blk g13 34 #[.int .i64 x2,.int .i64 x3],blk g14 27 #[.slice X4 x4.length cx4,.int .i64 x5,.string x6,.int .i64 x7],row k34 34 w.heap.size(.slice X1 x1.length cx1)x1(fun k=>some k=(Value.ownBlock(.slice X1 x1.length cx1))),row k34 34 w.heap.size(.slice X4 x4.length cx4)x4(fun k=>some k=(Value.ownBlock(.slice X4 x4.length cx4))),blk g9 59 #[.slice A4 m0.length c4,.int .i64 m1,.string m2,.int .i64 m3],blk g6 56 #[.int .i64 d0,.int .i64 d1]](fun w2=>Kd.C(Kd.slice 56 k56)w2 A2 l2.length l2∧Kd.C k56 w2 A4 m0.length m0):=⟨_,_,HI.out⟩
  clear HI
  obtain⟨S5_,S4_,HI_⟩:=HE_
  have HI:=am_ HI_
  clear HI_
  refine start_(n:=20)(S:=fun w'=>True)(ds:=[])(bs_ 20 0)(by kernel_rfl)rfl rfl trivial(fun hHeld=>?_)
  refine with_tabW laws_FnExactSumVerify.tab35 laws_FnExactSumVerify.bits35(fun HT_ HW_=>?_)
  have CBa:True:=trivial
  replace HI:=am_(HI.out.drew)
  generalize World.drew _=wd35 at HI ⊢
  refine pt_ HT_.out 0 151 (bs_ 20 1) ?_
  refine pt_ HT_.out 3 154 (bs_ 20 9) ?_
  refine pt_ HT_.out 5 156 (bs_ 20 41) ?_
  refine inv_at [1,2,4,6,7,8,9,10,11,12,13,14,15,16,17,18,19](fun a0_ b a w'=>∃ (L4:Option Addr)(cl4:Nat)(f4:Nat→Nat)(S6_:Nat→Prop)(Q4:Option Addr)(cq4:Nat)(S7_:Nat→Prop)(H1:Option Addr)(ch1:Nat)(H4:Option Addr)(ch4:Nat)(g26:Nat)(g27:Nat)(CB35:Array Value)(m4_:Value)(m7_:Value)(m8_:Value)(m9_:Value)(m10_:Value)(m12_:Value)(m14_:Value)(m15_:Value)(m16_:Value),a=putSel a0_ b [(1,152,.agg #[.int .i64 d0,.int .i64 d1]),(2,153,.agg #[.int .i64 c0,.int .i64 c1]),(4,155,m4_),(6,157,.agg #[.slice A4 m0.length c4,.int .i64 m1,.string m2,.int .i64 m3]),(7,158,m7_),(8,159,m8_),(9,150,m9_),(10,160,m10_),(11,161,.agg #[.int .i64 g2,.int .i64 g3]),(12,162,m12_),(13,163,.int .i64 g8),(14,26,m14_),(15,27,m15_),(16,25,m16_),(19,28,.int .i64 g8)]∧(b 18=false→CB35=#[.slice none 0 0,.int .i64 0,.string(⟨#[]⟩:ByteArray),.int .i64 0])∧(b 18=true→CB35=#[.slice H4 g4.length ch4,.int .i64 g5,.string g6_,.int .i64 g7])∧(Inv w NoB w' [gif(b 14)(blk g26 34(cond(b 17)(#[.int .i64 g2,.int .i64 g3])(#[.int .i64 0,.int .i64 0]))),gif(b 15)(blk g27 27 CB35),gif(b 8)(row k34 34 w.heap.size(.slice H1 g1.length ch1)g1(fun k=>some k=(Value.ownBlock(.slice H1 g1.length ch1)))),gif(b 8)(row k34 34 w.heap.size(.slice H4 g4.length ch4)g4(fun k=>some k=(Value.ownBlock(.slice H4 g4.length ch4)))),gif(b 4)(row(Kd.tag f4(Kd.slice 34 k34))24 w.heap.size(.slice L4 L.length cl4)L.zipIdx S6_),gif(b 7)(row k34 34 w.heap.size(.slice Q4 q0.length cq4)q0 S7_),row k34 34 w.heap.size(.slice G4 g4.length cg4)hl_ S5_,row k34 34 w.heap.size(.slice G1 g1.length cg1)gl S4_,blk g19 34 #[.int .i64 g2,.int .i64 g3],blk g20 27 #[.slice G4 g4.length cg4,.int .i64 g5,.string g6_,.int .i64 g7],blk g17 27 #[.slice Q2 q0.length cq2,.int .i64 q1,.string q2,.int .i64 q3],blk g13 34 #[.int .i64 x2,.int .i64 x3],blk g14 27 #[.slice X4 x4.length cx4,.int .i64 x5,.string x6,.int .i64 x7],row k34 34 w.heap.size(.slice X1 x1.length cx1)x1(fun k=>some k=(Value.ownBlock(.slice X1 x1.length cx1))),row k34 34 w.heap.size(.slice X4 x4.length cx4)x4(fun k=>some k=(Value.ownBlock(.slice X4 x4.length cx4))),blk g9 59 #[.slice A4 m0.length c4,.int .i64 m1,.string m2,.int .i64 m3],blk g6 56 #[.int .i64 d0,.int .i64 d1]](fun w2=>Kd.C(Kd.slice 56 k56)w2 A2 l2.length l2∧Kd.C k56 w2 A4 m0.length m0))∧(b 4=true→(m4_:Value)=.slice L4 L.length cl4)∧(b 7=true→(m7_:Value)=.agg #[.slice Q4 q0.length cq4,.int .i64 q1,.string q2,.int .i64 q3])∧(b 8=true→(m8_:Value)=.tuple #[.slice H1 g1.length ch1,.agg #[.int .i64 g2,.int .i64 g3],.agg #[.slice H4 g4.length ch4,.int .i64 g5,.string g6_,.int .i64 g7],.int .i64 g8])∧(b 9=true→(m9_:Value)=.tuple #[.slice H1 g1.length ch1,.agg #[.int .i64 g2,.int .i64 g3],.agg #[.slice H4 g4.length ch4,.int .i64 g5,.string g6_,.int .i64 g7],.int .i64 g8])∧(b 10=true→(m10_:Value)=.slice H1 g1.length ch1)∧(b 12=true→(m12_:Value)=.agg #[.slice H4 g4.length ch4,.int .i64 g5,.string g6_,.int .i64 g7])∧(b 14=true→(m14_:Value)=.pointer(some⟨g26,0,none⟩))∧(b 15=true→(m15_:Value)=.pointer(some⟨g27,0,none⟩))∧(b 16=true→(m16_:Value)=.slice H1 g1.length ch1))HT_.out HW_.out(by kernel_rfl)(by kernel_rfl) ?_ ?_ ?_
  ·
   exact⟨none,0,fun _=>0,fun _=>False,none,0,fun _=>False,none,0,none,0,0,0,#[.slice none 0 0,.int .i64 0,.string(⟨#[]⟩:ByteArray),.int .i64 0],.bool false,.bool false,.bool false,.bool false,.bool false,.bool false,.bool false,.bool false,.bool false,by simp only [putSel,Bool.false_eq_true,if_false],fun _=>rfl,fun h_=>absurd h_(by decide),Inv.off(Inv.off(Inv.off(Inv.off(Inv.off(Inv.off(HI.out)))))),fun h_=>absurd h_(by decide),fun h_=>absurd h_(by decide),fun h_=>absurd h_(by decide),fun h_=>absurd h_(by decide),fun h_=>absurd h_(by decide),fun h_=>absurd h_(by decide),fun h_=>absurd h_(by decide),fun h_=>absurd h_(by decide),fun h_=>absurd h_(by decide)⟩
  ·
   skip
   clear CBa HI
   refine steps_cons ?_ ?_
   ·
    rintro b a w'⟨L4,cl4,f4,S6_,Q4,cq4,S7_,H1,ch1,H4,ch4,g26,g27,CB35,m4_,m7_,m8_,m9_,m10_,m12_,m14_,m15_,m16_,ha,Q_CBa,Q_CBb,Q_HI,Q_X4_,Q_X7_,Q_X8_,Q_X9_,Q_X10_,Q_X12_,Q_X14_,Q_X15_,Q_X16_⟩hb_ hon hoff
    refine⟨_,rfl,fun K hK=>?_⟩
    have e6:a.tmps[6]?=some(.pointer(some⟨g6,0,none⟩)):=by rw [ha];exact(putSel_off rfl).trans rfl
    replace ha:=am_ ha
    have CBa:=am_(Q_CBa(hoff 18(by kernel_rfl)))
    have HI:=am_ Q_HI
    have y_0:w'.cell?⟨g6,0,none⟩=some(.int .i64 d0):=(blk_cell(HI.out.at_(blk g6 56 #[.int .i64 d0,.int .i64 d1])qz40_)0).trans rfl
    have y_1:w'.cell?⟨g6,1,none⟩=some(.int .i64 d1):=(blk_cell(HI.out.at_(blk g6 56 #[.int .i64 d0,.int .i64 d1])qz40_)1).trans rfl
    refine value_(w1:=w')(v:=.agg #[.int .i64 d0,.int .i64 d1])(by rfl)rfl ?_ ?_
    ·
     go_simp
     (try simp only [i64_w])
     try rfl
    refine hK.out _ _⟨L4,cl4,f4,S6_,Q4,cq4,S7_,H1,ch1,H4,ch4,g26,g27,CB35,m4_,m7_,m8_,m9_,m10_,m12_,m14_,m15_,m16_,(by rw [ha.out];exact putSel_upk 0 hb_ rfl rfl rfl),Q_CBa,fun h0_=>ab_(hoff 18(by kernel_rfl))h0_,Q_HI,fun h0_=>ab_(hoff 4(by kernel_rfl))h0_,fun h0_=>ab_(hoff 7(by kernel_rfl))h0_,fun h0_=>ab_(hoff 8(by kernel_rfl))h0_,fun h0_=>ab_(hoff 9(by kernel_rfl))h0_,fun h0_=>ab_(hoff 10(by kernel_rfl))h0_,fun h0_=>ab_(hoff 12(by kernel_rfl))h0_,Q_X14_,Q_X15_,fun h0_=>ab_(hoff 16(by kernel_rfl))h0_⟩
   refine steps_cons ?_ ?_
   ·
    rintro b a w'⟨L4,cl4,f4,S6_,Q4,cq4,S7_,H1,ch1,H4,ch4,g26,g27,CB35,m4_,m7_,m8_,m9_,m10_,m12_,m14_,m15_,m16_,ha,Q_CBa,Q_CBb,Q_HI,Q_X4_,Q_X7_,Q_X8_,Q_X9_,Q_X10_,Q_X12_,Q_X14_,Q_X15_,Q_X16_⟩hb_ hon hoff
    refine⟨_,rfl,fun K hK=>?_⟩
    have e152:a.tmps[152]?=some(.agg #[.int .i64 d0,.int .i64 d1]):=by rw [ha];exact putSel_on(e:=(1,152,.agg #[.int .i64 d0,.int .i64 d1]))0 rfl rfl(hon 1(by kernel_rfl))rfl
    replace ha:=am_ ha
    have CBa:=am_(Q_CBa(hoff 18(by kernel_rfl)))
    have HI:=am_ Q_HI
    refine goes_ Try.func27(by kernel_rfl)rfl #[.agg #[.int .i64 d0,.int .i64 d1]](by rfl)rfl rfl(by first|(simp only [List.map_toArray,List.map_cons,List.map_nil,Act.eval,Array.getD_eq_getD_getElem?,Option.getD_some,e152];done)|(simp only [List.map_toArray,List.map_cons,List.map_nil,Act.eval,Array.getD_eq_getD_getElem?,Option.getD_some,e152];rfl)) ?_
    with_reducible refine(laws_toExt.calls d0 d1 c0 c1 _ HTE.out).mono ?_
    rintro e wt⟨rfl,hb⟩
    refine⟨_,rfl,?_⟩
    have HI2:=am_(HI.out.grow hb)
    refine hK.out _ _⟨L4,cl4,f4,S6_,Q4,cq4,S7_,H1,ch1,H4,ch4,g26,g27,CB35,m4_,m7_,m8_,m9_,m10_,m12_,m14_,m15_,m16_,(by rw [ha.out];exact putSel_upk 1 hb_ rfl rfl rfl),Q_CBa,fun h0_=>ab_(hoff 18(by kernel_rfl))h0_,HI2.out,fun h0_=>ab_(hoff 4(by kernel_rfl))h0_,fun h0_=>ab_(hoff 7(by kernel_rfl))h0_,fun h0_=>ab_(hoff 8(by kernel_rfl))h0_,fun h0_=>ab_(hoff 9(by kernel_rfl))h0_,fun h0_=>ab_(hoff 10(by kernel_rfl))h0_,fun h0_=>ab_(hoff 12(by kernel_rfl))h0_,Q_X14_,Q_X15_,fun h0_=>ab_(hoff 16(by kernel_rfl))h0_⟩
   refine steps_cons ?_ ?_
   ·
    rintro b a w'⟨L4,cl4,f4,S6_,Q4,cq4,S7_,H1,ch1,H4,ch4,g26,g27,CB35,m4_,m7_,m8_,m9_,m10_,m12_,m14_,m15_,m16_,ha,Q_CBa,Q_CBb,Q_HI,Q_X4_,Q_X7_,Q_X8_,Q_X9_,Q_X10_,Q_X12_,Q_X14_,Q_X15_,Q_X16_⟩hb_ hon hoff
    refine⟨_,rfl,fun K hK=>?_⟩
    have e154:a.tmps[154]?=some(.slice A2 l2.length c2):=by rw [ha];exact(putSel_off rfl).trans rfl
    replace ha:=am_ ha
    have CBa:=am_(Q_CBa(hoff 18(by kernel_rfl)))
    have HI:=am_ Q_HI
    refine goes_ Try.func28(by kernel_rfl)rfl #[.slice A2 l2.length c2](by rfl)rfl rfl(by first|(simp only [List.map_toArray,List.map_cons,List.map_nil,Act.eval,Array.getD_eq_getD_getElem?,Option.getD_some,e154];done)|(simp only [List.map_toArray,List.map_cons,List.map_nil,Act.eval,Array.getD_eq_getD_getElem?,Option.getD_some,e154];rfl)) ?_
    with_reducible refine(laws_toExtSS.calls k A2 c2 l2 L _ HI.out.now.1 HC2.out HTL.out).mono ?_
    rintro e wt⟨vl_,rfl,hS,hb⟩
    obtain⟨L_n,cl_n,el_⟩:=Kd.R_slice(Kd.S_R hS)
    subst el_
    obtain⟨f_n,hR⟩:=hS
    refine⟨_,rfl,?_⟩
    have HI2:=am_(Inv.fill true(HI.out.rowPush hb hR)4 rfl)
    refine hK.out _ _⟨L_n,cl_n,f_n,(fun k=>w'.heap.size≤k∧k<wt.heap.size),Q4,cq4,S7_,H1,ch1,H4,ch4,g26,g27,CB35,(.slice L_n L.length cl_n),m7_,m8_,m9_,m10_,m12_,m14_,m15_,m16_,(by rw [ha.out];exact putSel_upk 2 hb_ rfl rfl rfl),Q_CBa,fun h0_=>ab_(hoff 18(by kernel_rfl))h0_,HI2.out,fun _=>rfl,fun h0_=>ab_(hoff 7(by kernel_rfl))h0_,fun h0_=>ab_(hoff 8(by kernel_rfl))h0_,fun h0_=>ab_(hoff 9(by kernel_rfl))h0_,fun h0_=>ab_(hoff 10(by kernel_rfl))h0_,fun h0_=>ab_(hoff 12(by kernel_rfl))h0_,Q_X14_,Q_X15_,fun h0_=>ab_(hoff 16(by kernel_rfl))h0_⟩
   refine steps_cons ?_ ?_
   ·
    rintro b a w'⟨L4,cl4,f4,S6_,Q4,cq4,S7_,H1,ch1,H4,ch4,g26,g27,CB35,m4_,m7_,m8_,m9_,m10_,m12_,m14_,m15_,m16_,ha,Q_CBa,Q_CBb,Q_HI,Q_X4_,Q_X7_,Q_X8_,Q_X9_,Q_X10_,Q_X12_,Q_X14_,Q_X15_,Q_X16_⟩hb_ hon hoff
    refine⟨_,rfl,fun K hK=>?_⟩
    have e9:a.tmps[9]?=some(.pointer(some⟨g9,0,none⟩)):=by rw [ha];exact(putSel_off rfl).trans rfl
    replace ha:=am_ ha
    have CBa:=am_(Q_CBa(hoff 18(by kernel_rfl)))
    have HI:=am_ Q_HI
    have y_0:w'.cell?⟨g9,0,none⟩=some(.slice A4 m0.length c4):=(blk_cell(HI.out.at_(blk g9 59 #[.slice A4 m0.length c4,.int .i64 m1,.string m2,.int .i64 m3])qz40_)0).trans rfl
    have y_1:w'.cell?⟨g9,1,none⟩=some(.int .i64 m1):=(blk_cell(HI.out.at_(blk g9 59 #[.slice A4 m0.length c4,.int .i64 m1,.string m2,.int .i64 m3])qz40_)1).trans rfl
    have y_2:w'.cell?⟨g9,2,none⟩=some(.string m2):=(blk_cell(HI.out.at_(blk g9 59 #[.slice A4 m0.length c4,.int .i64 m1,.string m2,.int .i64 m3])qz40_)2).trans rfl
    have y_3:w'.cell?⟨g9,3,none⟩=some(.int .i64 m3):=(blk_cell(HI.out.at_(blk g9 59 #[.slice A4 m0.length c4,.int .i64 m1,.string m2,.int .i64 m3])qz40_)3).trans rfl
    refine value_(w1:=w')(v:=.agg #[.slice A4 m0.length c4,.int .i64 m1,.string m2,.int .i64 m3])(by rfl)rfl ?_ ?_
    ·
     go_simp
     (try simp only [i64_w])
     try rfl
    refine hK.out _ _⟨L4,cl4,f4,S6_,Q4,cq4,S7_,H1,ch1,H4,ch4,g26,g27,CB35,m4_,m7_,m8_,m9_,m10_,m12_,m14_,m15_,m16_,(by rw [ha.out];exact putSel_upk 3 hb_ rfl rfl rfl),Q_CBa,fun h0_=>ab_(hoff 18(by kernel_rfl))h0_,Q_HI,Q_X4_,fun h0_=>ab_(hoff 7(by kernel_rfl))h0_,fun h0_=>ab_(hoff 8(by kernel_rfl))h0_,fun h0_=>ab_(hoff 9(by kernel_rfl))h0_,fun h0_=>ab_(hoff 10(by kernel_rfl))h0_,fun h0_=>ab_(hoff 12(by kernel_rfl))h0_,Q_X14_,Q_X15_,fun h0_=>ab_(hoff 16(by kernel_rfl))h0_⟩
   refine steps_cons ?_ ?_
   ·
    rintro b a w'⟨L4,cl4,f4,S6_,Q4,cq4,S7_,H1,ch1,H4,ch4,g26,g27,CB35,m4_,m7_,m8_,m9_,m10_,m12_,m14_,m15_,m16_,ha,Q_CBa,Q_CBb,Q_HI,Q_X4_,Q_X7_,Q_X8_,Q_X9_,Q_X10_,Q_X12_,Q_X14_,Q_X15_,Q_X16_⟩hb_ hon hoff
    refine⟨_,rfl,fun K hK=>?_⟩
    have e157:a.tmps[157]?=some(.agg #[.slice A4 m0.length c4,.int .i64 m1,.string m2,.int .i64 m3]):=by rw [ha];exact putSel_on(e:=(6,157,.agg #[.slice A4 m0.length c4,.int .i64 m1,.string m2,.int .i64 m3]))3 rfl rfl(hon 6(by kernel_rfl))rfl
    replace ha:=am_ ha
    have CBa:=am_(Q_CBa(hoff 18(by kernel_rfl)))
    have HI:=am_ Q_HI
    refine goes_ Try.func29(by kernel_rfl)rfl #[.agg #[.slice A4 m0.length c4,.int .i64 m1,.string m2,.int .i64 m3]](by rfl)rfl rfl(by first|(simp only [List.map_toArray,List.map_cons,List.map_nil,Act.eval,Array.getD_eq_getD_getElem?,Option.getD_some,e157];done)|(simp only [List.map_toArray,List.map_cons,List.map_nil,Act.eval,Array.getD_eq_getD_getElem?,Option.getD_some,e157];rfl)) ?_
    with_reducible refine(laws_toSource.calls k A4 c4 m0 m1 m2 m3 q0 q1 q2 q3 _ HI.out.now.2 HC4.out HTS.out).mono ?_
    rintro e wt⟨vq_,rfl,hR,hb⟩
    obtain⟨Q_n,cq_n,eq_⟩:=Kd.R_slice hR
    subst eq_
    refine⟨_,rfl,?_⟩
    have HI2:=am_(Inv.fill(true)(HI.out.rowPush hb hR)5 rfl)
    refine hK.out _ _⟨L4,cl4,f4,S6_,Q_n,cq_n,(fun k=>w'.heap.size≤k∧k<wt.heap.size),H1,ch1,H4,ch4,g26,g27,CB35,m4_,(.agg #[.slice Q_n q0.length cq_n,.int .i64 q1,.string q2,.int .i64 q3]),m8_,m9_,m10_,m12_,m14_,m15_,m16_,(by rw [ha.out];exact putSel_upk 4 hb_ rfl rfl rfl),Q_CBa,fun h0_=>ab_(hoff 18(by kernel_rfl))h0_,HI2.out,Q_X4_,fun _=>rfl,fun h0_=>ab_(hoff 8(by kernel_rfl))h0_,fun h0_=>ab_(hoff 9(by kernel_rfl))h0_,fun h0_=>ab_(hoff 10(by kernel_rfl))h0_,fun h0_=>ab_(hoff 12(by kernel_rfl))h0_,Q_X14_,Q_X15_,fun h0_=>ab_(hoff 16(by kernel_rfl))h0_⟩
   refine steps_cons ?_ ?_
   ·
    rintro b a w'⟨L4,cl4,f4,S6_,Q4,cq4,S7_,H1,ch1,H4,ch4,g26,g27,CB35,m4_,m7_,m8_,m9_,m10_,m12_,m14_,m15_,m16_,ha,Q_CBa,Q_CBb,Q_HI,Q_X4_,Q_X7_,Q_X8_,Q_X9_,Q_X10_,Q_X12_,Q_X14_,Q_X15_,Q_X16_⟩hb_ hon hoff
    refine⟨_,rfl,fun K hK=>?_⟩
    have e151:a.tmps[151]?=some(.int .i64 kind):=by rw [ha];exact(putSel_off rfl).trans rfl
    have e153:a.tmps[153]?=some(.agg #[.int .i64 c0,.int .i64 c1]):=by rw [ha];exact putSel_on(e:=(2,153,.agg #[.int .i64 c0,.int .i64 c1]))1 rfl rfl(hon 2(by kernel_rfl))rfl
    have e155:a.tmps[155]?=some(m4_):=by rw [ha];exact putSel_on(e:=(4,155,m4_))2 rfl rfl(hon 4(by kernel_rfl))rfl
    rw [Q_X4_(hon 4(by kernel_rfl))] at e155
    have e156:a.tmps[156]?=some(.int .i64 vars):=by rw [ha];exact(putSel_off rfl).trans rfl
    have e158:a.tmps[158]?=some(m7_):=by rw [ha];exact putSel_on(e:=(7,158,m7_))4 rfl rfl(hon 7(by kernel_rfl))rfl
    rw [Q_X7_(hon 7(by kernel_rfl))] at e158
    replace ha:=am_ ha
    have CBa:=am_(Q_CBa(hoff 18(by kernel_rfl)))
    have HI:=am_ Q_HI
    refine goes_ Try.func30(by kernel_rfl)rfl #[.int .i64 kind,.agg #[.int .i64 c0,.int .i64 c1],.slice L4 L.length cl4,.int .i64 vars,.agg #[.slice Q4 q0.length cq4,.int .i64 q1,.string q2,.int .i64 q3]](by rfl)rfl rfl(by first|(simp only [List.map_toArray,List.map_cons,List.map_nil,Act.eval,Array.getD_eq_getD_getElem?,Option.getD_some,e151,e153,e155,e156,e158];done)|(simp only [List.map_toArray,List.map_cons,List.map_nil,Act.eval,Array.getD_eq_getD_getElem?,Option.getD_some,e151,e153,e155,e156,e158];rfl)) ?_
    have hQ_:=Kd.R_reads'(rowR(gifA(HI.out.at_(gif(b 7)(row k34 34 w.heap.size(.slice Q4 q0.length cq4)q0 S7_))qz40_)(hon 7(by kernel_rfl))))
    with_reducible refine(impl_SumVerify.calls k kind c0 c1 L4 cl4 L vars Q4 cq4 q0 q1 q2 q3 g1 g2 g3 g4 g5 g6_ g7 g8 _(tagC(rowR(gifA(HI.out.at_(gif(b 4)(row(Kd.tag f4(Kd.slice 34 k34))24 w.heap.size(.slice L4 L.length cl4)L.zipIdx S6_))qz40_)(hon 4(by kernel_rfl))))).1(tagC(rowR(gifA(HI.out.at_(gif(b 4)(row(Kd.tag f4(Kd.slice 34 k34))24 w.heap.size(.slice L4 L.length cl4)L.zipIdx S6_))qz40_)(hon 4(by kernel_rfl))))).2 hQ_.2.2 hQ_.2.1 HIV.out).mono ?_
    rintro e wt⟨v0_,v3_,rfl,hR0,hR3,hb⟩
    obtain⟨X_n,cx_n,ex_⟩:=Kd.R_slice hR0
    subst ex_
    obtain⟨Y_n,cy_n,ey_⟩:=Kd.R_slice hR3
    subst ey_
    refine⟨_,rfl,?_⟩
    have HI5:=am_(Inv.keptTwo(b3:=w.heap.size)rfl rfl HI.out.nil0((Agr.of_below hb).mono(fun _ h=>h.elim))hR0(Nat.le_refl _)HI.out.agr.size(Kd.R_lower(Kd.R_bound hR3)HI.out.agr.size)(fun k hk=>.inr hk.2.1)(fun k hk=>hk.1))
    have HI2:=am_(Inv.fill true(Inv.fill true HI5.out 3 rfl)3 rfl)
    refine hK.out _ _⟨L4,cl4,f4,S6_,Q4,cq4,S7_,X_n,cx_n,Y_n,cy_n,g26,g27,CB35,m4_,m7_,(.tuple #[.slice X_n g1.length cx_n,.agg #[.int .i64 g2,.int .i64 g3],.agg #[.slice Y_n g4.length cy_n,.int .i64 g5,.string g6_,.int .i64 g7],.int .i64 g8]),m9_,m10_,m12_,m14_,m15_,m16_,(by rw [ha.out];exact putSel_upk 5 hb_ rfl rfl rfl),Q_CBa,fun h0_=>ab_(hoff 18(by kernel_rfl))h0_,HI2.out,Q_X4_,Q_X7_,fun _=>rfl,fun h0_=>ab_(hoff 9(by kernel_rfl))h0_,fun h0_=>ab_(hoff 10(by kernel_rfl))h0_,fun h0_=>ab_(hoff 12(by kernel_rfl))h0_,Q_X14_,Q_X15_,fun h0_=>ab_(hoff 16(by kernel_rfl))h0_⟩
   refine steps_cons ?_ ?_
   ·
    rintro b a w'⟨L4,cl4,f4,S6_,Q4,cq4,S7_,H1,ch1,H4,ch4,g26,g27,CB35,m4_,m7_,m8_,m9_,m10_,m12_,m14_,m15_,m16_,ha,Q_CBa,Q_CBb,Q_HI,Q_X4_,Q_X7_,Q_X8_,Q_X9_,Q_X10_,Q_X12_,Q_X14_,Q_X15_,Q_X16_⟩hb_ hon hoff
    refine⟨_,rfl,fun K hK=>?_⟩
    have e159:a.tmps[159]?=some(m8_):=by rw [ha];exact putSel_on(e:=(8,159,m8_))5 rfl rfl(hon 8(by kernel_rfl))rfl
    rw [Q_X8_(hon 8(by kernel_rfl))] at e159
    replace ha:=am_ ha
    have CBa:=am_(Q_CBa(hoff 18(by kernel_rfl)))
    have HI:=am_ Q_HI
    refine value_(w1:=w')(v:=.tuple #[.slice H1 g1.length ch1,.agg #[.int .i64 g2,.int .i64 g3],.agg #[.slice H4 g4.length ch4,.int .i64 g5,.string g6_,.int .i64 g7],.int .i64 g8])(by rfl)rfl ?_ ?_
    ·
     go_simp
     (try simp only [i64_w])
     try rfl
    refine hK.out _ _⟨L4,cl4,f4,S6_,Q4,cq4,S7_,H1,ch1,H4,ch4,g26,g27,CB35,m4_,m7_,m8_,(.tuple #[.slice H1 g1.length ch1,.agg #[.int .i64 g2,.int .i64 g3],.agg #[.slice H4 g4.length ch4,.int .i64 g5,.string g6_,.int .i64 g7],.int .i64 g8]),m10_,m12_,m14_,m15_,m16_,(by rw [ha.out];exact putSel_upk 6 hb_ rfl rfl rfl),Q_CBa,fun h0_=>ab_(hoff 18(by kernel_rfl))h0_,Q_HI,Q_X4_,Q_X7_,Q_X8_,fun _=>rfl,fun h0_=>ab_(hoff 10(by kernel_rfl))h0_,fun h0_=>ab_(hoff 12(by kernel_rfl))h0_,Q_X14_,Q_X15_,fun h0_=>ab_(hoff 16(by kernel_rfl))h0_⟩
   refine steps_cons ?_ ?_
   ·
    rintro b a w'⟨L4,cl4,f4,S6_,Q4,cq4,S7_,H1,ch1,H4,ch4,g26,g27,CB35,m4_,m7_,m8_,m9_,m10_,m12_,m14_,m15_,m16_,ha,Q_CBa,Q_CBb,Q_HI,Q_X4_,Q_X7_,Q_X8_,Q_X9_,Q_X10_,Q_X12_,Q_X14_,Q_X15_,Q_X16_⟩hb_ hon hoff
    refine⟨_,rfl,fun K hK=>?_⟩
    have e150:a.tmps[150]?=some(m9_):=by rw [ha];exact putSel_on(e:=(9,150,m9_))6 rfl rfl(hon 9(by kernel_rfl))rfl
    rw [Q_X9_(hon 9(by kernel_rfl))] at e150
    replace ha:=am_ ha
    have CBa:=am_(Q_CBa(hoff 18(by kernel_rfl)))
    have HI:=am_ Q_HI
    refine value_(w1:=w')(v:=.slice H1 g1.length ch1)(by rfl)rfl ?_ ?_
    ·
     go_simp
     (try simp only [i64_w])
     try rfl
    refine hK.out _ _⟨L4,cl4,f4,S6_,Q4,cq4,S7_,H1,ch1,H4,ch4,g26,g27,CB35,m4_,m7_,m8_,m9_,(.slice H1 g1.length ch1),m12_,m14_,m15_,m16_,(by rw [ha.out];exact putSel_upk 7 hb_ rfl rfl rfl),Q_CBa,fun h0_=>ab_(hoff 18(by kernel_rfl))h0_,Q_HI,Q_X4_,Q_X7_,Q_X8_,Q_X9_,fun _=>rfl,Q_X12_,Q_X14_,Q_X15_,fun h0_=>ab_(hoff 16(by kernel_rfl))h0_⟩
   refine steps_cons ?_ ?_
   ·
    rintro b a w'⟨L4,cl4,f4,S6_,Q4,cq4,S7_,H1,ch1,H4,ch4,g26,g27,CB35,m4_,m7_,m8_,m9_,m10_,m12_,m14_,m15_,m16_,ha,Q_CBa,Q_CBb,Q_HI,Q_X4_,Q_X7_,Q_X8_,Q_X9_,Q_X10_,Q_X12_,Q_X14_,Q_X15_,Q_X16_⟩hb_ hon hoff
    refine⟨_,rfl,fun K hK=>?_⟩
    have e150:a.tmps[150]?=some(m9_):=by rw [ha];exact putSel_on(e:=(9,150,m9_))6 rfl rfl(hon 9(by kernel_rfl))rfl
    rw [Q_X9_(hon 9(by kernel_rfl))] at e150
    replace ha:=am_ ha
    have CBa:=am_(Q_CBa(hoff 18(by kernel_rfl)))
    have HI:=am_ Q_HI
    refine value_(w1:=w')(v:=.agg #[.int .i64 g2,.int .i64 g3])(by rfl)rfl ?_ ?_
    ·
     go_simp
     (try simp only [i64_w])
     try rfl
    refine hK.out _ _⟨L4,cl4,f4,S6_,Q4,cq4,S7_,H1,ch1,H4,ch4,g26,g27,CB35,m4_,m7_,m8_,m9_,m10_,m12_,m14_,m15_,m16_,(by rw [ha.out];exact putSel_upk 8 hb_ rfl rfl rfl),Q_CBa,fun h0_=>ab_(hoff 18(by kernel_rfl))h0_,Q_HI,Q_X4_,Q_X7_,Q_X8_,Q_X9_,Q_X10_,Q_X12_,Q_X14_,Q_X15_,Q_X16_⟩
   refine steps_cons ?_ ?_
   ·
    rintro b a w'⟨L4,cl4,f4,S6_,Q4,cq4,S7_,H1,ch1,H4,ch4,g26,g27,CB35,m4_,m7_,m8_,m9_,m10_,m12_,m14_,m15_,m16_,ha,Q_CBa,Q_CBb,Q_HI,Q_X4_,Q_X7_,Q_X8_,Q_X9_,Q_X10_,Q_X12_,Q_X14_,Q_X15_,Q_X16_⟩hb_ hon hoff
    refine⟨_,rfl,fun K hK=>?_⟩
    have e150:a.tmps[150]?=some(m9_):=by rw [ha];exact putSel_on(e:=(9,150,m9_))6 rfl rfl(hon 9(by kernel_rfl))rfl
    rw [Q_X9_(hon 9(by kernel_rfl))] at e150
    replace ha:=am_ ha
    have CBa:=am_(Q_CBa(hoff 18(by kernel_rfl)))
    have HI:=am_ Q_HI
    refine value_(w1:=w')(v:=.agg #[.slice H4 g4.length ch4,.int .i64 g5,.string g6_,.int .i64 g7])(by rfl)rfl ?_ ?_
    ·
     go_simp
     (try simp only [i64_w])
     try rfl
    refine hK.out _ _⟨L4,cl4,f4,S6_,Q4,cq4,S7_,H1,ch1,H4,ch4,g26,g27,CB35,m4_,m7_,m8_,m9_,m10_,(.agg #[.slice H4 g4.length ch4,.int .i64 g5,.string g6_,.int .i64 g7]),m14_,m15_,m16_,(by rw [ha.out];exact putSel_upk 9 hb_ rfl rfl rfl),Q_CBa,fun h0_=>ab_(hoff 18(by kernel_rfl))h0_,Q_HI,Q_X4_,Q_X7_,Q_X8_,Q_X9_,Q_X10_,fun _=>rfl,Q_X14_,Q_X15_,Q_X16_⟩
   refine steps_cons ?_ ?_
   ·
    rintro b a w'⟨L4,cl4,f4,S6_,Q4,cq4,S7_,H1,ch1,H4,ch4,g26,g27,CB35,m4_,m7_,m8_,m9_,m10_,m12_,m14_,m15_,m16_,ha,Q_CBa,Q_CBb,Q_HI,Q_X4_,Q_X7_,Q_X8_,Q_X9_,Q_X10_,Q_X12_,Q_X14_,Q_X15_,Q_X16_⟩hb_ hon hoff
    refine⟨_,rfl,fun K hK=>?_⟩
    have e150:a.tmps[150]?=some(m9_):=by rw [ha];exact putSel_on(e:=(9,150,m9_))6 rfl rfl(hon 9(by kernel_rfl))rfl
    rw [Q_X9_(hon 9(by kernel_rfl))] at e150
    replace ha:=am_ ha
    have HI:=am_ Q_HI
    refine value_(w1:=w')(v:=.int .i64 g8)(by rfl)rfl ?_ ?_
    ·
     go_simp
     (try simp only [i64_w])
     try rfl
    refine hK.out _ _⟨L4,cl4,f4,S6_,Q4,cq4,S7_,H1,ch1,H4,ch4,g26,g27,CB35,m4_,m7_,m8_,m9_,m10_,m12_,m14_,m15_,m16_,(by rw [ha.out];exact putSel_upk 10 hb_ rfl rfl rfl),Q_CBa,Q_CBb,Q_HI,Q_X4_,Q_X7_,Q_X8_,Q_X9_,Q_X10_,Q_X12_,Q_X14_,Q_X15_,Q_X16_⟩
   refine steps_cons ?_ ?_
   ·
    rintro b a w'⟨L4,cl4,f4,S6_,Q4,cq4,S7_,H1,ch1,H4,ch4,g26,g27,CB35,m4_,m7_,m8_,m9_,m10_,m12_,m14_,m15_,m16_,ha,Q_CBa,Q_CBb,Q_HI,Q_X4_,Q_X7_,Q_X8_,Q_X9_,Q_X10_,Q_X12_,Q_X14_,Q_X15_,Q_X16_⟩hb_ hon hoff
    refine⟨_,rfl,fun K hK=>?_⟩
    replace ha:=am_ ha
    have CBa:=am_(Q_CBa(hoff 18(by kernel_rfl)))
    have HI:=am_ Q_HI
    refine value_(w1:=w'.alloc(.cells #[.int .i64 0,.int .i64 0] 34))(v:=.pointer(some⟨w'.heap.size,0,none⟩))(by rfl)rfl ?_ ?_
    ·
     first|(go_simp;done)|(go_simp;rfl)
    have HI2:=am_(Inv.fill true(Inv.cellsEq(HI.out.allocBox 34(#[.int .i64 0,.int .i64 0]))(cs':=cond(b 17)(#[.int .i64 g2,.int .i64 g3])(#[.int .i64 0,.int .i64 0]))(by rw [hoff 17(by kernel_rfl)];rfl))0 rfl)
    refine hK.out _ _⟨L4,cl4,f4,S6_,Q4,cq4,S7_,H1,ch1,H4,ch4,w'.heap.size,g27,CB35,m4_,m7_,m8_,m9_,m10_,m12_,(.pointer(some⟨w'.heap.size,0,none⟩)),m15_,m16_,(by rw [ha.out];exact putSel_upk 11 hb_ rfl rfl rfl),Q_CBa,fun h0_=>ab_(hoff 18(by kernel_rfl))h0_,HI2.out,Q_X4_,Q_X7_,Q_X8_,Q_X9_,Q_X10_,Q_X12_,fun _=>rfl,Q_X15_,fun h0_=>ab_(hoff 16(by kernel_rfl))h0_⟩
   refine steps_cons ?_ ?_
   ·
    rintro b a w'⟨L4,cl4,f4,S6_,Q4,cq4,S7_,H1,ch1,H4,ch4,g26,g27,CB35,m4_,m7_,m8_,m9_,m10_,m12_,m14_,m15_,m16_,ha,Q_CBa,Q_CBb,Q_HI,Q_X4_,Q_X7_,Q_X8_,Q_X9_,Q_X10_,Q_X12_,Q_X14_,Q_X15_,Q_X16_⟩hb_ hon hoff
    refine⟨_,rfl,fun K hK=>?_⟩
    replace ha:=am_ ha
    have CBa:=am_(Q_CBa(hoff 18(by kernel_rfl)))
    have HI:=am_ Q_HI
    refine value_(w1:=w'.alloc(.cells #[.slice none 0 0,.int .i64 0,.string(⟨#[]⟩:ByteArray),.int .i64 0] 27))(v:=.pointer(some⟨w'.heap.size,0,none⟩))(by rfl)rfl ?_ ?_
    ·
     first|(go_simp;done)|(go_simp;rfl)
    have HI2:=am_(Inv.fill true(Inv.cellsEq(HI.out.allocBox 27(#[.slice none 0 0,.int .i64 0,.string(⟨#[]⟩:ByteArray),.int .i64 0]))(cs':=CB35)CBa.out)1 rfl)
    refine hK.out _ _⟨L4,cl4,f4,S6_,Q4,cq4,S7_,H1,ch1,H4,ch4,g26,w'.heap.size,CB35,m4_,m7_,m8_,m9_,m10_,m12_,m14_,(.pointer(some⟨w'.heap.size,0,none⟩)),m16_,(by rw [ha.out];exact putSel_upk 12 hb_ rfl rfl rfl),Q_CBa,fun h0_=>ab_(hoff 18(by kernel_rfl))h0_,HI2.out,Q_X4_,Q_X7_,Q_X8_,Q_X9_,Q_X10_,Q_X12_,Q_X14_,fun _=>rfl,fun h0_=>ab_(hoff 16(by kernel_rfl))h0_⟩
   refine steps_cons ?_ ?_
   ·
    rintro b a w'⟨L4,cl4,f4,S6_,Q4,cq4,S7_,H1,ch1,H4,ch4,g26,g27,CB35,m4_,m7_,m8_,m9_,m10_,m12_,m14_,m15_,m16_,ha,Q_CBa,Q_CBb,Q_HI,Q_X4_,Q_X7_,Q_X8_,Q_X9_,Q_X10_,Q_X12_,Q_X14_,Q_X15_,Q_X16_⟩hb_ hon hoff
    refine⟨_,rfl,fun K hK=>?_⟩
    have e160:a.tmps[160]?=some(m10_):=by rw [ha];exact putSel_on(e:=(10,160,m10_))7 rfl rfl(hon 10(by kernel_rfl))rfl
    rw [Q_X10_(hon 10(by kernel_rfl))] at e160
    replace ha:=am_ ha
    have CBa:=am_(Q_CBa(hoff 18(by kernel_rfl)))
    have HI:=am_ Q_HI
    refine value_(w1:=w')(v:=.slice H1 g1.length ch1)(by rfl)rfl ?_ ?_
    ·
     go_simp
     (try simp only [i64_w])
     try rfl
    refine hK.out _ _⟨L4,cl4,f4,S6_,Q4,cq4,S7_,H1,ch1,H4,ch4,g26,g27,CB35,m4_,m7_,m8_,m9_,m10_,m12_,m14_,m15_,(.slice H1 g1.length ch1),(by rw [ha.out];exact putSel_upk 13 hb_ rfl rfl rfl),Q_CBa,fun h0_=>ab_(hoff 18(by kernel_rfl))h0_,Q_HI,Q_X4_,Q_X7_,Q_X8_,Q_X9_,Q_X10_,Q_X12_,Q_X14_,Q_X15_,fun _=>rfl⟩
   refine steps_cons ?_ ?_
   ·
    rintro b a w'⟨L4,cl4,f4,S6_,Q4,cq4,S7_,H1,ch1,H4,ch4,g26,g27,CB35,m4_,m7_,m8_,m9_,m10_,m12_,m14_,m15_,m16_,ha,Q_CBa,Q_CBb,Q_HI,Q_X4_,Q_X7_,Q_X8_,Q_X9_,Q_X10_,Q_X12_,Q_X14_,Q_X15_,Q_X16_⟩hb_ hon hoff
    refine⟨_,rfl,fun K hK=>?_⟩
    have e26:a.tmps[26]?=some(m14_):=by rw [ha];exact putSel_on(e:=(14,26,m14_))11 rfl rfl(hon 14(by kernel_rfl))rfl
    rw [Q_X14_(hon 14(by kernel_rfl))] at e26
    have e161:a.tmps[161]?=some(.agg #[.int .i64 g2,.int .i64 g3]):=by rw [ha];exact putSel_on(e:=(11,161,.agg #[.int .i64 g2,.int .i64 g3]))8 rfl rfl(hon 11(by kernel_rfl))rfl
    replace ha:=am_ ha
    have CBa:=am_(Q_CBa(hoff 18(by kernel_rfl)))
    have HI:=am_ Q_HI
    rw [if_pos(by rfl)]
    have HI3:=am_(Inv.cellsEq(Inv.take HI.out 0 rfl(hon 14(by kernel_rfl)))(cs':=#[.int .i64 0,.int .i64 0])(by rw [hb_];rfl))
    refine wp_store_row 34 _ _ rfl g26(#[.int .i64 g2,.int .i64 g3])(eval_of e26)(eval_of e161)34(#[.int .i64 0,.int .i64 0])HI3.out.blk0(draw_side g2 g3)(draw_len g2 g3)(draw_one g2 g3) ?_
    have HI2:=am_(Inv.fill(b 14)(HI3.out.put0(#[.int .i64 g2,.int .i64 g3]))0 rfl)
    refine hK.out _ _⟨L4,cl4,f4,S6_,Q4,cq4,S7_,H1,ch1,H4,ch4,g26,g27,CB35,m4_,m7_,m8_,m9_,m10_,m12_,m14_,m15_,m16_,(by rw [ha.out];exact putSel_none(v:=undef)rfl),Q_CBa,fun h0_=>ab_(hoff 18(by kernel_rfl))h0_,HI2.out,Q_X4_,Q_X7_,Q_X8_,Q_X9_,Q_X10_,Q_X12_,Q_X14_,Q_X15_,Q_X16_⟩
   refine steps_cons ?_ ?_
   ·
    rintro b a w'⟨L4,cl4,f4,S6_,Q4,cq4,S7_,H1,ch1,H4,ch4,g26,g27,CB35,m4_,m7_,m8_,m9_,m10_,m12_,m14_,m15_,m16_,ha,Q_CBa,Q_CBb,Q_HI,Q_X4_,Q_X7_,Q_X8_,Q_X9_,Q_X10_,Q_X12_,Q_X14_,Q_X15_,Q_X16_⟩hb_ hon hoff
    refine⟨_,rfl,fun K hK=>?_⟩
    have e27:a.tmps[27]?=some(m15_):=by rw [ha];exact putSel_on(e:=(15,27,m15_))12 rfl rfl(hon 15(by kernel_rfl))rfl
    rw [Q_X15_(hon 15(by kernel_rfl))] at e27
    have e162:a.tmps[162]?=some(m12_):=by rw [ha];exact putSel_on(e:=(12,162,m12_))9 rfl rfl(hon 12(by kernel_rfl))rfl
    rw [Q_X12_(hon 12(by kernel_rfl))] at e162
    replace ha:=am_ ha
    have CBa:=am_(Q_CBa hb_)
    have HI:=am_ Q_HI
    rw [if_pos(by rfl)]
    have HI3:=am_(Inv.cellsEq(Inv.take HI.out 1 rfl(hon 15(by kernel_rfl)))(cs':=#[.slice none 0 0,.int .i64 0,.string(⟨#[]⟩:ByteArray),.int .i64 0])CBa.out.symm)
    refine wp_store_row 27 _ _ rfl g27(#[.slice H4 g4.length ch4,.int .i64 g5,.string g6_,.int .i64 g7])(eval_of e27)(eval_of e162)27(#[.slice none 0 0,.int .i64 0,.string(⟨#[]⟩:ByteArray),.int .i64 0])HI3.out.blk0(by kernel_rfl)rfl qz12_ ?_
    have HI2:=am_(Inv.fill(b 15)(HI3.out.put0(#[.slice H4 g4.length ch4,.int .i64 g5,.string g6_,.int .i64 g7]))1 rfl)
    refine hK.out _ _⟨L4,cl4,f4,S6_,Q4,cq4,S7_,H1,ch1,H4,ch4,g26,g27,#[.slice H4 g4.length ch4,.int .i64 g5,.string g6_,.int .i64 g7],m4_,m7_,m8_,m9_,m10_,m12_,m14_,m15_,m16_,(by rw [ha.out];exact putSel_none(v:=undef)rfl),fun h0_=>absurd((up_self b 18).symm.trans h0_)(by decide),fun _=>rfl,HI2.out,Q_X4_,Q_X7_,Q_X8_,Q_X9_,Q_X10_,Q_X12_,Q_X14_,Q_X15_,Q_X16_⟩
   refine steps_cons ?_ ?_
   ·
    rintro b a w'⟨L4,cl4,f4,S6_,Q4,cq4,S7_,H1,ch1,H4,ch4,g26,g27,CB35,m4_,m7_,m8_,m9_,m10_,m12_,m14_,m15_,m16_,ha,Q_CBa,Q_CBb,Q_HI,Q_X4_,Q_X7_,Q_X8_,Q_X9_,Q_X10_,Q_X12_,Q_X14_,Q_X15_,Q_X16_⟩hb_ hon hoff
    refine⟨_,rfl,fun K hK=>?_⟩
    have e163:a.tmps[163]?=some(.int .i64 g8):=by rw [ha];exact putSel_on(e:=(13,163,.int .i64 g8))10 rfl rfl(hon 13(by kernel_rfl))rfl
    replace ha:=am_ ha
    have CBb:=am_(Q_CBb(hon 18(by kernel_rfl)))
    have HI:=am_ Q_HI
    refine value_(w1:=w')(v:=.int .i64 g8)(by rfl)rfl ?_ ?_
    ·
     go_simp
     (try simp only [i64_w])
     try rfl
    refine hK.out _ _⟨L4,cl4,f4,S6_,Q4,cq4,S7_,H1,ch1,H4,ch4,g26,g27,CB35,m4_,m7_,m8_,m9_,m10_,m12_,m14_,m15_,m16_,(by rw [ha.out];exact putSel_upk 14 hb_ rfl rfl rfl),fun h0_=>ab_(hon 18(by kernel_rfl))h0_,Q_CBb,Q_HI,Q_X4_,Q_X7_,Q_X8_,Q_X9_,Q_X10_,Q_X12_,Q_X14_,Q_X15_,Q_X16_⟩
   exact steps_nil
  rintro b a w' hall⟨L4,cl4,f4,S6_,Q4,cq4,S7_,H1,ch1,H4,ch4,g26,g27,CB35,m4_,m7_,m8_,m9_,m10_,m12_,m14_,m15_,m16_,ha,Q_CBa,Q_CBb,Q_HI,Q_X4_,Q_X7_,Q_X8_,Q_X9_,Q_X10_,Q_X12_,Q_X14_,Q_X15_,Q_X16_⟩
  clear CBa HI
  have hb1_:=hall 1(by kernel_rfl)
  have hb2_:=hall 2(by kernel_rfl)
  have hb4_:=hall 4(by kernel_rfl)
  have hb6_:=hall 6(by kernel_rfl)
  have hb7_:=hall 7(by kernel_rfl)
  have hb8_:=hall 8(by kernel_rfl)
  have hb9_:=hall 9(by kernel_rfl)
  have hb10_:=hall 10(by kernel_rfl)
  have hb11_:=hall 11(by kernel_rfl)
  have hb12_:=hall 12(by kernel_rfl)
  have hb13_:=hall 13(by kernel_rfl)
  have hb14_:=hall 14(by kernel_rfl)
  have hb15_:=hall 15(by kernel_rfl)
  have hb16_:=hall 16(by kernel_rfl)
  have hb17_:=hall 17(by kernel_rfl)
  have hb18_:=hall 18(by kernel_rfl)
  have hb19_:=hall 19(by kernel_rfl)
  subst ha
  obtain rfl:=Q_X4_ hb4_
  obtain rfl:=Q_X7_ hb7_
  obtain rfl:=Q_X8_ hb8_
  obtain rfl:=Q_X9_ hb9_
  obtain rfl:=Q_X10_ hb10_
  obtain rfl:=Q_X12_ hb12_
  obtain rfl:=Q_X14_ hb14_
  obtain rfl:=Q_X15_ hb15_
  obtain rfl:=Q_X16_ hb16_
  simp only [putSel,hb1_,hb2_,hb4_,hb6_,hb7_,hb8_,hb9_,hb10_,hb11_,hb12_,hb13_,hb14_,hb15_,hb16_,hb17_,hb18_,hb19_,if_true,Act.put,List.setIfInBounds_toArray,List.set_cons_zero,List.set_cons_succ]
  clear Q_CBa
  have CBb:=am_(Q_CBb hb18_)
  clear Q_CBb
  have hCB_:=CBb.out
  clear CBb
  subst hCB_
  have HI:=am_ Q_HI
  replace HI:=am_(Inv.take HI.out 5 rfl hb7_)
  replace HI:=am_(Inv.take HI.out 5 rfl hb4_)
  replace HI:=am_(Inv.take HI.out 5 rfl hb8_)
  replace HI:=am_(Inv.take HI.out 5 rfl hb8_)
  replace HI:=am_(Inv.take HI.out 5 rfl hb15_)
  replace HI:=am_(Inv.take HI.out 5 rfl hb14_)
  replace HI:Aside0(Inv w NoB w' [blk g26 34 #[.int .i64 g2,.int .i64 g3],blk g27 27 #[.slice H4 g4.length ch4,.int .i64 g5,.string g6_,.int .i64 g7],row k34 34 w.heap.size(.slice H1 g1.length ch1)g1(fun k=>some k=(Value.ownBlock(.slice H1 g1.length ch1))),row k34 34 w.heap.size(.slice H4 g4.length ch4)g4(fun k=>some k=(Value.ownBlock(.slice H4 g4.length ch4))),row(Kd.tag f4(Kd.slice 34 k34))24 w.heap.size(.slice L4 L.length cl4)L.zipIdx S6_,row k34 34 w.heap.size(.slice Q4 q0.length cq4)q0 S7_,row k34 34 w.heap.size(.slice G4 g4.length cg4)hl_ S5_,row k34 34 w.heap.size(.slice G1 g1.length cg1)gl S4_,blk g19 34 #[.int .i64 g2,.int .i64 g3],blk g20 27 #[.slice G4 g4.length cg4,.int .i64 g5,.string g6_,.int .i64 g7],blk g17 27 #[.slice Q2 q0.length cq2,.int .i64 q1,.string q2,.int .i64 q3],blk g13 34 #[.int .i64 x2,.int .i64 x3],blk g14 27 #[.slice X4 x4.length cx4,.int .i64 x5,.string x6,.int .i64 x7],row k34 34 w.heap.size(.slice X1 x1.length cx1)x1(fun k=>some k=(Value.ownBlock(.slice X1 x1.length cx1))),row k34 34 w.heap.size(.slice X4 x4.length cx4)x4(fun k=>some k=(Value.ownBlock(.slice X4 x4.length cx4))),blk g9 59 #[.slice A4 m0.length c4,.int .i64 m1,.string m2,.int .i64 m3],blk g6 56 #[.int .i64 d0,.int .i64 d1]](fun w2=>Kd.C(Kd.slice 56 k56)w2 A2 l2.length l2∧Kd.C k56 w2 A4 m0.length m0)):=⟨Inv.cellsEq(HI.out.subL(L':=[blk g26 34(cond(b 17)(#[.int .i64 g2,.int .i64 g3])(#[.int .i64 0,.int .i64 0])),blk g27 27(#[.slice H4 g4.length ch4,.int .i64 g5,.string g6_,.int .i64 g7]),row k34 34 w.heap.size(.slice H1 g1.length ch1)g1(fun k=>some k=(Value.ownBlock(.slice H1 g1.length ch1))),row k34 34 w.heap.size(.slice H4 g4.length ch4)g4(fun k=>some k=(Value.ownBlock(.slice H4 g4.length ch4))),row(Kd.tag f4(Kd.slice 34 k34))24 w.heap.size(.slice L4 L.length cl4)L.zipIdx S6_,row k34 34 w.heap.size(.slice Q4 q0.length cq4)q0 S7_,row k34 34 w.heap.size(.slice G4 g4.length cg4)hl_ S5_,row k34 34 w.heap.size(.slice G1 g1.length cg1)gl S4_,blk g19 34 #[.int .i64 g2,.int .i64 g3],blk g20 27 #[.slice G4 g4.length cg4,.int .i64 g5,.string g6_,.int .i64 g7],blk g17 27 #[.slice Q2 q0.length cq2,.int .i64 q1,.string q2,.int .i64 q3],blk g13 34 #[.int .i64 x2,.int .i64 x3],blk g14 27 #[.slice X4 x4.length cx4,.int .i64 x5,.string x6,.int .i64 x7],row k34 34 w.heap.size(.slice X1 x1.length cx1)x1(fun k=>some k=(Value.ownBlock(.slice X1 x1.length cx1))),row k34 34 w.heap.size(.slice X4 x4.length cx4)x4(fun k=>some k=(Value.ownBlock(.slice X4 x4.length cx4))),blk g9 59 #[.slice A4 m0.length c4,.int .i64 m1,.string m2,.int .i64 m3],blk g6 56 #[.int .i64 d0,.int .i64 d1]])qz34_)(by rw [hb17_];rfl)⟩
  clear Q_HI
  clear hall hb1_ hb2_ hb4_ hb6_ hb7_ hb8_ hb9_ hb10_ hb11_ hb12_ hb13_ hb14_ hb15_ hb16_ hb17_ hb18_ hb19_
  go_wp2_with(first|((go_at_call 23;(refine(laws_eqExtS.calls k H1 ch1 g1 X1 cx1 x1 true _(Kd.R_reads'(rowR(HI.out.at_(row k34 34 w.heap.size(.slice H1 g1.length ch1)g1 _)qz40_))).2.2(Kd.R_reads'(rowR(HI.out.at_(row k34 34 w.heap.size(.slice H1 g1.length ch1)g1 _)qz40_))).2.1(Kd.R_reads'(rowR(HI.out.at_(row k34 34 w.heap.size(.slice X1 x1.length cx1)x1 _)qz40_))).2.2(Kd.R_reads'(rowR(HI.out.at_(row k34 34 w.heap.size(.slice X1 x1.length cx1)x1 _)qz40_))).2.1 HQ1.out).mono ?_);rintro e w166⟨rfl,hb⟩;replace HI:=am_(HI.out.grow hb);clear hb;have hc0:World.cell? _⟨g26,0,none⟩=some(.int .i64 g2):=(blk_cell(HI.out.at_(blk g26 34 #[.int .i64 g2,.int .i64 g3])qz40_)0).trans rfl;have hc1:World.cell? _⟨g26,1,none⟩=some(.int .i64 g3):=(blk_cell(HI.out.at_(blk g26 34 #[.int .i64 g2,.int .i64 g3])qz40_)1).trans rfl;have hcb0:World.cell? _⟨g13,0,none⟩=some(.int .i64 x2):=(blk_cell(HI.out.at_(blk g13 34 #[.int .i64 x2,.int .i64 x3])qz40_)0).trans rfl;have hcb1:World.cell? _⟨g13,1,none⟩=some(.int .i64 x3):=(blk_cell(HI.out.at_(blk g13 34 #[.int .i64 x2,.int .i64 x3])qz40_)1).trans rfl))|((go_at_call 31;(refine(laws_eqExt.calls g2 g3 x2 x3 true _ HQ2.out).mono ?_);rintro e w171⟨rfl,hb⟩;replace HI:=am_(HI.out.grow hb);clear hb;have hd_0:World.cell? _⟨g27,0,none⟩=some(.slice H4 g4.length ch4):=(blk_cell(HI.out.at_(blk g27 27 #[.slice H4 g4.length ch4,.int .i64 g5,.string g6_,.int .i64 g7])qz40_)0).trans rfl;have hd_1:World.cell? _⟨g27,1,none⟩=some(.int .i64 g5):=(blk_cell(HI.out.at_(blk g27 27 #[.slice H4 g4.length ch4,.int .i64 g5,.string g6_,.int .i64 g7])qz40_)1).trans rfl;have hd_2:World.cell? _⟨g27,2,none⟩=some(.string g6_):=(blk_cell(HI.out.at_(blk g27 27 #[.slice H4 g4.length ch4,.int .i64 g5,.string g6_,.int .i64 g7])qz40_)2).trans rfl;have hd_3:World.cell? _⟨g27,3,none⟩=some(.int .i64 g7):=(blk_cell(HI.out.at_(blk g27 27 #[.slice H4 g4.length ch4,.int .i64 g5,.string g6_,.int .i64 g7])qz40_)3).trans rfl;have hd_b0:World.cell? _⟨g14,0,none⟩=some(.slice X4 x4.length cx4):=(blk_cell(HI.out.at_(blk g14 27 #[.slice X4 x4.length cx4,.int .i64 x5,.string x6,.int .i64 x7])qz40_)0).trans rfl;have hd_b1:World.cell? _⟨g14,1,none⟩=some(.int .i64 x5):=(blk_cell(HI.out.at_(blk g14 27 #[.slice X4 x4.length cx4,.int .i64 x5,.string x6,.int .i64 x7])qz40_)1).trans rfl;have hd_b2:World.cell? _⟨g14,2,none⟩=some(.string x6):=(blk_cell(HI.out.at_(blk g14 27 #[.slice X4 x4.length cx4,.int .i64 x5,.string x6,.int .i64 x7])qz40_)2).trans rfl;have hd_b3:World.cell? _⟨g14,3,none⟩=some(.int .i64 x7):=(blk_cell(HI.out.at_(blk g14 27 #[.slice X4 x4.length cx4,.int .i64 x5,.string x6,.int .i64 x7])qz40_)3).trans rfl))|((go_at_call 32;(refine(laws_eqSource.calls k H4 ch4 g4 g5 g6_ g7 X4 cx4 x4 x5 x6 x7 true _(Kd.R_reads'(rowR(HI.out.at_(row k34 34 w.heap.size(.slice H4 g4.length ch4)g4 _)qz40_))).2.2(Kd.R_reads'(rowR(HI.out.at_(row k34 34 w.heap.size(.slice H4 g4.length ch4)g4 _)qz40_))).2.1(Kd.R_reads'(rowR(HI.out.at_(row k34 34 w.heap.size(.slice X4 x4.length cx4)x4 _)qz40_))).2.2(Kd.R_reads'(rowR(HI.out.at_(row k34 34 w.heap.size(.slice X4 x4.length cx4)x4 _)qz40_))).2.1 HQ3.out).mono ?_);rintro e w177⟨rfl,hb⟩;replace HI:=am_(HI.out.grow hb);clear hb))|(go_at_call 37;(refine(heldExtS_R k 1 n5 _(rowR(HI.out.at_(row k34 34 w.heap.size(.slice G1 g1.length cg1)gl _)qz40_))HH1.out).mono ?_);rintro e w139⟨rfl,⟨n139,rfl⟩⟩;replace HI:=am_(HI.out.drewN n139);generalize World.drewN _ n139=wn139 at HI ⊢)|((with_reducible refine gate_dst(N:=190)rfl ?_);go_must(refine wpList_load_row rfl 27 _ rfl g20 rfl 27(#[.slice G4 g4.length cg4,.int .i64 g5,.string g6_,.int .i64 g7])(0,0)_(HI.out.at_(blk g20 27 #[.slice G4 g4.length cg4,.int .i64 g5,.string g6_,.int .i64 g7])qz40_)hu27 rfl(by first|exact draw_side _ _|kernel_rfl) ?_))|(go_at_call 38;(refine(heldSource_R k g5 g6_ g7 n5 n6 _(rowR(HI.out.at_(row k34 34 w.heap.size(.slice G4 g4.length cg4)hl_ _)qz40_))HH2.out).mono ?_);rintro e w144⟨rfl,hb⟩;replace HI:=am_(HI.out.grow hb);clear hb))
  go_ret
  exact⟨rfl,HI.out.below⟩
 ·
  rw [if_neg c64] at h;cases h

end Go.Proofs.Ytgookagndlfehaa.PT
end
section
/- Arguments that are read as data have the kinds' own form: for each kind, compositionally. Own text, for every seat (Ytgookagndlfehaa: the seat's name). -/
namespace Go.Proofs.YtgookagndlfehaaO
open Go.RowKit Go.ChangeShapes Go.WideShapes Go.ChangeAt Go.Proofs.YtgookagndlfehaaW.PrintWords
def Opens {α:Type} {H:Type} (enc:TypeId × Value→H)(P:Program)(w:World)(T:TypeId)(d:Kd α)(good:α→Prop):Prop:=
 ∀ (fuel:Nat)(cs:List Value)(x:DataW H × List MemPlace),DataW.trod enc P w 0(fun _=>true)true fuel T cs=some x→∃ a,d.K w a cs∧good a
def OpensSeq {α:Type} {H:Type} (enc:TypeId × Value→H)(P:Program)(w:World)(fs:List(TypeId × Nat))(d:Kd α)(good:α→Prop):Prop:=
 ∀ (fuel:Nat)(cs:List Value),cs.length=(fs.map(·.2)).sum→(∀ (j:Nat)(T n:Nat),fs[j]?=some(T,n)→∃ x,DataW.trod enc P w 0(fun _=>true)true fuel T((cs.drop((fs.take j).map(·.2)).sum).take n)=some x)→∃ a,d.K w a cs∧good a

section
variable {H:Type} {enc:TypeId × Value→H} {P:Program} {w:World}

def IntGood(k:IntKind)(a:Int):Prop:=(Lit.int k a).wf=true
def StrGood(a:ByteArray):Prop:=a.size≤9223372036854775807
def ListGood {α:Type} (g:α→Prop)(l:List α):Prop:=l.length≤9223372036854775807∧∀ x∈l,g x

theorem opens_int {T:TypeId} {k:IntKind} (ht:P.underlying T=some(.int k)):Opens enc P w T(Kd.int k)(IntGood k):=by
 intro fuel cs x h
 obtain⟨n,rfl,_,hw⟩:=DataW.trod_int ht h
 exact⟨n,rfl,hw⟩
theorem opens_bool {T:TypeId} (ht:P.underlying T=some .bool):Opens enc P w T Kd.bool(fun _=>True):=by
 intro fuel cs x h
 obtain⟨n,rfl,_⟩:=DataW.trod_bool ht h
 exact⟨n,rfl,trivial⟩
theorem opens_string {T:TypeId} (ht:P.underlying T=some .string):Opens enc P w T Kd.string StrGood:=by
 intro fuel cs x h
 obtain⟨s,rfl,_,hs⟩:=DataW.trod_string ht h
 exact⟨s,rfl,(by unfold StrGood;unfold maxLen at hs;omega)⟩

theorem choose_list {α:Type} {n:Nat} {p:Nat→α→Prop} (h:∀ i,i<n→∃ a,p i a):∃ l:List α,l.length=n∧∀ i a,l[i]?=some a→p i a:=by
 induction n with
 | zero=>exact⟨[],rfl,fun i a hi=>by simp at hi⟩
 | succ n ih=>
  obtain⟨l,hl,hp⟩:=ih(fun i hi=>h i(by omega))
  obtain⟨a,ha⟩:=h n(by omega)
  refine⟨l++[a],(by simp [hl]),fun i b hi=>?_⟩
  rcases Nat.lt_or_ge i l.length with hlt|hge
  ·
   rw [List.getElem?_append_left hlt] at hi
   exact hp i b hi
  ·
   rw [List.getElem?_append_right hge] at hi
   have:i - l.length=0:=by
    rcases Nat.eq_zero_or_pos(i - l.length)with h0|h0
    ·
     exact h0
    ·
     rw [List.getElem?_eq_none(by simp;omega)] at hi;simp at hi
   rw [this] at hi
   simp at hi
   subst hi
   have:i=n:=by omega
   rw [this]
   exact ha

theorem opens_slice {α:Type} {d:Kd α} {good:α→Prop} {T e:TypeId} (ht:P.underlying T=some(.slice e))(hc:P.cellsOf e=d.sz)(ho:Opens enc P w e d good):Opens enc P w T(Kd.slice e d)(ListGood good):=by
 intro fuel cs x h
 rcases Deep.open_slice ht h with⟨rfl,_⟩|⟨a,len,cap,m,n,D,Pl,rfl,_,hl,hm,hmm,_,hx⟩
 ·
  exact⟨[],⟨none,0,rfl,Nat.le_refl _,⟨rfl,(by simp),fun h0=>by simp at h0⟩⟩,⟨(by simp),fun x hx=>by simp at hx⟩⟩
 ·
  have hle:len≤m:=by rw [hmm];split <;> omega
  have hex:∀ i,i<len→∃ b:α,(∃ c,c.length=d.sz∧d.K w b c∧∀ j u,c[j]?=some u→w.cell? (a.add(i * d.sz + j))=some u)∧good b:=by
   intro i hi
   obtain⟨cs',h1,h2⟩:=hx i(by omega)
   obtain⟨b,hK,hg⟩:=ho _ _ _ h2
   obtain⟨_,hlen,hcell⟩:=World.cells?_some h1
   refine⟨b,⟨cs',(by rw [hlen,hc]),hK,fun j u hu=>?_⟩,hg⟩
   have hj:j<P.cellsOf e:=by
    rw [←hlen]
    exact(List.getElem?_eq_some_iff.1 hu).1
   rw [←Deep.add_add,←hc,hcell j hj,hu]
  obtain⟨l,hll,hp⟩:=choose_list hex
  unfold maxLen at hm
  refine⟨l,⟨some a,cap,by rw [hll],by omega,⟨rfl,by omega,fun _=>⟨a,rfl,fun j p hj=>(hp j p hj).1⟩⟩⟩,⟨(by omega),fun x hx=>?_⟩⟩
  obtain⟨i,hi,rfl⟩:=List.getElem_of_mem hx
  exact(hp i _(List.getElem?_eq_getElem hi)).2

theorem opensSeq_one {α:Type} {d:Kd α} {good:α→Prop} {T n:Nat} (ho:Opens enc P w T d good):OpensSeq enc P w [(T,n)] d good:=by
 intro fuel cs hlen h
 obtain⟨x,hx⟩:=h 0 T n rfl
 simp at hlen
 simp [List.take_of_length_le(Nat.le_of_eq hlen)] at hx
 exact ho _ _ _ hx
theorem opensSeq_cons {α β:Type} {d:Kd α} {good:α→Prop} {d2:Kd β} {good2:β→Prop} {T n:Nat} {fs:List(TypeId × Nat)} (ho:Opens enc P w T d good)(hs:OpensSeq enc P w fs d2 good2):
  OpensSeq enc P w((T,n)::fs)(Kd.pair d d2)(fun x=>good x.1∧good2 x.2):=by
 intro fuel cs hlen h
 obtain⟨x,hx⟩:=h 0 T n rfl
 simp at hx
 obtain⟨a,hK,hg⟩:=ho _ _ _ hx
 simp only [List.map_cons,List.sum_cons] at hlen
 obtain⟨b,hK2,hg2⟩:=hs fuel(cs.drop n)(by rw [List.length_drop,hlen];omega)(fun j T' n' hj=>by
  obtain⟨y,hy⟩:=h(j + 1)T' n'(by simpa using hj)
  refine⟨y,?_⟩
  simp only [List.take_succ_cons,List.map_cons,List.sum_cons] at hy
  rw [List.drop_drop]
  exact hy)
 exact⟨(a,b),⟨cs.take n,cs.drop n,(List.take_append_drop n cs).symm,hK,hK2⟩,hg,hg2⟩
theorem opens_struct {α β:Type} {d:Kd α} {good:α→Prop} {T:TypeId} {fs:Array Field} {l:List(TypeId × Nat)} (f:β→α)(g:α→β)(hfg:∀ a,f(g a)=a)(ht:P.underlying T=some(.struct fs))
  (hl:l.length=fs.size)(hf:∀ (j:Nat)(T' n:Nat),l[j]?=some(T',n)→∃ fd,fs[j]?=some fd∧fd.type=T'∧P.cellsOf T'=n∧fd.offset=((l.take j).map(·.2)).sum)(hc:P.cellsOf T=(l.map(·.2)).sum)
  (hs:OpensSeq enc P w l d good):Opens enc P w T(Kd.iso d f)(fun x=>good(f x)):=by
 intro fuel cs x h
 obtain⟨xs,n,_,_,hlen,hxl,hx⟩:=DataW.trod_struct ht h
 obtain⟨a,hK,hg⟩:=hs n cs(by rw [hlen,hc])(fun j T' n' hj=>by
  obtain⟨fd,h1,h2,h3,h4⟩:=hf j T' n' hj
  have h5:=hx j fd h1
  have hj2:j<xs.length:=by
   have:=(List.getElem?_eq_some_iff.1 hj).1
   omega
  rw [List.getElem?_eq_getElem hj2,h2,h3,h4] at h5
  exact⟨_,h5⟩)
 refine⟨g a,?_,?_⟩
 ·
  show d.K w(f(g a))cs
  rw [hfg];exact hK
 ·
  show good(f(g a))
  rw [hfg];exact hg
end
end Go.Proofs.YtgookagndlfehaaO
end
section
namespace Go.Proofs.Ytgookagndlfehaa.fnExactSumVerify
open Go.RowKit Go.ChangeShapes Go.WideShapes Go.ChangeAt Go.Proofs.YtgookagndlfehaaO Go.Proofs.Ytgookagndlfehaa.PT Go.Proofs.YtgookagndlfehaaW.PrintWords Go.Proofs.YtgookagndlfehaaW.PrintLast
set_option linter.unusedVariables false
theorem opensT3 {H:Type} {enc:TypeId × Value→H} {w:World}:Opens enc Try.prog w 3(Kd.int .i64)(IntGood .i64):=opens_int Try.underlying3
def goodT56:S56→Prop:=(fun x:S56=>(IntGood .i64)x.f0∧(IntGood .i64)x.f1)
theorem opensT56 {H:Type} {enc:TypeId × Value→H} {w:World}:Opens enc Try.prog w 56 k56 goodT56:=
 opens_struct(l:=[(3,1),(3,1)])(fun x:S56=>(x.f0,x.f1))(fun a=>⟨a.1,a.2⟩)(fun _=>rfl)Try.underlying56 rfl(fun j T n h=>match j,T,n,h with
  | 0,_,_,h=>by cases h;exact⟨_,rfl,rfl,(by kernel_rfl),rfl⟩
  | 1,_,_,h=>by cases h;exact⟨_,rfl,rfl,(by kernel_rfl),rfl⟩
  | _ + 2,_,_,h=>by simp at h)(by kernel_rfl)(opensSeq_cons opensT3(opensSeq_one opensT3))
theorem opensT50 {H:Type} {enc:TypeId × Value→H} {w:World}:Opens enc Try.prog w 50(Kd.slice 56 k56)(ListGood goodT56):=opens_slice Try.underlying50(by kernel_rfl)opensT56
theorem opensT57 {H:Type} {enc:TypeId × Value→H} {w:World}:Opens enc Try.prog w 57(Kd.slice 50(Kd.slice 56 k56))(ListGood(ListGood goodT56)):=opens_slice Try.underlying57(by kernel_rfl)opensT50
theorem opensT9 {H:Type} {enc:TypeId × Value→H} {w:World}:Opens enc Try.prog w 9 Kd.string StrGood:=opens_string Try.underlying9
def goodT59:S59→Prop:=(fun x:S59=>(ListGood goodT56)x.f0∧(IntGood .i64)x.f1∧StrGood x.f2∧(IntGood .i64)x.f3)
theorem opensT59 {H:Type} {enc:TypeId × Value→H} {w:World}:Opens enc Try.prog w 59 k59 goodT59:=
 opens_struct(l:=[(50,1),(3,1),(9,1),(3,1)])(fun x:S59=>(x.f0,x.f1,x.f2,x.f3))(fun a=>⟨a.1,a.2.1,a.2.2.1,a.2.2.2⟩)(fun _=>rfl)Try.underlying59 rfl(fun j T n h=>match j,T,n,h with
  | 0,_,_,h=>by cases h;exact⟨_,rfl,rfl,(by kernel_rfl),rfl⟩
  | 1,_,_,h=>by cases h;exact⟨_,rfl,rfl,(by kernel_rfl),rfl⟩
  | 2,_,_,h=>by cases h;exact⟨_,rfl,rfl,(by kernel_rfl),rfl⟩
  | 3,_,_,h=>by cases h;exact⟨_,rfl,rfl,(by kernel_rfl),rfl⟩
  | _ + 4,_,_,h=>by simp at h)(by kernel_rfl)(opensSeq_cons opensT50(opensSeq_cons opensT3(opensSeq_cons opensT9(opensSeq_one opensT3))))
def Pure:Prop:=∀ (x0:Int)(x1:S56)(x2:List(List(S56)))(x3:Int)(x4:S59),(IntGood .i64)x0→goodT56 x1→(ListGood(ListGood goodT56))x2→(IntGood .i64)x3→goodT59 x4→∃ k,laws_FnExactSumVerify.f k x0 x1.f0 x1.f1 x2 x3 x4.f0 x4.f1 x4.f2 x4.f3=some true
end Go.Proofs.Ytgookagndlfehaa.fnExactSumVerify
end
section
/- The field and the greater field, over whole numbers: what the printed functions of chapters 2 and 3 come to. -/
namespace Go.Proofs.Ytgookagndlfehaa.PT
open Go.RowKit Go.Proofs.YtgookagndlfehaaW.PrintWords Go.Proofs.YtgookagndlfehaaW.PrintLast Go.Proofs.YtgookagndlfehaaW.PrintMore
set_option linter.unusedVariables false
set_option linter.unusedSimpArgs false

abbrev E:=S34
abbrev LE:=S56
theorem rdE(l:List E)(i:Int):rd_T34 l i=l.getD i.toNat z34:=rfl
theorem rdL(l:List LE)(i:Int):rd_T56 l i=l.getD i.toNat z56:=rfl
instance:DecidableEq S34:=fun x y=>decidable_of_iff(x.f0=y.f0∧x.f1=y.f1)⟨fun h=>by cases x;cases y;simp_all,fun h=>by rw [h];exact⟨rfl,rfl⟩⟩
theorem E.ext_ {x y:E} (h0:x.f0=y.f0)(h1:x.f1=y.f1):x=y:=by cases x;cases y;simp_all
theorem LE.ext_ {x y:LE} (h0:x.f0=y.f0)(h1:x.f1=y.f1):x=y:=by cases x;cases y;simp_all

theorem w64 {n:Int} (h0 : -9223372036854775808≤n)(h1:n≤9223372036854775807):wrap64 n=n:=by unfold wrap64;omega
def inF(a:Int):Prop:=0≤a∧a≤2130706432
instance(a:Int):Decidable(inF a):=by unfold inF;infer_instance
end Go.Proofs.Ytgookagndlfehaa.PT
end
section
/- What the printed functions of the field and of the greater field answer: the same sums and products on both sides. -/
namespace Go.Proofs.Ytgookagndlfehaa.PT
open Go.RowKit Go.Proofs.YtgookagndlfehaaW.PrintWords Go.Proofs.YtgookagndlfehaaW.PrintLast Go.Proofs.YtgookagndlfehaaW.PrintMore
set_option linter.unusedVariables false
set_option linter.unusedSimpArgs false
end Go.Proofs.Ytgookagndlfehaa.PT
end
section
/- The laws' own helpers: elements copied, compared, marked; and powers of two. -/
namespace Go.Proofs.Ytgookagndlfehaa.PT
open Go.RowKit Go.Proofs.YtgookagndlfehaaW.PrintWords Go.Proofs.YtgookagndlfehaaW.PrintLast Go.Proofs.YtgookagndlfehaaW.PrintMore
set_option linter.unusedVariables false
set_option linter.unusedSimpArgs false

theorem szExtS_big {l:List LE} {a:Int} (ha:0≤a)(ha2:a≤1048576)(hl:l.length≤9223372036854775807)(h:a<l.length):laws_szExtS.f l a=some(-1):=by
 unfold laws_szExtS.f;rw [w64(by omega)(by omega),if_pos(by omega)]
theorem szExtS_fit {l:List LE} {a:Int} (ha2:a≤1048576)(h:(l.length:Int)≤a):laws_szExtS.f l a=some(a - l.length):=by
 unfold laws_szExtS.f;rw [w64(by omega)(by omega),if_neg(by omega)]
def conv(x:LE):E:=⟨x.f0,x.f1⟩
def convL(l:List LE):List E:=l.map conv
theorem convL_length(l:List LE):(convL l).length=l.length:=by simp [convL]
theorem getD_at {α:Type} {l:List α} {z:α} {i:Nat} (h:i<l.length):l.getD i z=l[i]:=by
 rw [List.getD_eq_getElem?_getD,List.getElem?_eq_getElem h];rfl
theorem rdE_at {l:List E} {i:Nat} (h:i<l.length):rd_T34 l(i:Int)=l[i]:=by rw [rdE,Int.toNat_natCast,getD_at h]
theorem rdL_at {l:List LE} {i:Nat} (h:i<l.length):rd_T56 l(i:Int)=l[i]:=by rw [rdL,Int.toNat_natCast,getD_at h]
theorem set_mid {α:Type} (a b:List α)(x y:α):(a++x::b).set a.length y=a++y::b:=by
 rw [List.set_append_right _ _(Nat.le_refl _)];simp
theorem toExtS_l0(l:List LE)(hl:l.length≤4611686018427387904)(d:Nat):∀ (k i:Nat),i + d=l.length→d<k→
  laws_toExtS.l0 k l(convL(l.take i)++List.replicate d z34)i=some(convL l):=by
 induction d with
 | zero=>
  intro k i hi hk
  obtain⟨k,rfl⟩:∃ m,k=m + 1:=⟨k - 1,(by omega)⟩
  simp only [laws_toExtS.l0];rw [if_neg(by omega),List.take_of_length_le(by omega)];simp
 | succ d ih=>
  intro k i hi hk
  obtain⟨k,rfl⟩:∃ m,k=m + 1:=⟨k - 1,(by omega)⟩
  have hlt:i<l.length:=by omega
  have hlen:(convL(l.take i)).length=i:=by rw [convL_length,List.length_take];omega
  simp only [laws_toExtS.l0]
  rw [if_pos(by omega),if_pos(by omega),rdL_at hlt]
  simp only [laws_toExt.f,Option.bind_some]
  rw [if_pos(by rw [List.length_append,hlen,List.length_replicate];omega),Int.toNat_natCast,List.replicate_succ]
  have hs:=set_mid(convL(l.take i))(List.replicate d z34)z34(conv l[i])
  rw [hlen] at hs
  show laws_toExtS.l0 k l((convL(l.take i)++z34::List.replicate d z34).set i(conv l[i]))_=_
  rw [hs,w64(by omega)(by omega),show(i:Int)+ 1=((i + 1:Nat):Int)by omega]
  have:=ih k(i + 1)(by omega)(by omega)
  rw [List.take_succ_eq_append_getElem hlt] at this
  simp only [convL,List.map_append,List.map_cons,List.map_nil,List.append_assoc,List.cons_append,List.nil_append] at this
  exact this
theorem toExtS_eq {l:List LE} (hl:l.length≤1048576){k:Nat} (hk:l.length<k):laws_toExtS.f k l=some(convL l):=by
 unfold laws_toExtS.f
 rw [if_pos(by omega),if_pos(by simp;omega)]
 have:=toExtS_l0 l(by omega)l.length k 0(by omega)hk
 simpa [convL] using this
theorem eqExt_eq(x y:E):laws_eqExt.f x.f0 x.f1 y.f0 y.f1=some(decide(x=y)):=by
 unfold laws_eqExt.f
 by_cases h0:x.f0=y.f0
 ·
  by_cases h1:x.f1=y.f1
  ·
   rw [if_pos h0,if_pos h1,decide_eq_true(E.ext_ h0 h1)]
  ·
   rw [if_pos h0,if_neg h1,decide_eq_false(fun e=>h1(by rw [e]))]
 ·
  rw [if_neg h0,decide_eq_false(fun e=>h0(by rw [e]))]
theorem eqExtS_l0(a:List E)(hl:a.length≤4611686018427387904)(d:Nat):∀ (k i:Nat),i + d=a.length→d<k→laws_eqExtS.l0 k a a i=some true:=by
 induction d with
 | zero=>
  intro k i hi hk
  obtain⟨k,rfl⟩:∃ m,k=m + 1:=⟨k - 1,(by omega)⟩
  simp only [laws_eqExtS.l0];rw [if_neg(by omega)]
 | succ d ih=>
  intro k i hi hk
  obtain⟨k,rfl⟩:∃ m,k=m + 1:=⟨k - 1,(by omega)⟩
  simp only [laws_eqExtS.l0]
  rw [if_pos(by omega),if_pos(by omega),if_pos(by omega),eqExt_eq]
  simp only [Option.bind_some,decide_true,if_true]
  rw [w64(by omega)(by omega),show(i:Int)+ 1=((i + 1:Nat):Int)by omega]
  exact ih k(i + 1)(by omega)(by omega)
theorem eqExtS_refl {a:List E} (hl:a.length≤4611686018427387904){k:Nat} (hk:a.length<k):laws_eqExtS.f k a a=some true:=by
 unfold laws_eqExtS.f;rw [if_pos rfl];exact eqExtS_l0 a hl a.length k 0(by omega)hk
def marked:Nat→Int→List E
 | 0,_=>[]
 | n + 1,k=>⟨k,k + 1⟩::marked n(k + 2)
theorem marked_length(n:Nat)(k:Int):(marked n k).length=n:=by
 induction n generalizing k with
 | zero=>rfl
 | succ n ih=>simp [marked,ih]
theorem marked_snoc(n:Nat)(k:Int):marked(n + 1)k=marked n k++[⟨k + 2 * n,k + 2 * n + 1⟩]:=by
 induction n generalizing k with
 | zero=>simp [marked]
 | succ n ih=>
  rw [marked,ih,marked,List.cons_append]
  have e:k + 2 + 2 * (n:Int)=k + 2 * ((n:Int)+ 1):=by omega
  rw [Int.natCast_succ,e]
theorem marked_get(n:Nat)(k:Int)(i:Nat)(h:i<(marked n k).length):(marked n k)[i]=⟨k + 2 * i,k + 2 * i + 1⟩:=by
 induction n generalizing k i with
 | zero=>simp [marked] at h
 | succ n ih=>
  cases i with
  | zero=>simp [marked]
  | succ i=>
   simp only [marked,List.getElem_cons_succ]
   rw [ih]
   have e:k + 2 + 2 * (i:Int)=k + 2 * ((i + 1:Nat):Int):=by omega
   rw [e]
theorem markExtS_l0(a:List E)(k0:Int)(hk0:0≤k0)(hk1:k0≤4611686018427387904)(hl:a.length≤1152921504606846976)(d:Nat):∀ (k i:Nat),i + d=a.length→d<k→
  laws_markExtS.l0 k(marked i k0++a.drop i)(k0 + 2 * i)i=some(k0 + 2 * a.length,marked a.length k0):=by
 induction d with
 | zero=>
  intro k i hi hk
  obtain⟨k,rfl⟩:∃ m,k=m + 1:=⟨k - 1,(by omega)⟩
  have:i=a.length:=by omega
  subst this
  simp only [laws_markExtS.l0]
  rw [if_neg(by rw [List.length_append,marked_length,List.length_drop];omega)];simp
 | succ d ih=>
  intro k i hi hk
  obtain⟨k,rfl⟩:∃ m,k=m + 1:=⟨k - 1,(by omega)⟩
  have hlt:i<a.length:=by omega
  simp only [laws_markExtS.l0]
  rw [if_pos(by rw [List.length_append,marked_length,List.length_drop];omega),if_pos(by omega)]
  simp only [Option.bind_some,Int.toNat_natCast]
  rw [List.drop_eq_getElem_cons hlt]
  have hs:=fun y=>set_mid(marked i k0)(a.drop(i + 1))a[i] y
  have hs2:=fun x y=>set_mid(marked i k0)(a.drop(i + 1))x y
  rw [marked_length] at hs hs2
  rw [hs,hs2]
  have hr:∀ x:E,rd_T34(marked i k0++x::a.drop(i + 1))(i:Int)=x:=by
   intro x
   rw [rdE,Int.toNat_natCast,List.getD_eq_getElem?_getD,List.getElem?_append_right(by rw [marked_length];omega),marked_length,Nat.sub_self];rfl
  rw [hr]
  rw [w64(n:=k0 + 2 * (i:Int)+ 1)(by omega)(by omega),w64(by omega)(by omega),w64(by omega)(by omega),show(i:Int)+ 1=((i + 1:Nat):Int)by omega]
  have:=ih k(i + 1)(by omega)(by omega)
  rw [marked_snoc,List.append_assoc] at this
  rw [show k0 + 2 * (i:Int)+ 1 + 1=k0 + 2 * ((i + 1:Nat):Int)by omega]
  exact this
theorem markExtS_eq {a:List E} {k0:Int} (hk0:0≤k0)(hk1:k0≤4611686018427387904)(hl:a.length≤1152921504606846976){k:Nat} (hk:a.length<k):
  laws_markExtS.f k a k0=some(k0 + 2 * a.length,marked a.length k0):=by
 have:=markExtS_l0 a k0 hk0 hk1 hl a.length k 0(by omega)hk
 unfold laws_markExtS.f
 simpa [marked] using this
theorem heldExtS_l0(n:Nat)(k0:Int)(hk0:0≤k0)(hk1:k0≤4611686018427387904)(hl:n≤1152921504606846976)(d:Nat):∀ (k i:Nat),i + d=n→d<k→
  laws_heldExtS.l0 k(marked n k0)(k0 + 2 * i)i=some(k0 + 2 * n):=by
 induction d with
 | zero=>
  intro k i hi hk
  obtain⟨k,rfl⟩:∃ m,k=m + 1:=⟨k - 1,(by omega)⟩
  have:i=n:=by omega
  subst this
  simp only [laws_heldExtS.l0]
  rw [if_neg(by rw [marked_length];omega)]
 | succ d ih=>
  intro k i hi hk
  obtain⟨k,rfl⟩:∃ m,k=m + 1:=⟨k - 1,(by omega)⟩
  have hlt:i<(marked n k0).length:=by rw [marked_length];omega
  simp only [laws_heldExtS.l0]
  rw [if_pos(by rw [marked_length];omega),if_pos(by omega),rdE_at hlt,marked_get,if_pos rfl,w64(n:=k0 + 2 * (i:Int)+ 1)(by omega)(by omega),if_pos rfl,
   w64(by omega)(by omega),w64(by omega)(by omega),show(i:Int)+ 1=((i + 1:Nat):Int)by omega,show k0 + 2 * (i:Int)+ 1 + 1=k0 + 2 * ((i + 1:Nat):Int)by omega]
  exact ih k(i + 1)(by omega)(by omega)
theorem heldExtS_eq {n:Nat} {k0:Int} (hk0:0≤k0)(hk1:k0≤4611686018427387904)(hl:n≤1152921504606846976){k:Nat} (hk:n<k):
  laws_heldExtS.f k(marked n k0)k0=some(k0 + 2 * n):=by
 have:=heldExtS_l0 n k0 hk0 hk1 hl n k 0(by omega)hk
 unfold laws_heldExtS.f
 simpa using this
end Go.Proofs.Ytgookagndlfehaa.PT
end
section
/- Steps that several laws share: same answers compared, lists turned in place. -/
namespace Go.Proofs.Ytgookagndlfehaa.PT
open Go.RowKit Go.Proofs.YtgookagndlfehaaW.PrintWords Go.Proofs.YtgookagndlfehaaW.PrintLast Go.Proofs.YtgookagndlfehaaW.PrintMore
set_option linter.unusedVariables false
set_option linter.unusedSimpArgs false
theorem bS {α β:Type} (a:α)(f:α→Option β):(some a).bind f=f a:=Eq.trans(Eq.refl _)(Option.bind_some a f)
end Go.Proofs.Ytgookagndlfehaa.PT
end
section
/- The equality weight, at a point and as a table: both sides walk the same numbers. -/
namespace Go.Proofs.Ytgookagndlfehaa.PT
open Go.RowKit Go.Proofs.YtgookagndlfehaaW.PrintWords Go.Proofs.YtgookagndlfehaaW.PrintLast Go.Proofs.YtgookagndlfehaaW.PrintMore
set_option linter.unusedVariables false
set_option linter.unusedSimpArgs false
end Go.Proofs.Ytgookagndlfehaa.PT
end
section
/- Tables turned in place, folded, and read at a point: both sides walk the same numbers. -/
namespace Go.Proofs.Ytgookagndlfehaa.PT
open Go.RowKit Go.Proofs.YtgookagndlfehaaW.PrintWords Go.Proofs.YtgookagndlfehaaW.PrintLast Go.Proofs.YtgookagndlfehaaW.PrintMore
set_option linter.unusedVariables false
set_option linter.unusedSimpArgs false
theorem shlS_0:∀ n:Fin 10,shl .i64 1(n.val:Int)=((2 ^ n.val:Nat):Int):=by decide +kernel
theorem shlS_ {n:Nat} (h:n<10):shl .i64 1(n:Int)=((2 ^ n:Nat):Int):=shlS_0⟨n,h⟩
end Go.Proofs.Ytgookagndlfehaa.PT
end
section
/- Powers, inverses and the line: what the printed functions of chapter 2 come to. -/
namespace Go.Proofs.Ytgookagndlfehaa.PT
open Go.RowKit Go.Proofs.YtgookagndlfehaaW.PrintWords Go.Proofs.YtgookagndlfehaaW.PrintLast Go.Proofs.YtgookagndlfehaaW.PrintMore
set_option linter.unusedVariables false
set_option linter.unusedSimpArgs false
end Go.Proofs.Ytgookagndlfehaa.PT
end
section
/- bits.Len's contract, laid from the kit's shelf for this program. -/
namespace Go.Proofs
open Go.Shelf
def Try.lays128_ren:Go.Shelf.Ren:=⟨fun|128=>171|n=>n,fun|51=>175|3=>3|4=>4|46=>121|5=>5|9=>9|n=>n,fun|n=>n⟩
theorem Try.lays128:Go.Proofs.Lays.n128 Try.prog Try.lays128_ren:={
 mixed:=by kernel_rfl
 f128:=Try.func171.trans(congrArg some(by kernel_rfl))
 t3:=Try.underlying3
 a3:=Try.isAgg3
 z3:=Try.sizeOf3
 v3:=Try.zeroValue3
 t4:=Try.underlying4
 a4:=Try.isAgg4
 z4:=Try.sizeOf4
 v4:=Try.zeroValue4
 t5:=Try.underlying5
 a5:=Try.isAgg5
 z5:=Try.sizeOf5
 v5:=Try.zeroValue5
 t9:=Try.underlying9
 a9:=Try.isAgg9
 z9:=Try.sizeOf9
 v9:=Try.zeroValue9
 t46:=Try.underlying121
 a46:=Try.isAgg121
 z46:=Try.sizeOf121
 v46:=Try.zeroValue121
 t51:=Try.underlying175
 a51:=Try.isAgg175
 z51:=Try.sizeOf175
 v51:=Try.zeroValue175 }
theorem Try.bits_Len32(x:Int)(w:World)(h0:0≤x)(h1:x≤4294967295):
  Calls Try.prog 171 #[.int .u32 x] w fun e w'=>e=.returned(.int .i64(Lib.bitLen x.toNat))∧w'=w:=Any.bits_Len32 Try.lays128 x w h0 h1
def Try.lays125_ren:Go.Shelf.Ren:=⟨fun|125=>168|128=>171|129=>172|n=>n,fun|46=>121|3=>3|51=>175|53=>132|4=>4|5=>5|9=>9|n=>n,fun|n=>n⟩
theorem Try.lays125:Go.Proofs.Lays.n125 Try.prog Try.lays125_ren:={
 mixed:=by kernel_rfl
 f125:=Try.func168.trans(congrArg some(by kernel_rfl))
 f128:=Try.func171.trans(congrArg some(by kernel_rfl))
 f129:=Try.func172.trans(congrArg some(by kernel_rfl))
 t3:=Try.underlying3
 a3:=Try.isAgg3
 z3:=Try.sizeOf3
 v3:=Try.zeroValue3
 t4:=Try.underlying4
 a4:=Try.isAgg4
 z4:=Try.sizeOf4
 v4:=Try.zeroValue4
 t5:=Try.underlying5
 a5:=Try.isAgg5
 z5:=Try.sizeOf5
 v5:=Try.zeroValue5
 t9:=Try.underlying9
 a9:=Try.isAgg9
 z9:=Try.sizeOf9
 v9:=Try.zeroValue9
 t46:=Try.underlying121
 a46:=Try.isAgg121
 z46:=Try.sizeOf121
 v46:=Try.zeroValue121
 t51:=Try.underlying175
 a51:=Try.isAgg175
 z51:=Try.sizeOf175
 v51:=Try.zeroValue175
 t53:=Try.underlying132
 a53:=Try.isAgg132
 z53:=Try.sizeOf132
 v53:=Try.zeroValue132 }
theorem Try.bits_Len(x:Int)(w:World)(h0:0≤x)(h1:x≤18446744073709551615):
  Calls Try.prog 168 #[.int .u64 x] w fun e w'=>e=.returned(.int .i64(Lib.bitLen x.toNat))∧w'=w:=Any.bits_Len Try.lays125 x w h0 h1
def Try.lays129_ren:Go.Shelf.Ren:=⟨fun|129=>172|n=>n,fun|53=>132|3=>3|4=>4|46=>121|5=>5|9=>9|n=>n,fun|n=>n⟩
theorem Try.lays129:Go.Proofs.Lays.n129 Try.prog Try.lays129_ren:={
 mixed:=by kernel_rfl
 f129:=Try.func172.trans(congrArg some(by kernel_rfl))
 t3:=Try.underlying3
 a3:=Try.isAgg3
 z3:=Try.sizeOf3
 v3:=Try.zeroValue3
 t4:=Try.underlying4
 a4:=Try.isAgg4
 z4:=Try.sizeOf4
 v4:=Try.zeroValue4
 t5:=Try.underlying5
 a5:=Try.isAgg5
 z5:=Try.sizeOf5
 v5:=Try.zeroValue5
 t9:=Try.underlying9
 a9:=Try.isAgg9
 z9:=Try.sizeOf9
 v9:=Try.zeroValue9
 t46:=Try.underlying121
 a46:=Try.isAgg121
 z46:=Try.sizeOf121
 v46:=Try.zeroValue121
 t53:=Try.underlying132
 a53:=Try.isAgg132
 z53:=Try.sizeOf132
 v53:=Try.zeroValue132 }
theorem Try.bits_Len64(x:Int)(w:World)(h0:0≤x)(h1:x≤18446744073709551615):
  Calls Try.prog 172 #[.int .u64 x] w fun e w'=>e=.returned(.int .i64(Lib.bitLen x.toNat))∧w'=w:=Any.bits_Len64 Try.lays129 x w h0 h1
end Go.Proofs
end
section
namespace Go.Proofs.Ytgookagndlfehaa.PT
open Go.RowKit Go.Proofs.YtgookagndlfehaaW.PrintWords Go.Proofs.YtgookagndlfehaaW.PrintLast Go.Proofs.YtgookagndlfehaaW.PrintMore
attribute [local go_sem] max2_int min2_int max_two min_two max_three min_three max_four min_four   -- for this text's walks alone
set_option linter.unusedVariables false
set_option linter.unusedSimpArgs false
end Go.Proofs.Ytgookagndlfehaa.PT
end
section
/- Words: their transform, its inverse, and a word folded: both sides walk the same numbers. -/
namespace Go.Proofs.Ytgookagndlfehaa.PT
open Go.RowKit Go.Proofs.YtgookagndlfehaaW.PrintWords Go.Proofs.YtgookagndlfehaaW.PrintLast Go.Proofs.YtgookagndlfehaaW.PrintMore
set_option linter.unusedVariables false
set_option linter.unusedSimpArgs false
end Go.Proofs.Ytgookagndlfehaa.PT
end
section
/- A row of rows that are held elsewhere, too: the rows' values, and what the rows hold, apart. -/
namespace Go.Proofs.Ytgookagndlfehaa.PT
open Go.RowKit Go.Proofs.YtgookagndlfehaaW.PrintWords Go.Proofs.YtgookagndlfehaaW.PrintLast Go.Proofs.YtgookagndlfehaaW.PrintMore
set_option linter.unusedVariables false
set_option linter.unusedSimpArgs false
abbrev Desc:=Option Addr × Nat × Nat
abbrev Desc.v(x:Desc):Value:=.slice x.1 x.2.1 x.2.2
def kv:Kd Desc:=Kd.scalar Desc.v(fun _=>rfl)
def inners {α:Type} (d:Kd α)(e b:Nat)(ps:List(Desc × List α))(S:Nat→Prop):Grp:=⟨S,fun w=>(∀ p,p∈ps→d.R e w b S p.1.v p.2)∧ps.Pairwise(fun p q=>∀ k,p.1.v.ownBlock=some k→q.1.v.ownBlock≠some k)⟩
namespace Inv
variable {w0 w w1:World} {P:Nat→Prop} {L:List Grp} {F:World→Prop}
theorem merge {a b c:Grp} (h:Inv w0 P w(a::b::L)F)(hS:∀ k,c.S k↔(a.S k∨b.S k))(hA:∀ w',a.A w'→b.A w'→c.A w'):Inv w0 P w(c::L)F:=by
 have hd:=List.pairwise_cons.1 h.dis
 have hd2:=List.pairwise_cons.1 hd.2
 refine⟨h.agr,fun x hx k hk=>?_,fun x hx k hk=>?_,fun x hx w' hw=>?_,List.Pairwise.cons(fun x hx k hk hk2=>?_)hd2.2,fun w' hw=>h.facts w'(hw.mono ?_)⟩
 ·
  rcases List.mem_cons.1 hx with rfl|hx
  ·
   rcases(hS k).1 hk with hk|hk
   ·
    exact h.lt _ List.mem_cons_self k hk
   ·
    exact h.lt _(List.mem_cons_of_mem _ List.mem_cons_self)k hk
  ·
   exact h.lt x(List.mem_cons_of_mem _(List.mem_cons_of_mem _ hx))k hk
 ·
  rcases List.mem_cons.1 hx with rfl|hx
  ·
   rcases(hS k).1 hk with hk|hk
   ·
    exact h.new _ List.mem_cons_self k hk
   ·
    exact h.new _(List.mem_cons_of_mem _ List.mem_cons_self)k hk
  ·
   exact h.new x(List.mem_cons_of_mem _(List.mem_cons_of_mem _ hx))k hk
 ·
  rcases List.mem_cons.1 hx with rfl|hx
  ·
   exact hA w'(h.own _ List.mem_cons_self w'(fun k hk=>hw k((hS k).2(.inl hk))))(h.own _(List.mem_cons_of_mem _ List.mem_cons_self)w'(fun k hk=>hw k((hS k).2(.inr hk))))
  ·
   exact h.own x(List.mem_cons_of_mem _(List.mem_cons_of_mem _ hx))w' hw
 ·
  rcases(hS k).1 hk with hk|hk
  ·
   exact hd.1 x(List.mem_cons_of_mem _ hx)k hk hk2
  ·
   exact hd2.1 x hx k hk hk2
 ·
  rintro k⟨x,hx,hk⟩
  rcases List.mem_cons.1 hx with rfl|hx
  ·
   rcases(hS k).1 hk with hk|hk
   ·
    exact⟨a,List.mem_cons_self,hk⟩
   ·
    exact⟨b,List.mem_cons_of_mem _ List.mem_cons_self,hk⟩
  ·
   exact⟨x,List.mem_cons_of_mem _(List.mem_cons_of_mem _ hx),hk⟩
section
variable {α:Type} {d:Kd α} {e b e':Nat} {ps:List(Desc × List α)} {S S2:Nat→Prop} {xs:List α} {v:Value}
theorem noInners(d:Kd α)(e b:Nat)(h:Inv w0 P w L F):Inv w0 P w(inners d e b [](fun _=>False)::L)F:=
 h.push(Below.refl _ _)_(fun _ h=>h.elim)(fun _ _=>by refine⟨?_,List.Pairwise.nil⟩;intro p hp;cases hp)
theorem takeIn {x:Desc} (h:Inv w0 P w(row d e b x.v xs S::inners d e b ps S2::L)F):Inv w0 P w(inners d e b(ps++[(x,xs)])(fun k=>S k∨S2 k)::L)F:=by
 have hd:=(List.pairwise_cons.1 h.dis).1 _ List.mem_cons_self
 refine h.merge(fun k=>Iff.rfl)(fun w' ha hb=>⟨fun p hp=>?_,List.pairwise_append.2⟨hb.2,List.pairwise_singleton _ _,fun p hp q hq k hk hk2=>?_⟩⟩)
 ·
  rcases List.mem_append.1 hp with hp|hp
  ·
   exact Kd.R_mono(hb.1 p hp)(fun k hk=>.inr hk)
  ·
   obtain rfl:=List.mem_singleton.1 hp
   exact Kd.R_mono ha(fun k hk=>.inl hk)
 ·
  obtain rfl:=List.mem_singleton.1 hq
  exact hd k(ha.1 k hk2)((hb.1 p hp).1 k hk)
theorem rowForm(h:Inv w0 P w(row d e b v xs S::L)F):∃ x:Desc,v=x.v∧x.2.1=xs.length∧xs.length≤x.2.2:=by
 obtain⟨A,c,rfl,hc,_⟩:=Kd.R_reads h.row0
 exact⟨(A,xs.length,c),rfl,rfl,hc⟩
theorem slices(h:Inv w0 P w(row kv e' b v(ps.map Prod.fst)S::inners d e b ps S2::L)F):(Kd.slice e d).R e' w b(fun _=>True)v(ps.map Prod.snd):=by
 have hd:=(List.pairwise_cons.1 h.dis).1 _ List.mem_cons_self
 have hin:=h.get 1 rfl
 obtain⟨h0,inner,ho,hr⟩:=h.row0
 refine⟨fun _ _=>trivial,inner,?_,?_,fun j xs hj=>?_⟩
 ·
  rw [List.length_map] at ho ⊢;exact ho
 ·
  have:=hr.1;rw [List.length_map] at this ⊢;exact this
 ·
  rw [List.getElem?_map] at hj
  cases hp:ps[j]? with
  | none=>rw [hp] at hj;cases hj
  | some p=>
   rw [hp] at hj
   obtain rfl:p.2=xs:=by simpa using hj
   have h1:=hr.2 j p.1(by rw [List.getElem?_map,hp];rfl)
   exact⟨p.1.v,h1,Kd.R_mono(hin.1 p(List.mem_of_getElem? hp))(fun k hk=>⟨trivial,fun e=>hd k(h0 k e.symm)hk⟩)⟩
theorem own_index {β:Type} (key:β→Option Nat):∀ ps:List β,ps.Pairwise(fun p q=>∀ k,key p=some k→key q≠some k)→∃ f:Nat→Nat,∀ j p,ps[j]?=some p→∀ k,key p=some k→f k=j
 | [],_=>⟨fun _=>0,fun j p h=>by simp at h⟩
 | p::ps,h=>by
  obtain⟨f,hf⟩:=own_index key ps(List.pairwise_cons.1 h).2
  refine⟨fun k=>if key p=some k then 0 else f k + 1,fun j q hj k hk=>?_⟩
  cases j with
  | zero=>
   obtain rfl:p=q:=by simpa using hj
   exact if_pos hk
  | succ j=>
   have hq:ps[j]?=some q:=by simpa using hj
   show(if key p=some k then 0 else f k + 1)=j + 1
   rw [if_neg(fun hp=>(List.pairwise_cons.1 h).1 q(List.mem_of_getElem? hq)k hp hk),hf j q hq k hk]
theorem slicesS {ps:List(Desc × List ByteArray)} (h:Inv w0 P w(row kv e' b v(ps.map Prod.fst)S::inners Kd.string e b ps S2::L)F):Kd.S(Kd.slice e Kd.string)e' w b(fun _=>True)v(ps.map Prod.snd):=by
 have hd:=(List.pairwise_cons.1 h.dis).1 _ List.mem_cons_self
 have hin:=h.get 1 rfl
 obtain⟨f,hf⟩:=own_index(fun p:Desc × List ByteArray=>p.1.v.ownBlock)ps hin.2
 obtain⟨h0,inner,ho,hr⟩:=h.row0
 refine⟨f,fun _ _=>trivial,inner,?_,?_,fun j x hj=>?_⟩
 ·
  rw [List.length_zipIdx,List.length_map];rw [List.length_map] at ho;exact ho
 ·
  have:=hr.1;rw [List.length_zipIdx,List.length_map];rw [List.length_map] at this;exact this
 ·
  rw [List.getElem?_zipIdx,List.getElem?_map] at hj
  cases hp:ps[j]? with
  | none=>rw [hp] at hj;cases hj
  | some p=>
   rw [hp] at hj
   obtain rfl:(p.2,0 + j)=x:=by simpa using hj
   have h1:=hr.2 j p.1(by rw [List.getElem?_map,hp];rfl)
   have h2:=hin.1 p(List.mem_of_getElem? hp)
   exact⟨p.1.v,h1,Kd.R_mono(Kd.R_tight rfl h2)(fun k hk=>⟨⟨trivial,fun e=>hd k(h0 k e.symm)(h2.1 k hk.symm)⟩,by rw [Nat.zero_add];exact hf j p hp k hk.symm⟩)⟩
theorem reads(h:Inv w0 P w L F){A:Option Addr} {n c:Nat} (i:Nat)(hi:L[i]?=some(inners d e b ps S))(hm:((A,n,c),xs)∈ps):d.C w A xs.length xs:=(Kd.R_reads'((h.get i hi).1 _ hm)).2.2
end
end Inv
def hl(t:ByteArray):ByteArray:=kec(nums_((⟨#[0]⟩:ByteArray)++t))
def hn(a b:ByteArray):ByteArray:=kec(nums_(((⟨#[1]⟩:ByteArray)++a)++b))
theorem kec_len(xs:List Int):(kec xs).size=32:=by
 unfold kec
 rw [strOfNums_size,List.length_take,text_length]
 rfl
def pairs:List ByteArray→List ByteArray
 | a::b::l=>hn a b::pairs l
 | _=>[]
theorem pairs_length:∀ l:List ByteArray,(pairs l).length=l.length / 2
 | []=>rfl
 | [_]=>by simp [pairs]
 | a::b::l=>by rw [pairs,List.length_cons,pairs_length l,List.length_cons,List.length_cons];omega
theorem pairs_get:∀ (l:List ByteArray)(j:Nat),2 * j + 1<l.length→(pairs l)[j]?=some(hn(rdOf ByteArray.empty l((2 * j:Nat):Int))(rdOf ByteArray.empty l((2 * j + 1:Nat):Int)))
 | [],j,h=>by simp at h
 | [_],j,h=>by simp at h
 | a::b::l,0,h=>rfl
 | a::b::l,j + 1,h=>by
  have:=pairs_get l j(by simp at h;omega)
  rw [pairs,List.getElem?_cons_succ,this]
  rfl
theorem pairs_take(l:List ByteArray)(j:Nat)(h:2 * j + 1<l.length):(pairs l).take(j + 1)=(pairs l).take j++[hn(rdOf ByteArray.empty l((2 * j:Nat):Int))(rdOf ByteArray.empty l((2 * j + 1:Nat):Int))]:=by
 rw [List.take_add_one,pairs_get l j h]
 rfl
theorem pairs_size:∀ l:List ByteArray,∀ t,t∈pairs l→t.size=32
 | [],t,h=>by cases h
 | [_],t,h=>by cases h
 | a::b::l,t,h=>by
  rcases List.mem_cons.1 h with rfl|h
  ·
   exact kec_len _
  ·
   exact pairs_size l t h
def rise:Nat→List ByteArray→Option(List(List ByteArray))
 | 0,_=>none
 | k + 1,l=>if l.length≤1 then some [] else if l.length % 2=0 then(rise k(pairs l)).map(pairs l::·)else none
def levels_(l:List ByteArray):Option(List(List ByteArray)):=if l.length≤4096∧l.all(fun t=>decide(t.size≤1000))=true then(rise 20(l.map hl)).map(l.map hl::·)else none
theorem size_of_all {l:List ByteArray} (h:l.all(fun t=>decide(t.size≤1000))=true):∀ t∈l,t.size≤1000:=fun t ht=>of_decide_eq_true(List.all_eq_true.1 h t ht)
theorem map_take {l:List ByteArray} (j:Nat)(h:j<l.length):(l.take(j + 1)).map hl=(l.take j).map hl++[hl(rdOf ByteArray.empty l(j:Int))]:=by
 rw [List.take_succ_eq_append_getElem h,List.map_append]
 have:rdOf ByteArray.empty l(j:Int)=l[j]:=by show l.getD(j:Int).toNat ByteArray.empty=l[j];rw [Int.toNat_natCast];simp [List.getD,h]
 rw [this]
 rfl
theorem rd_mem {l:List ByteArray} {i:Nat} (h:i<l.length):rdOf ByteArray.empty l(i:Int)∈l:=by
 have:rdOf ByteArray.empty l(i:Int)=l[i]:=by show l.getD(i:Int).toNat ByteArray.empty=l[i];rw [Int.toNat_natCast];simp [List.getD,h]
 rw [this]
 exact List.getElem_mem h
end Go.Proofs.Ytgookagndlfehaa.PT
end
section
/- copy of a whole row, of elements of any kind, onto a row of the call's own: own words beside the print's (Ytgookagndlfehaa: the seat's name). -/
namespace Go.Proofs.YtgookagndlfehaaW.PrintLast
open Go.RowKit Go.Proofs.YtgookagndlfehaaW.PrintWords
section
variable {P:Program}
theorem run_copy_any(w:World)(dT sT ty elem:TypeId)(b o dLen dCap:Nat)(a:Addr)(sLen sCap size:Nat)(cs:List Value)
  (hu:P.underlying dT=some(.slice elem))(hs:(P.info? elem).map(·.size)=some size)(hn:cs.length=Nat.min sLen dLen * size)
  (hsrc:∀ j v,cs[j]?=some v→w.cell? (a.add j)=some v)(hc:∀ j,j<cs.length→(w.cell?⟨b,o + j,none⟩).isSome=true)(hf:∀ j,j<cs.length→w.frozen?⟨b,o + j,none⟩=false)(h1:∀ v∈cs,v.oneCell'=true):
  (Builtin.copy_ #[dT,sT] ty #[.slice(some⟨b,o,none⟩)dLen dCap,.slice(some a)sLen sCap]).run P w=.ok(goInt(Nat.min sLen dLen:Nat))(w.setCells b o cs):=by
 have hl:=run_loadCells_list(P:=P)w a cs hsrc
 have hst:=run_storeCells_cells(P:=P)b o cs 0 w(by simpa using hc)(by simpa using hf)h1
 cases hq:P.info? elem with
 | none=>simp [hq] at hs
 | some i=>
  have hi:i.size=size:=by simpa [hq] using hs
  rw [hn] at hl
  simp [Builtin.copy_,run_underlying hu,Builtin.lenOf,Builtin.firstCells,sizeOf,typeInfo,hq,hi,hl,hst]
theorem run_copy_zero(w:World)(dT sT ty elem:TypeId)(d a:Option Addr)(dLen dCap sLen sCap size:Nat)(hu:P.underlying dT=some(.slice elem))(hs:(P.info? elem).map(·.size)=some size)(hn:Nat.min sLen dLen=0):
  (Builtin.copy_ #[dT,sT] ty #[.slice d dLen dCap,.slice a sLen sCap]).run P w=.ok(goInt 0)w:=by
 cases hq:P.info? elem with
 | none=>simp [hq] at hs
 | some i=>
  have hl:∀ (x:Addr),(loadCells x 0).run P w=.ok #[] w:=fun x=>by simpa using run_loadCells_list(P:=P)w x [](by simp)
  cases d <;> cases a <;> simp [Builtin.copy_,run_underlying hu,Builtin.lenOf,Builtin.firstCells,sizeOf,typeInfo,hq,hn,storeCells,hl]
end
namespace Kd
section
variable {P:Program} {ops:Array Oper} {rest:List Oper} {o:Oper} {a:Act} {Q:Exit→Act→World→Prop} {α:Type}
open Go.Proofs.YtgookagndlfehaaW.PrintWords.Kd
theorem R_copy_rows(d:Kd α){w0 W:World} (base:Nat)(hgd:o.guard=none)(s x:Operand)(t t' e:TypeId)
  (ho:o.op=.call { callee:=.builtin .copy,args:=#[s,x],argTypes:=#[t,t'] })(ht:P.underlying t=some(.slice e))(hinfo:(P.info? e).map(·.size)=some d.sz)(hs0:0<d.sz)
  (v:Value)(xs ys:List α)(A:Option Addr)(m c:Nat)(ok okp:Nat→Prop)(hs:a.eval s=v)(hx:a.eval x=.slice A m c)
  (HO:d.R e W base ok v xs)(HR:d.C W A m ys)(hKM:∀ x cs,d.K W x cs→d.M W base okp x cs)(hokp:∀ k,okp k→ok k∧some k≠v.ownBlock)(hmn:m≤xs.length)(HB:Below base w0 W)(hbase:base≤W.heap.size)
  (h:∀ w1,d.R e w1 base ok v(ys++xs.drop m)→Below base w0 w1→W.grownBy w1 v.ownBlock→wpList P ops Q rest(a.put o.dst(goInt(m:Int)))w1):
  wpList P ops Q(o::rest)a W:=by
 have hm:ys.length=m:=HR.1
 obtain⟨h0ok,inner,hown,hr⟩:=HO
 have fin:∀ w1,(Builtin.copy_ #[t,t'] o.type #[v,.slice A m c]).run P W=.ok(goInt(m:Int))w1→d.R e w1 base ok v(ys++xs.drop m)→W.grownBy w1 v.ownBlock→wpList P ops Q(o::rest)a W:=by
  intro w1 hr hrow hg
  refine wpList_plain hgd fun K hK=>?_
  unfold Oper.wp execOp
  simp only [ho,resolve,invoke,builtin,Sem.run_bind,Sem.run_pure,Result.andThen_ok,List.map_toArray,List.map_cons,List.map_nil,hs,hx,hr]
  exact hK _ _(h w1 hrow(HB.grown hg hbase(own_base hown))hg)
 rcases Nat.eq_zero_or_pos m with hz|hp
 ·
  subst hz
  obtain rfl:ys=[]:=List.eq_nil_of_length_eq_zero hm
  obtain⟨A',c',hv⟩:=own_slice hown
  refine fin W ?_(by rw [List.nil_append,List.drop_zero];exact⟨h0ok,inner,hown,hr⟩)(World.grownBy.refl W _)
  rw [hv]
  exact run_copy_zero W t t' o.type e A' A xs.length c' 0 c d.sz ht hinfo(Nat.zero_min _)
 ·
  obtain⟨ad,hA,_⟩:=HR.2.2(by omega)
  subst hA
  obtain⟨news,hnr,hnc⟩:=ReadsRow.inner_ HR
  have hnl:news.length=m * d.sz:=by rw [hnr.1,hm]
  have hone:∀ u∈news,u.oneCell'=true:=by
   intro u hu
   obtain⟨q,hq,rfl⟩:=List.mem_iff_getElem.1 hu
   have hql:q / d.sz<ys.length:=by
    rw [Nat.div_lt_iff_lt_mul hs0]
    rw [←hnr.1]
    exact hq
   have hc:=hnr.2(q / d.sz)_(List.getElem?_eq_getElem hql)
   refine d.K_one hc _ ?_
   rw [List.mem_iff_getElem?]
   refine⟨q % d.sz,?_⟩
   rw [List.getElem?_take,if_pos(Nat.mod_lt _ hs0),List.getElem?_drop,Nat.mul_comm,Nat.div_add_mod,List.getElem?_eq_getElem hq]
  rcases hown.2 with⟨_,hx0⟩|⟨g,cap,cur,hv,hb,hh,hnc2,hcm,hcs,htake⟩
  ·
   omega
  have hmz:m * d.sz≤xs.length * d.sz:=Nat.mul_le_mul_right _ hmn
  have hxz:xs.length * d.sz≤cap * d.sz:=Nat.mul_le_mul_right _(by omega)
  have hfit:m * d.sz≤cur.size:=by omega
  have hmin:Nat.min m xs.length=m:=Nat.min_eq_left hmn
  have hr1:=run_copy_any(P:=P)W t t' o.type e g 0 xs.length cap ad m c d.sz news ht hinfo(by rw [hmin,hnl])hnc
   (fun j hj=>by rw [cell_of_row W g _ cur e(0,0)hh];simp;omega)(fun j _=>blk_frozen hh _)hone
  obtain⟨cur',h3,h4,h5⟩:=setCells_row news 0 W cur hh(by omega)
  obtain⟨s1,s2,s3,s4⟩:=setCells_same g news 0 W
  have hg:W.grownBy(W.setCells g 0 news)v.ownBlock:=⟨s1,s2,s3,(by rw [s4];exact Nat.le_refl _),fun k _ hk=>setCells_far _ _ k(fun he=>hk(by rw [hv,he];simp [Value.ownBlock]))⟩
  have step:∀ {q:α} {c:List Value} {o:Nat→Prop},d.M W base o q c→(∀ k,o k→ok k∧some k≠v.ownBlock)→d.M(W.setCells g 0 news)base(fun k=>ok k∧some k≠v.ownBlock)q c:=by
   intro q c o hq ho
   have h1:=d.M_move(w1:=W.setCells g 0 news)(fun k hk=>hg.block k hk.2.2.1(ho k hk.1).2)(d.M_bound hq)
   exact d.M_mono(fun k hk=>ho k hk.1)h1
  have hln:(ys++xs.drop m).length=xs.length:=by rw [List.length_append,List.length_drop];omega
  refine fin _(by rw [hv,hr1,hmin])⟨h0ok,news++inner.drop(m * d.sz),?_,?_⟩hg
  ·
   rw [hln]
   refine⟨by rw [List.length_append,List.length_drop,hnl,hown.1];omega,.inr⟨g,cap,cur',hv,hb,h3,hnc2,hcm,(by rw [h4,hcs]),?_⟩⟩
   rw [h5,List.take_zero,List.nil_append,hnl,Nat.zero_add,List.take_append,hnl,List.take_of_length_le(by omega),←htake,List.drop_take]
  ·
   exact reps_append(hnr.imp_(fun p c hp=>step(hKM p c hp)hokp))((reps_drop hr).imp_(fun p c hp=>step hp(fun _ hk=>hk)))
end
end Kd
end Go.Proofs.YtgookagndlfehaaW.PrintLast
end
section
/- A table's word, its leaves and the tree above them: both sides come to the same root. -/
namespace Go.Proofs.Ytgookagndlfehaa.PT
open Go.RowKit Go.Proofs.YtgookagndlfehaaW.PrintWords Go.Proofs.YtgookagndlfehaaW.PrintLast Go.Proofs.YtgookagndlfehaaW.PrintMore
set_option linter.unusedVariables false
set_option linter.unusedSimpArgs false
end Go.Proofs.Ytgookagndlfehaa.PT
end
section
/- The line through points: both sides come to the same sum. -/
namespace Go.Proofs.Ytgookagndlfehaa.PT
open Go.RowKit Go.Proofs.YtgookagndlfehaaW.PrintWords Go.Proofs.YtgookagndlfehaaW.PrintLast Go.Proofs.YtgookagndlfehaaW.PrintMore
set_option linter.unusedVariables false
set_option linter.unusedSimpArgs false
end Go.Proofs.Ytgookagndlfehaa.PT
end
section
/- Both sides' rounds of a sum-check, one by one: the same draws, the same answer. -/
namespace Go.Proofs.Ytgookagndlfehaa.PT
open Go.RowKit Go.Proofs.YtgookagndlfehaaW.PrintWords Go.Proofs.YtgookagndlfehaaW.PrintLast Go.Proofs.YtgookagndlfehaaW.PrintMore
set_option linter.unusedVariables false
set_option linter.unusedSimpArgs false
end Go.Proofs.Ytgookagndlfehaa.PT
end
section
/- Tables of tables: the laws' helpers over them, and the sum over all points. -/
namespace Go.Proofs.Ytgookagndlfehaa.PT
open Go.RowKit Go.Proofs.YtgookagndlfehaaW.PrintWords Go.Proofs.YtgookagndlfehaaW.PrintLast Go.Proofs.YtgookagndlfehaaW.PrintMore
set_option linter.unusedVariables false
set_option linter.unusedSimpArgs false
theorem rdLL_at {L:List(List LE)} {i:Nat} (h:i<L.length):rd_L10 L(i:Int)=L[i]:=by
 show L.getD(i:Int).toNat []=L[i]
 rw [Int.toNat_natCast,getD_at h]
end Go.Proofs.Ytgookagndlfehaa.PT
end
section
/- A sum-check's verification, alike on both sides. -/
namespace Go.Proofs.Ytgookagndlfehaa.PT
open Go.RowKit Go.Proofs.YtgookagndlfehaaW.PrintWords Go.Proofs.YtgookagndlfehaaW.PrintLast Go.Proofs.YtgookagndlfehaaW.PrintMore
set_option linter.unusedVariables false
set_option linter.unusedSimpArgs false
end Go.Proofs.Ytgookagndlfehaa.PT
end
section
/- Tables bound at an element, and the sums of a round, alike on both sides. -/
namespace Go.Proofs.Ytgookagndlfehaa.PT
open Go.RowKit Go.Proofs.YtgookagndlfehaaW.PrintWords Go.Proofs.YtgookagndlfehaaW.PrintLast Go.Proofs.YtgookagndlfehaaW.PrintMore
set_option linter.unusedVariables false
set_option linter.unusedSimpArgs false
end Go.Proofs.Ytgookagndlfehaa.PT
end
section
/- A sum-check's verification: alike on both sides, its answers of their own, the arguments as they were. -/
namespace Go.Proofs.Ytgookagndlfehaa.fnExactSumVerify
open Go.Proofs.Ytgookagndlfehaa.PT Go.RowKit Go.Proofs.YtgookagndlfehaaO Go.Proofs.YtgookagndlfehaaW.PrintWords Go.Proofs.YtgookagndlfehaaW.PrintLast Go.Proofs.YtgookagndlfehaaW.PrintMore
set_option linter.unusedVariables false
set_option linter.unusedSimpArgs false
theorem szSS_top(L:List(List LE))(hg:∀ x∈L,x.length≤9223372036854775807)(hg2:L.length≤9223372036854775807):∀ (k i:Nat)(a r:Int),0≤a→a≤1048576→laws_szExtSS.l0 k L a(i:Int)=some r→r≤1048576
 | 0,i,a,r,_,_,h=>by simp [laws_szExtSS.l0] at h
 | k + 1,i,a,r,h0,h1,h=>by
  simp only [laws_szExtSS.l0] at h
  by_cases hi:(i:Int)<(L.length:Int)
  ·
   have hlt:i<L.length:=by omega
   rw [if_pos hi,if_pos(by omega),rdLL_at hlt] at h
   by_cases hb:a<((L[i]).length:Int)
   ·
    rw [szExtS_big h0 h1(hg _(List.getElem_mem hlt))hb] at h
    simp only [bS] at h
    rw [if_pos(by omega)] at h
    have:=Option.some.inj h
    omega
   ·
    rw [szExtS_fit h1(by omega)] at h
    simp only [bS] at h
    rw [if_neg(by omega),w64(by omega)(by omega),show(i:Int)+ 1=((i + 1:Nat):Int)by omega] at h
    exact szSS_top L hg hg2 k(i + 1)_ r(by omega)(by omega)h
  ·
   rw [if_neg hi] at h
   have:=Option.some.inj h
   omega
theorem szSS_le {L:List(List LE)} (hg:∀ x∈L,x.length≤9223372036854775807)(hg2:L.length≤9223372036854775807){k:Nat} {r:Int} (h:laws_szExtSS.f k L 1048576=some r):r≤1048576:=by
 unfold laws_szExtSS.f at h
 rw [w64(by omega)(by omega)] at h
 by_cases hn:(1048576:Int)- (L.length:Int)<0
 ·
  rw [if_pos hn] at h
  have:=Option.some.inj h
  omega
 ·
  rw [if_neg hn] at h
  exact szSS_top L hg hg2 k 0 _ r(by omega)(by omega)h
theorem markSS_up:∀ (L:List(List E)),(∀ x∈L,x.length≤1048576)→∀ (a:Int),0≤a→a + 2097152 * L.length≤4000000000000→∃ r,0≤r∧r≤4000000000000∧∀ k,1048576<k→laws_markExtSS.go k L a=some r
 | [],_,a,h0,h1=>⟨a,h0,(by simpa using h1),fun _ _=>rfl⟩
 | l::ls,hx,a,h0,h1=>by
  have hl:=hx l(List.mem_cons_self ..)
  have hlen:(l::ls).length=ls.length + 1:=rfl
  rw [hlen] at h1
  obtain⟨r,hr,hr2,h2⟩:=markSS_up ls(fun x hm=>hx x(List.mem_cons_of_mem _ hm))(a + 2 * l.length)(by omega)(by push_cast at h1;omega)
  refine⟨r,hr,hr2,fun k hk=>?_⟩
  unfold laws_markExtSS.go
  rw [markExtS_eq h0(by push_cast at h1;omega)(by omega)(by omega)]
  exact h2 k hk
theorem szSrc {l:List LE} {i c a:Int} {t:ByteArray} (h0:0≤a)(h1:a≤1048576)(hl:l.length≤9223372036854775807):∃ r,laws_szSource.f l i t c a=some r∧(r<0∨l.length≤1048576):=by
 unfold laws_szSource.f
 by_cases hb:a<(l.length:Int)
 ·
  rw [szExtS_big h0 h1 hl hb]
  simp only [bS]
  exact⟨-1,if_pos(by omega),.inl(by omega)⟩
 ·
  rw [szExtS_fit h1(by omega)]
  simp only [bS]
  rw [if_neg(by omega)]
  by_cases hw:wrap64((a - (l.length:Int))- (t.size:Int))<0
  ·
   exact⟨-1,if_pos hw,.inl(by omega)⟩
  ·
   exact⟨_,if_neg hw,.inr(by omega)⟩
theorem eqSrc {l:List E} {i c:Int} {t:ByteArray} (hl:l.length≤4000000){k:Nat} (hk:l.length<k):laws_eqSource.f k l i t c l i t c=some true:=by
 unfold laws_eqSource.f
 rw [eqExtS_refl(by omega)hk]
 simp only [bS,if_true]
theorem eqE(a b:Int):laws_eqExt.f a b a b=some true:=by
 unfold laws_eqExt.f
 rw [if_pos rfl,if_pos rfl]
theorem toSrc {l:List LE} {i c:Int} {t:ByteArray} (hl:l.length≤1048576){k:Nat} (hk:l.length<k):laws_toSource.f k l i t c=some(convL l,i,t,c):=by
 unfold laws_toSource.f
 rw [toExtS_eq hl hk]
 simp only [bS]
theorem markSrc {l:List E} {i c n:Int} {t:ByteArray} (h0:0≤n)(h1:n≤4611686018427387904)(hl:l.length≤4000000){k:Nat} (hk:l.length<k):laws_markSource.f k l i t c n=some(n + 2 * l.length,marked l.length n):=by
 unfold laws_markSource.f
 rw [markExtS_eq h0 h1(by omega)hk]
 simp only [bS]
theorem heldSrc {m:Nat} {i c n:Int} {t:ByteArray} (h0:0≤n)(h1:n≤4611686018427387904)(hl:m≤4000000){k:Nat} (hk:m<k):laws_heldSource.f k(marked m n)i t c n=some(n + 2 * m):=by
 unfold laws_heldSource.f
 rw [heldExtS_eq h0 h1(by omega)hk]
 simp only [bS]
 rw [if_neg(by omega)]
end Go.Proofs.Ytgookagndlfehaa.fnExactSumVerify
end
