/- Part 3 of the proof of FnExactSumVerify: what functions compute, shown step by step, and what that says (the claim's last text states the law). -/
import Derived.Test.YtgookagndlfehaaProg
import Derived.Test.YtgookagndlfehaaVMore
import Derived.Test.YtgookagndlfehaaVWords
import Derived.Test.YtgookagndlfehaaVLast
import Derived.Test.YtgookagndlfehaaVTab
import Derived.Test.YtgookagndlfehaaVFour
import Derived.Test.YtgookagndlfehaaVQPut
import Derived.Test.YtgookagndlfehaaVApart
import Derived.Test.YtgookagndlfehaaVArr
import Derived.Test.YtgookagndlfehaaVZeros
import Derived.Test.YtgookagndlfehaaVFoot
import Derived.Test.YtgookagndlfehaaVKept
import Derived.Test.YtgookagndlfehaaVShare
import Derived.Test.YtgookagndlfehaaVN
import Derived.Test.YtgookagndlfehaaVFootNe
import Derived.Test.YtgookagndlfehaaVAt
import Derived.Test.YtgookagndlfehaaVRepsOne
import Derived.Test.YtgookagndlfehaaVInv
import Derived.Test.YtgookagndlfehaaVInvWords
import Derived.Test.YtgookagndlfehaaVGuard
import Derived.Test.YtgookagndlfehaaVNEv
import Derived.Test.YtgookagndlfehaaRows
import Derived.JoinedOf
import Derived.WalkKit
import Derived.ProofKit
import Derived.Below
import Derived.Deep.Draws
import Derived.Deep.AppendLies
import Derived.Maps.AppendAt
import Derived.OwnWalk
import Derived.Laws.BytesArg
import Derived.Laws.MakeOwn
import Derived.Laws.OwnMore
import Derived.Deep.OwnRows
import Derived.Tactics
import Derived.Lib.ConvBytes
import Derived.Laws.Slices
import Derived.KernelRfl
import Derived.RowKit3
import Derived.Deep.LoopGhost
import Derived.Deep.QuietTactic
import Derived.BigQuiet
import Derived.WideLaws
import Derived.Deep.DeepCutAuto
import Derived.Deep.CutBlock
import Derived.Deep.RegionHeld3
import Derived.Laws.Rows
import Derived.Lib.AppendStr
import Derived.ArgAppend
import Derived.Laws.IdiomCopy
import Derived.OrdersHeld
import Derived.Laws.BitsLemmas
import Derived.RowKit
import Derived.Deep.DeepMust
import Derived.Laws.CopyOwn
import Derived.Lib.BufferMore
import Derived.Lib.SliceRun
import Derived.OpenShut
import Derived.ShutString
import Derived.ChangeOld
import Derived.SizedLaws
import Derived.Deep.Slices
import Derived.ChangeArms
import Derived.Shelf.Small.Bits
import Derived.Shelf.Strconv.Itoa0
import Derived.Laws.Bits64b
import Derived.Test.YtgookagndlfehaaZFnExactSumVerify2
section
namespace Go.Proofs.Ytgookagndlfehaa.PT
open Go Go.RowKit Go.Proofs.YtgookagndlfehaaW.PrintWords Go.Proofs.YtgookagndlfehaaW.PrintLast Go.Proofs.YtgookagndlfehaaW.PrintMore
set_option linter.unusedVariables false
set_option linter.unusedSimpArgs false
theorem perm_erase {α:Type}:∀ (l:List α)(i:Nat)(b:α),l[i]?=some b→l.Perm(b::l.eraseIdx i)
 | [],i,b,h=>by simp at h
 | x::l,0,b,h=>by
  obtain rfl:x=b:=by simpa using h
  exact List.Perm.refl _
 | x::l,i + 1,b,h=>((perm_erase l i b(by simpa using h)).cons x).trans(List.Perm.swap _ _ _)
theorem Inv.newAt {w0 w:World} {P:Nat→Prop} {F:World→Prop} {L:List Grp} (h:Inv w0 P w L F)(i:Nat){b:Grp} (hi:L[i]?=some b):∀ k,b.S k→w0.heap.size≤k∨P k:=fun k hk=>h.new b(List.mem_of_getElem? hi)k hk
theorem Inv.front {w0 w:World} {P:Nat→Prop} {F:World→Prop} {L:List Grp} (h:Inv w0 P w L F)(i:Nat){b:Grp} (hi:L[i]?=some b):Inv w0 P w(b::L.eraseIdx i)F:=by
 exact h.perm(perm_erase L i b hi)
theorem Inv.startR {α:Type} {d:Kd α} {e b:Nat} {w:World} {v:Value} {xs:List α} {ok:Nat→Prop} (hE:d.E=[])(ho:d.R e w b ok v xs)(F:World→Prop)(hF:∀ w',Agr w w'(fun k=>some k=v.ownBlock)→F w'):
  Inv w(fun k=>some k=v.ownBlock)w [row d e b v xs(fun k=>some k=v.ownBlock)] F:=
 ⟨Agr.refl _ _,fun c hc k hk=>(by obtain rfl:=List.mem_singleton.1 hc;exact Kd.R_lt ho k hk.symm),fun c hc k hk=>(by obtain rfl:=List.mem_singleton.1 hc;exact .inr hk),
  fun c hc w' hw=>(by obtain rfl:=List.mem_singleton.1 hc;exact Kd.R_step(Kd.R_tight hE ho)(fun k hk _=>hw k hk)),List.pairwise_singleton _ _,fun w' hw=>hF w'(hw.mono(fun k hk=>by obtain⟨c,hc,hk2⟩:=hk;obtain rfl:=List.mem_singleton.1 hc;exact hk2))⟩
theorem Inv.keptP {α:Type} {d:Kd α} {e b:Nat} {w0 wb w w1:World} {P:Nat→Prop} {F:World→Prop} {L:List Grp} {v v1:Value} {xs ys:List α} {S ok:Nat→Prop} (h:Inv w0 P w(row d e b v xs S::L)F)(hb:Below wb.heap.size wb w)(hb':Below wb.heap.size wb w1)(hk:Kept w w1 S)(hR:d.R e w1 b ok v1 ys)(hok:∀ k,ok k→S k∨w.heap.size≤k):
  Inv w0 P w1(row d e b v1 ys(fun k=>(S k∨w.heap.size≤k)∧k<w1.heap.size)::L)F:=by
 have hR2:d.R e w1 b(fun k=>(S k∨w.heap.size≤k)∧k<w1.heap.size)v1 ys:=Kd.R_mono(Kd.R_bound hR)(fun k hk=>⟨hok k hk.1,hk.2.2.1⟩)
 exact h.step⟨hb'.os.trans hb.os.symm,hb'.tape.trans hb.tape.symm,hb'.output.trans hb.output.symm,hk.1,fun k hlt hn=>hk.2 k hlt hn⟩_(fun k hk=>hk)(fun w' hw=>Kd.R_step hR2(fun k hk _=>hw k hk))
theorem Inv.factsKept {α:Type} {d:Kd α} {e b:Nat} {w0 w W:World} {P:Nat→Prop} {F:World→Prop} {L:List Grp} {v:Value} {xs:List α} {S:Nat→Prop} (h:Inv w0 P w(row d e b v xs S::L)F)(hk:Kept w W S):F { w with heap:=W.heap }:=
 h.facts _⟨rfl,rfl,rfl,hk.1,fun k hlt hn=>hk.2 k hlt(fun hs=>hn⟨_,List.mem_cons_self,hs⟩)⟩
theorem Inv.belowP {w0 wb w:World} {P:Nat→Prop} {F:World→Prop} {L:List Grp} (h:Inv w0 P w L F)(hb:Below wb.heap.size wb w0)(hP:∀ k,P k→wb.heap.size≤k):Below wb.heap.size wb w:=h.agr.onto hb hP
def vsp_(k:Nat)(kind:Int):List(List S34)→Int→Int→List S34→Int→ByteArray→Int→List S34→Option(List S34 × Int × Int × Int × List S34 × Int × ByteArray × Int)
 | [],c0,c1,u0,u1,u2,u3,pt=>some(pt,c0,c1,0,u0,u1,u2,u3)
 | r::rs,c0,c1,u0,u1,u2,u3,pt=>(spec_l08Degree.f kind).bind fun d=>if(r.length:Int)=wrap64(d + 1)then(if 1<r.length then((spec_l02Add.f(rd_T34 r 0).f0(rd_T34 r 0).f1(rd_T34 r 1).f0(rd_T34 r 1).f1).bind fun p=>if p.1=c0∧p.2=c1 then((spec_l05Exts.f k u0 u1 u2 u3 r).bind fun a=>(spec_l05Draw.f k a.1 a.2.1 a.2.2.1 a.2.2.2).bind fun e=>(spec_l06Line.f k r e.2.2.2.2.1 e.2.2.2.2.2).bind fun c=>if pt.length≤100000 then vsp_ k kind rs c.1 c.2 e.1 e.2.1 e.2.2.1 e.2.2.2.1(pt++[⟨e.2.2.2.2.1,e.2.2.2.2.2⟩])else none)else some([],0,0,10,u0,u1,u2,u3))else none)else some([],0,0,18,u0,u1,u2,u3)
def spec_l08Verify.f(k:Nat)(kind c0 c1:Int)(l2:List(List S34))(vars:Int)(u0:List S34)(u1:Int)(u2:ByteArray)(u3:Int):Option(List S34 × Int × Int × Int × List S34 × Int × ByteArray × Int):=
 if(l2.length:Int)=vars then vsp_ k kind l2 c0 c1 u0 u1 u2 u3 [] else some([],0,0,18,u0,u1,u2,u3)
set_option maxHeartbeats 4000000 in
set_option maxRecDepth 100000 in
theorem spec_l08Verify.walk(k:Nat)(kind c0 c1:Int)(A2:Option Addr)(cap2:Nat)(l2:List(List S34))(vars:Int)(PW_:Nat→Prop)(Au:Option Addr)(cu:Nat)(u0:List S34)(u1:Int)(u2:ByteArray)(u3:Int)(r1:List S34)(r2 r3 r4:Int)(r5:List S34)(r6:Int)(r7:ByteArray)(r8:Int)(wb w:World)(hB:Below wb.heap.size wb w)(hI:Inv w PW_ w [row k34 34 wb.heap.size(.slice Au u0.length cu)u0 PW_](fun w2=>Kd.C(Kd.slice 34 k34)w2 A2 l2.length l2))(hPW:∀ k,PW_ k→wb.heap.size≤k)(hL2:l2.length≤9223372036854775807)(h:spec_l08Verify.f k kind c0 c1 l2 vars u0 u1 u2 u3=some(r1,r2,r3,r4,r5,r6,r7,r8)):
  Calls Try.prog 75 #[.int .i64 kind,.agg #[.int .i64 c0,.int .i64 c1],.slice A2 l2.length cap2,.int .i64 vars,.agg #[.slice Au u0.length cu,.int .i64 u1,.string u2,.int .i64 u3]] w fun e w'=>∃ v0_ v3_:Value,e=.returned(.tuple #[v0_,.agg #[.int .i64 r2,.int .i64 r3],.agg #[v3_,.int .i64 r6,.string r7,.int .i64 r8],.int .i64 r4])∧Kd.R k34 34 w' w.heap.size(fun k_=>some k_≠v3_.ownBlock)v0_ r1∧Kd.R k34 34 w' wb.heap.size(fun k_=>(PW_ k_∨w.heap.size≤k_)∧some k_≠v0_.ownBlock)v3_ r5∧Below wb.heap.size wb w'∧Kept w w' PW_:=by
 have hu34:=Try.underlying34
 have hu27:=Try.underlying27
 have HB:=am_ hB
 have HPW:=am_ hPW
 have HL2:=am_ hL2
 have HI:=am_ hI
 clear hB hPW hL2 hI
 unfold spec_l08Verify.f at h
 by_cases cv:(l2.length:Int)=vars
 ·
  subst cv
  rw [if_pos rfl] at h
  have HVS:=am_ h
  clear h
  go_enter Try.func75,Try.ntmps75
  go_wp2_with(first|((with_reducible refine gate_dst(N:=6)rfl ?_);refine box_event rfl(N:=6)rfl(cs:=#[.int .i64 c0,.int .i64 c1])(t:=34)bx_ ?_;intro g6 hg w6_ hbox hb;replace HI:=am_((HI.out).box hg hbox hb);clear hb hbox hg)|((with_reducible refine gate_dst(N:=9)rfl ?_);refine box_event rfl(N:=9)rfl(cs:=#[.slice Au u0.length cu,.int .i64 u1,.string u2,.int .i64 u3])(t:=27)bx_ ?_;intro g9 hg w9_ hbox hb;replace HI:=am_((HI.out).box hg hbox hb);clear hb hbox hg)|((with_reducible refine gate_dst(N:=11)rfl ?_);refine box_event rfl(N:=11)rfl(cs:=#[.int .i64 0,.int .i64 0])(t:=34)bx_ ?_;intro g11 hg w11_ hbox hb;replace HI:=am_((HI.out).box hg hbox hb);clear hb hbox hg)|((with_reducible refine gate_dst(N:=12)rfl ?_);refine box_event rfl(N:=12)rfl(cs:=#[.slice none 0 0,.int .i64 0,.string(⟨#[]⟩:ByteArray),.int .i64 0])(t:=27)bx_ ?_;intro g12 hg w12_ hbox hb;replace HI:=am_((HI.out).box hg hbox hb);clear hb hbox hg)|((with_reducible refine gate_dst(N:=26)rfl ?_);refine Kd.R_lit k34(w0:=_)_ 34 ?hg(N:=26) ?hd(xs:=([]:List S34))(inner:=[])(ok:=fun _=>True)(okp:=fun _=>True) ?hr ?hp(fun _ hk=>hk)trivial(Below.refl _ _)(Nat.le_refl _)(by simp) ?_;(case hd=>rfl);(case hg=>rfl);(case hr=>first|(go_simp;done)|(go_simp;rfl));(case hp=>exact(Reps.none _ _));intro v26 w26 hR hb hg hat;replace HI:=am_((HI.out).rowPush hb hR);clear hR hb hg hat))
  obtain⟨A17,c17,e17⟩:=Kd.R_slice HI.out.row0
  subst e17
  have HI_:Aside0(Inv w PW_ _ [row k34 34 w.heap.size(.slice A17 0 c17) [] _,blk g9 27 #[.slice Au u0.length cu,.int .i64 u1,.string u2,.int .i64 u3],blk g12 27 #[.slice none 0 0,.int .i64 0,.string(⟨#[]⟩:ByteArray),.int .i64 0],blk g11 34 #[.int .i64 0,.int .i64 0],row k34 34 wb.heap.size(.slice Au u0.length cu)u0 _,blk g6 34 #[.int .i64 c0,.int .i64 c1]](fun w2=>Kd.C(Kd.slice 34 k34)w2 A2 l2.length l2)):=⟨((((((HI.out.front 4 rfl).front 5 rfl).front 4 rfl).front 4 rfl).front 5 rfl).front 5 rfl)⟩
  clear HI
  have HI:=HI_
  clear HI_
  go_loopg [14,15] l2.length(fun kq v14 v15 w'=>∃ (j:Nat)(pt:List S34)(c0 c1:Int)(u0:List S34)(u1:Int)(u2:ByteArray)(u3:Int)(Au:Option Addr)(cu:Nat)(S:Nat→Prop)(Apt:Option Addr)(npt cpt:Nat)(Sp:Nat→Prop),v14=.slice Apt npt cpt∧v15=.int .i64 j∧Aside0(j + kq=l2.length)∧Aside0(vsp_ k kind(l2.drop j)c0 c1 u0 u1 u2 u3 pt=some(r1,r2,r3,r4,r5,r6,r7,r8))∧Aside0(Inv w PW_ w' [row k34 34 w.heap.size(.slice Apt npt cpt)pt Sp,blk g9 27 #[.slice Au u0.length cu,.int .i64 u1,.string u2,.int .i64 u3],blk g12 27 #[.slice none 0 0,.int .i64 0,.string(⟨#[]⟩:ByteArray),.int .i64 0],blk g11 34 #[.int .i64 0,.int .i64 0],row k34 34 wb.heap.size(.slice Au u0.length cu)u0 S,blk g6 34 #[.int .i64 c0,.int .i64 c1]](fun w2=>Kd.C(Kd.slice 34 k34)w2 A2 l2.length l2)))
  case atStart=>exact⟨0,[],c0,c1,u0,u1,u2,u3,Au,cu,_,A17,_,c17,_,rfl,rfl,⟨(by omega)⟩,HVS,HI⟩
  case round=>
   clear HI HVS
   obtain⟨j,pt,c0,c1,u0,u1,u2,u3,Au,cu,S,Apt,npt,cpt,Sp,rfl,rfl,HJ,HVS,HI⟩:=hrel
   have hj:=HJ.out
   cases gk with
   | zero=>
    have h:=HVS.out
    rw [List.drop_eq_nil_of_le(by omega),vsp_] at h
    simp only [Option.some.injEq,Prod.mk.injEq] at h
    obtain⟨rfl,rfl,rfl,rfl,rfl,rfl,rfl,rfl⟩:=h
    have d1:decide((j:Int)<(l2.length:Int))=false:=decide_eq_false(by omega)
    have d2:decide(j<l2.length)=false:=decide_eq_false(by omega)
    clear hj HJ HVS
    go_wp2
    refine start_(n:=7)(S:=fun w'=>w'.cell?⟨g9,0,none⟩=some(.slice Au u0.length cu)∧w'.cell?⟨g9,1,none⟩=some(.int .i64 u1)∧w'.cell?⟨g9,2,none⟩=some(.string u2)∧w'.cell?⟨g9,3,none⟩=some(.int .i64 u3)∧w'.cell?⟨g6,0,none⟩=some(.int .i64 c0)∧w'.cell?⟨g6,1,none⟩=some(.int .i64 c1))(ds:=[5])(bs_ 7 0)(by kernel_rfl)rfl rfl⟨(blk_cell((HI.out.drew).get 1 rfl)0).trans rfl,(blk_cell((HI.out.drew).get 1 rfl)1).trans rfl,(blk_cell((HI.out.drew).get 1 rfl)2).trans rfl,(blk_cell((HI.out.drew).get 1 rfl)3).trans rfl,(blk_cell((HI.out.drew).get 5 rfl)0).trans rfl,(blk_cell((HI.out.drew).get 5 rfl)1).trans rfl⟩(fun hHeld=>?_)
    replace HI:=am_(HI.out.drew)
    generalize World.drew _=wd0 at HI hHeld ⊢
    refine pu_ 0 73 (bs_ 7 1) ?_
    refine take_(i:=1)(N:=some 74)(v:=?_)(a':=?_)(bs_ 7 3)rfl rfl(by kernel_rfl)(fun _ _ _ h=>h)(Or.inl⟨(by rfl),?_⟩)hHeld ?_ ?_
    rotate_left
    ·
     rintro w'⟨s_0,s_1,s_2,s_3,s_4,s_5⟩
     go_simp
     with_reducible rfl
    rotate_left
    ·
     exact ap_
    refine take_(i:=2)(N:=some 75)(v:=?_)(a':=?_)(bs_ 7 7)rfl rfl(by kernel_rfl)(fun _ _ _ h=>h)(Or.inl⟨(by rfl),?_⟩)hHeld ?_ ?_
    rotate_left
    ·
     rintro w'⟨s_0,s_1,s_2,s_3,s_4,s_5⟩
     go_simp
     with_reducible rfl
    rotate_left
    ·
     exact ap_
    refine pu_ 3 10 (bs_ 7 15) ?_
    refine one_(i:=4)(N:=none)(bs_ 7 31)rfl rfl(by kernel_rfl)(by decide)(fun K hK=>?_)
    rw [if_pos(by rfl)]
    refine wp_store_row 34 _ _ rfl g11(#[.int .i64 c0,.int .i64 c1])rfl qz0_ 34(#[.int .i64 0,.int .i64 0])(HI.out.get 3 rfl)(draw_side c0 c1)(draw_len c0 c1)(draw_one c0 c1) ?_
    replace HI:Aside0(Inv w PW_ _ [blk g11 34 #[.int .i64 c0,.int .i64 c1],row k34 34 w.heap.size(.slice Apt npt cpt)pt Sp,blk g9 27 #[.slice Au u0.length cu,.int .i64 u1,.string u2,.int .i64 u3],blk g12 27 #[.slice none 0 0,.int .i64 0,.string(⟨#[]⟩:ByteArray),.int .i64 0],row k34 34 wb.heap.size(.slice Au u0.length cu)u0 S,blk g6 34 #[.int .i64 c0,.int .i64 c1]] _):=⟨(HI.out.front 3 rfl).put0(#[.int .i64 c0,.int .i64 c1])⟩
    generalize World.setRow _ g11(#[.int .i64 c0,.int .i64 c1])=wz4 at HI ⊢
    refine hK.out _ _⟨(blk_cell((HI.out).get 2 rfl)0).trans rfl,(blk_cell((HI.out).get 2 rfl)1).trans rfl,(blk_cell((HI.out).get 2 rfl)2).trans rfl,(blk_cell((HI.out).get 2 rfl)3).trans rfl,(blk_cell((HI.out).get 5 rfl)0).trans rfl,(blk_cell((HI.out).get 5 rfl)1).trans rfl⟩(fun hHeld=>?_)
    clear hK K
    refine last_(i:=5)(N:=none)(bs_ 7 63)rfl rfl(by kernel_rfl)(by decide)(fun K hK=>?_)
    rw [if_pos(by rfl)]
    refine wp_store_row 27 _ _ rfl g12(#[.slice Au u0.length cu,.int .i64 u1,.string u2,.int .i64 u3])rfl qz0_ 27(#[.slice none 0 0,.int .i64 0,.string(⟨#[]⟩:ByteArray),.int .i64 0])(HI.out.get 3 rfl)(by kernel_rfl)rfl qz12_ ?_
    replace HI:Aside0(Inv w PW_ _ [blk g12 27 #[.slice Au u0.length cu,.int .i64 u1,.string u2,.int .i64 u3],blk g11 34 #[.int .i64 c0,.int .i64 c1],row k34 34 w.heap.size(.slice Apt npt cpt)pt Sp,blk g9 27 #[.slice Au u0.length cu,.int .i64 u1,.string u2,.int .i64 u3],row k34 34 wb.heap.size(.slice Au u0.length cu)u0 S,blk g6 34 #[.int .i64 c0,.int .i64 c1]] _):=⟨(HI.out.front 3 rfl).put0(#[.slice Au u0.length cu,.int .i64 u1,.string u2,.int .i64 u3])⟩
    generalize World.setRow _ g12(#[.slice Au u0.length cu,.int .i64 u1,.string u2,.int .i64 u3])=wz5 at HI ⊢
    refine hK.out _ _ ?_
    clear hK K
    refine pu_ 6 13 (bs_ 7 127) ?_
    refine done_(by kernel_rfl) ?_
    try go_wp2
    refine bodyPost_ret(results_tcct rfl _ _ g11 g12 34 27 #[.int .i64 c0,.int .i64 c1] #[.slice Au u0.length cu,.int .i64 u1,.string u2,.int .i64 u3](0,0)(0,0)_ _ rfl(HI.out.get 1 rfl)hu34 rfl(by first|exact draw_side _ _|kernel_rfl)rfl(HI.out.get 0 rfl)hu27 rfl(by kernel_rfl))rfl ?_
    have hp_:=HI.out.get 2 rfl
    have hs_:=HI.out.get 4 rfl
    have hd_:=HI.out.disj 2 4(by decide)rfl rfl
    have hn_:=HI.out.newAt 4 rfl
    exact⟨_,_,rfl,Kd.R_mono hp_(fun k hk e=>hd_ k hk(hs_.1 k e.symm)),Kd.R_mono hs_(fun k hk=>⟨(hn_ k hk).symm,fun e=>hd_ k(hp_.1 k e.symm)hk⟩),HI.out.belowP HB.out HPW.out,⟨HI.out.agr.size,HI.out.agr.block⟩⟩
   | succ k1=>
    have hjl:j<l2.length:=by omega
    have h:=HVS.out
    rw [drop_getD_ l2 j [] hjl,vsp_] at h
    clear HVS
    obtain⟨ad3,B,cB,eA,hBl,hrow⟩:=rows_get(S:=InL _)(fun W' hW=>HI.out.facts W' hW)j hjl
    subst eA
    generalize hr_:l2.getD j []=r at h hBl hrow
    clear hr_
    have HI_:=am_(HI.out.addF(fun w2=>w2.cell? (ad3.add j)=some(.slice B r.length cB)∧Kd.C k34 w2 B r.length r)hrow)
    clear HI hrow
    have HI:=HI_
    clear HI_
    have HBL:=am_ hBl
    have hx:=HI.out.now.1.1
    have d1:decide((j:Int)<(l2.length:Int))=true:=decide_eq_true(by omega)
    have d2:decide(j<l2.length)=true:=decide_eq_true hjl
    have p6:=eq_true(show 0≤(j:Int)by omega)
    have q6:=eq_true(show(j:Int)<(l2.length:Int)by omega)
    have q6n:=eq_true hjl
    have HWJ:=am_(show wrap64((j:Int)+ 1)=((j + 1:Nat):Int)by have:=HL2.out;unfold wrap64;omega)
    have HJ2:=am_(show j + 1 + k1=l2.length by omega)
    replace h:=Option.bind_eq_some_iff.1 h
    obtain⟨d,hdg,h⟩:=h
    have HDG:=am_ hdg
    clear hdg hBl hj HJ hjl
    by_cases ce1:(r.length:Int)=wrap64(d + 1)
    ·
     rw [if_pos ce1] at h
     have f1:((r.length:Int)== wrap64(d + 1))=true:=beq_iff_eq.mpr ce1
     have f2:((r.length:Int) != wrap64(d + 1))=false:=bne_eq_false_iff_eq.mpr ce1
     clear ce1
     by_cases ce2:1<r.length
     ·
      rw [if_pos ce2] at h
      replace h:=Option.bind_eq_some_iff.1 h
      obtain⟨⟨p0,p1⟩,hpl,h⟩:=h
      obtain⟨ad,eB⟩:=elem_two HI.out.now.1.2 ce2
      subst eB
      have HX:=am_(fun(W:World)(hC:Kd.C k34 W(some ad)r.length r)=>elem_both hC ce2)
      have p7:=eq_true(show(0:Int)<(r.length:Int)by omega)
      have p8:=eq_true(show(1:Int)<(r.length:Int)by omega)
      have p7n:=eq_true(show 0<r.length by omega)
      have p8n:=eq_true ce2
      generalize rd_T34 r 0=x at HX hpl
      generalize rd_T34 r 1=y at HX hpl
      have HPL:=am_ hpl
      clear hpl ce2
      by_cases ce3:p0=c0∧p1=c1
      ·
       rw [if_pos(show(p0,p1).1=c0∧(p0,p1).2=c1 from ce3)] at h
       have f3:=eq_true ce3.1
       have f4:=eq_true ce3.2
       clear ce3
       replace h:=Option.bind_eq_some_iff.1 h
       obtain⟨⟨a0,a1,a2,a3⟩,hae,h⟩:=h
       replace h:=Option.bind_eq_some_iff.1 h
       obtain⟨⟨e0,e1,e2,e3,y0,y1⟩,hdw,h⟩:=h
       replace h:=Option.bind_eq_some_iff.1 h
       obtain⟨⟨z0,z1⟩,hli,h⟩:=h
       by_cases cpt_:pt.length≤100000
       ·
        rw [if_pos cpt_] at h
        have HAE:=am_(show spec_l05Exts.f k u0 u1 u2 u3 r=some(a0,a1,a2,a3)from hae)
        have HDW:=am_(show spec_l05Draw.f k a0 a1 a2 a3=some(e0,e1,e2,e3,y0,y1)from hdw)
        have HLI:=am_(show spec_l06Line.f k r y0 y1=some(z0,z1)from hli)
        have HVS:=am_(show vsp_ k kind(l2.drop(j + 1))z0 z1 e0 e1 e2 e3(pt++([(⟨y0,y1⟩:S34)]:List S34))=some(r1,r2,r3,r4,r5,r6,r7,r8)from h)
        have HPT:=am_ cpt_
        clear hae hdw hli h cpt_
        go_wp2_with(first|(go_at_call 115;(refine(spec_l08Degree.calls kind d _ HDG.out).mono ?_);rintro e w39⟨rfl,⟨n39,rfl⟩⟩;replace HI:=am_(HI.out.drewN n39);generalize World.drewN _ n39=wn39 at HI ⊢))
        clear hx
        refine start_(n:=9)(S:=fun w'=>w'.cell? ad=some(.int .i64 x.f0)∧w'.cell?⟨ad.block,ad.off + 1,none⟩=some(.int .i64 x.f1)∧w'.cell?⟨ad.block,ad.off + 2,none⟩=some(.int .i64 y.f0)∧w'.cell?⟨ad.block,ad.off + 2 + 1,none⟩=some(.int .i64 y.f1)∧w'.cell?⟨g6,0,none⟩=some(.int .i64 c0)∧w'.cell?⟨g6,1,none⟩=some(.int .i64 c1))(ds:=[])(bs_ 9 0)(by kernel_rfl)rfl rfl⟨(HX.out _((HI.out.drew).now.1.2)).1,(HX.out _((HI.out.drew).now.1.2)).2.1,(HX.out _((HI.out.drew).now.1.2)).2.2.1,(HX.out _((HI.out.drew).now.1.2)).2.2.2,(blk_cell(((HI.out.drew)).get 5 rfl)0).trans rfl,(blk_cell(((HI.out.drew)).get 5 rfl)1).trans rfl⟩(fun hHeld=>?_)
        replace HI:=am_(HI.out.drew)
        generalize World.drew _=wd0 at HI hHeld ⊢
        refine pu_ 0 45 (bs_ 9 1) ?_
        refine pu_ 1 46 (bs_ 9 3) ?_
        refine take_(i:=2)(N:=some 47)(v:=?_)(a':=?_)(bs_ 9 7)rfl rfl(by kernel_rfl)(fun _ _ _ h=>h)(Or.inl⟨(by rfl),?_⟩)hHeld ?_ ?_
        rotate_left
        ·
         rintro w'⟨s_0,s_1,s_2,s_3,s_4,s_5⟩
         go_simp
         with_reducible rfl
        rotate_left
        ·
         exact ap_
        refine pu_ 3 48 (bs_ 9 15) ?_
        refine pu_ 4 49 (bs_ 9 31) ?_
        refine take_(i:=5)(N:=some 50)(v:=?_)(a':=?_)(bs_ 9 63)rfl rfl(by kernel_rfl)(fun _ _ _ h=>h)(Or.inl⟨(by rfl),?_⟩)hHeld ?_ ?_
        rotate_left
        ·
         rintro w'⟨s_0,s_1,s_2,s_3,s_4,s_5⟩
         go_simp
         with_reducible rfl
        rotate_left
        ·
         exact ap_
        refine take_(i:=7)(N:=some 52)(v:=?_)(a':=?_)(bs_ 9 191)rfl rfl(by kernel_rfl)(fun _ _ _ h=>h)(Or.inl⟨(by rfl),?_⟩)hHeld ?_ ?_
        rotate_left
        ·
         rintro w'⟨s_0,s_1,s_2,s_3,s_4,s_5⟩
         go_simp
         with_reducible rfl
        rotate_left
        ·
         exact ap_
        refine one_(i:=6)(N:=some 51)(bs_ 9 255)rfl rfl(by kernel_rfl)(by decide)(fun K hK=>?_)
        refine goes_ Try.func116(by kernel_rfl)rfl #[.agg #[.int .i64 x.f0,.int .i64 x.f1],.agg #[.int .i64 y.f0,.int .i64 y.f1]](by rfl)rfl rfl qz3_ ?_
        with_reducible refine(spec_l02Add.calls x.f0 x.f1 y.f0 y.f1 p0 p1 _ HPL.out).mono ?_
        rintro e w40⟨rfl,hb⟩
        refine⟨_,rfl,?_⟩
        replace HI:=am_(HI.out.grow hb)
        clear hb
        refine hK.out _ _⟨(HX.out _((HI.out).now.1.2)).1,(HX.out _((HI.out).now.1.2)).2.1,(HX.out _((HI.out).now.1.2)).2.2.1,(HX.out _((HI.out).now.1.2)).2.2.2,(blk_cell(((HI.out)).get 5 rfl)0).trans rfl,(blk_cell(((HI.out)).get 5 rfl)1).trans rfl⟩(fun hHeld=>?_)
        clear hK K
        refine norm_(a':=?_) ?_ ?_
        rotate_left
        ·
         show Act.put _(some 51)_=_
         exact ap_
        refine pu_ 8 53 (bs_ 9 511) ?_
        refine done_(by kernel_rfl) ?_
        clear f3 f4
        go_wp2_with(first|((with_reducible refine gate_dst(N:=57)rfl ?_);go_must(refine wpList_load_row rfl 27 _ rfl g9 rfl 27(#[.slice Au u0.length cu,.int .i64 u1,.string u2,.int .i64 u3])(0,0)_((HI.out.get 1 rfl))hu27 rfl(by kernel_rfl) ?_))|(go_at_call 117;replace HI:Aside0(Inv w PW_ _ [row k34 34 wb.heap.size(.slice Au u0.length cu)u0 S,row k34 34 w.heap.size(.slice Apt npt cpt)pt Sp,blk g9 27 #[.slice Au u0.length cu,.int .i64 u1,.string u2,.int .i64 u3],blk g12 27 #[.slice none 0 0,.int .i64 0,.string(⟨#[]⟩:ByteArray),.int .i64 0],blk g11 34 #[.int .i64 0,.int .i64 0],blk g6 34 #[.int .i64 c0,.int .i64 c1]] _):=⟨HI.out.front 4 rfl⟩;(refine(spec_l05Exts.calls k S(.slice Au u0.length cu)u0 u1 u2 u3(some ad)cB r a0 a1 a2 a3 wb _(HI.out.belowP HB.out HPW.out)HI.out.row0(fun W_ hk=>(Inv.factsKept HI.out hk).1.2)HBL.out HAE.out).mono ?_);rintro e w59⟨va,rfl,hR,hB2,hk⟩;obtain⟨Aa,ca,ea⟩:=Kd.R_slice hR;subst ea;replace HI:=am_(Inv.keptP HI.out(HI.out.belowP HB.out HPW.out)hB2 hk hR(fun _ h=>h));clear hR hB2 hk)|((with_reducible refine gate_store(p:=9)(v:=(.tmp 59))(t:=27)rfl ?_);go_must(refine wpList_store_row rfl 27 _ _ rfl g9(#[.slice Aa a0.length ca,.int .i64 a1,.string a2,.int .i64 a3])rfl qz0_ 27(#[.slice Au u0.length cu,.int .i64 u1,.string u2,.int .i64 u3])(HI.out.get 2 rfl)(by kernel_rfl)rfl qz12_ ?_;replace HI:Aside0(Inv w PW_ _ [blk g9 27 #[.slice Aa a0.length ca,.int .i64 a1,.string a2,.int .i64 a3],row k34 34 wb.heap.size(.slice Aa a0.length ca)a0 _,row k34 34 w.heap.size(.slice Apt npt cpt)pt Sp,blk g12 27 #[.slice none 0 0,.int .i64 0,.string(⟨#[]⟩:ByteArray),.int .i64 0],blk g11 34 #[.int .i64 0,.int .i64 0],blk g6 34 #[.int .i64 c0,.int .i64 c1]] _):=⟨(HI.out.front 2 rfl).put0(#[.slice Aa a0.length ca,.int .i64 a1,.string a2,.int .i64 a3])⟩;generalize World.setRow _ g9(#[.slice Aa a0.length ca,.int .i64 a1,.string a2,.int .i64 a3])=w60 at HI ⊢))|((with_reducible refine gate_dst(N:=61)rfl ?_);go_must(refine wpList_load_row rfl 27 _ rfl g9 rfl 27(#[.slice Aa a0.length ca,.int .i64 a1,.string a2,.int .i64 a3])(0,0)_(HI.out.blk0)hu27 rfl(by kernel_rfl) ?_))|(go_at_call 118;replace HI:Aside0(Inv w PW_ _ [row k34 34 wb.heap.size(.slice Aa a0.length ca)a0 _,blk g9 27 #[.slice Aa a0.length ca,.int .i64 a1,.string a2,.int .i64 a3],row k34 34 w.heap.size(.slice Apt npt cpt)pt Sp,blk g12 27 #[.slice none 0 0,.int .i64 0,.string(⟨#[]⟩:ByteArray),.int .i64 0],blk g11 34 #[.int .i64 0,.int .i64 0],blk g6 34 #[.int .i64 c0,.int .i64 c1]] _):=⟨HI.out.front 1 rfl⟩;(refine(spec_l05Draw.calls k _(.slice Aa a0.length ca)a0 a1 a2 a3 e0 e1 e2 e3 y0 y1 wb _(HI.out.belowP HB.out HPW.out)HI.out.row0 HDW.out).mono ?_);rintro e w62⟨ve,rfl,hR,hB2,hk⟩;obtain⟨Ae,ce,ee⟩:=Kd.R_slice hR;subst ee;replace HI:=am_(Inv.keptP HI.out(HI.out.belowP HB.out HPW.out)hB2 hk hR(fun _ h=>h));clear hR hB2 hk)|((with_reducible refine gate_dst(N:=17)rfl ?_);refine box_event rfl(N:=17)rfl(cs:=#[.slice none 0 0,.int .i64 0,.string(⟨#[]⟩:ByteArray),.int .i64 0])(t:=27)bx_ ?_;intro g17 hg w17_ hbox hb;replace HI:=am_((HI.out).box hg hbox hb);clear hb hbox hg)|((with_reducible refine gate_dst(N:=18)rfl ?_);refine box_event rfl(N:=18)rfl(cs:=#[.int .i64 0,.int .i64 0])(t:=34)bx_ ?_;intro g18 hg w18_ hbox hb;replace HI:=am_((HI.out).box hg hbox hb);clear hb hbox hg)|((with_reducible refine gate_store(p:=17)(v:=(.tmp 63))(t:=27)rfl ?_);go_must(refine wpList_store_row rfl 27 _ _ rfl g17(#[.slice Ae e0.length ce,.int .i64 e1,.string e2,.int .i64 e3])rfl qz0_ 27(#[.slice none 0 0,.int .i64 0,.string(⟨#[]⟩:ByteArray),.int .i64 0])(HI.out.get 1 rfl)(by kernel_rfl)rfl qz12_ ?_;replace HI:Aside0(Inv w PW_ _ [blk g17 27 #[.slice Ae e0.length ce,.int .i64 e1,.string e2,.int .i64 e3],blk g18 34 #[.int .i64 0,.int .i64 0],row k34 34 wb.heap.size(.slice Ae e0.length ce)e0 _,blk g9 27 #[.slice Aa a0.length ca,.int .i64 a1,.string a2,.int .i64 a3],row k34 34 w.heap.size(.slice Apt npt cpt)pt Sp,blk g12 27 #[.slice none 0 0,.int .i64 0,.string(⟨#[]⟩:ByteArray),.int .i64 0],blk g11 34 #[.int .i64 0,.int .i64 0],blk g6 34 #[.int .i64 c0,.int .i64 c1]] _):=⟨(HI.out.front 1 rfl).put0(#[.slice Ae e0.length ce,.int .i64 e1,.string e2,.int .i64 e3])⟩;generalize World.setRow _ g17(#[.slice Ae e0.length ce,.int .i64 e1,.string e2,.int .i64 e3])=w63 at HI ⊢))|((with_reducible refine gate_store(p:=18)(v:=(.tmp 64))(t:=34)rfl ?_);go_must(refine wpList_store_row rfl 34 _ _ rfl g18(#[.int .i64 y0,.int .i64 y1])rfl qz0_ 34(#[.int .i64 0,.int .i64 0])(HI.out.get 1 rfl)(draw_side y0 y1)(draw_len y0 y1)(draw_one y0 y1) ?_;replace HI:Aside0(Inv w PW_ _ [blk g18 34 #[.int .i64 y0,.int .i64 y1],blk g17 27 #[.slice Ae e0.length ce,.int .i64 e1,.string e2,.int .i64 e3],row k34 34 wb.heap.size(.slice Ae e0.length ce)e0 _,blk g9 27 #[.slice Aa a0.length ca,.int .i64 a1,.string a2,.int .i64 a3],row k34 34 w.heap.size(.slice Apt npt cpt)pt Sp,blk g12 27 #[.slice none 0 0,.int .i64 0,.string(⟨#[]⟩:ByteArray),.int .i64 0],blk g11 34 #[.int .i64 0,.int .i64 0],blk g6 34 #[.int .i64 c0,.int .i64 c1]] _):=⟨(HI.out.front 1 rfl).put0(#[.int .i64 y0,.int .i64 y1])⟩;generalize World.setRow _ g18(#[.int .i64 y0,.int .i64 y1])=w64 at HI ⊢))|((with_reducible refine gate_dst(N:=65)rfl ?_);go_must(refine wpList_load_row rfl 27 _ rfl g17 rfl 27(#[.slice Ae e0.length ce,.int .i64 e1,.string e2,.int .i64 e3])(0,0)_((HI.out.get 1 rfl))hu27 rfl(by kernel_rfl) ?_))|((with_reducible refine gate_store(p:=9)(v:=(.tmp 65))(t:=27)rfl ?_);go_must(refine wpList_store_row rfl 27 _ _ rfl g9(#[.slice Ae e0.length ce,.int .i64 e1,.string e2,.int .i64 e3])rfl qz0_ 27(#[.slice Aa a0.length ca,.int .i64 a1,.string a2,.int .i64 a3])(HI.out.get 3 rfl)(by kernel_rfl)rfl qz12_ ?_;replace HI:Aside0(Inv w PW_ _ [blk g9 27 #[.slice Ae e0.length ce,.int .i64 e1,.string e2,.int .i64 e3],blk g18 34 #[.int .i64 y0,.int .i64 y1],row k34 34 wb.heap.size(.slice Ae e0.length ce)e0 _,row k34 34 w.heap.size(.slice Apt npt cpt)pt Sp,blk g12 27 #[.slice none 0 0,.int .i64 0,.string(⟨#[]⟩:ByteArray),.int .i64 0],blk g11 34 #[.int .i64 0,.int .i64 0],blk g6 34 #[.int .i64 c0,.int .i64 c1]] _):=⟨((HI.out.front 3 rfl).put0(#[.slice Ae e0.length ce,.int .i64 e1,.string e2,.int .i64 e3])).subL qz34_⟩;generalize World.setRow _ g9(#[.slice Ae e0.length ce,.int .i64 e1,.string e2,.int .i64 e3])=w65 at HI ⊢))|((with_reducible refine gate_dst(N:=67)rfl ?_);go_must(refine wpList_load_row rfl 34 _ rfl g18 rfl 34(#[.int .i64 y0,.int .i64 y1])(0,0)_((HI.out.get 1 rfl))hu34 rfl(by kernel_rfl) ?_))|(go_at_call 119;(refine(spec_l06Line.calls k(some ad)cB r y0 y1 z0 z1 _ HI.out.now.1.2 HBL.out HLI.out).mono ?_);rintro e w68⟨rfl,hb⟩;replace HI:=am_(HI.out.grow hb);clear hb)|((with_reducible refine gate_store(p:=6)(v:=(.tmp 68))(t:=34)rfl ?_);go_must(refine wpList_store_row rfl 34 _ _ rfl g6(#[.int .i64 z0,.int .i64 z1])rfl qz0_ 34(#[.int .i64 c0,.int .i64 c1])(HI.out.get 6 rfl)(draw_side z0 z1)(draw_len2 c0 c1 z0 z1)(draw_one z0 z1) ?_;replace HI:Aside0(Inv w PW_ _ [blk g6 34 #[.int .i64 z0,.int .i64 z1],blk g9 27 #[.slice Ae e0.length ce,.int .i64 e1,.string e2,.int .i64 e3],blk g18 34 #[.int .i64 y0,.int .i64 y1],row k34 34 wb.heap.size(.slice Ae e0.length ce)e0 _,row k34 34 w.heap.size(.slice Apt npt cpt)pt Sp,blk g12 27 #[.slice none 0 0,.int .i64 0,.string(⟨#[]⟩:ByteArray),.int .i64 0],blk g11 34 #[.int .i64 0,.int .i64 0]] _):=⟨(HI.out.front 6 rfl).put0(#[.int .i64 z0,.int .i64 z1])⟩;generalize World.setRow _ g6(#[.int .i64 z0,.int .i64 z1])=w69 at HI ⊢))|((with_reducible refine gate_dst(N:=70)rfl ?_);go_must(refine wpList_load_row rfl 34 _ rfl g18 rfl 34(#[.int .i64 y0,.int .i64 y1])(0,0)_((HI.out.get 2 rfl))hu34 rfl(by kernel_rfl) ?_))|((with_reducible refine gate_builtin(b:=.append)(xs:=#[.tmp 69,.tmp 71])rfl ?_);at_builtin;refine Kd.R_append k34(w0:=_)w.heap.size rfl(.tmp 69)(.tmp 71)24 34(.agg #[(.int .i64 0),(.int .i64 0)])16 rfl Try.underlying24 info34 rfl(by decide)(by omega)_ pt(⟨y0,y1⟩:S34) [.int .i64 y0,.int .i64 y1] _(fun _=>False)rfl rfl ?aP(fun _ hk=>hk.elim) ?aF(Inv.row0W(HI.out.front 4 rfl))(Below.refl _ _)HI.out.agr.size ?aL ?_;(case aP=>exact k34_mkM _ _ _(⟨y0,y1⟩:S34));(case aF=>exact(fun _ hk=>.inr hk));(case aL=>have:=HPT.out;omega);intro v72 w72 hR hb hg hat;obtain⟨A72,c72,e72⟩:=Kd.R_slice hR;rw [show(pt++([(⟨y0,y1⟩:S34)]:List S34)).length=pt.length + 1 by simp] at e72;subst e72;replace HI:Aside0(Inv w PW_ _ [row k34 34 w.heap.size(.slice A72(pt.length + 1)c72)(pt++([(⟨y0,y1⟩:S34)]:List S34))_,blk g6 34 #[.int .i64 z0,.int .i64 z1],blk g9 27 #[.slice Ae e0.length ce,.int .i64 e1,.string e2,.int .i64 e3],blk g18 34 #[.int .i64 y0,.int .i64 y1],row k34 34 wb.heap.size(.slice Ae e0.length ce)e0 _,blk g12 27 #[.slice none 0 0,.int .i64 0,.string(⟨#[]⟩:ByteArray),.int .i64 0],blk g11 34 #[.int .i64 0,.int .i64 0]] _):=⟨(HI.out.front 4 rfl).grown0 hb hR(fun _ hk _=>hk)hg⟩;clear hR hb hg hat))
        go_roundg k1
        case measure=>omega
        case rel=>exact⟨j + 1,_,z0,z1,e0,e1,e2,e3,Ae,ce,_,A72,_,c72,_,rfl,by first|rfl|(rw [HWJ.out]),HJ2,HVS,⟨(Inv.subL((((((HI.out.front 1 rfl).front 4 rfl).front 6 rfl).front 6 rfl).front 5 rfl).front 5 rfl)qz34_).weaken(fun _ h=>h.2)⟩⟩
       ·
        rw [if_neg cpt_] at h;cases h
      ·
       rw [if_neg(show ¬((p0,p1).1=c0∧(p0,p1).2=c1)from ce3)] at h
       simp only [Option.some.injEq,Prod.mk.injEq] at h
       obtain⟨rfl,rfl,rfl,rfl,rfl,rfl,rfl,rfl⟩:=h
       have f3:(p0=c0)=False∨((p0=c0)=True∧(p1=c1)=False):=by
        rcases Classical.em(p0=c0)with h0|h0
        ·
         exact .inr⟨eq_true h0,eq_false(fun h1=>ce3⟨h0,h1⟩)⟩
        ·
         exact .inl(eq_false h0)
       clear ce3
       rcases f3 with f3|⟨f3,f4⟩
       ·
        go_wp2_with(first|(go_at_call 115;(refine(spec_l08Degree.calls kind d _ HDG.out).mono ?_);rintro e w39⟨rfl,⟨n39,rfl⟩⟩;replace HI:=am_(HI.out.drewN n39);generalize World.drewN _ n39=wn39 at HI ⊢))
        clear hx
        refine start_(n:=9)(S:=fun w'=>w'.cell? ad=some(.int .i64 x.f0)∧w'.cell?⟨ad.block,ad.off + 1,none⟩=some(.int .i64 x.f1)∧w'.cell?⟨ad.block,ad.off + 2,none⟩=some(.int .i64 y.f0)∧w'.cell?⟨ad.block,ad.off + 2 + 1,none⟩=some(.int .i64 y.f1)∧w'.cell?⟨g6,0,none⟩=some(.int .i64 c0)∧w'.cell?⟨g6,1,none⟩=some(.int .i64 c1))(ds:=[])(bs_ 9 0)(by kernel_rfl)rfl rfl⟨(HX.out _((HI.out.drew).now.1.2)).1,(HX.out _((HI.out.drew).now.1.2)).2.1,(HX.out _((HI.out.drew).now.1.2)).2.2.1,(HX.out _((HI.out.drew).now.1.2)).2.2.2,(blk_cell(((HI.out.drew)).get 5 rfl)0).trans rfl,(blk_cell(((HI.out.drew)).get 5 rfl)1).trans rfl⟩(fun hHeld=>?_)
        replace HI:=am_(HI.out.drew)
        generalize World.drew _=wd0 at HI hHeld ⊢
        refine pu_ 0 45 (bs_ 9 1) ?_
        refine pu_ 1 46 (bs_ 9 3) ?_
        refine take_(i:=2)(N:=some 47)(v:=?_)(a':=?_)(bs_ 9 7)rfl rfl(by kernel_rfl)(fun _ _ _ h=>h)(Or.inl⟨(by rfl),?_⟩)hHeld ?_ ?_
        rotate_left
        ·
         rintro w'⟨s_0,s_1,s_2,s_3,s_4,s_5⟩
         go_simp
         with_reducible rfl
        rotate_left
        ·
         exact ap_
        refine pu_ 3 48 (bs_ 9 15) ?_
        refine pu_ 4 49 (bs_ 9 31) ?_
        refine take_(i:=5)(N:=some 50)(v:=?_)(a':=?_)(bs_ 9 63)rfl rfl(by kernel_rfl)(fun _ _ _ h=>h)(Or.inl⟨(by rfl),?_⟩)hHeld ?_ ?_
        rotate_left
        ·
         rintro w'⟨s_0,s_1,s_2,s_3,s_4,s_5⟩
         go_simp
         with_reducible rfl
        rotate_left
        ·
         exact ap_
        refine take_(i:=7)(N:=some 52)(v:=?_)(a':=?_)(bs_ 9 191)rfl rfl(by kernel_rfl)(fun _ _ _ h=>h)(Or.inl⟨(by rfl),?_⟩)hHeld ?_ ?_
        rotate_left
        ·
         rintro w'⟨s_0,s_1,s_2,s_3,s_4,s_5⟩
         go_simp
         with_reducible rfl
        rotate_left
        ·
         exact ap_
        refine one_(i:=6)(N:=some 51)(bs_ 9 255)rfl rfl(by kernel_rfl)(by decide)(fun K hK=>?_)
        refine goes_ Try.func116(by kernel_rfl)rfl #[.agg #[.int .i64 x.f0,.int .i64 x.f1],.agg #[.int .i64 y.f0,.int .i64 y.f1]](by rfl)rfl rfl qz3_ ?_
        with_reducible refine(spec_l02Add.calls x.f0 x.f1 y.f0 y.f1 p0 p1 _ HPL.out).mono ?_
        rintro e w40⟨rfl,hb⟩
        refine⟨_,rfl,?_⟩
        replace HI:=am_(HI.out.grow hb)
        clear hb
        refine hK.out _ _⟨(HX.out _((HI.out).now.1.2)).1,(HX.out _((HI.out).now.1.2)).2.1,(HX.out _((HI.out).now.1.2)).2.2.1,(HX.out _((HI.out).now.1.2)).2.2.2,(blk_cell(((HI.out)).get 5 rfl)0).trans rfl,(blk_cell(((HI.out)).get 5 rfl)1).trans rfl⟩(fun hHeld=>?_)
        clear hK K
        refine norm_(a':=?_) ?_ ?_
        rotate_left
        ·
         show Act.put _(some 51)_=_
         exact ap_
        refine pu_ 8 53 (bs_ 9 511) ?_
        refine done_(by kernel_rfl) ?_
        go_wp2
        replace HI:=am_(HI.out.subL(L':=[blk g9 27 #[.slice Au u0.length cu,.int .i64 u1,.string u2,.int .i64 u3],blk g12 27 #[.slice none 0 0,.int .i64 0,.string(⟨#[]⟩:ByteArray),.int .i64 0],blk g11 34 #[.int .i64 0,.int .i64 0],row k34 34 wb.heap.size(.slice Au u0.length cu)u0 S])qz34_)
        refine start_(n:=7)(S:=fun w'=>w'.cell?⟨g9,0,none⟩=some(.slice Au u0.length cu)∧w'.cell?⟨g9,1,none⟩=some(.int .i64 u1)∧w'.cell?⟨g9,2,none⟩=some(.string u2)∧w'.cell?⟨g9,3,none⟩=some(.int .i64 u3))(ds:=[5])(bs_ 7 0)(by kernel_rfl)rfl rfl⟨(blk_cell((HI.out.drew).get 0 rfl)0).trans rfl,(blk_cell((HI.out.drew).get 0 rfl)1).trans rfl,(blk_cell((HI.out.drew).get 0 rfl)2).trans rfl,(blk_cell((HI.out.drew).get 0 rfl)3).trans rfl⟩(fun hHeld=>?_)
        replace HI:=am_(HI.out.drew)
        generalize World.drew _=wd0 at HI hHeld ⊢
        refine pu_ 1 55 (bs_ 7 2) ?_
        refine take_(i:=2)(N:=some 56)(v:=?_)(a':=?_)(bs_ 7 6)rfl rfl(by kernel_rfl)(fun _ _ _ h=>h)(Or.inl⟨(by rfl),?_⟩)hHeld ?_ ?_
        rotate_left
        ·
         rintro w'⟨s_0,s_1,s_2,s_3⟩
         go_simp
         with_reducible rfl
        rotate_left
        ·
         exact ap_
        refine one_(i:=0)(N:=some 54)(bs_ 7 7)rfl rfl(by kernel_rfl)(by decide)(fun K hK=>?_)
        refine Kd.R_lit_step k34(w0:=_)_ 34 ?hg(N:=54) ?hd(xs:=([]:List S34))(inner:=[])(ok:=fun _=>True)(okp:=fun _=>True) ?hr ?hp(fun _ hk=>hk)trivial(Below.refl _ _)(Nat.le_refl _)(by simp) ?_
        (case hd=>rfl);(case hg=>rfl);(case hr=>first|(go_simp;done)|(go_simp;rfl));(case hp=>exact(Reps.none _ _))
        intro ve we hR hb hg hat
        replace HI:=am_(HI.out.rowPush hb hR)
        clear hR hb hg hat
        refine hK.out _ _⟨(blk_cell((HI.out).get 1 rfl)0).trans rfl,(blk_cell((HI.out).get 1 rfl)1).trans rfl,(blk_cell((HI.out).get 1 rfl)2).trans rfl,(blk_cell((HI.out).get 1 rfl)3).trans rfl⟩(fun hHeld=>?_)
        clear hK K
        refine norm_(a':=?_) ?_ ?_
        rotate_left
        ·
         show Act.put _(some 54)_=_
         exact ap_
        refine pu_ 3 10 (bs_ 7 15) ?_
        refine one_(i:=4)(N:=none)(bs_ 7 31)rfl rfl(by kernel_rfl)(by decide)(fun K hK=>?_)
        rw [if_pos(by rfl)]
        refine wp_store_row 34 _ _ rfl g11(#[.int .i64 0,.int .i64 0])rfl qz0_ 34(#[.int .i64 0,.int .i64 0])(HI.out.get 3 rfl)(by kernel_rfl)rfl qz12_ ?_
        replace HI:Aside0(Inv w PW_ _ [blk g11 34 #[.int .i64 0,.int .i64 0],row k34 34 w.heap.size ve [] _,blk g9 27 #[.slice Au u0.length cu,.int .i64 u1,.string u2,.int .i64 u3],blk g12 27 #[.slice none 0 0,.int .i64 0,.string(⟨#[]⟩:ByteArray),.int .i64 0],row k34 34 wb.heap.size(.slice Au u0.length cu)u0 S] _):=⟨(HI.out.front 3 rfl).put0(#[.int .i64 0,.int .i64 0])⟩
        generalize World.setRow _ g11(#[.int .i64 0,.int .i64 0])=wz4 at HI ⊢
        refine hK.out _ _⟨(blk_cell((HI.out).get 2 rfl)0).trans rfl,(blk_cell((HI.out).get 2 rfl)1).trans rfl,(blk_cell((HI.out).get 2 rfl)2).trans rfl,(blk_cell((HI.out).get 2 rfl)3).trans rfl⟩(fun hHeld=>?_)
        clear hK K
        refine last_(i:=5)(N:=none)(bs_ 7 63)rfl rfl(by kernel_rfl)(by decide)(fun K hK=>?_)
        rw [if_pos(by rfl)]
        refine wp_store_row 27 _ _ rfl g12(#[.slice Au u0.length cu,.int .i64 u1,.string u2,.int .i64 u3])rfl qz0_ 27(#[.slice none 0 0,.int .i64 0,.string(⟨#[]⟩:ByteArray),.int .i64 0])(HI.out.get 3 rfl)(by kernel_rfl)rfl qz12_ ?_
        replace HI:Aside0(Inv w PW_ _ [blk g12 27 #[.slice Au u0.length cu,.int .i64 u1,.string u2,.int .i64 u3],blk g11 34 #[.int .i64 0,.int .i64 0],row k34 34 w.heap.size ve [] _,blk g9 27 #[.slice Au u0.length cu,.int .i64 u1,.string u2,.int .i64 u3],row k34 34 wb.heap.size(.slice Au u0.length cu)u0 S] _):=⟨(HI.out.front 3 rfl).put0(#[.slice Au u0.length cu,.int .i64 u1,.string u2,.int .i64 u3])⟩
        generalize World.setRow _ g12(#[.slice Au u0.length cu,.int .i64 u1,.string u2,.int .i64 u3])=wz5 at HI ⊢
        refine hK.out _ _ ?_
        clear hK K
        refine pu_ 6 13 (bs_ 7 127) ?_
        refine done_(by kernel_rfl) ?_
        try go_wp2
        refine bodyPost_ret(results_tcct rfl _ _ g11 g12 34 27 #[.int .i64 0,.int .i64 0] #[.slice Au u0.length cu,.int .i64 u1,.string u2,.int .i64 u3](0,0)(0,0)_ _ rfl(HI.out.get 1 rfl)hu34 rfl(by first|exact draw_side _ _|kernel_rfl)rfl(HI.out.get 0 rfl)hu27 rfl(by kernel_rfl))rfl ?_
        have hp_:=HI.out.get 2 rfl
        have hs_:=HI.out.get 4 rfl
        have hd_:=HI.out.disj 2 4(by decide)rfl rfl
        have hn_:=HI.out.newAt 4 rfl
        exact⟨_,_,rfl,Kd.R_mono hp_(fun k hk e=>hd_ k hk(hs_.1 k e.symm)),Kd.R_mono hs_(fun k hk=>⟨(hn_ k hk).symm,fun e=>hd_ k(hp_.1 k e.symm)hk⟩),HI.out.belowP HB.out HPW.out,⟨HI.out.agr.size,HI.out.agr.block⟩⟩

       ·
        go_wp2_with(first|(go_at_call 115;(refine(spec_l08Degree.calls kind d _ HDG.out).mono ?_);rintro e w39⟨rfl,⟨n39,rfl⟩⟩;replace HI:=am_(HI.out.drewN n39);generalize World.drewN _ n39=wn39 at HI ⊢))
        clear hx
        refine start_(n:=9)(S:=fun w'=>w'.cell? ad=some(.int .i64 x.f0)∧w'.cell?⟨ad.block,ad.off + 1,none⟩=some(.int .i64 x.f1)∧w'.cell?⟨ad.block,ad.off + 2,none⟩=some(.int .i64 y.f0)∧w'.cell?⟨ad.block,ad.off + 2 + 1,none⟩=some(.int .i64 y.f1)∧w'.cell?⟨g6,0,none⟩=some(.int .i64 c0)∧w'.cell?⟨g6,1,none⟩=some(.int .i64 c1))(ds:=[])(bs_ 9 0)(by kernel_rfl)rfl rfl⟨(HX.out _((HI.out.drew).now.1.2)).1,(HX.out _((HI.out.drew).now.1.2)).2.1,(HX.out _((HI.out.drew).now.1.2)).2.2.1,(HX.out _((HI.out.drew).now.1.2)).2.2.2,(blk_cell(((HI.out.drew)).get 5 rfl)0).trans rfl,(blk_cell(((HI.out.drew)).get 5 rfl)1).trans rfl⟩(fun hHeld=>?_)
        replace HI:=am_(HI.out.drew)
        generalize World.drew _=wd0 at HI hHeld ⊢
        refine pu_ 0 45 (bs_ 9 1) ?_
        refine pu_ 1 46 (bs_ 9 3) ?_
        refine take_(i:=2)(N:=some 47)(v:=?_)(a':=?_)(bs_ 9 7)rfl rfl(by kernel_rfl)(fun _ _ _ h=>h)(Or.inl⟨(by rfl),?_⟩)hHeld ?_ ?_
        rotate_left
        ·
         rintro w'⟨s_0,s_1,s_2,s_3,s_4,s_5⟩
         go_simp
         with_reducible rfl
        rotate_left
        ·
         exact ap_
        refine pu_ 3 48 (bs_ 9 15) ?_
        refine pu_ 4 49 (bs_ 9 31) ?_
        refine take_(i:=5)(N:=some 50)(v:=?_)(a':=?_)(bs_ 9 63)rfl rfl(by kernel_rfl)(fun _ _ _ h=>h)(Or.inl⟨(by rfl),?_⟩)hHeld ?_ ?_
        rotate_left
        ·
         rintro w'⟨s_0,s_1,s_2,s_3,s_4,s_5⟩
         go_simp
         with_reducible rfl
        rotate_left
        ·
         exact ap_
        refine take_(i:=7)(N:=some 52)(v:=?_)(a':=?_)(bs_ 9 191)rfl rfl(by kernel_rfl)(fun _ _ _ h=>h)(Or.inl⟨(by rfl),?_⟩)hHeld ?_ ?_
        rotate_left
        ·
         rintro w'⟨s_0,s_1,s_2,s_3,s_4,s_5⟩
         go_simp
         with_reducible rfl
        rotate_left
        ·
         exact ap_
        refine one_(i:=6)(N:=some 51)(bs_ 9 255)rfl rfl(by kernel_rfl)(by decide)(fun K hK=>?_)
        refine goes_ Try.func116(by kernel_rfl)rfl #[.agg #[.int .i64 x.f0,.int .i64 x.f1],.agg #[.int .i64 y.f0,.int .i64 y.f1]](by rfl)rfl rfl qz3_ ?_
        with_reducible refine(spec_l02Add.calls x.f0 x.f1 y.f0 y.f1 p0 p1 _ HPL.out).mono ?_
        rintro e w40⟨rfl,hb⟩
        refine⟨_,rfl,?_⟩
        replace HI:=am_(HI.out.grow hb)
        clear hb
        refine hK.out _ _⟨(HX.out _((HI.out).now.1.2)).1,(HX.out _((HI.out).now.1.2)).2.1,(HX.out _((HI.out).now.1.2)).2.2.1,(HX.out _((HI.out).now.1.2)).2.2.2,(blk_cell(((HI.out)).get 5 rfl)0).trans rfl,(blk_cell(((HI.out)).get 5 rfl)1).trans rfl⟩(fun hHeld=>?_)
        clear hK K
        refine norm_(a':=?_) ?_ ?_
        rotate_left
        ·
         show Act.put _(some 51)_=_
         exact ap_
        refine pu_ 8 53 (bs_ 9 511) ?_
        refine done_(by kernel_rfl) ?_
        go_wp2
        replace HI:=am_(HI.out.subL(L':=[blk g9 27 #[.slice Au u0.length cu,.int .i64 u1,.string u2,.int .i64 u3],blk g12 27 #[.slice none 0 0,.int .i64 0,.string(⟨#[]⟩:ByteArray),.int .i64 0],blk g11 34 #[.int .i64 0,.int .i64 0],row k34 34 wb.heap.size(.slice Au u0.length cu)u0 S])qz34_)
        refine start_(n:=7)(S:=fun w'=>w'.cell?⟨g9,0,none⟩=some(.slice Au u0.length cu)∧w'.cell?⟨g9,1,none⟩=some(.int .i64 u1)∧w'.cell?⟨g9,2,none⟩=some(.string u2)∧w'.cell?⟨g9,3,none⟩=some(.int .i64 u3))(ds:=[5])(bs_ 7 0)(by kernel_rfl)rfl rfl⟨(blk_cell((HI.out.drew).get 0 rfl)0).trans rfl,(blk_cell((HI.out.drew).get 0 rfl)1).trans rfl,(blk_cell((HI.out.drew).get 0 rfl)2).trans rfl,(blk_cell((HI.out.drew).get 0 rfl)3).trans rfl⟩(fun hHeld=>?_)
        replace HI:=am_(HI.out.drew)
        generalize World.drew _=wd0 at HI hHeld ⊢
        refine pu_ 1 55 (bs_ 7 2) ?_
        refine take_(i:=2)(N:=some 56)(v:=?_)(a':=?_)(bs_ 7 6)rfl rfl(by kernel_rfl)(fun _ _ _ h=>h)(Or.inl⟨(by rfl),?_⟩)hHeld ?_ ?_
        rotate_left
        ·
         rintro w'⟨s_0,s_1,s_2,s_3⟩
         go_simp
         with_reducible rfl
        rotate_left
        ·
         exact ap_
        refine one_(i:=0)(N:=some 54)(bs_ 7 7)rfl rfl(by kernel_rfl)(by decide)(fun K hK=>?_)
        refine Kd.R_lit_step k34(w0:=_)_ 34 ?hg(N:=54) ?hd(xs:=([]:List S34))(inner:=[])(ok:=fun _=>True)(okp:=fun _=>True) ?hr ?hp(fun _ hk=>hk)trivial(Below.refl _ _)(Nat.le_refl _)(by simp) ?_
        (case hd=>rfl);(case hg=>rfl);(case hr=>first|(go_simp;done)|(go_simp;rfl));(case hp=>exact(Reps.none _ _))
        intro ve we hR hb hg hat
        replace HI:=am_(HI.out.rowPush hb hR)
        clear hR hb hg hat
        refine hK.out _ _⟨(blk_cell((HI.out).get 1 rfl)0).trans rfl,(blk_cell((HI.out).get 1 rfl)1).trans rfl,(blk_cell((HI.out).get 1 rfl)2).trans rfl,(blk_cell((HI.out).get 1 rfl)3).trans rfl⟩(fun hHeld=>?_)
        clear hK K
        refine norm_(a':=?_) ?_ ?_
        rotate_left
        ·
         show Act.put _(some 54)_=_
         exact ap_
        refine pu_ 3 10 (bs_ 7 15) ?_
        refine one_(i:=4)(N:=none)(bs_ 7 31)rfl rfl(by kernel_rfl)(by decide)(fun K hK=>?_)
        rw [if_pos(by rfl)]
        refine wp_store_row 34 _ _ rfl g11(#[.int .i64 0,.int .i64 0])rfl qz0_ 34(#[.int .i64 0,.int .i64 0])(HI.out.get 3 rfl)(by kernel_rfl)rfl qz12_ ?_
        replace HI:Aside0(Inv w PW_ _ [blk g11 34 #[.int .i64 0,.int .i64 0],row k34 34 w.heap.size ve [] _,blk g9 27 #[.slice Au u0.length cu,.int .i64 u1,.string u2,.int .i64 u3],blk g12 27 #[.slice none 0 0,.int .i64 0,.string(⟨#[]⟩:ByteArray),.int .i64 0],row k34 34 wb.heap.size(.slice Au u0.length cu)u0 S] _):=⟨(HI.out.front 3 rfl).put0(#[.int .i64 0,.int .i64 0])⟩
        generalize World.setRow _ g11(#[.int .i64 0,.int .i64 0])=wz4 at HI ⊢
        refine hK.out _ _⟨(blk_cell((HI.out).get 2 rfl)0).trans rfl,(blk_cell((HI.out).get 2 rfl)1).trans rfl,(blk_cell((HI.out).get 2 rfl)2).trans rfl,(blk_cell((HI.out).get 2 rfl)3).trans rfl⟩(fun hHeld=>?_)
        clear hK K
        refine last_(i:=5)(N:=none)(bs_ 7 63)rfl rfl(by kernel_rfl)(by decide)(fun K hK=>?_)
        rw [if_pos(by rfl)]
        refine wp_store_row 27 _ _ rfl g12(#[.slice Au u0.length cu,.int .i64 u1,.string u2,.int .i64 u3])rfl qz0_ 27(#[.slice none 0 0,.int .i64 0,.string(⟨#[]⟩:ByteArray),.int .i64 0])(HI.out.get 3 rfl)(by kernel_rfl)rfl qz12_ ?_
        replace HI:Aside0(Inv w PW_ _ [blk g12 27 #[.slice Au u0.length cu,.int .i64 u1,.string u2,.int .i64 u3],blk g11 34 #[.int .i64 0,.int .i64 0],row k34 34 w.heap.size ve [] _,blk g9 27 #[.slice Au u0.length cu,.int .i64 u1,.string u2,.int .i64 u3],row k34 34 wb.heap.size(.slice Au u0.length cu)u0 S] _):=⟨(HI.out.front 3 rfl).put0(#[.slice Au u0.length cu,.int .i64 u1,.string u2,.int .i64 u3])⟩
        generalize World.setRow _ g12(#[.slice Au u0.length cu,.int .i64 u1,.string u2,.int .i64 u3])=wz5 at HI ⊢
        refine hK.out _ _ ?_
        clear hK K
        refine pu_ 6 13 (bs_ 7 127) ?_
        refine done_(by kernel_rfl) ?_
        try go_wp2
        refine bodyPost_ret(results_tcct rfl _ _ g11 g12 34 27 #[.int .i64 0,.int .i64 0] #[.slice Au u0.length cu,.int .i64 u1,.string u2,.int .i64 u3](0,0)(0,0)_ _ rfl(HI.out.get 1 rfl)hu34 rfl(by first|exact draw_side _ _|kernel_rfl)rfl(HI.out.get 0 rfl)hu27 rfl(by kernel_rfl))rfl ?_
        have hp_:=HI.out.get 2 rfl
        have hs_:=HI.out.get 4 rfl
        have hd_:=HI.out.disj 2 4(by decide)rfl rfl
        have hn_:=HI.out.newAt 4 rfl
        exact⟨_,_,rfl,Kd.R_mono hp_(fun k hk e=>hd_ k hk(hs_.1 k e.symm)),Kd.R_mono hs_(fun k hk=>⟨(hn_ k hk).symm,fun e=>hd_ k(hp_.1 k e.symm)hk⟩),HI.out.belowP HB.out HPW.out,⟨HI.out.agr.size,HI.out.agr.block⟩⟩

     ·
      rw [if_neg ce2] at h;cases h
    ·
     rw [if_neg ce1] at h
     simp only [Option.some.injEq,Prod.mk.injEq] at h
     obtain⟨rfl,rfl,rfl,rfl,rfl,rfl,rfl,rfl⟩:=h
     have f1:((r.length:Int)== wrap64(d + 1))=false:=beq_eq_false_iff_ne.mpr ce1
     have f2:((r.length:Int) != wrap64(d + 1))=true:=bne_iff_ne.mpr ce1
     clear ce1
     go_wp2_with(first|(go_at_call 115;(refine(spec_l08Degree.calls kind d _ HDG.out).mono ?_);rintro e w39⟨rfl,⟨n39,rfl⟩⟩;replace HI:=am_(HI.out.drewN n39);generalize World.drewN _ n39=wn39 at HI ⊢))
     replace HI:=am_(HI.out.subL(L':=[blk g9 27 #[.slice Au u0.length cu,.int .i64 u1,.string u2,.int .i64 u3],blk g12 27 #[.slice none 0 0,.int .i64 0,.string(⟨#[]⟩:ByteArray),.int .i64 0],blk g11 34 #[.int .i64 0,.int .i64 0],row k34 34 wb.heap.size(.slice Au u0.length cu)u0 S])qz34_)
     refine start_(n:=7)(S:=fun w'=>w'.cell?⟨g9,0,none⟩=some(.slice Au u0.length cu)∧w'.cell?⟨g9,1,none⟩=some(.int .i64 u1)∧w'.cell?⟨g9,2,none⟩=some(.string u2)∧w'.cell?⟨g9,3,none⟩=some(.int .i64 u3))(ds:=[5])(bs_ 7 0)(by kernel_rfl)rfl rfl⟨(blk_cell((HI.out.drew).get 0 rfl)0).trans rfl,(blk_cell((HI.out.drew).get 0 rfl)1).trans rfl,(blk_cell((HI.out.drew).get 0 rfl)2).trans rfl,(blk_cell((HI.out.drew).get 0 rfl)3).trans rfl⟩(fun hHeld=>?_)
     replace HI:=am_(HI.out.drew)
     generalize World.drew _=wd0 at HI hHeld ⊢
     refine pu_ 1 43 (bs_ 7 2) ?_
     refine take_(i:=2)(N:=some 44)(v:=?_)(a':=?_)(bs_ 7 6)rfl rfl(by kernel_rfl)(fun _ _ _ h=>h)(Or.inl⟨(by rfl),?_⟩)hHeld ?_ ?_
     rotate_left
     ·
      rintro w'⟨s_0,s_1,s_2,s_3⟩
      go_simp
      with_reducible rfl
     rotate_left
     ·
      exact ap_
     refine one_(i:=0)(N:=some 42)(bs_ 7 7)rfl rfl(by kernel_rfl)(by decide)(fun K hK=>?_)
     refine Kd.R_lit_step k34(w0:=_)_ 34 ?hg(N:=42) ?hd(xs:=([]:List S34))(inner:=[])(ok:=fun _=>True)(okp:=fun _=>True) ?hr ?hp(fun _ hk=>hk)trivial(Below.refl _ _)(Nat.le_refl _)(by simp) ?_
     (case hd=>rfl);(case hg=>rfl);(case hr=>first|(go_simp;done)|(go_simp;rfl));(case hp=>exact(Reps.none _ _))
     intro ve we hR hb hg hat
     replace HI:=am_(HI.out.rowPush hb hR)
     clear hR hb hg hat
     refine hK.out _ _⟨(blk_cell((HI.out).get 1 rfl)0).trans rfl,(blk_cell((HI.out).get 1 rfl)1).trans rfl,(blk_cell((HI.out).get 1 rfl)2).trans rfl,(blk_cell((HI.out).get 1 rfl)3).trans rfl⟩(fun hHeld=>?_)
     clear hK K
     refine norm_(a':=?_) ?_ ?_
     rotate_left
     ·
      show Act.put _(some 42)_=_
      exact ap_
     refine pu_ 3 10 (bs_ 7 15) ?_
     refine one_(i:=4)(N:=none)(bs_ 7 31)rfl rfl(by kernel_rfl)(by decide)(fun K hK=>?_)
     rw [if_pos(by rfl)]
     refine wp_store_row 34 _ _ rfl g11(#[.int .i64 0,.int .i64 0])rfl qz0_ 34(#[.int .i64 0,.int .i64 0])(HI.out.get 3 rfl)(by kernel_rfl)rfl qz12_ ?_
     replace HI:Aside0(Inv w PW_ _ [blk g11 34 #[.int .i64 0,.int .i64 0],row k34 34 w.heap.size ve [] _,blk g9 27 #[.slice Au u0.length cu,.int .i64 u1,.string u2,.int .i64 u3],blk g12 27 #[.slice none 0 0,.int .i64 0,.string(⟨#[]⟩:ByteArray),.int .i64 0],row k34 34 wb.heap.size(.slice Au u0.length cu)u0 S] _):=⟨(HI.out.front 3 rfl).put0(#[.int .i64 0,.int .i64 0])⟩
     generalize World.setRow _ g11(#[.int .i64 0,.int .i64 0])=wz4 at HI ⊢
     refine hK.out _ _⟨(blk_cell((HI.out).get 2 rfl)0).trans rfl,(blk_cell((HI.out).get 2 rfl)1).trans rfl,(blk_cell((HI.out).get 2 rfl)2).trans rfl,(blk_cell((HI.out).get 2 rfl)3).trans rfl⟩(fun hHeld=>?_)
     clear hK K
     refine last_(i:=5)(N:=none)(bs_ 7 63)rfl rfl(by kernel_rfl)(by decide)(fun K hK=>?_)
     rw [if_pos(by rfl)]
     refine wp_store_row 27 _ _ rfl g12(#[.slice Au u0.length cu,.int .i64 u1,.string u2,.int .i64 u3])rfl qz0_ 27(#[.slice none 0 0,.int .i64 0,.string(⟨#[]⟩:ByteArray),.int .i64 0])(HI.out.get 3 rfl)(by kernel_rfl)rfl qz12_ ?_
     replace HI:Aside0(Inv w PW_ _ [blk g12 27 #[.slice Au u0.length cu,.int .i64 u1,.string u2,.int .i64 u3],blk g11 34 #[.int .i64 0,.int .i64 0],row k34 34 w.heap.size ve [] _,blk g9 27 #[.slice Au u0.length cu,.int .i64 u1,.string u2,.int .i64 u3],row k34 34 wb.heap.size(.slice Au u0.length cu)u0 S] _):=⟨(HI.out.front 3 rfl).put0(#[.slice Au u0.length cu,.int .i64 u1,.string u2,.int .i64 u3])⟩
     generalize World.setRow _ g12(#[.slice Au u0.length cu,.int .i64 u1,.string u2,.int .i64 u3])=wz5 at HI ⊢
     refine hK.out _ _ ?_
     clear hK K
     refine pu_ 6 13 (bs_ 7 127) ?_
     refine done_(by kernel_rfl) ?_
     try go_wp2
     refine bodyPost_ret(results_tcct rfl _ _ g11 g12 34 27 #[.int .i64 0,.int .i64 0] #[.slice Au u0.length cu,.int .i64 u1,.string u2,.int .i64 u3](0,0)(0,0)_ _ rfl(HI.out.get 1 rfl)hu34 rfl(by first|exact draw_side _ _|kernel_rfl)rfl(HI.out.get 0 rfl)hu27 rfl(by kernel_rfl))rfl ?_
     have hp_:=HI.out.get 2 rfl
     have hs_:=HI.out.get 4 rfl
     have hd_:=HI.out.disj 2 4(by decide)rfl rfl
     have hn_:=HI.out.newAt 4 rfl
     exact⟨_,_,rfl,Kd.R_mono hp_(fun k hk e=>hd_ k hk(hs_.1 k e.symm)),Kd.R_mono hs_(fun k hk=>⟨(hn_ k hk).symm,fun e=>hd_ k(hp_.1 k e.symm)hk⟩),HI.out.belowP HB.out HPW.out,⟨HI.out.agr.size,HI.out.agr.block⟩⟩
 ·
  rw [if_neg cv] at h
  simp only [Option.some.injEq,Prod.mk.injEq] at h
  obtain⟨rfl,rfl,rfl,rfl,rfl,rfl,rfl,rfl⟩:=h
  have f1:((l2.length:Int)== vars)=false:=beq_eq_false_iff_ne.mpr cv
  have f2:((l2.length:Int) != vars)=true:=bne_iff_ne.mpr cv
  have f3:=eq_false cv
  clear cv
  go_enter Try.func75,Try.ntmps75
  go_wp2_with(first|((with_reducible refine gate_dst(N:=6)rfl ?_);refine box_event rfl(N:=6)rfl(cs:=#[.int .i64 c0,.int .i64 c1])(t:=34)bx_ ?_;intro g6 hg w6_ hbox hb;replace HI:=am_((HI.out).box hg hbox hb);clear hb hbox hg)|((with_reducible refine gate_dst(N:=9)rfl ?_);refine box_event rfl(N:=9)rfl(cs:=#[.slice Au u0.length cu,.int .i64 u1,.string u2,.int .i64 u3])(t:=27)bx_ ?_;intro g9 hg w9_ hbox hb;replace HI:=am_((HI.out).box hg hbox hb);clear hb hbox hg)|((with_reducible refine gate_dst(N:=11)rfl ?_);refine box_event rfl(N:=11)rfl(cs:=#[.int .i64 0,.int .i64 0])(t:=34)bx_ ?_;intro g11 hg w11_ hbox hb;replace HI:=am_((HI.out).box hg hbox hb);clear hb hbox hg)|((with_reducible refine gate_dst(N:=12)rfl ?_);refine box_event rfl(N:=12)rfl(cs:=#[.slice none 0 0,.int .i64 0,.string(⟨#[]⟩:ByteArray),.int .i64 0])(t:=27)bx_ ?_;intro g12 hg w12_ hbox hb;replace HI:=am_((HI.out).box hg hbox hb);clear hb hbox hg))
  replace HI:=am_(HI.out.front 2 rfl)
  replace HI:=am_(HI.out.subL(L':=[blk g9 27 #[.slice Au u0.length cu,.int .i64 u1,.string u2,.int .i64 u3],blk g12 27 #[.slice none 0 0,.int .i64 0,.string(⟨#[]⟩:ByteArray),.int .i64 0],blk g11 34 #[.int .i64 0,.int .i64 0],row k34 34 wb.heap.size(.slice Au u0.length cu)u0 PW_])qz34_)
  refine start_(n:=7)(S:=fun w'=>w'.cell?⟨g9,0,none⟩=some(.slice Au u0.length cu)∧w'.cell?⟨g9,1,none⟩=some(.int .i64 u1)∧w'.cell?⟨g9,2,none⟩=some(.string u2)∧w'.cell?⟨g9,3,none⟩=some(.int .i64 u3))(ds:=[5])(bs_ 7 0)(by kernel_rfl)rfl rfl⟨(blk_cell((HI.out.drew).get 0 rfl)0).trans rfl,(blk_cell((HI.out.drew).get 0 rfl)1).trans rfl,(blk_cell((HI.out.drew).get 0 rfl)2).trans rfl,(blk_cell((HI.out.drew).get 0 rfl)3).trans rfl⟩(fun hHeld=>?_)
  replace HI:=am_(HI.out.drew)
  generalize World.drew _=wd0 at HI hHeld ⊢
  refine pu_ 1 24 (bs_ 7 2) ?_
  refine take_(i:=2)(N:=some 25)(v:=?_)(a':=?_)(bs_ 7 6)rfl rfl(by kernel_rfl)(fun _ _ _ h=>h)(Or.inl⟨(by rfl),?_⟩)hHeld ?_ ?_
  rotate_left
  ·
   rintro w'⟨s_0,s_1,s_2,s_3⟩
   go_simp
   with_reducible rfl
  rotate_left
  ·
   exact ap_
  refine one_(i:=0)(N:=some 23)(bs_ 7 7)rfl rfl(by kernel_rfl)(by decide)(fun K hK=>?_)
  refine Kd.R_lit_step k34(w0:=_)_ 34 ?hg(N:=23) ?hd(xs:=([]:List S34))(inner:=[])(ok:=fun _=>True)(okp:=fun _=>True) ?hr ?hp(fun _ hk=>hk)trivial(Below.refl _ _)(Nat.le_refl _)(by simp) ?_
  (case hd=>rfl);(case hg=>rfl);(case hr=>first|(go_simp;done)|(go_simp;rfl));(case hp=>exact(Reps.none _ _))
  intro ve we hR hb hg hat
  replace HI:=am_(HI.out.rowPush hb hR)
  clear hR hb hg hat
  refine hK.out _ _⟨(blk_cell((HI.out).get 1 rfl)0).trans rfl,(blk_cell((HI.out).get 1 rfl)1).trans rfl,(blk_cell((HI.out).get 1 rfl)2).trans rfl,(blk_cell((HI.out).get 1 rfl)3).trans rfl⟩(fun hHeld=>?_)
  clear hK K
  refine norm_(a':=?_) ?_ ?_
  rotate_left
  ·
   show Act.put _(some 23)_=_
   exact ap_
  refine pu_ 3 10 (bs_ 7 15) ?_
  refine one_(i:=4)(N:=none)(bs_ 7 31)rfl rfl(by kernel_rfl)(by decide)(fun K hK=>?_)
  rw [if_pos(by rfl)]
  refine wp_store_row 34 _ _ rfl g11(#[.int .i64 0,.int .i64 0])rfl qz0_ 34(#[.int .i64 0,.int .i64 0])(HI.out.get 3 rfl)(by kernel_rfl)rfl qz12_ ?_
  replace HI:Aside0(Inv w PW_ _ [blk g11 34 #[.int .i64 0,.int .i64 0],row k34 34 w.heap.size ve [] _,blk g9 27 #[.slice Au u0.length cu,.int .i64 u1,.string u2,.int .i64 u3],blk g12 27 #[.slice none 0 0,.int .i64 0,.string(⟨#[]⟩:ByteArray),.int .i64 0],row k34 34 wb.heap.size(.slice Au u0.length cu)u0 PW_] _):=⟨(HI.out.front 3 rfl).put0(#[.int .i64 0,.int .i64 0])⟩
  generalize World.setRow _ g11(#[.int .i64 0,.int .i64 0])=wz4 at HI ⊢
  refine hK.out _ _⟨(blk_cell((HI.out).get 2 rfl)0).trans rfl,(blk_cell((HI.out).get 2 rfl)1).trans rfl,(blk_cell((HI.out).get 2 rfl)2).trans rfl,(blk_cell((HI.out).get 2 rfl)3).trans rfl⟩(fun hHeld=>?_)
  clear hK K
  refine last_(i:=5)(N:=none)(bs_ 7 63)rfl rfl(by kernel_rfl)(by decide)(fun K hK=>?_)
  rw [if_pos(by rfl)]
  refine wp_store_row 27 _ _ rfl g12(#[.slice Au u0.length cu,.int .i64 u1,.string u2,.int .i64 u3])rfl qz0_ 27(#[.slice none 0 0,.int .i64 0,.string(⟨#[]⟩:ByteArray),.int .i64 0])(HI.out.get 3 rfl)(by kernel_rfl)rfl qz12_ ?_
  replace HI:Aside0(Inv w PW_ _ [blk g12 27 #[.slice Au u0.length cu,.int .i64 u1,.string u2,.int .i64 u3],blk g11 34 #[.int .i64 0,.int .i64 0],row k34 34 w.heap.size ve [] _,blk g9 27 #[.slice Au u0.length cu,.int .i64 u1,.string u2,.int .i64 u3],row k34 34 wb.heap.size(.slice Au u0.length cu)u0 PW_] _):=⟨(HI.out.front 3 rfl).put0(#[.slice Au u0.length cu,.int .i64 u1,.string u2,.int .i64 u3])⟩
  generalize World.setRow _ g12(#[.slice Au u0.length cu,.int .i64 u1,.string u2,.int .i64 u3])=wz5 at HI ⊢
  refine hK.out _ _ ?_
  clear hK K
  refine pu_ 6 13 (bs_ 7 127) ?_
  refine done_(by kernel_rfl) ?_
  try go_wp2
  refine bodyPost_ret(results_tcct rfl _ _ g11 g12 34 27 #[.int .i64 0,.int .i64 0] #[.slice Au u0.length cu,.int .i64 u1,.string u2,.int .i64 u3](0,0)(0,0)_ _ rfl(HI.out.get 1 rfl)hu34 rfl(by first|exact draw_side _ _|kernel_rfl)rfl(HI.out.get 0 rfl)hu27 rfl(by kernel_rfl))rfl ?_
  have hp_:=HI.out.get 2 rfl
  have hs_:=HI.out.get 4 rfl
  have hd_:=HI.out.disj 2 4(by decide)rfl rfl
  have hn_:=HI.out.newAt 4 rfl
  exact⟨_,_,rfl,Kd.R_mono hp_(fun k hk e=>hd_ k hk(hs_.1 k e.symm)),Kd.R_mono hs_(fun k hk=>⟨(hn_ k hk).symm,fun e=>hd_ k(hp_.1 k e.symm)hk⟩),HI.out.belowP HB.out HPW.out,⟨HI.out.agr.size,HI.out.agr.block⟩⟩
theorem spec_l08Verify.calls(k:Nat)(kind c0 c1:Int)(A2:Option Addr)(cap2:Nat)(l2:List(List S34))(vars:Int)(P0:Nat→Prop)(us:Value)(u0:List S34)(u1:Int)(u2:ByteArray)(u3:Int)(r1:List S34)(r2 r3 r4:Int)(r5:List S34)(r6:Int)(r7:ByteArray)(r8:Int)(wb w:World)(hB:Below wb.heap.size wb w)(ho:Kd.R k34 34 w wb.heap.size P0 us u0)(hr2:∀ W_,Agr w W_(fun k=>some k=us.ownBlock)→Kd.C(Kd.slice 34 k34)W_ A2 l2.length l2)(h:spec_l08Verify.f k kind c0 c1 l2 vars u0 u1 u2 u3=some(r1,r2,r3,r4,r5,r6,r7,r8)):
  Calls Try.prog 75 #[.int .i64 kind,.agg #[.int .i64 c0,.int .i64 c1],.slice A2 l2.length cap2,.int .i64 vars,.agg #[us,.int .i64 u1,.string u2,.int .i64 u3]] w fun e w'=>∃ v0_ v3_:Value,e=.returned(.tuple #[v0_,.agg #[.int .i64 r2,.int .i64 r3],.agg #[v3_,.int .i64 r6,.string r7,.int .i64 r8],.int .i64 r4])∧Kd.R k34 34 w' w.heap.size(fun k_=>some k_≠v3_.ownBlock)v0_ r1∧Kd.R k34 34 w' wb.heap.size(fun k_=>(some k_=us.ownBlock∨w.heap.size≤k_)∧some k_≠v0_.ownBlock)v3_ r5∧Below wb.heap.size wb w'∧Kept w w'(fun k=>some k=us.ownBlock):=by
 obtain⟨Au,cu,eu⟩:=Kd.R_slice ho
 subst eu
 exact spec_l08Verify.walk k kind c0 c1 A2 cap2 l2 vars _ Au cu u0 u1 u2 u3 r1 r2 r3 r4 r5 r6 r7 r8 wb w hB(Inv.startR(d:=k34)rfl ho(fun w2=>Kd.C(Kd.slice 34 k34)w2 A2 l2.length l2)hr2)(fun k hk=>Kd.R_base ho k hk.symm)(hr2 w(Agr.refl _ _)).2.1 h
end Go.Proofs.Ytgookagndlfehaa.PT
end
section
/- Own parts of memory that hang on what has come up. -/
namespace Go.Proofs.Ytgookagndlfehaa.PT
open Go Go.RowKit Go.Proofs.YtgookagndlfehaaW.PrintWords Go.Proofs.YtgookagndlfehaaW.PrintLast Go.Proofs.YtgookagndlfehaaW.PrintMore
set_option linter.unusedVariables false
set_option linter.unusedSimpArgs false
def gif(c:Bool)(g:Grp):Grp:=⟨fun k=>c=true∧g.S k,fun w=>c=true→g.A w⟩
namespace Inv
variable {w0 w w1:World} {P:Nat→Prop} {L:List Grp} {F:World→Prop}
theorem head {b:Grp} (h:Inv w0 P w(b::L)F)(b':Grp)(hS:∀ k,b'.S k→b.S k)(hA:∀ w',(∀ k,b'.S k→w'.heap[k]?=w.heap[k]?)→b'.A w'):Inv w0 P w(b'::L)F:=
 h.step(Agr.refl _ _)b'(fun k hk=>⟨.inl(hS k hk),h.lt b List.mem_cons_self k(hS k hk)⟩)hA
theorem off(h:Inv w0 P w L F){g:Grp}:Inv w0 P w(gif false g::L)F:=
 h.push(Below.refl _ _)_(fun _ h=>by cases h.1)(fun _ _ h=>by cases h)
theorem cellsEq {g:Nat} {t:TypeId} {cs cs':Array Value} (h:Inv w0 P w(blk g t cs::L)F)(e:cs'=cs):Inv w0 P w(blk g t cs'::L)F:=e ▸ h
theorem perm_set {L:List Grp} {i:Nat} {x:Grp} (y:Grp)(hx:L[i]?=some x):(L.set i y).Perm(y::L.eraseIdx i):=by
 have hl:=(List.getElem?_eq_some_iff.1 hx).1
 have h1:(L.set i y)[i]?=some y:=by simp [hl]
 have h2:=perm_erase(L.set i y)i y h1
 rw [List.eraseIdx_set_eq] at h2
 exact h2
theorem fill(c:Bool){g:Grp} (h:Inv w0 P w(g::L)F)(i:Nat)(hi:Nat.ble(i + 1)L.length=true):Inv w0 P w(L.set i(gif c g))F:=by
 have hl:i<L.length:=Nat.le_of_ble_eq_true hi
 have hx:L[i]?=some L[i]:=List.getElem?_eq_getElem hl
 have h1:=h.perm((perm_erase L i L[i] hx).cons g)
 have h2:=h1.swap.drop
 have h3:=h2.head(gif c g)(fun k hk=>hk.2)(fun w' hw hc=>h2.own g List.mem_cons_self w'(fun k hk=>hw k⟨hc,hk⟩))
 exact h3.perm(perm_set _ hx).symm
theorem take {c:Bool} {g:Grp} (h:Inv w0 P w L F)(i:Nat)(hx:L[i]?=some(gif c g))(hc:c=true):Inv w0 P w(g::L.set i(gif false g))F:=by
 subst hc
 have h1:=h.perm(perm_erase L i _ hx)
 have h2:=h1.head g(fun k hk=>⟨rfl,hk⟩)(fun w' hw=>h1.own _ List.mem_cons_self w'(fun k hk=>hw k hk.2)rfl)
 exact(h2.off(g:=g)).perm((List.Perm.swap _ _ _).trans((perm_set _ hx).symm.cons g))
theorem at_(h:Inv w0 P w L F)(b:Grp)(hb:b∈L):b.A w:=h.own b hb w(fun _ _=>rfl)
theorem ownOther {W:World} {T:Nat→Prop} {a:Grp} (h:Inv w0 P w(a::L)F)(ha:Agr w W T)(hT:∀ k,T k→a.S k)(b:Grp)(hb:b∈L):b.A W:=
 h.own b(List.mem_cons_of_mem _ hb)W(fun k hk=>ha.block k(h.lt b(List.mem_cons_of_mem _ hb)k hk)(fun ht=>(List.pairwise_cons.1 h.dis).1 b hb k(hT k ht)hk))
theorem allocBox(h:Inv w0 P w L F)(t:TypeId)(cs:Array Value):Inv w0 P(w.alloc(.cells cs t))(blk w.heap.size t cs::L)F:=h.box rfl(show(w.heap.push(.cells cs t))[w.heap.size]?=_ from Array.getElem?_push_size)(below_alloc(Below.refl _ _)_)
theorem nil0(h:Inv w0 P w L F):Inv w0 P w(⟨fun _=>False,fun _=>True⟩::L)F:=h.push(Below.refl _ _)_(fun _ h=>h.elim)(fun _ _=>trivial)
theorem lose {b:Grp} (h:Inv w0 P w(b::L)F)(hA:Agr w w1 b.S):Inv w0 P w1 L F:=(h.step hA⟨fun _=>False,fun _=>True⟩(fun _ h=>h.elim)(fun _ _=>trivial)).drop
theorem rowAt {α:Type} {d:Kd α} {e b:Nat} {v:Value} {xs:List α} {S:Nat→Prop} (h:Inv w0 P w L F)(hb:row d e b v xs S∈L):d.R e w b S v xs:=h.at_ _ hb
end Inv
theorem Agr.of_kept {w0 w w1:World} {S T:Nat→Prop} (hk:Kept w w1 S)(hb:Below w0.heap.size w0 w)(hb':Below w0.heap.size w0 w1)(hT:∀ k,S k→T k):Agr w w1 T:=
 ⟨hb'.os.trans hb.os.symm,hb'.tape.trans hb.tape.symm,hb'.output.trans hb.output.symm,hk.1,fun k hlt hn=>hk.2 k hlt(fun hs=>hn(hT k hs))⟩
def spec_l01In.f(a0:Int)(a1:Int)(a2:Int):Option(Bool):=if a1≤a0 then(some(decide(a0≤a2)))else(some false)
set_option maxHeartbeats 8000000 in
set_option maxRecDepth 100000 in
theorem spec_l01In.calls(a0:Int)(a1:Int)(a2:Int)(r:Bool)(w:World)(h:spec_l01In.f a0 a1 a2=some r):
  Calls Try.prog 61 #[.int .i64 a0,.int .i64 a1,.int .i64 a2] w fun e w'=>e=.returned(.bool r)∧Drawn0 w w':=by
 have H:(if a1≤a0 then(some(decide(a0≤a2)))else(some false))=some r:=h
 clear h
 by_cases c4:a1≤a0
 ·
  rw [if_pos c4] at H
  have c4b0:decide(a1≤a0)=true:=decide_eq_true c4
  clear c4
  obtain rfl:=Option.some.inj H
  go_enter Try.func61,Try.ntmps61
  go_wp2
  go_ret
  exact⟨qz10_,qz2_⟩
 ·
  rw [if_neg c4] at H
  have c4b0:decide(a1≤a0)=false:=decide_eq_false c4
  clear c4
  obtain rfl:=Option.some.inj H
  go_enter Try.func61,Try.ntmps61
  go_wp2
  go_ret
  exact⟨qz10_,qz2_⟩

def spec_FieldOK.f(a0:Int):Option(Bool):=(spec_l01In.f a0 0 2130706432).bind fun t101=>(some t101)
set_option maxHeartbeats 8000000 in
set_option maxRecDepth 100000 in
theorem spec_FieldOK.calls(a0:Int)(r:Bool)(w:World)(h:spec_FieldOK.f a0=some r):
  Calls Try.prog 114 #[.int .i64 a0] w fun e w'=>e=.returned(.bool r)∧Drawn0 w w':=by
 have H:((spec_l01In.f a0 0 2130706432).bind fun t101=>(some t101))=some r:=h
 clear h
 replace H:=Option.bind_eq_some_iff.mp H
 obtain⟨t101,A20,H⟩:=H
 replace H:(some t101)=some r:=H
 have A2:=am_ A20
 clear A20
 obtain rfl:=Option.some.inj H
 go_enter Try.func114,Try.ntmps114
 go_wp2_with(first|((with_reducible refine gate_callee(f:=61)rfl ?_);refine goesL_(some 4)rfl rfl Try.func61(by kernel_rfl)rfl #[.int .i64 a0,.int .i64 0,.int .i64 2130706432] rfl qz18_ ?_;(with_reducible refine(spec_l01In.calls a0 0 2130706432 t101 _ A2.out).mono ?_);rintro e w'⟨rfl,⟨nd,rfl⟩⟩;refine⟨_,rfl,?_⟩))
 go_ret
 exact⟨qz10_,qz2_⟩

def spec_ExtOK.f(a0_0:Int)(a0_1:Int):Option(Bool):=(spec_FieldOK.f a0_0).bind fun t102=>(if t102=true then((spec_FieldOK.f a0_1).bind fun t103=>(some t103))else(some false))
set_option maxHeartbeats 8000000 in
set_option maxRecDepth 100000 in
theorem spec_ExtOK.calls(a0_0:Int)(a0_1:Int)(r:Bool)(w:World)(h:spec_ExtOK.f a0_0 a0_1=some r):
  Calls Try.prog 71 #[.agg #[.int .i64 a0_0,.int .i64 a0_1]] w fun e w'=>e=.returned(.bool r)∧Below w.heap.size w w':=by
 have hu34:=Try.underlying34
 have HB:=am_(Below.refl w.heap.size w)
 have H:((spec_FieldOK.f a0_0).bind fun t102=>(if t102=true then((spec_FieldOK.f a0_1).bind fun t103=>(some t103))else(some false)))=some r:=h
 clear h
 replace H:=Option.bind_eq_some_iff.mp H
 obtain⟨t102,A20,H⟩:=H
 replace H:(if t102=true then((spec_FieldOK.f a0_1).bind fun t103=>(some t103))else(some false))=some r:=H
 have A2:=am_ A20
 clear A20
 by_cases c3:t102=true
 ·
  subst c3
  have H1:((spec_FieldOK.f a0_1).bind fun t103=>(some t103))=some r:=by rw [if_pos rfl] at H;exact H
  clear H
  have H:=H1
  clear H1
  replace H:=Option.bind_eq_some_iff.mp H
  obtain⟨t103,A40,H⟩:=H
  replace H:(some t103)=some r:=H
  have A4:=am_ A40
  clear A40
  obtain rfl:=Option.some.inj H
  go_enter Try.func71,Try.ntmps71
  go_wp2_with(first|((with_reducible refine gate_dst(N:=1)rfl ?_);refine box_event rfl(N:=1)rfl(cs:=#[.int .i64 a0_0,.int .i64 a0_1])(t:=34)bx_ ?_;intro gb101 hg w5 hbox hb;have n0_:=am_(below_step qz4_ hb);have n1_:=am_(hbox);have n2_:=am_((by rw [hg];exact(below_size qz4_):w.heap.size≤gb101));have n3_:=am_((by rw [hg];exact(below_size qz4_):w.heap.size≤gb101));clear HB;have HB:=n0_;have BK101:=n1_;have GW101:=n2_;have GE101:=n3_;clear n0_ n1_ n2_ n3_;clear hb hbox hg;have hcz6_0:w5.cell?⟨gb101,0,none⟩=some(.int .i64 a0_0):=(blk_cell BK101.out 0).trans rfl;have hcz6_1:w5.cell?⟨gb101,1,none⟩=some(.int .i64 a0_1):=(blk_cell BK101.out 1).trans rfl;have hfz6_0:=blk_frozen BK101.out 0;have hfz6_1:=blk_frozen BK101.out 1)|((with_reducible refine gate_callee(f:=114)rfl ?_);refine goesL_(some 5)rfl rfl Try.func114(by kernel_rfl)rfl #[.int .i64 a0_0] rfl qz18_ ?_;(with_reducible refine(spec_FieldOK.calls a0_0 true _ A2.out).mono ?_);rintro e w'⟨rfl,⟨nd,rfl⟩⟩;refine⟨_,rfl,?_⟩)|(go_at_call 114;(with_reducible refine(spec_FieldOK.calls a0_1 t103 _ A4.out).mono ?_);rintro e w'⟨rfl,⟨nd,rfl⟩⟩))
  go_ret
  exact⟨qz8_,qz14_⟩
 ·
  replace c3:=Bool.eq_false_iff.mpr c3
  subst c3
  have H1:(some false)=some r:=by rw [if_neg(show ¬(false=true)by decide)] at H;exact H
  clear H
  have H:=H1
  clear H1
  obtain rfl:=Option.some.inj H
  go_enter Try.func71,Try.ntmps71
  go_wp2_with(first|((with_reducible refine gate_dst(N:=1)rfl ?_);refine box_event rfl(N:=1)rfl(cs:=#[.int .i64 a0_0,.int .i64 a0_1])(t:=34)bx_ ?_;intro gb101 hg w7 hbox hb;have n0_:=am_(below_step qz4_ hb);have n1_:=am_(hbox);have n2_:=am_((by rw [hg];exact(below_size qz4_):w.heap.size≤gb101));have n3_:=am_((by rw [hg];exact(below_size qz4_):w.heap.size≤gb101));clear HB;have HB:=n0_;have BK101:=n1_;have GW101:=n2_;have GE101:=n3_;clear n0_ n1_ n2_ n3_;clear hb hbox hg;have hcz8_0:w7.cell?⟨gb101,0,none⟩=some(.int .i64 a0_0):=(blk_cell BK101.out 0).trans rfl;have hcz8_1:w7.cell?⟨gb101,1,none⟩=some(.int .i64 a0_1):=(blk_cell BK101.out 1).trans rfl;have hfz8_0:=blk_frozen BK101.out 0;have hfz8_1:=blk_frozen BK101.out 1)|((with_reducible refine gate_callee(f:=114)rfl ?_);refine goesL_(some 5)rfl rfl Try.func114(by kernel_rfl)rfl #[.int .i64 a0_0] rfl qz18_ ?_;(with_reducible refine(spec_FieldOK.calls a0_0 false _ A2.out).mono ?_);rintro e w'⟨rfl,⟨nd,rfl⟩⟩;refine⟨_,rfl,?_⟩))
  go_ret
  exact⟨qz8_,qz14_⟩

def spec_l02List.l0:Nat→List(S34)→Int→Option(Bool)
 | 0,_,_=>none
 | k + 1,x0,x3=>if x3<(x0.length:Int)then(if 0≤x3 then((spec_ExtOK.f((rd_T34 x0 x3).f0)((rd_T34 x0 x3).f1)).bind fun t102=>(if t102=true then(spec_l02List.l0 k x0(wrap64(x3 + 1)))else(some false)))else(none))else(some true)
def spec_l02List.f(k:Nat)(l0:List(S34)):Option(Bool):=spec_l02List.l0 k l0 0
set_option maxHeartbeats 8000000 in
set_option maxRecDepth 100000 in
theorem spec_l02List.calls(k:Nat)(A0:Option Addr)(c0:Nat)(l0:List(S34))(r:Bool)(w:World)(hr0:Kd.C k34 w A0 l0.length l0)(hc0:l0.length≤c0)(h:spec_l02List.f k l0=some r):
  Calls Try.prog 102 #[.slice A0 l0.length c0] w fun e w'=>e=.returned(.bool r)∧Below w.heap.size w w':=by
 have hu34:=Try.underlying34
 have HR0:=am_ hr0
 have HC0:=am_ hc0
 clear hr0 hc0
 have HB:=am_(Below.refl w.heap.size w)
 have H:(spec_l02List.l0 k l0 0)=some r:=h
 clear h
 have H':=am_ H
 clear H
 go_enter Try.func102,Try.ntmps102
 go_wp2
 go_loopg [3] k(fun kq v3 w'=>∃ (x3_1:Int),v3=.int .i64 x3_1∧Aside0(spec_l02List.l0 kq l0 x3_1=some r)∧Aside0(kq≤k)∧Aside0(Below w.heap.size w w'))
 case atStart=>exact⟨(0),qz10_,H',⟨Nat.le_refl _⟩,⟨qz4_⟩⟩
 case round=>
  clear H'
  try clear c1
  obtain⟨x3_1,rfl,HA,HK1,HB⟩:=hrel
  cases gk with
  | zero=>exact absurd HA.out(by simp [spec_l02List.l0])
  | succ k1=>
   have H:=HA.out
   clear HA
   simp only [spec_l02List.l0] at H
   by_cases c2:x3_1<(l0.length:Int)
   ·
    rw [if_pos c2] at H
    have c2b0:decide(x3_1<(l0.length:Int))=true:=decide_eq_true c2
    clear c2
    by_cases c3:0≤x3_1
    ·
     rw [if_pos c3] at H
     have c3b0:decide(0≤x3_1)=true:=decide_eq_true c3
     clear c3
     replace H:=Option.bind_eq_some_iff.mp H
     obtain⟨t102,A40,H⟩:=H
     replace H:(if t102=true then(spec_l02List.l0 k1 l0(wrap64(x3_1 + 1)))else(some false))=some r:=H
     have A4:=am_ A40
     clear A40
     by_cases c5:t102=true
     ·
      subst c5
      have H1:(spec_l02List.l0 k1 l0(wrap64(x3_1 + 1)))=some r:=by rw [if_pos rfl] at H;exact H
      clear H
      have H:=H1
      clear H1
      have H':=am_ H
      clear H
      have p101:0≤(x3_1:Int):=of_decide_eq_true qz11_
      have q101:x3_1<(l0.length:Int):=of_decide_eq_true qz11_
      obtain⟨ad101,e101,hx101_0,hx101_1⟩:=at_T34 HR0.out x3_1 p101 q101
      cases e101
      replace hx101_0:=(HB.out.cell(World.block_lt_of_cell? w _ hx101_0)).trans hx101_0
      replace hx101_1:=(HB.out.cell(World.block_lt_of_cell? w _ hx101_1)).trans hx101_1
      replace p101:=eq_true p101
      replace q101:=eq_true q101
      go_wp2_with(first|((with_reducible refine gate_callee(f:=71)rfl ?_);refine goesL_(some 14)rfl rfl Try.func71(by kernel_rfl)rfl #[.agg #[.int .i64((rd_T34 l0 x3_1).f0),.int .i64((rd_T34 l0 x3_1).f1)]] rfl qz18_ ?_;(with_reducible refine(spec_ExtOK.calls((rd_T34 l0 x3_1).f0)((rd_T34 l0 x3_1).f1)true _ A4.out).mono ?_);rintro e w6⟨rfl,hb⟩;refine⟨_,rfl,?_⟩;have n0_:=am_(below_step qz4_ hb);clear HB;have HB:=n0_;clear n0_;(try clear hb);(try clear hb2);(try clear hk);(try clear hi)))
      go_roundg k1
      case measure=>have:=HK1.out;omega
      case rel=>exact⟨(wrap64(x3_1 + 1)),qz10_,H',⟨(by have:=HK1.out;omega)⟩,⟨qz4_⟩⟩
     ·
      replace c5:=Bool.eq_false_iff.mpr c5
      subst c5
      have H1:(some false)=some r:=by rw [if_neg(show ¬(false=true)by decide)] at H;exact H
      clear H
      have H:=H1
      clear H1
      obtain rfl:=Option.some.inj H
      have p101:0≤(x3_1:Int):=of_decide_eq_true qz11_
      have q101:x3_1<(l0.length:Int):=of_decide_eq_true qz11_
      obtain⟨ad101,e101,hx101_0,hx101_1⟩:=at_T34 HR0.out x3_1 p101 q101
      cases e101
      replace hx101_0:=(HB.out.cell(World.block_lt_of_cell? w _ hx101_0)).trans hx101_0
      replace hx101_1:=(HB.out.cell(World.block_lt_of_cell? w _ hx101_1)).trans hx101_1
      replace p101:=eq_true p101
      replace q101:=eq_true q101
      go_wp2_with(first|((with_reducible refine gate_callee(f:=71)rfl ?_);refine goesL_(some 14)rfl rfl Try.func71(by kernel_rfl)rfl #[.agg #[.int .i64((rd_T34 l0 x3_1).f0),.int .i64((rd_T34 l0 x3_1).f1)]] rfl qz18_ ?_;(with_reducible refine(spec_ExtOK.calls((rd_T34 l0 x3_1).f0)((rd_T34 l0 x3_1).f1)false _ A4.out).mono ?_);rintro e w7⟨rfl,hb⟩;refine⟨_,rfl,?_⟩;have n0_:=am_(below_step qz4_ hb);clear HB;have HB:=n0_;clear n0_;(try clear hb);(try clear hb2);(try clear hk);(try clear hi)))
      go_ret
      exact⟨qz8_,qz4_⟩
    ·
     rw [if_neg c3] at H
     exact absurd H(by simp)
   ·
    rw [if_neg c2] at H
    have c2b0:decide(x3_1<(l0.length:Int))=false:=decide_eq_false c2
    clear c2
    obtain rfl:=Option.some.inj H
    go_wp2
    go_ret
    exact⟨qz8_,qz4_⟩

def spec_l08Rounds.l0:Nat→List(List(S34))→Int→Option(Int)
 | 0,_,_=>none
 | k + 1,x0,x3=>if x3<(x0.length:Int)then(if 0≤x3 then(if((rd_L11 x0 x3).length:Int)>8 then(some 1)else((spec_l02List.f k(rd_L11 x0 x3)).bind fun t103=>(if t103=true then(spec_l08Rounds.l0 k x0(wrap64(x3 + 1)))else(some 1))))else(none))else(some 0)
def spec_l08Rounds.f(k:Nat)(l0:List(List(S34))):Option(Int):=if(l0.length:Int)>4096 then(some 2)else(spec_l08Rounds.l0 k l0 0)
set_option maxHeartbeats 8000000 in
set_option maxRecDepth 100000 in
theorem spec_l08Rounds.calls(k:Nat)(A0:Option Addr)(c0:Nat)(l0:List(List(S34)))(r:Int)(w:World)(hr0:Kd.C(Kd.slice 34 k34)w A0 l0.length l0)(hc0:l0.length≤c0)(h:spec_l08Rounds.f k l0=some r):
  Calls Try.prog 70 #[.slice A0 l0.length c0] w fun e w'=>e=.returned(.int .i64 r)∧Below w.heap.size w w':=by
 have HR0:=am_ hr0
 have HC0:=am_ hc0
 clear hr0 hc0
 have HB:=am_(Below.refl w.heap.size w)
 have H:(if(l0.length:Int)>4096 then(some 2)else(spec_l08Rounds.l0 k l0 0))=some r:=h
 clear h
 by_cases c2:(l0.length:Int)>4096
 ·
  rw [if_pos c2] at H
  have c2b0:decide(4096<(l0.length:Int))=true:=decide_eq_true c2
  have c2b1:decide(4096<l0.length)=true:=decide_eq_true(by omega)
  clear c2
  obtain rfl:=Option.some.inj H
  go_enter Try.func70,Try.ntmps70
  go_wp2
  go_ret
  exact⟨qz8_,qz4_⟩
 ·
  rw [if_neg c2] at H
  have c2b0:decide(4096<(l0.length:Int))=false:=decide_eq_false c2
  have c2b1:decide(4096<l0.length)=false:=decide_eq_false(by omega)
  clear c2
  have H':=am_ H
  clear H
  go_enter Try.func70,Try.ntmps70
  go_wp2
  go_loopg [3] k(fun kq v3 w'=>∃ (x3_1:Int),v3=.int .i64 x3_1∧Aside0(spec_l08Rounds.l0 kq l0 x3_1=some r)∧Aside0(kq≤k)∧Aside0(Below w.heap.size w w'))
  case atStart=>exact⟨(0),qz10_,H',⟨Nat.le_refl _⟩,⟨qz4_⟩⟩
  case round=>
   clear H'
   try clear c2
   try clear c2b0
   try clear c2b1
   try clear p2
   obtain⟨x3_1,rfl,HA,HK1,HB⟩:=hrel
   cases gk with
   | zero=>exact absurd HA.out(by simp [spec_l08Rounds.l0])
   | succ k1=>
    have H:=HA.out
    clear HA
    simp only [spec_l08Rounds.l0] at H
    by_cases c3:x3_1<(l0.length:Int)
    ·
     rw [if_pos c3] at H
     have c3b0:decide(x3_1<(l0.length:Int))=true:=decide_eq_true c3
     clear c3
     by_cases c4:0≤x3_1
     ·
      rw [if_pos c4] at H
      have c4b0:decide(0≤x3_1)=true:=decide_eq_true c4
      clear c4
      by_cases c5:((rd_L11 l0 x3_1).length:Int)>8
      ·
       rw [if_pos c5] at H
       have c5b0:decide(8<((rd_L11 l0 x3_1).length:Int))=true:=decide_eq_true c5
       have c5b1:decide(8<(rd_L11 l0 x3_1).length)=true:=decide_eq_true(by omega)
       clear c5
       obtain rfl:=Option.some.inj H
       have p101:0≤(x3_1:Int):=of_decide_eq_true qz11_
       have q101:x3_1<(l0.length:Int):=of_decide_eq_true qz11_
       obtain⟨ad101,A101_0,c101_0,e101,hx101_0,hl101_0,hi101_0⟩:=at_L11 HR0.out x3_1 p101 q101
       cases e101
       replace hx101_0:=(HB.out.cell(World.block_lt_of_cell? w _ hx101_0)).trans hx101_0
       have HR101_0:=am_ hi101_0
       have HC101_0:=am_ hl101_0
       clear hi101_0 hl101_0
       replace p101:=eq_true p101
       replace q101:=eq_true q101
       go_wp2
       go_ret
       exact⟨qz8_,qz4_⟩
      ·
       rw [if_neg c5] at H
       have c5b0:decide(8<((rd_L11 l0 x3_1).length:Int))=false:=decide_eq_false c5
       have c5b1:decide(8<(rd_L11 l0 x3_1).length)=false:=decide_eq_false(by omega)
       clear c5
       replace H:=Option.bind_eq_some_iff.mp H
       obtain⟨t103,A60,H⟩:=H
       replace H:(if t103=true then(spec_l08Rounds.l0 k1 l0(wrap64(x3_1 + 1)))else(some 1))=some r:=H
       have A6:=am_ A60
       clear A60
       by_cases c7:t103=true
       ·
        subst c7
        have H1:(spec_l08Rounds.l0 k1 l0(wrap64(x3_1 + 1)))=some r:=by rw [if_pos rfl] at H;exact H
        clear H
        have H:=H1
        clear H1
        have H':=am_ H
        clear H
        have p101:0≤(x3_1:Int):=of_decide_eq_true qz11_
        have q101:x3_1<(l0.length:Int):=of_decide_eq_true qz11_
        obtain⟨ad101,A101_0,c101_0,e101,hx101_0,hl101_0,hi101_0⟩:=at_L11 HR0.out x3_1 p101 q101
        cases e101
        replace hx101_0:=(HB.out.cell(World.block_lt_of_cell? w _ hx101_0)).trans hx101_0
        have HR101_0:=am_ hi101_0
        have HC101_0:=am_ hl101_0
        clear hi101_0 hl101_0
        replace p101:=eq_true p101
        replace q101:=eq_true q101
        have p102:0≤(x3_1:Int):=of_decide_eq_true qz11_
        have q102:x3_1<(l0.length:Int):=of_decide_eq_true qz11_
        obtain⟨ad102,A102_0,c102_0,e102,hx102_0,hl102_0,hi102_0⟩:=at_L11 HR0.out x3_1 p102 q102
        obtain rfl:ad101=ad102:=(by injection e102)
        replace hx102_0:=(HB.out.cell(World.block_lt_of_cell? w _ hx102_0)).trans hx102_0
        have HR102_0:=am_ hi102_0
        have HC102_0:=am_ hl102_0
        clear hi102_0 hl102_0
        replace p102:=eq_true p102
        replace q102:=eq_true q102
        have ea_:=Option.some.inj(hx101_0.symm.trans hx102_0)
        injection ea_ with ea_ en_ ec_
        subst ea_
        subst ec_
        clear en_
        go_wp2_with(first|(go_at_call 102;(with_reducible refine(spec_l02List.calls k1 _ _(rd_L11 l0 x3_1)true _ ?side1 ?side2 A6.out).mono ?_);(case side1=>exact qc_(Kd.C_below HR102_0.out HB.out));(case side2=>exact HC102_0.out);rintro e w8⟨rfl,hb⟩;have n0_:=am_(below_step qz4_ hb);clear HB;have HB:=n0_;clear n0_;(try clear hb);(try clear hb2);(try clear hk);(try clear hi)))
        go_roundg k1
        case measure=>have:=HK1.out;omega
        case rel=>exact⟨(wrap64(x3_1 + 1)),qz10_,H',⟨(by have:=HK1.out;omega)⟩,⟨qz4_⟩⟩
       ·
        replace c7:=Bool.eq_false_iff.mpr c7
        subst c7
        have H1:(some 1)=some r:=by rw [if_neg(show ¬(false=true)by decide)] at H;exact H
        clear H
        have H:=H1
        clear H1
        obtain rfl:=Option.some.inj H
        have p101:0≤(x3_1:Int):=of_decide_eq_true qz11_
        have q101:x3_1<(l0.length:Int):=of_decide_eq_true qz11_
        obtain⟨ad101,A101_0,c101_0,e101,hx101_0,hl101_0,hi101_0⟩:=at_L11 HR0.out x3_1 p101 q101
        cases e101
        replace hx101_0:=(HB.out.cell(World.block_lt_of_cell? w _ hx101_0)).trans hx101_0
        have HR101_0:=am_ hi101_0
        have HC101_0:=am_ hl101_0
        clear hi101_0 hl101_0
        replace p101:=eq_true p101
        replace q101:=eq_true q101
        have p102:0≤(x3_1:Int):=of_decide_eq_true qz11_
        have q102:x3_1<(l0.length:Int):=of_decide_eq_true qz11_
        obtain⟨ad102,A102_0,c102_0,e102,hx102_0,hl102_0,hi102_0⟩:=at_L11 HR0.out x3_1 p102 q102
        obtain rfl:ad101=ad102:=(by injection e102)
        replace hx102_0:=(HB.out.cell(World.block_lt_of_cell? w _ hx102_0)).trans hx102_0
        have HR102_0:=am_ hi102_0
        have HC102_0:=am_ hl102_0
        clear hi102_0 hl102_0
        replace p102:=eq_true p102
        replace q102:=eq_true q102
        have ea_:=Option.some.inj(hx101_0.symm.trans hx102_0)
        injection ea_ with ea_ en_ ec_
        subst ea_
        subst ec_
        clear en_
        go_wp2_with(first|(go_at_call 102;(with_reducible refine(spec_l02List.calls k1 _ _(rd_L11 l0 x3_1)false _ ?side1 ?side2 A6.out).mono ?_);(case side1=>exact qc_(Kd.C_below HR102_0.out HB.out));(case side2=>exact HC102_0.out);rintro e w9⟨rfl,hb⟩;have n0_:=am_(below_step qz4_ hb);clear HB;have HB:=n0_;clear n0_;(try clear hb);(try clear hb2);(try clear hk);(try clear hi)))
        go_ret
        exact⟨qz8_,qz4_⟩
     ·
      rw [if_neg c4] at H
      exact absurd H(by simp)
    ·
     rw [if_neg c3] at H
     have c3b0:decide(x3_1<(l0.length:Int))=false:=decide_eq_false c3
     clear c3
     obtain rfl:=Option.some.inj H
     go_wp2
     go_ret
     exact⟨qz8_,qz4_⟩

def spec_SourceOK.f(k:Nat)(l0_0:List(S34))(a0_1:Int)(a0_2:ByteArray)(a0_3:Int):Option(Bool):=if(l0_0.length:Int)≤64 then((spec_l02List.f k l0_0).bind fun t102=>(if t102=true then((spec_l01In.f a0_1 0 1000000).bind fun t103=>(if t103=true then(if(a0_2.size:Int)=32 then((spec_l01In.f a0_3 0 1000000).bind fun t104=>(some t104))else(some false))else(some false)))else(some false)))else(some false)
set_option maxHeartbeats 8000000 in
set_option maxRecDepth 100000 in
theorem spec_SourceOK.calls(k:Nat)(A0_0:Option Addr)(c0_0:Nat)(l0_0:List(S34))(a0_1:Int)(a0_2:ByteArray)(a0_3:Int)(r:Bool)(w:World)(hr0_0:Kd.C k34 w A0_0 l0_0.length l0_0)(hc0_0:l0_0.length≤c0_0)(h:spec_SourceOK.f k l0_0 a0_1 a0_2 a0_3=some r):
  Calls Try.prog 72 #[.agg #[.slice A0_0 l0_0.length c0_0,.int .i64 a0_1,.string a0_2,.int .i64 a0_3]] w fun e w'=>e=.returned(.bool r)∧Below w.heap.size w w':=by
 have hu27:=Try.underlying27
 have HR0_0:=am_ hr0_0
 have HC0_0:=am_ hc0_0
 clear hr0_0 hc0_0
 have HB:=am_(Below.refl w.heap.size w)
 have H:(if(l0_0.length:Int)≤64 then((spec_l02List.f k l0_0).bind fun t102=>(if t102=true then((spec_l01In.f a0_1 0 1000000).bind fun t103=>(if t103=true then(if(a0_2.size:Int)=32 then((spec_l01In.f a0_3 0 1000000).bind fun t104=>(some t104))else(some false))else(some false)))else(some false)))else(some false))=some r:=h
 clear h
 by_cases c2:(l0_0.length:Int)≤64
 ·
  rw [if_pos c2] at H
  have c2b0:decide((l0_0.length:Int)≤64)=true:=decide_eq_true c2
  have c2b1:decide(l0_0.length≤64)=true:=decide_eq_true(by omega)
  clear c2
  replace H:=Option.bind_eq_some_iff.mp H
  obtain⟨t102,A30,H⟩:=H
  replace H:(if t102=true then((spec_l01In.f a0_1 0 1000000).bind fun t103=>(if t103=true then(if(a0_2.size:Int)=32 then((spec_l01In.f a0_3 0 1000000).bind fun t104=>(some t104))else(some false))else(some false)))else(some false))=some r:=H
  have A3:=am_ A30
  clear A30
  by_cases c4:t102=true
  ·
   subst c4
   have H1:((spec_l01In.f a0_1 0 1000000).bind fun t103=>(if t103=true then(if(a0_2.size:Int)=32 then((spec_l01In.f a0_3 0 1000000).bind fun t104=>(some t104))else(some false))else(some false)))=some r:=by rw [if_pos rfl] at H;exact H
   clear H
   have H:=H1
   clear H1
   replace H:=Option.bind_eq_some_iff.mp H
   obtain⟨t103,A50,H⟩:=H
   replace H:(if t103=true then(if(a0_2.size:Int)=32 then((spec_l01In.f a0_3 0 1000000).bind fun t104=>(some t104))else(some false))else(some false))=some r:=H
   have A5:=am_ A50
   clear A50
   by_cases c6:t103=true
   ·
    subst c6
    have H1:(if(a0_2.size:Int)=32 then((spec_l01In.f a0_3 0 1000000).bind fun t104=>(some t104))else(some false))=some r:=by rw [if_pos rfl] at H;exact H
    clear H
    have H:=H1
    clear H1
    by_cases c7:(a0_2.size:Int)=32
    ·
     rw [if_pos c7] at H
     have c7b0:((a0_2.size:Int)== 32)=true:=beq_iff_eq.mpr c7
     have c7b1:((a0_2.size:Int) != 32)=false:=bne_eq_false_iff_eq.mpr c7
     clear c7
     replace H:=Option.bind_eq_some_iff.mp H
     obtain⟨t104,A80,H⟩:=H
     replace H:(some t104)=some r:=H
     have A8:=am_ A80
     clear A80
     obtain rfl:=Option.some.inj H
     go_enter Try.func72,Try.ntmps72
     go_wp2_with(first|((with_reducible refine gate_dst(N:=1)rfl ?_);(try(refine gate_guard(by rfl) ?_;dsimp only));refine box_event rfl(N:=1)rfl(cs:=#[.slice A0_0 l0_0.length c0_0,.int .i64 a0_1,.string a0_2,.int .i64 a0_3])(t:=27)bx_ ?_;intro gb101 hg w9 hbox hb;have n0_:=am_(below_step qz4_ hb);have n1_:=am_(hbox);have n2_:=am_((by rw [hg];exact(below_size qz4_):w.heap.size≤gb101));have n3_:=am_((by rw [hg];exact(below_size qz4_):w.heap.size≤gb101));clear HB;have HB:=n0_;have BK101:=n1_;have GW101:=n2_;have GE101:=n3_;clear n0_ n1_ n2_ n3_;clear hb hbox hg;have hcz10_0:w9.cell?⟨gb101,0,none⟩=some(.slice A0_0 l0_0.length c0_0):=(blk_cell BK101.out 0).trans rfl;have hcz10_1:w9.cell?⟨gb101,1,none⟩=some(.int .i64 a0_1):=(blk_cell BK101.out 1).trans rfl;have hcz10_2:w9.cell?⟨gb101,2,none⟩=some(.string a0_2):=(blk_cell BK101.out 2).trans rfl;have hcz10_3:w9.cell?⟨gb101,3,none⟩=some(.int .i64 a0_3):=(blk_cell BK101.out 3).trans rfl;have hfz10_0:=blk_frozen BK101.out 0;have hfz10_1:=blk_frozen BK101.out 1;have hfz10_2:=blk_frozen BK101.out 2;have hfz10_3:=blk_frozen BK101.out 3)|(go_at_call 102;(with_reducible refine(spec_l02List.calls k _ _ l0_0 true _ ?side1 ?side2 A3.out).mono ?_);(case side1=>exact qc_(Kd.C_below HR0_0.out HB.out));(case side2=>exact HC0_0.out);rintro e w11⟨rfl,hb⟩;have n0_:=am_(blk_below(g:=gb101)(o:=.cells #[.slice A0_0 l0_0.length c0_0,.int .i64 a0_1,.string a0_2,.int .i64 a0_3] 27(0,0))qz13_ hb);have n1_:=am_(below_step qz14_ hb);clear BK101;clear HB;have BK101:=n0_;have HB:=n1_;clear n0_ n1_;(try clear hb);(try clear hb2);(try clear hk);(try clear hi);have hcz12_0:w11.cell?⟨gb101,0,none⟩=some(.slice A0_0 l0_0.length c0_0):=(blk_cell BK101.out 0).trans rfl;have hcz12_1:w11.cell?⟨gb101,1,none⟩=some(.int .i64 a0_1):=(blk_cell BK101.out 1).trans rfl;have hcz12_2:w11.cell?⟨gb101,2,none⟩=some(.string a0_2):=(blk_cell BK101.out 2).trans rfl;have hcz12_3:w11.cell?⟨gb101,3,none⟩=some(.int .i64 a0_3):=(blk_cell BK101.out 3).trans rfl;have hfz12_0:=blk_frozen BK101.out 0;have hfz12_1:=blk_frozen BK101.out 1;have hfz12_2:=blk_frozen BK101.out 2;have hfz12_3:=blk_frozen BK101.out 3)|(go_at_call 61;(with_reducible refine(spec_l01In.calls a0_1 0 1000000 true _ A5.out).mono ?_);rintro e w'⟨rfl,⟨nd,rfl⟩⟩)|(go_at_call 61;(with_reducible refine(spec_l01In.calls a0_3 0 1000000 t104 _ A8.out).mono ?_);rintro e w'⟨rfl,⟨nd,rfl⟩⟩))
     go_ret
     exact⟨qz8_,qz14_⟩
    ·
     rw [if_neg c7] at H
     have c7b0:((a0_2.size:Int)== 32)=false:=beq_eq_false_iff_ne.mpr c7
     have c7b1:((a0_2.size:Int) != 32)=true:=bne_iff_ne.mpr c7
     obtain rfl:=Option.some.inj H
     go_enter Try.func72,Try.ntmps72
     go_wp2_with(first|((with_reducible refine gate_dst(N:=1)rfl ?_);(try(refine gate_guard(by rfl) ?_;dsimp only));refine box_event rfl(N:=1)rfl(cs:=#[.slice A0_0 l0_0.length c0_0,.int .i64 a0_1,.string a0_2,.int .i64 a0_3])(t:=27)bx_ ?_;intro gb101 hg w13 hbox hb;have n0_:=am_(below_step qz4_ hb);have n1_:=am_(hbox);have n2_:=am_((by rw [hg];exact(below_size qz4_):w.heap.size≤gb101));have n3_:=am_((by rw [hg];exact(below_size qz4_):w.heap.size≤gb101));clear HB;have HB:=n0_;have BK101:=n1_;have GW101:=n2_;have GE101:=n3_;clear n0_ n1_ n2_ n3_;clear hb hbox hg;have hcz14_0:w13.cell?⟨gb101,0,none⟩=some(.slice A0_0 l0_0.length c0_0):=(blk_cell BK101.out 0).trans rfl;have hcz14_1:w13.cell?⟨gb101,1,none⟩=some(.int .i64 a0_1):=(blk_cell BK101.out 1).trans rfl;have hcz14_2:w13.cell?⟨gb101,2,none⟩=some(.string a0_2):=(blk_cell BK101.out 2).trans rfl;have hcz14_3:w13.cell?⟨gb101,3,none⟩=some(.int .i64 a0_3):=(blk_cell BK101.out 3).trans rfl;have hfz14_0:=blk_frozen BK101.out 0;have hfz14_1:=blk_frozen BK101.out 1;have hfz14_2:=blk_frozen BK101.out 2;have hfz14_3:=blk_frozen BK101.out 3)|(go_at_call 102;(with_reducible refine(spec_l02List.calls k _ _ l0_0 true _ ?side1 ?side2 A3.out).mono ?_);(case side1=>exact qc_(Kd.C_below HR0_0.out HB.out));(case side2=>exact HC0_0.out);rintro e w15⟨rfl,hb⟩;have n0_:=am_(blk_below(g:=gb101)(o:=.cells #[.slice A0_0 l0_0.length c0_0,.int .i64 a0_1,.string a0_2,.int .i64 a0_3] 27(0,0))qz13_ hb);have n1_:=am_(below_step qz14_ hb);clear BK101;clear HB;have BK101:=n0_;have HB:=n1_;clear n0_ n1_;(try clear hb);(try clear hb2);(try clear hk);(try clear hi);have hcz16_0:w15.cell?⟨gb101,0,none⟩=some(.slice A0_0 l0_0.length c0_0):=(blk_cell BK101.out 0).trans rfl;have hcz16_1:w15.cell?⟨gb101,1,none⟩=some(.int .i64 a0_1):=(blk_cell BK101.out 1).trans rfl;have hcz16_2:w15.cell?⟨gb101,2,none⟩=some(.string a0_2):=(blk_cell BK101.out 2).trans rfl;have hcz16_3:w15.cell?⟨gb101,3,none⟩=some(.int .i64 a0_3):=(blk_cell BK101.out 3).trans rfl;have hfz16_0:=blk_frozen BK101.out 0;have hfz16_1:=blk_frozen BK101.out 1;have hfz16_2:=blk_frozen BK101.out 2;have hfz16_3:=blk_frozen BK101.out 3)|(go_at_call 61;(with_reducible refine(spec_l01In.calls a0_1 0 1000000 true _ A5.out).mono ?_);rintro e w'⟨rfl,⟨nd,rfl⟩⟩))
     go_ret
     exact⟨qz8_,qz14_⟩
   ·
    replace c6:=Bool.eq_false_iff.mpr c6
    subst c6
    have H1:(some false)=some r:=by rw [if_neg(show ¬(false=true)by decide)] at H;exact H
    clear H
    have H:=H1
    clear H1
    obtain rfl:=Option.some.inj H
    go_enter Try.func72,Try.ntmps72
    go_wp2_with(first|((with_reducible refine gate_dst(N:=1)rfl ?_);(try(refine gate_guard(by rfl) ?_;dsimp only));refine box_event rfl(N:=1)rfl(cs:=#[.slice A0_0 l0_0.length c0_0,.int .i64 a0_1,.string a0_2,.int .i64 a0_3])(t:=27)bx_ ?_;intro gb101 hg w17 hbox hb;have n0_:=am_(below_step qz4_ hb);have n1_:=am_(hbox);have n2_:=am_((by rw [hg];exact(below_size qz4_):w.heap.size≤gb101));have n3_:=am_((by rw [hg];exact(below_size qz4_):w.heap.size≤gb101));clear HB;have HB:=n0_;have BK101:=n1_;have GW101:=n2_;have GE101:=n3_;clear n0_ n1_ n2_ n3_;clear hb hbox hg;have hcz18_0:w17.cell?⟨gb101,0,none⟩=some(.slice A0_0 l0_0.length c0_0):=(blk_cell BK101.out 0).trans rfl;have hcz18_1:w17.cell?⟨gb101,1,none⟩=some(.int .i64 a0_1):=(blk_cell BK101.out 1).trans rfl;have hcz18_2:w17.cell?⟨gb101,2,none⟩=some(.string a0_2):=(blk_cell BK101.out 2).trans rfl;have hcz18_3:w17.cell?⟨gb101,3,none⟩=some(.int .i64 a0_3):=(blk_cell BK101.out 3).trans rfl;have hfz18_0:=blk_frozen BK101.out 0;have hfz18_1:=blk_frozen BK101.out 1;have hfz18_2:=blk_frozen BK101.out 2;have hfz18_3:=blk_frozen BK101.out 3)|(go_at_call 102;(with_reducible refine(spec_l02List.calls k _ _ l0_0 true _ ?side1 ?side2 A3.out).mono ?_);(case side1=>exact qc_(Kd.C_below HR0_0.out HB.out));(case side2=>exact HC0_0.out);rintro e w19⟨rfl,hb⟩;have n0_:=am_(blk_below(g:=gb101)(o:=.cells #[.slice A0_0 l0_0.length c0_0,.int .i64 a0_1,.string a0_2,.int .i64 a0_3] 27(0,0))qz13_ hb);have n1_:=am_(below_step qz14_ hb);clear BK101;clear HB;have BK101:=n0_;have HB:=n1_;clear n0_ n1_;(try clear hb);(try clear hb2);(try clear hk);(try clear hi);have hcz20_0:w19.cell?⟨gb101,0,none⟩=some(.slice A0_0 l0_0.length c0_0):=(blk_cell BK101.out 0).trans rfl;have hcz20_1:w19.cell?⟨gb101,1,none⟩=some(.int .i64 a0_1):=(blk_cell BK101.out 1).trans rfl;have hcz20_2:w19.cell?⟨gb101,2,none⟩=some(.string a0_2):=(blk_cell BK101.out 2).trans rfl;have hcz20_3:w19.cell?⟨gb101,3,none⟩=some(.int .i64 a0_3):=(blk_cell BK101.out 3).trans rfl;have hfz20_0:=blk_frozen BK101.out 0;have hfz20_1:=blk_frozen BK101.out 1;have hfz20_2:=blk_frozen BK101.out 2;have hfz20_3:=blk_frozen BK101.out 3)|(go_at_call 61;(with_reducible refine(spec_l01In.calls a0_1 0 1000000 false _ A5.out).mono ?_);rintro e w'⟨rfl,⟨nd,rfl⟩⟩))
    go_ret
    exact⟨qz8_,qz14_⟩
  ·
   replace c4:=Bool.eq_false_iff.mpr c4
   subst c4
   have H1:(some false)=some r:=by rw [if_neg(show ¬(false=true)by decide)] at H;exact H
   clear H
   have H:=H1
   clear H1
   obtain rfl:=Option.some.inj H
   go_enter Try.func72,Try.ntmps72
   go_wp2_with(first|((with_reducible refine gate_dst(N:=1)rfl ?_);(try(refine gate_guard(by rfl) ?_;dsimp only));refine box_event rfl(N:=1)rfl(cs:=#[.slice A0_0 l0_0.length c0_0,.int .i64 a0_1,.string a0_2,.int .i64 a0_3])(t:=27)bx_ ?_;intro gb101 hg w21 hbox hb;have n0_:=am_(below_step qz4_ hb);have n1_:=am_(hbox);have n2_:=am_((by rw [hg];exact(below_size qz4_):w.heap.size≤gb101));have n3_:=am_((by rw [hg];exact(below_size qz4_):w.heap.size≤gb101));clear HB;have HB:=n0_;have BK101:=n1_;have GW101:=n2_;have GE101:=n3_;clear n0_ n1_ n2_ n3_;clear hb hbox hg;have hcz22_0:w21.cell?⟨gb101,0,none⟩=some(.slice A0_0 l0_0.length c0_0):=(blk_cell BK101.out 0).trans rfl;have hcz22_1:w21.cell?⟨gb101,1,none⟩=some(.int .i64 a0_1):=(blk_cell BK101.out 1).trans rfl;have hcz22_2:w21.cell?⟨gb101,2,none⟩=some(.string a0_2):=(blk_cell BK101.out 2).trans rfl;have hcz22_3:w21.cell?⟨gb101,3,none⟩=some(.int .i64 a0_3):=(blk_cell BK101.out 3).trans rfl;have hfz22_0:=blk_frozen BK101.out 0;have hfz22_1:=blk_frozen BK101.out 1;have hfz22_2:=blk_frozen BK101.out 2;have hfz22_3:=blk_frozen BK101.out 3)|(go_at_call 102;(with_reducible refine(spec_l02List.calls k _ _ l0_0 false _ ?side1 ?side2 A3.out).mono ?_);(case side1=>exact qc_(Kd.C_below HR0_0.out HB.out));(case side2=>exact HC0_0.out);rintro e w23⟨rfl,hb⟩;have n0_:=am_(blk_below(g:=gb101)(o:=.cells #[.slice A0_0 l0_0.length c0_0,.int .i64 a0_1,.string a0_2,.int .i64 a0_3] 27(0,0))qz13_ hb);have n1_:=am_(below_step qz14_ hb);clear BK101;clear HB;have BK101:=n0_;have HB:=n1_;clear n0_ n1_;(try clear hb);(try clear hb2);(try clear hk);(try clear hi)))
   go_ret
   exact⟨qz8_,qz14_⟩
 ·
  rw [if_neg c2] at H
  have c2b0:decide((l0_0.length:Int)≤64)=false:=decide_eq_false c2
  have c2b1:decide(l0_0.length≤64)=false:=decide_eq_false(by omega)
  clear c2
  obtain rfl:=Option.some.inj H
  go_enter Try.func72,Try.ntmps72
  go_wp2_with(first|((with_reducible refine gate_dst(N:=1)rfl ?_);(try(refine gate_guard(by rfl) ?_;dsimp only));refine box_event rfl(N:=1)rfl(cs:=#[.slice A0_0 l0_0.length c0_0,.int .i64 a0_1,.string a0_2,.int .i64 a0_3])(t:=27)bx_ ?_;intro gb101 hg w24 hbox hb;have n0_:=am_(below_step qz4_ hb);have n1_:=am_(hbox);have n2_:=am_((by rw [hg];exact(below_size qz4_):w.heap.size≤gb101));have n3_:=am_((by rw [hg];exact(below_size qz4_):w.heap.size≤gb101));clear HB;have HB:=n0_;have BK101:=n1_;have GW101:=n2_;have GE101:=n3_;clear n0_ n1_ n2_ n3_;clear hb hbox hg;have hcz25_0:w24.cell?⟨gb101,0,none⟩=some(.slice A0_0 l0_0.length c0_0):=(blk_cell BK101.out 0).trans rfl;have hcz25_1:w24.cell?⟨gb101,1,none⟩=some(.int .i64 a0_1):=(blk_cell BK101.out 1).trans rfl;have hcz25_2:w24.cell?⟨gb101,2,none⟩=some(.string a0_2):=(blk_cell BK101.out 2).trans rfl;have hcz25_3:w24.cell?⟨gb101,3,none⟩=some(.int .i64 a0_3):=(blk_cell BK101.out 3).trans rfl;have hfz25_0:=blk_frozen BK101.out 0;have hfz25_1:=blk_frozen BK101.out 1;have hfz25_2:=blk_frozen BK101.out 2;have hfz25_3:=blk_frozen BK101.out 3))
  go_ret
  exact⟨qz8_,qz14_⟩

def spec_l08Kind.f(a0:Int):Option(Bool):=if a0=1 then(some true)else(some(a0 == 2))
set_option maxHeartbeats 8000000 in
set_option maxRecDepth 100000 in
theorem spec_l08Kind.calls(a0:Int)(r:Bool)(w:World)(h:spec_l08Kind.f a0=some r):
  Calls Try.prog 73 #[.int .i64 a0] w fun e w'=>e=.returned(.bool r)∧Drawn0 w w':=by
 have H:(if a0=1 then(some true)else(some(a0 == 2)))=some r:=h
 clear h
 by_cases c2:a0=1
 ·
  rw [if_pos c2] at H
  have c2b0:(a0 == 1)=true:=beq_iff_eq.mpr c2
  have c2b1:(a0 != 1)=false:=bne_eq_false_iff_eq.mpr c2
  clear c2
  obtain rfl:=Option.some.inj H
  go_enter Try.func73,Try.ntmps73
  go_wp2
  go_ret
  exact⟨qz10_,qz2_⟩
 ·
  rw [if_neg c2] at H
  have c2b0:(a0 == 1)=false:=beq_eq_false_iff_ne.mpr c2
  have c2b1:(a0 != 1)=true:=bne_iff_ne.mpr c2
  obtain rfl:=Option.some.inj H
  go_enter Try.func73,Try.ntmps73
  go_wp2
  go_ret
  exact⟨qz10_,qz2_⟩

def spec_l05Spent.f(l0_0:List(S34))(a0_1:Int)(a0_2:ByteArray)(a0_3:Int)(a1:Int):Option(Bool):=if a0_1>(wrap64(1000000 - a1))then(some true)else(some(decide(a0_3>(wrap64(1000000 - a1)))))
set_option maxHeartbeats 8000000 in
set_option maxRecDepth 100000 in
theorem spec_l05Spent.calls(A0_0:Option Addr)(c0_0:Nat)(l0_0:List(S34))(a0_1:Int)(a0_2:ByteArray)(a0_3:Int)(a1:Int)(r:Bool)(w:World)(hr0_0:Kd.C k34 w A0_0 l0_0.length l0_0)(hc0_0:l0_0.length≤c0_0)(h:spec_l05Spent.f l0_0 a0_1 a0_2 a0_3 a1=some r):
  Calls Try.prog 74 #[.agg #[.slice A0_0 l0_0.length c0_0,.int .i64 a0_1,.string a0_2,.int .i64 a0_3],.int .i64 a1] w fun e w'=>e=.returned(.bool r)∧Below w.heap.size w w':=by
 have hu27:=Try.underlying27
 have HR0_0:=am_ hr0_0
 have HC0_0:=am_ hc0_0
 clear hr0_0 hc0_0
 have HB:=am_(Below.refl w.heap.size w)
 have H:(if a0_1>(wrap64(1000000 - a1))then(some true)else(some(decide(a0_3>(wrap64(1000000 - a1))))))=some r:=h
 clear h
 by_cases c3:a0_1>(wrap64(1000000 - a1))
 ·
  rw [if_pos c3] at H
  have c3b0:decide((wrap64(1000000 - a1))<a0_1)=true:=decide_eq_true c3
  clear c3
  obtain rfl:=Option.some.inj H
  go_enter Try.func74,Try.ntmps74
  go_wp2_with(first|((with_reducible refine gate_dst(N:=2)rfl ?_);refine box_event rfl(N:=2)rfl(cs:=#[.slice A0_0 l0_0.length c0_0,.int .i64 a0_1,.string a0_2,.int .i64 a0_3])(t:=27)bx_ ?_;intro gb101 hg w4 hbox hb;have n0_:=am_(below_step qz4_ hb);have n1_:=am_(hbox);have n2_:=am_((by rw [hg];exact(below_size qz4_):w.heap.size≤gb101));have n3_:=am_((by rw [hg];exact(below_size qz4_):w.heap.size≤gb101));clear HB;have HB:=n0_;have BK101:=n1_;have GW101:=n2_;have GE101:=n3_;clear n0_ n1_ n2_ n3_;clear hb hbox hg;have hcz5_0:w4.cell?⟨gb101,0,none⟩=some(.slice A0_0 l0_0.length c0_0):=(blk_cell BK101.out 0).trans rfl;have hcz5_1:w4.cell?⟨gb101,1,none⟩=some(.int .i64 a0_1):=(blk_cell BK101.out 1).trans rfl;have hcz5_2:w4.cell?⟨gb101,2,none⟩=some(.string a0_2):=(blk_cell BK101.out 2).trans rfl;have hcz5_3:w4.cell?⟨gb101,3,none⟩=some(.int .i64 a0_3):=(blk_cell BK101.out 3).trans rfl;have hfz5_0:=blk_frozen BK101.out 0;have hfz5_1:=blk_frozen BK101.out 1;have hfz5_2:=blk_frozen BK101.out 2;have hfz5_3:=blk_frozen BK101.out 3))
  go_ret
  exact⟨qz8_,qz14_⟩
 ·
  rw [if_neg c3] at H
  have c3b0:decide((wrap64(1000000 - a1))<a0_1)=false:=decide_eq_false c3
  clear c3
  obtain rfl:=Option.some.inj H
  go_enter Try.func74,Try.ntmps74
  go_wp2_with(first|((with_reducible refine gate_dst(N:=2)rfl ?_);refine box_event rfl(N:=2)rfl(cs:=#[.slice A0_0 l0_0.length c0_0,.int .i64 a0_1,.string a0_2,.int .i64 a0_3])(t:=27)bx_ ?_;intro gb101 hg w6 hbox hb;have n0_:=am_(below_step qz4_ hb);have n1_:=am_(hbox);have n2_:=am_((by rw [hg];exact(below_size qz4_):w.heap.size≤gb101));have n3_:=am_((by rw [hg];exact(below_size qz4_):w.heap.size≤gb101));clear HB;have HB:=n0_;have BK101:=n1_;have GW101:=n2_;have GE101:=n3_;clear n0_ n1_ n2_ n3_;clear hb hbox hg;have hcz7_0:w6.cell?⟨gb101,0,none⟩=some(.slice A0_0 l0_0.length c0_0):=(blk_cell BK101.out 0).trans rfl;have hcz7_1:w6.cell?⟨gb101,1,none⟩=some(.int .i64 a0_1):=(blk_cell BK101.out 1).trans rfl;have hcz7_2:w6.cell?⟨gb101,2,none⟩=some(.string a0_2):=(blk_cell BK101.out 2).trans rfl;have hcz7_3:w6.cell?⟨gb101,3,none⟩=some(.int .i64 a0_3):=(blk_cell BK101.out 3).trans rfl;have hfz7_0:=blk_frozen BK101.out 0;have hfz7_1:=blk_frozen BK101.out 1;have hfz7_2:=blk_frozen BK101.out 2;have hfz7_3:=blk_frozen BK101.out 3))
  go_ret
  exact⟨qz8_,qz14_⟩

end Go.Proofs.Ytgookagndlfehaa.PT
end
section
namespace Go.Proofs.Ytgookagndlfehaa.PT
open Go.RowKit Go.Proofs.YtgookagndlfehaaW.PrintWords Go.Proofs.YtgookagndlfehaaW.PrintLast Go.Proofs.YtgookagndlfehaaW.PrintMore
attribute [local go_sem] max2_int min2_int max_two min_two max_three min_three max_four min_four   -- for this text's walks alone
set_option linter.unusedVariables false
set_option linter.unusedSimpArgs false
def spec_l05Own.f(l0_0:List(S34))(a0_1:Int)(a0_2:ByteArray)(a0_3:Int):Option((List(S34))× Int × ByteArray × Int):=(some(([]:List(S34)):List(S34))).bind fun y103=>(if y103.length + l0_0.length<8796093022208 then(some((y103++l0_0),a0_1,a0_2,a0_3))else(none))
set_option maxHeartbeats 8000000 in
set_option maxRecDepth 100000 in
theorem spec_l05Own.calls(A0_0:Option Addr)(c0_0:Nat)(l0_0:List(S34))(a0_1:Int)(a0_2:ByteArray)(a0_3:Int)(r1:List(S34))(r2:Int)(r3:ByteArray)(r4:Int)(w:World)(hr0_0:Kd.C k34 w A0_0 l0_0.length l0_0)(hc0_0:l0_0.length≤c0_0)(h:spec_l05Own.f l0_0 a0_1 a0_2 a0_3=some(r1,r2,r3,r4)):
  Calls Try.prog 76 #[.agg #[.slice A0_0 l0_0.length c0_0,.int .i64 a0_1,.string a0_2,.int .i64 a0_3]] w fun e w'=>∃ v0_:Value,e=.returned(.agg #[v0_,.int .i64 r2,.string r3,.int .i64 r4])∧Kd.R k34 34 w' w.heap.size(fun _=>True)v0_ r1∧Below w.heap.size w w':=by
 have hu27:=Try.underlying27
 have HR0_0:=am_ hr0_0
 have HC0_0:=am_ hc0_0
 clear hr0_0 hc0_0
 have HB:=am_(Below.refl w.heap.size w)
 have H:((some(([]:List(S34)):List(S34))).bind fun y103=>(if y103.length + l0_0.length<8796093022208 then(some((y103++l0_0),a0_1,a0_2,a0_3))else(none)))=some(r1,r2,r3,r4):=h
 clear h
 obtain⟨y103,hy103⟩:∃ y_:List(S34),y_=(([]:List(S34))):=⟨_,rfl⟩
 replace H:(if y103.length + l0_0.length<8796093022208 then(some((y103++l0_0),a0_1,a0_2,a0_3))else(none))=some(r1,r2,r3,r4):=by first|(rw [hy103];with_reducible exact H)|(have H2_:=(Option.bind_some _ _).symm.trans H;rw [hy103];with_reducible exact H2_)|(have H2_:=(Option.bind_some _ _).symm.trans H;with_reducible exact H2_)|with_reducible exact H|(rw [hy103];exact H)|exact H
 have Ny103:=am_ hy103
 clear hy103
 by_cases c2:y103.length + l0_0.length<8796093022208
 ·
  rw [if_pos c2] at H
  have LMc2:=am_ c2
  clear c2
  obtain⟨y106,hy106⟩:∃ y_:List(S34),y_=(y103++l0_0):=⟨_,rfl⟩
  replace H:(some(y106,a0_1,a0_2,a0_3))=some(r1,r2,r3,r4):=by first|(rw [hy106];with_reducible exact H)|(have H2_:=(Option.bind_some _ _).symm.trans H;rw [hy106];with_reducible exact H2_)|(have H2_:=(Option.bind_some _ _).symm.trans H;with_reducible exact H2_)|with_reducible exact H|(rw [hy106];exact H)|exact H
  have Ny106:=am_ hy106
  clear hy106
  simp only [Option.some.injEq,Prod.mk.injEq] at H
  obtain⟨rfl,rfl,rfl,rfl⟩:=H
  go_enter Try.func76,Try.ntmps76
  go_wp2_with(first|((with_reducible refine gate_dst(N:=1)rfl ?_);refine box_event rfl(N:=1)rfl(cs:=#[.slice A0_0 l0_0.length c0_0,.int .i64 a0_1,.string a0_2,.int .i64 a0_3])(t:=27)bx_ ?_;intro gb101 hg w3 hbox hb;have n0_:=am_(below_step qz4_ hb);have n1_:=am_(hbox);have n2_:=am_((by rw [hg];exact(below_size qz4_):w.heap.size≤gb101));have n3_:=am_((by rw [hg];exact(below_size qz4_):w.heap.size≤gb101));clear HB;have HB:=n0_;have BK101:=n1_;have GW101:=n2_;have GE101:=n3_;clear n0_ n1_ n2_ n3_;clear hb hbox hg)|((with_reducible refine gate_dst(N:=2)rfl ?_);refine box_event rfl(N:=2)rfl(cs:=#[.slice none 0 0,.int .i64 0,.string(⟨#[]⟩:ByteArray),.int .i64 0])(t:=27)bx_ ?_;intro gb102 hg w4 hbox hb;have n0_:=am_(blk_below(g:=gb101)(o:=.cells #[.slice A0_0 l0_0.length c0_0,.int .i64 a0_1,.string a0_2,.int .i64 a0_3] 27(0,0))qz13_ hb);have n1_:=am_(below_step qz14_ hb);have n2_:=am_(hbox);have n3_:=am_((by rw [hg];exact(below_size qz14_):w.heap.size≤gb102));have n4_:=am_((by rw [hg];exact(below_size qz14_):w.heap.size≤gb102));have n5_:=am_((by rw [hg];exact Nat.ne_of_lt(blk_lt(g:=gb101)(o:=.cells #[.slice A0_0 l0_0.length c0_0,.int .i64 a0_1,.string a0_2,.int .i64 a0_3] 27(0,0))qz13_):gb101≠gb102));have n6_:=am_((by rw [hg];exact Nat.ne_of_gt(blk_lt(g:=gb101)(o:=.cells #[.slice A0_0 l0_0.length c0_0,.int .i64 a0_1,.string a0_2,.int .i64 a0_3] 27(0,0))qz13_):gb102≠gb101));clear BK101;clear HB;have BK101:=n0_;have HB:=n1_;have BK102:=n2_;have GW102:=n3_;have GE102:=n4_;have NB101_102:=n5_;have NB102_101:=n6_;clear n0_ n1_ n2_ n3_ n4_ n5_ n6_;clear hb hbox hg)|((with_reducible refine gate_dst(N:=3)rfl ?_);refine Kd.R_lit k34 _ 34 ?hg(N:=3) ?hd(xs:=([]:List(S34)))(inner:=[])(ok:=fun _=>True)(okp:=fun _=>True) ?hr ?hp(fun _ hk=>hk)trivial(Below.refl _ _)(Nat.le_refl _)(by simp) ?_;(case hd=>rfl);(case hg=>rfl);(case hr=>first|(go_simp;done)|(go_simp;rfl));(case hp=>exact(Reps.none _ _));intro v104 w5 ho6 hb hg_ hnew_;clear hg_ hnew_;(first|rw [←Ny103.out] at ho6|(simp only [Int.reduceToNat] at ho6;rw [←Ny103.out] at ho6));have n0_:=am_(Kd.R_lower ho6(below_size qz16_));have n1_:=am_(blk_below(g:=gb101)(o:=.cells #[.slice A0_0 l0_0.length c0_0,.int .i64 a0_1,.string a0_2,.int .i64 a0_3] 27(0,0))qz13_ hb);have n2_:=am_(blk_below(g:=gb102)(o:=.cells #[.slice none 0 0,.int .i64 0,.string(⟨#[]⟩:ByteArray),.int .i64 0] 27(0,0))qz15_ hb);have n3_:=am_(below_step qz16_ hb);clear BK101;clear BK102;clear HB;have HO105:=n0_;have BK101:=n1_;have BK102:=n2_;have HB:=n3_;clear n0_ n1_ n2_ n3_;clear hb ho6;have hnb7:=NB101_102.out;have hnc7:=NB102_101.out;have hcz8_0:w5.cell?⟨gb101,0,none⟩=some(.slice A0_0 l0_0.length c0_0):=(blk_cell BK101.out 0).trans rfl;have hcz8_1:w5.cell?⟨gb101,1,none⟩=some(.int .i64 a0_1):=(blk_cell BK101.out 1).trans rfl;have hcz8_2:w5.cell?⟨gb101,2,none⟩=some(.string a0_2):=(blk_cell BK101.out 2).trans rfl;have hcz8_3:w5.cell?⟨gb101,3,none⟩=some(.int .i64 a0_3):=(blk_cell BK101.out 3).trans rfl;have hfz8_0:=blk_frozen BK101.out 0;have hfz8_1:=blk_frozen BK101.out 1;have hfz8_2:=blk_frozen BK101.out 2;have hfz8_3:=blk_frozen BK101.out 3)|((with_reducible refine gate_builtin(b:=.append)(xs:=#[.tmp 3,.tmp 5])rfl ?_);at_builtin;refine Kd.R_append_rows k34(w0:=w)w.heap.size rfl(.tmp 3)(.tmp 5)24 34(.agg #[(.int .i64 0),(.int .i64 0)])16 rfl Try.underlying24 info34 rfl(by decide)(by omega)v104 y103 l0_0 _ _ _(fun _=>True)(fun _=>False)rfl rfl ?aO ?aR(fun _ _ h=>h)(fun _ h=>h.elim) ?aF ?aB ?aS ?aL ?_;(case aR=>exact qc_(Kd.C_below HR0_0.out HB.out));(case aB=>exact qz16_);(case aF=>exact(fun _ _=>trivial));(case aO=>exact(by(with_reducible repeat(first|apply Kd.R_alloc|apply Kd.R_drewN|apply Kd.R_drew));exact HO105.out));(case aS=>exact(below_size qz16_));(case aL=>have:=LMc2.out;omega);intro v107 w9 ho hb hg hat;rw [←Ny106.out] at ho;have n0_:=am_(blk_grown(g:=gb101)(o:=.cells #[.slice A0_0 l0_0.length c0_0,.int .i64 a0_1,.string a0_2,.int .i64 a0_3] 27(0,0))qz13_ hg(Kd.R_ne HO105.out BK101.out(by decide)));have n1_:=am_(blk_grown(g:=gb102)(o:=.cells #[.slice none 0 0,.int .i64 0,.string(⟨#[]⟩:ByteArray),.int .i64 0] 27(0,0))qz15_ hg(Kd.R_ne HO105.out BK102.out(by decide)));have n2_:=am_(hb);have n3_:=am_(ho);clear BK101;clear BK102;clear HB;clear HO105;have BK101:=n0_;have BK102:=n1_;have HB:=n2_;have HO108:=n3_;clear n0_ n1_ n2_ n3_;clear ho hb hg hat;obtain⟨Ao10,co10,eo10⟩:=Kd.R_slice HO108.out;subst eo10;have hcz11_0:w9.cell?⟨gb101,0,none⟩=some(.slice A0_0 l0_0.length c0_0):=(blk_cell BK101.out 0).trans rfl;have hcz11_1:w9.cell?⟨gb101,1,none⟩=some(.int .i64 a0_1):=(blk_cell BK101.out 1).trans rfl;have hcz11_2:w9.cell?⟨gb101,2,none⟩=some(.string a0_2):=(blk_cell BK101.out 2).trans rfl;have hcz11_3:w9.cell?⟨gb101,3,none⟩=some(.int .i64 a0_3):=(blk_cell BK101.out 3).trans rfl;have hfz11_0:=blk_frozen BK101.out 0;have hfz11_1:=blk_frozen BK101.out 1;have hfz11_2:=blk_frozen BK101.out 2;have hfz11_3:=blk_frozen BK101.out 3;have hcz12_0:w9.cell?⟨gb102,0,none⟩=some(.slice none 0 0):=(blk_cell BK102.out 0).trans rfl;have hcz12_1:w9.cell?⟨gb102,1,none⟩=some(.int .i64 0):=(blk_cell BK102.out 1).trans rfl;have hcz12_2:w9.cell?⟨gb102,2,none⟩=some(.string(⟨#[]⟩:ByteArray)):=(blk_cell BK102.out 2).trans rfl;have hcz12_3:w9.cell?⟨gb102,3,none⟩=some(.int .i64 0):=(blk_cell BK102.out 3).trans rfl;have hfz12_0:=blk_frozen BK102.out 0;have hfz12_1:=blk_frozen BK102.out 1;have hfz12_2:=blk_frozen BK102.out 2;have hfz12_3:=blk_frozen BK102.out 3))
  refine bodyPost_ret(results_cell_row rfl _ _ gb102 27 #[.slice Ao10 y106.length co10,.int .i64 a0_1,.string a0_2,.int .i64 a0_3](0,0)_ rfl(by(with_reducible repeat(first|refine blk_drewN ?_ _|refine blk_drew ?_|refine blk_alloc ?_ _));refine blk_put(cs:=#[.slice Ao10 y106.length co10,.int .i64 a0_1,.string a0_2,.int .i64 0]) ?_ 3 _ rfl;(with_reducible repeat(first|refine blk_drewN ?_ _|refine blk_drew ?_|refine blk_alloc ?_ _));refine blk_put(cs:=#[.slice Ao10 y106.length co10,.int .i64 a0_1,.string(⟨#[]⟩:ByteArray),.int .i64 0]) ?_ 2 _ rfl;(with_reducible repeat(first|refine blk_drewN ?_ _|refine blk_drew ?_|refine blk_alloc ?_ _));refine blk_put(cs:=#[.slice Ao10 y106.length co10,.int .i64 0,.string(⟨#[]⟩:ByteArray),.int .i64 0]) ?_ 1 _ rfl;(with_reducible repeat(first|refine blk_drewN ?_ _|refine blk_drew ?_|refine blk_alloc ?_ _));refine blk_put(cs:=#[.slice none 0 0,.int .i64 0,.string(⟨#[]⟩:ByteArray),.int .i64 0]) ?_ 0 _ rfl;(with_reducible repeat(first|refine blk_drewN ?_ _|refine blk_drew ?_|refine blk_alloc ?_ _));refine blk_far ?_ NB102_101.out _;(with_reducible repeat(first|refine blk_drewN ?_ _|refine blk_drew ?_|refine blk_alloc ?_ _));exact BK102.out)Try.underlying27 rfl(by kernel_rfl))rfl ?_
  exact⟨_,by first|rfl|(simp [errW_none,errW_some] <;> rfl)|(simp [*,errW_none,errW_some] <;> rfl),by(with_reducible repeat(first|apply Kd.R_alloc|apply Kd.R_drewN|apply Kd.R_drew));exact Kd.R_mono(Kd.R_far(p:=⟨gb102,3,none⟩)(Kd.R_far(p:=⟨gb102,2,none⟩)(Kd.R_far(p:=⟨gb102,1,none⟩)(Kd.R_far(p:=⟨gb102,0,none⟩)(Kd.R_far(p:=⟨gb101,0,none⟩)(Kd.R_types(Kd.R_types HO108.out BK101.out(by decide))BK102.out(by decide))(fun _ hk=>hk.1.2)(.slice Ao10 y106.length co10))(fun _ hk=>hk.2)(.slice Ao10 y106.length co10))(fun _ hk=>hk.2)(.int .i64 a0_1))(fun _ hk=>hk.2)(.string a0_2))(fun _ hk=>hk.2)(.int .i64 a0_3))(fun _ hk=>trivial),by repeat(first|(with_reducible first|exact HB.out|apply below_alloc|apply pw_below_drewN|apply below_drew1|refine below_set ?_ GE101.out|refine below_set ?_ GE102.out)|exact HB.out)⟩
 ·
  rw [if_neg c2] at H
  exact absurd H(by simp)

end Go.Proofs.Ytgookagndlfehaa.PT
end
section
namespace Go.Proofs.Ytgookagndlfehaa.PT
open Go Go.RowKit Go.Proofs.YtgookagndlfehaaW.PrintWords Go.Proofs.YtgookagndlfehaaW.PrintLast Go.Proofs.YtgookagndlfehaaW.PrintMore
set_option linter.unusedVariables false
set_option linter.unusedSimpArgs false
theorem Inv.two {w0 w w1:World} {P:Nat→Prop} {F:World→Prop} {L:List Grp} {a b c:Grp} (h:Inv w0 P w(c::L)F)(hA:Agr w w1 c.S)(ha:∀ k,a.S k→(c.S k∨w.heap.size≤k)∧k<w1.heap.size)(hb:∀ k,b.S k→(c.S k∨w.heap.size≤k)∧k<w1.heap.size)(hab:∀ k,a.S k→¬b.S k)
  (hao:∀ w',(∀ k,a.S k→w'.heap[k]?=w1.heap[k]?)→a.A w')(hbo:∀ w',(∀ k,b.S k→w'.heap[k]?=w1.heap[k]?)→b.A w'):Inv w0 P w1(a::b::L)F:=by
 have h1:=h.step hA⟨fun k=>a.S k∨b.S k,fun _=>True⟩(fun k hk=>hk.elim(ha k)(hb k))(fun _ _=>trivial)
 have hd:=List.pairwise_cons.1 h1.dis
 refine⟨h1.agr,fun x hx k hk=>?_,fun x hx k hk=>?_,fun x hx w' hw=>?_,List.Pairwise.cons(fun x hx k hk hk2=>?_)(List.Pairwise.cons(fun x hx k hk hk2=>hd.1 x hx k(.inr hk)hk2)hd.2),fun w' hw=>h1.facts w'(hw.mono ?_)⟩
 ·
  rcases List.mem_cons.1 hx with rfl|hx
  ·
   exact h1.lt _ List.mem_cons_self k(.inl hk)
  ·
   rcases List.mem_cons.1 hx with rfl|hx
   ·
    exact h1.lt _ List.mem_cons_self k(.inr hk)
   ·
    exact h1.lt x(List.mem_cons_of_mem _ hx)k hk
 ·
  rcases List.mem_cons.1 hx with rfl|hx
  ·
   exact h1.new _ List.mem_cons_self k(.inl hk)
  ·
   rcases List.mem_cons.1 hx with rfl|hx
   ·
    exact h1.new _ List.mem_cons_self k(.inr hk)
   ·
    exact h1.new x(List.mem_cons_of_mem _ hx)k hk
 ·
  rcases List.mem_cons.1 hx with rfl|hx
  ·
   exact hao w' hw
  ·
   rcases List.mem_cons.1 hx with rfl|hx
   ·
    exact hbo w' hw
   ·
    exact h1.own x(List.mem_cons_of_mem _ hx)w' hw
 ·
  rcases List.mem_cons.1 hx with rfl|hx
  ·
   exact hab k hk hk2
  ·
   exact hd.1 x hx k(.inl hk)hk2
 ·
  rintro k⟨x,hx,hk⟩
  rcases List.mem_cons.1 hx with rfl|hx
  ·
   exact⟨_,List.mem_cons_self,.inl hk⟩
  ·
   rcases List.mem_cons.1 hx with rfl|hx
   ·
    exact⟨_,List.mem_cons_self,.inr hk⟩
   ·
    exact⟨x,List.mem_cons_of_mem _ hx,hk⟩
theorem Inv.keptTwo {α β:Type} {d:Kd α} {d2:Kd β} {e e2 b b2 b3:Nat} {w0 w w1:World} {P:Nat→Prop} {F:World→Prop} {L:List Grp} {c:Grp} {vp v1:Value} {ps:List β} {ys:List α} {okp oks:Nat→Prop} (hE:d.E=[])(hE2:d2.E=[])(h:Inv w0 P w(c::L)F)(hA:Agr w w1 c.S)
  (hRp:d2.R e2 w1 b2 okp vp ps)(hb2:w.heap.size≤b2)(hb3:b3≤b2)(hRs:d.R e w1 b oks v1 ys)(hoks:∀ k,oks k→c.S k∨w.heap.size≤k)(hne:∀ k,oks k→some k≠vp.ownBlock):
  Inv w0 P w1(row d2 e2 b3 vp ps(fun k=>some k=vp.ownBlock)::row d e b v1 ys(fun k=>some k=v1.ownBlock)::L)F:=
 h.two hA(fun k hk=>⟨.inr(Nat.le_trans hb2(Kd.R_base hRp k hk.symm)),Kd.R_lt hRp k hk.symm⟩)(fun k hk=>⟨hoks k(hRs.1 k hk.symm),Kd.R_lt hRs k hk.symm⟩)(fun k hk hk2=>hne k(hRs.1 k hk2.symm)hk)
  (fun w' hw=>Kd.R_step(Kd.R_lower(Kd.R_tight hE2 hRp)hb3)(fun k hk _=>hw k hk))(fun w' hw=>Kd.R_step(Kd.R_tight hE hRs)(fun k hk _=>hw k hk))
def spec_SumVerify.f(k:Nat)(kind c0 c1:Int)(l2:List(List S34))(vars:Int)(u0:List S34)(u1:Int)(u2:ByteArray)(u3:Int):Option(List S34 × Int × Int × List S34 × Int × ByteArray × Int × Int):=
 if(l2.length:Int)>4096 then some([],0,0,[],0,(⟨#[]⟩:ByteArray),0,2)else(spec_l08Rounds.f k l2).bind fun t=>if t=0 then((spec_ExtOK.f c0 c1).bind fun b1=>if b1=false then some([],0,0,[],0,(⟨#[]⟩:ByteArray),0,1)else(spec_SourceOK.f k u0 u1 u2 u3).bind fun b2=>if b2=false then some([],0,0,[],0,(⟨#[]⟩:ByteArray),0,1)else
 (spec_l08Kind.f kind).bind fun b3=>if b3=false then some([],0,0,[],0,(⟨#[]⟩:ByteArray),0,4)else(spec_l01In.f vars 0 6).bind fun b4=>if b4=false then some([],0,0,[],0,(⟨#[]⟩:ByteArray),0,4)else(spec_l05Spent.f u0 u1 u2 u3 6).bind fun b5=>if b5=false then
  ((spec_l08Verify.f k kind c0 c1 l2 vars u0 u1 u2 u3).bind fun v=>if v.2.2.2.1=0 then((spec_l05Own.f v.2.2.2.2.1 v.2.2.2.2.2.1 v.2.2.2.2.2.2.1 v.2.2.2.2.2.2.2).bind fun o=>some(v.1,v.2.1,v.2.2.1,o.1,o.2.1,o.2.2.1,o.2.2.2,0))else some([],0,0,[],0,(⟨#[]⟩:ByteArray),0,v.2.2.2.1))else some([],0,0,[],0,(⟨#[]⟩:ByteArray),0,6))else some([],0,0,[],0,(⟨#[]⟩:ByteArray),0,t)
set_option maxHeartbeats 4000000 in
set_option maxRecDepth 100000 in
theorem spec_SumVerify.calls(k:Nat)(kind c0 c1:Int)(A2:Option Addr)(cap2:Nat)(l2:List(List S34))(vars:Int)(P0:Nat→Prop)(us:Value)(u0:List S34)(u1:Int)(u2:ByteArray)(u3:Int)(r1:List S34)(r2 r3:Int)(r4:List S34)(r5:Int)(r6:ByteArray)(r7 r8:Int)(wb w:World)(hB:Below wb.heap.size wb w)(ho:Kd.R k34 34 w wb.heap.size P0 us u0)(hr2:∀ W_,Agr w W_(fun k=>some k=us.ownBlock)→Kd.C(Kd.slice 34 k34)W_ A2 l2.length l2)(hc2:l2.length≤cap2)(h:spec_SumVerify.f k kind c0 c1 l2 vars u0 u1 u2 u3=some(r1,r2,r3,r4,r5,r6,r7,r8)):
  Calls Try.prog 26 #[.int .i64 kind,.agg #[.int .i64 c0,.int .i64 c1],.slice A2 l2.length cap2,.int .i64 vars,.agg #[us,.int .i64 u1,.string u2,.int .i64 u3]] w fun e w'=>∃ v0_ v3_:Value,e=.returned(.tuple #[v0_,.agg #[.int .i64 r2,.int .i64 r3],.agg #[v3_,.int .i64 r5,.string r6,.int .i64 r7],.int .i64 r8])∧Kd.R k34 34 w' w.heap.size(fun k_=>some k_≠v3_.ownBlock)v0_ r1∧Kd.R k34 34 w' w.heap.size(fun k_=>some k_≠v0_.ownBlock)v3_ r4∧Below wb.heap.size wb w'∧Kept w w'(fun k=>some k=us.ownBlock):=by
 have hu34:=Try.underlying34
 have hu27:=Try.underlying27
 have HC2:=am_ hc2
 obtain⟨Au,cu,eu⟩:=Kd.R_slice ho
 subst eu
 have HB:=am_ hB
 have HPW:=am_(show ∀ k,some k=(Value.slice Au u0.length cu).ownBlock→wb.heap.size≤k from fun k hk=>Kd.R_base ho k hk.symm)
 have HPE:=am_(fun(k:Nat)(hk:some k=(Value.slice Au u0.length cu).ownBlock)=>hk)
 have HI:=am_(Inv.startR(d:=k34)rfl ho(fun w2=>Kd.C(Kd.slice 34 k34)w2 A2 l2.length l2)hr2)
 clear hB ho hr2 hc2
 unfold spec_SumVerify.f at h
 by_cases cx4:(l2.length:Int)>4096
 ·
  rw [if_pos cx4] at h
  have f0:decide((l2.length:Int)>4096)=true:=decide_eq_true cx4
  have f0b:decide(4096<(l2.length:Int))=true:=decide_eq_true cx4
  have f0c:decide(4096<l2.length)=true:=decide_eq_true(by omega)
  clear cx4
  simp only [Option.some.injEq,Prod.mk.injEq] at h
  obtain⟨rfl,rfl,rfl,rfl,rfl,rfl,rfl,rfl⟩:=h
  go_enter Try.func26,Try.ntmps26
  go_wp2_with(first|((with_reducible refine gate_dst(N:=6)rfl ?_);refine box_event rfl(N:=6)rfl(cs:=#[.int .i64 c0,.int .i64 c1])(t:=34)bx_ ?_;intro g6 hg w6_ hbox hb;replace HI:=am_((HI.out).box hg hbox hb);clear hb hbox hg)|((with_reducible refine gate_dst(N:=9)rfl ?_);refine box_event rfl(N:=9)rfl(cs:=#[.slice Au u0.length cu,.int .i64 u1,.string u2,.int .i64 u3])(t:=27)bx_ ?_;intro g9 hg w9_ hbox hb;replace HI:=am_((HI.out).box hg hbox hb);clear hb hbox hg)|((with_reducible refine gate_dst(N:=11)rfl ?_);refine box_event rfl(N:=11)rfl(cs:=#[.int .i64 0,.int .i64 0])(t:=34)bx_ ?_;intro g11 hg w11_ hbox hb;replace HI:=am_((HI.out).box hg hbox hb);clear hb hbox hg)|((with_reducible refine gate_dst(N:=12)rfl ?_);refine box_event rfl(N:=12)rfl(cs:=#[.slice none 0 0,.int .i64 0,.string(⟨#[]⟩:ByteArray),.int .i64 0])(t:=27)bx_ ?_;intro g12 hg w12_ hbox hb;replace HI:=am_((HI.out).box hg hbox hb);clear hb hbox hg)|((with_reducible refine gate_dst(N:=21)rfl ?_);refine Kd.R_lit k34(w0:=_)_ 34 ?hg(N:=21) ?hd(xs:=([]:List S34))(inner:=[])(ok:=fun _=>True)(okp:=fun _=>True) ?hr ?hp(fun _ hk=>hk)trivial(Below.refl _ _)(Nat.le_refl _)(by simp) ?_;(case hd=>rfl);(case hg=>rfl);(case hr=>first|(go_simp;done)|(go_simp;rfl));(case hp=>exact(Reps.none _ _));intro ve we hR hb hg hat;replace HI:=am_((HI.out).rowPush hb hR);clear hR hb hg hat)|((with_reducible refine gate_store(p:=11)(v:=(.tmp 22))(t:=34)rfl ?_);go_must(refine wpList_store_row rfl 34 _ _ rfl g11(#[.int .i64 0,.int .i64 0])rfl qz0_ 34(#[.int .i64 0,.int .i64 0])(HI.out.get 2 rfl)(by kernel_rfl)rfl qz12_ ?_;replace HI:=am_((HI.out.front 2 rfl).put0(#[.int .i64 0,.int .i64 0]));generalize World.setRow _ g11(#[.int .i64 0,.int .i64 0])=wf at HI ⊢))|((with_reducible refine gate_store(p:=12)(v:=(.tmp 23))(t:=27)rfl ?_);go_must(refine wpList_store_row rfl 27 _ _ rfl g12(#[.slice none 0 0,.int .i64 0,.string(⟨#[]⟩:ByteArray),.int .i64 0])rfl qz0_ 27(#[.slice none 0 0,.int .i64 0,.string(⟨#[]⟩:ByteArray),.int .i64 0])(HI.out.get 2 rfl)(by kernel_rfl)rfl qz12_ ?_;replace HI:=am_((HI.out.front 2 rfl).put0(#[.slice none 0 0,.int .i64 0,.string(⟨#[]⟩:ByteArray),.int .i64 0]));generalize World.setRow _ g12(#[.slice none 0 0,.int .i64 0,.string(⟨#[]⟩:ByteArray),.int .i64 0])=wg at HI ⊢)))
  refine bodyPost_ret(results_tcct rfl _ _ g11 g12 34 27 #[.int .i64 0,.int .i64 0] #[.slice none 0 0,.int .i64 0,.string(⟨#[]⟩:ByteArray),.int .i64 0](0,0)(0,0)_ _ rfl(HI.out.get 1 rfl)hu34 rfl(by kernel_rfl)rfl(HI.out.get 0 rfl)hu27 rfl(by kernel_rfl))rfl ?_
  exact⟨_,_,rfl,Kd.R_mono(HI.out.get 2 rfl)(fun k hk e=>by simp [Value.ownBlock] at e),Kd.R_nil _ _ _ _ _,HI.out.belowP HB.out HPW.out,⟨HI.out.agr.size,HI.out.agr.block⟩⟩
 ·
  rw [if_neg cx4] at h
  have f0:decide((l2.length:Int)>4096)=false:=decide_eq_false cx4
  have f0b:decide(4096<(l2.length:Int))=false:=decide_eq_false cx4
  have f0c:decide(4096<l2.length)=false:=decide_eq_false(by omega)
  clear cx4
  replace h:=Option.bind_eq_some_iff.1 h
  obtain⟨t,hrn_,h⟩:=h
  have HRN:=am_ hrn_
  clear hrn_
  by_cases ct:t=0
  ·
   rw [if_pos ct] at h
   subst ct
   replace h:=Option.bind_eq_some_iff.1 h
   obtain⟨b1,hex_,h⟩:=h
   have HEX:=am_ hex_
   clear hex_
   cases b1 with
   | false=>
    rw [if_pos rfl] at h
    simp only [Option.some.injEq,Prod.mk.injEq] at h
    obtain⟨rfl,rfl,rfl,rfl,rfl,rfl,rfl,rfl⟩:=h
    go_enter Try.func26,Try.ntmps26
    go_wp2_with(first|((with_reducible refine gate_dst(N:=6)rfl ?_);refine box_event rfl(N:=6)rfl(cs:=#[.int .i64 c0,.int .i64 c1])(t:=34)bx_ ?_;intro g6 hg w6_ hbox hb;replace HI:=am_((HI.out).box hg hbox hb);clear hb hbox hg)|((with_reducible refine gate_dst(N:=9)rfl ?_);refine box_event rfl(N:=9)rfl(cs:=#[.slice Au u0.length cu,.int .i64 u1,.string u2,.int .i64 u3])(t:=27)bx_ ?_;intro g9 hg w9_ hbox hb;replace HI:=am_((HI.out).box hg hbox hb);clear hb hbox hg)|((with_reducible refine gate_dst(N:=11)rfl ?_);refine box_event rfl(N:=11)rfl(cs:=#[.int .i64 0,.int .i64 0])(t:=34)bx_ ?_;intro g11 hg w11_ hbox hb;replace HI:=am_((HI.out).box hg hbox hb);clear hb hbox hg)|((with_reducible refine gate_dst(N:=12)rfl ?_);refine box_event rfl(N:=12)rfl(cs:=#[.slice none 0 0,.int .i64 0,.string(⟨#[]⟩:ByteArray),.int .i64 0])(t:=27)bx_ ?_;intro g12 hg w12_ hbox hb;replace HI:=am_((HI.out).box hg hbox hb);clear hb hbox hg)|(go_at_call 70;(refine(spec_l08Rounds.calls k A2 cap2 l2 _ _ HI.out.now HC2.out HRN.out).mono ?_);rintro e w25⟨rfl,hb⟩;replace HI:=am_(HI.out.grow hb);clear hb;have h60:World.cell? _⟨g6,0,none⟩=some(.int .i64 c0):=(blk_cell(HI.out.get 3 rfl)0).trans rfl;have h61:World.cell? _⟨g6,1,none⟩=some(.int .i64 c1):=(blk_cell(HI.out.get 3 rfl)1).trans rfl)|(go_at_call 71;(refine(spec_ExtOK.calls c0 c1 _ _ HEX.out).mono ?_);rintro e w30⟨rfl,hb⟩;replace HI:=am_(HI.out.grow hb);clear hb;have h90:World.cell? _⟨g9,0,none⟩=some(.slice Au u0.length cu):=(blk_cell(HI.out.get 2 rfl)0).trans rfl;have h91:World.cell? _⟨g9,1,none⟩=some(.int .i64 u1):=(blk_cell(HI.out.get 2 rfl)1).trans rfl;have h92:World.cell? _⟨g9,2,none⟩=some(.string u2):=(blk_cell(HI.out.get 2 rfl)2).trans rfl;have h93:World.cell? _⟨g9,3,none⟩=some(.int .i64 u3):=(blk_cell(HI.out.get 2 rfl)3).trans rfl)|((with_reducible refine gate_dst(N:=58)rfl ?_);refine Kd.R_lit k34(w0:=_)_ 34 ?hg(N:=58) ?hd(xs:=([]:List S34))(inner:=[])(ok:=fun _=>True)(okp:=fun _=>True) ?hr ?hp(fun _ hk=>hk)trivial(Below.refl _ _)(Nat.le_refl _)(by simp) ?_;(case hd=>rfl);(case hg=>rfl);(case hr=>first|(go_simp;done)|(go_simp;rfl));(case hp=>exact(Reps.none _ _));intro ve we hR hb hg hat;replace HI:=am_((HI.out).rowPush hb hR);clear hR hb hg hat)|((with_reducible refine gate_store(p:=11)(v:=(.tmp 59))(t:=34)rfl ?_);go_must(refine wpList_store_row rfl 34 _ _ rfl g11(#[.int .i64 0,.int .i64 0])rfl qz0_ 34(#[.int .i64 0,.int .i64 0])(HI.out.get 2 rfl)(by kernel_rfl)rfl qz12_ ?_;replace HI:=am_((HI.out.front 2 rfl).put0(#[.int .i64 0,.int .i64 0]));generalize World.setRow _ g11(#[.int .i64 0,.int .i64 0])=wf at HI ⊢))|((with_reducible refine gate_store(p:=12)(v:=(.tmp 60))(t:=27)rfl ?_);go_must(refine wpList_store_row rfl 27 _ _ rfl g12(#[.slice none 0 0,.int .i64 0,.string(⟨#[]⟩:ByteArray),.int .i64 0])rfl qz0_ 27(#[.slice none 0 0,.int .i64 0,.string(⟨#[]⟩:ByteArray),.int .i64 0])(HI.out.get 2 rfl)(by kernel_rfl)rfl qz12_ ?_;replace HI:=am_((HI.out.front 2 rfl).put0(#[.slice none 0 0,.int .i64 0,.string(⟨#[]⟩:ByteArray),.int .i64 0]));generalize World.setRow _ g12(#[.slice none 0 0,.int .i64 0,.string(⟨#[]⟩:ByteArray),.int .i64 0])=wg at HI ⊢)))
    refine bodyPost_ret(results_tcct rfl _ _ g11 g12 34 27 #[.int .i64 0,.int .i64 0] #[.slice none 0 0,.int .i64 0,.string(⟨#[]⟩:ByteArray),.int .i64 0](0,0)(0,0)_ _ rfl(HI.out.get 1 rfl)hu34 rfl(by kernel_rfl)rfl(HI.out.get 0 rfl)hu27 rfl(by kernel_rfl))rfl ?_
    exact⟨_,_,rfl,Kd.R_mono(HI.out.get 2 rfl)(fun k hk e=>by simp [Value.ownBlock] at e),Kd.R_nil _ _ _ _ _,HI.out.belowP HB.out HPW.out,⟨HI.out.agr.size,HI.out.agr.block⟩⟩
   | true=>
    rw [if_neg(by decide)] at h
    replace h:=Option.bind_eq_some_iff.1 h
    obtain⟨b2,hso_,h⟩:=h
    have HSO:=am_ hso_
    clear hso_
    cases b2 with
    | false=>
     rw [if_pos rfl] at h
     simp only [Option.some.injEq,Prod.mk.injEq] at h
     obtain⟨rfl,rfl,rfl,rfl,rfl,rfl,rfl,rfl⟩:=h
     go_enter Try.func26,Try.ntmps26
     go_wp2_with(first|((with_reducible refine gate_dst(N:=6)rfl ?_);refine box_event rfl(N:=6)rfl(cs:=#[.int .i64 c0,.int .i64 c1])(t:=34)bx_ ?_;intro g6 hg w6_ hbox hb;replace HI:=am_((HI.out).box hg hbox hb);clear hb hbox hg)|((with_reducible refine gate_dst(N:=9)rfl ?_);refine box_event rfl(N:=9)rfl(cs:=#[.slice Au u0.length cu,.int .i64 u1,.string u2,.int .i64 u3])(t:=27)bx_ ?_;intro g9 hg w9_ hbox hb;replace HI:=am_((HI.out).box hg hbox hb);clear hb hbox hg)|((with_reducible refine gate_dst(N:=11)rfl ?_);refine box_event rfl(N:=11)rfl(cs:=#[.int .i64 0,.int .i64 0])(t:=34)bx_ ?_;intro g11 hg w11_ hbox hb;replace HI:=am_((HI.out).box hg hbox hb);clear hb hbox hg)|((with_reducible refine gate_dst(N:=12)rfl ?_);refine box_event rfl(N:=12)rfl(cs:=#[.slice none 0 0,.int .i64 0,.string(⟨#[]⟩:ByteArray),.int .i64 0])(t:=27)bx_ ?_;intro g12 hg w12_ hbox hb;replace HI:=am_((HI.out).box hg hbox hb);clear hb hbox hg)|(go_at_call 70;(refine(spec_l08Rounds.calls k A2 cap2 l2 _ _ HI.out.now HC2.out HRN.out).mono ?_);rintro e w25⟨rfl,hb⟩;replace HI:=am_(HI.out.grow hb);clear hb;have h60:World.cell? _⟨g6,0,none⟩=some(.int .i64 c0):=(blk_cell(HI.out.get 3 rfl)0).trans rfl;have h61:World.cell? _⟨g6,1,none⟩=some(.int .i64 c1):=(blk_cell(HI.out.get 3 rfl)1).trans rfl)|(go_at_call 71;(refine(spec_ExtOK.calls c0 c1 _ _ HEX.out).mono ?_);rintro e w30⟨rfl,hb⟩;replace HI:=am_(HI.out.grow hb);clear hb;have h90:World.cell? _⟨g9,0,none⟩=some(.slice Au u0.length cu):=(blk_cell(HI.out.get 2 rfl)0).trans rfl;have h91:World.cell? _⟨g9,1,none⟩=some(.int .i64 u1):=(blk_cell(HI.out.get 2 rfl)1).trans rfl;have h92:World.cell? _⟨g9,2,none⟩=some(.string u2):=(blk_cell(HI.out.get 2 rfl)2).trans rfl;have h93:World.cell? _⟨g9,3,none⟩=some(.int .i64 u3):=(blk_cell(HI.out.get 2 rfl)3).trans rfl)|(go_at_call 72;(refine(spec_SourceOK.calls k Au cu u0 u1 u2 u3 _ _(Kd.R_reads'(HI.out.get 4 rfl)).2.2(Kd.R_reads'(HI.out.get 4 rfl)).2.1 HSO.out).mono ?_);rintro e w34⟨rfl,hb⟩;replace HI:=am_(HI.out.grow hb);clear hb)|((with_reducible refine gate_dst(N:=58)rfl ?_);refine Kd.R_lit k34(w0:=_)_ 34 ?hg(N:=58) ?hd(xs:=([]:List S34))(inner:=[])(ok:=fun _=>True)(okp:=fun _=>True) ?hr ?hp(fun _ hk=>hk)trivial(Below.refl _ _)(Nat.le_refl _)(by simp) ?_;(case hd=>rfl);(case hg=>rfl);(case hr=>first|(go_simp;done)|(go_simp;rfl));(case hp=>exact(Reps.none _ _));intro ve we hR hb hg hat;replace HI:=am_((HI.out).rowPush hb hR);clear hR hb hg hat)|((with_reducible refine gate_store(p:=11)(v:=(.tmp 59))(t:=34)rfl ?_);go_must(refine wpList_store_row rfl 34 _ _ rfl g11(#[.int .i64 0,.int .i64 0])rfl qz0_ 34(#[.int .i64 0,.int .i64 0])(HI.out.get 2 rfl)(by kernel_rfl)rfl qz12_ ?_;replace HI:=am_((HI.out.front 2 rfl).put0(#[.int .i64 0,.int .i64 0]));generalize World.setRow _ g11(#[.int .i64 0,.int .i64 0])=wf at HI ⊢))|((with_reducible refine gate_store(p:=12)(v:=(.tmp 60))(t:=27)rfl ?_);go_must(refine wpList_store_row rfl 27 _ _ rfl g12(#[.slice none 0 0,.int .i64 0,.string(⟨#[]⟩:ByteArray),.int .i64 0])rfl qz0_ 27(#[.slice none 0 0,.int .i64 0,.string(⟨#[]⟩:ByteArray),.int .i64 0])(HI.out.get 2 rfl)(by kernel_rfl)rfl qz12_ ?_;replace HI:=am_((HI.out.front 2 rfl).put0(#[.slice none 0 0,.int .i64 0,.string(⟨#[]⟩:ByteArray),.int .i64 0]));generalize World.setRow _ g12(#[.slice none 0 0,.int .i64 0,.string(⟨#[]⟩:ByteArray),.int .i64 0])=wg at HI ⊢)))
     refine bodyPost_ret(results_tcct rfl _ _ g11 g12 34 27 #[.int .i64 0,.int .i64 0] #[.slice none 0 0,.int .i64 0,.string(⟨#[]⟩:ByteArray),.int .i64 0](0,0)(0,0)_ _ rfl(HI.out.get 1 rfl)hu34 rfl(by kernel_rfl)rfl(HI.out.get 0 rfl)hu27 rfl(by kernel_rfl))rfl ?_
     exact⟨_,_,rfl,Kd.R_mono(HI.out.get 2 rfl)(fun k hk e=>by simp [Value.ownBlock] at e),Kd.R_nil _ _ _ _ _,HI.out.belowP HB.out HPW.out,⟨HI.out.agr.size,HI.out.agr.block⟩⟩
    | true=>
     rw [if_neg(by decide)] at h
     replace h:=Option.bind_eq_some_iff.1 h
     obtain⟨b3,hkn_,h⟩:=h
     have HKN:=am_ hkn_
     clear hkn_
     cases b3 with
     | false=>
      rw [if_pos rfl] at h
      simp only [Option.some.injEq,Prod.mk.injEq] at h
      obtain⟨rfl,rfl,rfl,rfl,rfl,rfl,rfl,rfl⟩:=h
      go_enter Try.func26,Try.ntmps26
      go_wp2_with(first|((with_reducible refine gate_dst(N:=6)rfl ?_);refine box_event rfl(N:=6)rfl(cs:=#[.int .i64 c0,.int .i64 c1])(t:=34)bx_ ?_;intro g6 hg w6_ hbox hb;replace HI:=am_((HI.out).box hg hbox hb);clear hb hbox hg)|((with_reducible refine gate_dst(N:=9)rfl ?_);refine box_event rfl(N:=9)rfl(cs:=#[.slice Au u0.length cu,.int .i64 u1,.string u2,.int .i64 u3])(t:=27)bx_ ?_;intro g9 hg w9_ hbox hb;replace HI:=am_((HI.out).box hg hbox hb);clear hb hbox hg)|((with_reducible refine gate_dst(N:=11)rfl ?_);refine box_event rfl(N:=11)rfl(cs:=#[.int .i64 0,.int .i64 0])(t:=34)bx_ ?_;intro g11 hg w11_ hbox hb;replace HI:=am_((HI.out).box hg hbox hb);clear hb hbox hg)|((with_reducible refine gate_dst(N:=12)rfl ?_);refine box_event rfl(N:=12)rfl(cs:=#[.slice none 0 0,.int .i64 0,.string(⟨#[]⟩:ByteArray),.int .i64 0])(t:=27)bx_ ?_;intro g12 hg w12_ hbox hb;replace HI:=am_((HI.out).box hg hbox hb);clear hb hbox hg)|(go_at_call 70;(refine(spec_l08Rounds.calls k A2 cap2 l2 _ _ HI.out.now HC2.out HRN.out).mono ?_);rintro e w25⟨rfl,hb⟩;replace HI:=am_(HI.out.grow hb);clear hb;have h60:World.cell? _⟨g6,0,none⟩=some(.int .i64 c0):=(blk_cell(HI.out.get 3 rfl)0).trans rfl;have h61:World.cell? _⟨g6,1,none⟩=some(.int .i64 c1):=(blk_cell(HI.out.get 3 rfl)1).trans rfl)|(go_at_call 71;(refine(spec_ExtOK.calls c0 c1 _ _ HEX.out).mono ?_);rintro e w30⟨rfl,hb⟩;replace HI:=am_(HI.out.grow hb);clear hb;have h90:World.cell? _⟨g9,0,none⟩=some(.slice Au u0.length cu):=(blk_cell(HI.out.get 2 rfl)0).trans rfl;have h91:World.cell? _⟨g9,1,none⟩=some(.int .i64 u1):=(blk_cell(HI.out.get 2 rfl)1).trans rfl;have h92:World.cell? _⟨g9,2,none⟩=some(.string u2):=(blk_cell(HI.out.get 2 rfl)2).trans rfl;have h93:World.cell? _⟨g9,3,none⟩=some(.int .i64 u3):=(blk_cell(HI.out.get 2 rfl)3).trans rfl)|(go_at_call 72;(refine(spec_SourceOK.calls k Au cu u0 u1 u2 u3 _ _(Kd.R_reads'(HI.out.get 4 rfl)).2.2(Kd.R_reads'(HI.out.get 4 rfl)).2.1 HSO.out).mono ?_);rintro e w34⟨rfl,hb⟩;replace HI:=am_(HI.out.grow hb);clear hb)|(go_at_call 73;(refine(spec_l08Kind.calls kind _ _ HKN.out).mono ?_);rintro e w42⟨rfl,⟨n42,rfl⟩⟩;replace HI:=am_(HI.out.drewN n42);generalize World.drewN _ n42=wn42 at HI ⊢)|((with_reducible refine gate_dst(N:=58)rfl ?_);refine Kd.R_lit k34(w0:=_)_ 34 ?hg(N:=58) ?hd(xs:=([]:List S34))(inner:=[])(ok:=fun _=>True)(okp:=fun _=>True) ?hr ?hp(fun _ hk=>hk)trivial(Below.refl _ _)(Nat.le_refl _)(by simp) ?_;(case hd=>rfl);(case hg=>rfl);(case hr=>first|(go_simp;done)|(go_simp;rfl));(case hp=>exact(Reps.none _ _));intro ve we hR hb hg hat;replace HI:=am_((HI.out).rowPush hb hR);clear hR hb hg hat)|((with_reducible refine gate_store(p:=11)(v:=(.tmp 59))(t:=34)rfl ?_);go_must(refine wpList_store_row rfl 34 _ _ rfl g11(#[.int .i64 0,.int .i64 0])rfl qz0_ 34(#[.int .i64 0,.int .i64 0])(HI.out.get 2 rfl)(by kernel_rfl)rfl qz12_ ?_;replace HI:=am_((HI.out.front 2 rfl).put0(#[.int .i64 0,.int .i64 0]));generalize World.setRow _ g11(#[.int .i64 0,.int .i64 0])=wf at HI ⊢))|((with_reducible refine gate_store(p:=12)(v:=(.tmp 60))(t:=27)rfl ?_);go_must(refine wpList_store_row rfl 27 _ _ rfl g12(#[.slice none 0 0,.int .i64 0,.string(⟨#[]⟩:ByteArray),.int .i64 0])rfl qz0_ 27(#[.slice none 0 0,.int .i64 0,.string(⟨#[]⟩:ByteArray),.int .i64 0])(HI.out.get 2 rfl)(by kernel_rfl)rfl qz12_ ?_;replace HI:=am_((HI.out.front 2 rfl).put0(#[.slice none 0 0,.int .i64 0,.string(⟨#[]⟩:ByteArray),.int .i64 0]));generalize World.setRow _ g12(#[.slice none 0 0,.int .i64 0,.string(⟨#[]⟩:ByteArray),.int .i64 0])=wg at HI ⊢)))
      refine bodyPost_ret(results_tcct rfl _ _ g11 g12 34 27 #[.int .i64 0,.int .i64 0] #[.slice none 0 0,.int .i64 0,.string(⟨#[]⟩:ByteArray),.int .i64 0](0,0)(0,0)_ _ rfl(HI.out.get 1 rfl)hu34 rfl(by kernel_rfl)rfl(HI.out.get 0 rfl)hu27 rfl(by kernel_rfl))rfl ?_
      exact⟨_,_,rfl,Kd.R_mono(HI.out.get 2 rfl)(fun k hk e=>by simp [Value.ownBlock] at e),Kd.R_nil _ _ _ _ _,HI.out.belowP HB.out HPW.out,⟨HI.out.agr.size,HI.out.agr.block⟩⟩
     | true=>
      rw [if_neg(by decide)] at h
      replace h:=Option.bind_eq_some_iff.1 h
      obtain⟨b4,hin_,h⟩:=h
      have HIN:=am_ hin_
      clear hin_
      cases b4 with
      | false=>
       rw [if_pos rfl] at h
       simp only [Option.some.injEq,Prod.mk.injEq] at h
       obtain⟨rfl,rfl,rfl,rfl,rfl,rfl,rfl,rfl⟩:=h
       go_enter Try.func26,Try.ntmps26
       go_wp2_with(first|((with_reducible refine gate_dst(N:=6)rfl ?_);refine box_event rfl(N:=6)rfl(cs:=#[.int .i64 c0,.int .i64 c1])(t:=34)bx_ ?_;intro g6 hg w6_ hbox hb;replace HI:=am_((HI.out).box hg hbox hb);clear hb hbox hg)|((with_reducible refine gate_dst(N:=9)rfl ?_);refine box_event rfl(N:=9)rfl(cs:=#[.slice Au u0.length cu,.int .i64 u1,.string u2,.int .i64 u3])(t:=27)bx_ ?_;intro g9 hg w9_ hbox hb;replace HI:=am_((HI.out).box hg hbox hb);clear hb hbox hg)|((with_reducible refine gate_dst(N:=11)rfl ?_);refine box_event rfl(N:=11)rfl(cs:=#[.int .i64 0,.int .i64 0])(t:=34)bx_ ?_;intro g11 hg w11_ hbox hb;replace HI:=am_((HI.out).box hg hbox hb);clear hb hbox hg)|((with_reducible refine gate_dst(N:=12)rfl ?_);refine box_event rfl(N:=12)rfl(cs:=#[.slice none 0 0,.int .i64 0,.string(⟨#[]⟩:ByteArray),.int .i64 0])(t:=27)bx_ ?_;intro g12 hg w12_ hbox hb;replace HI:=am_((HI.out).box hg hbox hb);clear hb hbox hg)|(go_at_call 70;(refine(spec_l08Rounds.calls k A2 cap2 l2 _ _ HI.out.now HC2.out HRN.out).mono ?_);rintro e w25⟨rfl,hb⟩;replace HI:=am_(HI.out.grow hb);clear hb;have h60:World.cell? _⟨g6,0,none⟩=some(.int .i64 c0):=(blk_cell(HI.out.get 3 rfl)0).trans rfl;have h61:World.cell? _⟨g6,1,none⟩=some(.int .i64 c1):=(blk_cell(HI.out.get 3 rfl)1).trans rfl)|(go_at_call 71;(refine(spec_ExtOK.calls c0 c1 _ _ HEX.out).mono ?_);rintro e w30⟨rfl,hb⟩;replace HI:=am_(HI.out.grow hb);clear hb;have h90:World.cell? _⟨g9,0,none⟩=some(.slice Au u0.length cu):=(blk_cell(HI.out.get 2 rfl)0).trans rfl;have h91:World.cell? _⟨g9,1,none⟩=some(.int .i64 u1):=(blk_cell(HI.out.get 2 rfl)1).trans rfl;have h92:World.cell? _⟨g9,2,none⟩=some(.string u2):=(blk_cell(HI.out.get 2 rfl)2).trans rfl;have h93:World.cell? _⟨g9,3,none⟩=some(.int .i64 u3):=(blk_cell(HI.out.get 2 rfl)3).trans rfl)|(go_at_call 72;(refine(spec_SourceOK.calls k Au cu u0 u1 u2 u3 _ _(Kd.R_reads'(HI.out.get 4 rfl)).2.2(Kd.R_reads'(HI.out.get 4 rfl)).2.1 HSO.out).mono ?_);rintro e w34⟨rfl,hb⟩;replace HI:=am_(HI.out.grow hb);clear hb)|(go_at_call 73;(refine(spec_l08Kind.calls kind _ _ HKN.out).mono ?_);rintro e w42⟨rfl,⟨n42,rfl⟩⟩;replace HI:=am_(HI.out.drewN n42);generalize World.drewN _ n42=wn42 at HI ⊢)|(go_at_call 61;(refine(spec_l01In.calls vars 0 6 _ _ HIN.out).mono ?_);rintro e w46⟨rfl,⟨n46,rfl⟩⟩;replace HI:=am_(HI.out.drewN n46);generalize World.drewN _ n46=wn46 at HI ⊢;have hk0:World.cell? _⟨g9,0,none⟩=some(.slice Au u0.length cu):=(blk_cell(HI.out.get 2 rfl)0).trans rfl;have hk1:World.cell? _⟨g9,1,none⟩=some(.int .i64 u1):=(blk_cell(HI.out.get 2 rfl)1).trans rfl;have hk2:World.cell? _⟨g9,2,none⟩=some(.string u2):=(blk_cell(HI.out.get 2 rfl)2).trans rfl;have hk3:World.cell? _⟨g9,3,none⟩=some(.int .i64 u3):=(blk_cell(HI.out.get 2 rfl)3).trans rfl)|((with_reducible refine gate_dst(N:=58)rfl ?_);refine Kd.R_lit k34(w0:=_)_ 34 ?hg(N:=58) ?hd(xs:=([]:List S34))(inner:=[])(ok:=fun _=>True)(okp:=fun _=>True) ?hr ?hp(fun _ hk=>hk)trivial(Below.refl _ _)(Nat.le_refl _)(by simp) ?_;(case hd=>rfl);(case hg=>rfl);(case hr=>first|(go_simp;done)|(go_simp;rfl));(case hp=>exact(Reps.none _ _));intro ve we hR hb hg hat;replace HI:=am_((HI.out).rowPush hb hR);clear hR hb hg hat)|((with_reducible refine gate_store(p:=11)(v:=(.tmp 59))(t:=34)rfl ?_);go_must(refine wpList_store_row rfl 34 _ _ rfl g11(#[.int .i64 0,.int .i64 0])rfl qz0_ 34(#[.int .i64 0,.int .i64 0])(HI.out.get 2 rfl)(by kernel_rfl)rfl qz12_ ?_;replace HI:=am_((HI.out.front 2 rfl).put0(#[.int .i64 0,.int .i64 0]));generalize World.setRow _ g11(#[.int .i64 0,.int .i64 0])=wf at HI ⊢))|((with_reducible refine gate_store(p:=12)(v:=(.tmp 60))(t:=27)rfl ?_);go_must(refine wpList_store_row rfl 27 _ _ rfl g12(#[.slice none 0 0,.int .i64 0,.string(⟨#[]⟩:ByteArray),.int .i64 0])rfl qz0_ 27(#[.slice none 0 0,.int .i64 0,.string(⟨#[]⟩:ByteArray),.int .i64 0])(HI.out.get 2 rfl)(by kernel_rfl)rfl qz12_ ?_;replace HI:=am_((HI.out.front 2 rfl).put0(#[.slice none 0 0,.int .i64 0,.string(⟨#[]⟩:ByteArray),.int .i64 0]));generalize World.setRow _ g12(#[.slice none 0 0,.int .i64 0,.string(⟨#[]⟩:ByteArray),.int .i64 0])=wg at HI ⊢)))
       refine bodyPost_ret(results_tcct rfl _ _ g11 g12 34 27 #[.int .i64 0,.int .i64 0] #[.slice none 0 0,.int .i64 0,.string(⟨#[]⟩:ByteArray),.int .i64 0](0,0)(0,0)_ _ rfl(HI.out.get 1 rfl)hu34 rfl(by kernel_rfl)rfl(HI.out.get 0 rfl)hu27 rfl(by kernel_rfl))rfl ?_
       exact⟨_,_,rfl,Kd.R_mono(HI.out.get 2 rfl)(fun k hk e=>by simp [Value.ownBlock] at e),Kd.R_nil _ _ _ _ _,HI.out.belowP HB.out HPW.out,⟨HI.out.agr.size,HI.out.agr.block⟩⟩
      | true=>
       rw [if_neg(by decide)] at h
       replace h:=Option.bind_eq_some_iff.1 h
       obtain⟨b5,hsp_,h⟩:=h
       have HSP:=am_ hsp_
       clear hsp_
       cases b5 with
       | false=>
        rw [if_pos rfl] at h
        replace h:=Option.bind_eq_some_iff.1 h
        obtain⟨⟨v1,v2,v3,vc,s0,s1,s2,s3⟩,hvf_,h⟩:=h
        have HVF:=am_(show spec_l08Verify.f k kind c0 c1 l2 vars u0 u1 u2 u3=some(v1,v2,v3,vc,s0,s1,s2,s3)from hvf_)
        clear hvf_
        by_cases cv:vc=0
        ·
         rw [if_pos(show(v1,v2,v3,vc,s0,s1,s2,s3).2.2.2.1=0 from cv)] at h
         subst cv
         replace h:=Option.bind_eq_some_iff.1 h
         obtain⟨⟨o0,o1,o2,o3⟩,how_,h⟩:=h
         have HOW:=am_(show spec_l05Own.f s0 s1 s2 s3=some(o0,o1,o2,o3)from how_)
         clear how_
         simp only [Option.some.injEq,Prod.mk.injEq] at h
         obtain⟨rfl,rfl,rfl,rfl,rfl,rfl,rfl,rfl⟩:=h
         go_enter Try.func26,Try.ntmps26
         go_wp2_with(first|((with_reducible refine gate_dst(N:=6)rfl ?_);refine box_event rfl(N:=6)rfl(cs:=#[.int .i64 c0,.int .i64 c1])(t:=34)bx_ ?_;intro g6 hg w6_ hbox hb;replace HI:=am_((HI.out).box hg hbox hb);clear hb hbox hg)|((with_reducible refine gate_dst(N:=9)rfl ?_);refine box_event rfl(N:=9)rfl(cs:=#[.slice Au u0.length cu,.int .i64 u1,.string u2,.int .i64 u3])(t:=27)bx_ ?_;intro g9 hg w9_ hbox hb;replace HI:=am_((HI.out).box hg hbox hb);clear hb hbox hg)|((with_reducible refine gate_dst(N:=11)rfl ?_);refine box_event rfl(N:=11)rfl(cs:=#[.int .i64 0,.int .i64 0])(t:=34)bx_ ?_;intro g11 hg w11_ hbox hb;replace HI:=am_((HI.out).box hg hbox hb);clear hb hbox hg)|((with_reducible refine gate_dst(N:=12)rfl ?_);refine box_event rfl(N:=12)rfl(cs:=#[.slice none 0 0,.int .i64 0,.string(⟨#[]⟩:ByteArray),.int .i64 0])(t:=27)bx_ ?_;intro g12 hg w12_ hbox hb;replace HI:=am_((HI.out).box hg hbox hb);clear hb hbox hg)|(go_at_call 70;(refine(spec_l08Rounds.calls k A2 cap2 l2 _ _ HI.out.now HC2.out HRN.out).mono ?_);rintro e w25⟨rfl,hb⟩;replace HI:=am_(HI.out.grow hb);clear hb;have h60:World.cell? _⟨g6,0,none⟩=some(.int .i64 c0):=(blk_cell(HI.out.get 3 rfl)0).trans rfl;have h61:World.cell? _⟨g6,1,none⟩=some(.int .i64 c1):=(blk_cell(HI.out.get 3 rfl)1).trans rfl)|(go_at_call 71;(refine(spec_ExtOK.calls c0 c1 _ _ HEX.out).mono ?_);rintro e w30⟨rfl,hb⟩;replace HI:=am_(HI.out.grow hb);clear hb;have h90:World.cell? _⟨g9,0,none⟩=some(.slice Au u0.length cu):=(blk_cell(HI.out.get 2 rfl)0).trans rfl;have h91:World.cell? _⟨g9,1,none⟩=some(.int .i64 u1):=(blk_cell(HI.out.get 2 rfl)1).trans rfl;have h92:World.cell? _⟨g9,2,none⟩=some(.string u2):=(blk_cell(HI.out.get 2 rfl)2).trans rfl;have h93:World.cell? _⟨g9,3,none⟩=some(.int .i64 u3):=(blk_cell(HI.out.get 2 rfl)3).trans rfl)|(go_at_call 72;(refine(spec_SourceOK.calls k Au cu u0 u1 u2 u3 _ _(Kd.R_reads'(HI.out.get 4 rfl)).2.2(Kd.R_reads'(HI.out.get 4 rfl)).2.1 HSO.out).mono ?_);rintro e w34⟨rfl,hb⟩;replace HI:=am_(HI.out.grow hb);clear hb)|(go_at_call 73;(refine(spec_l08Kind.calls kind _ _ HKN.out).mono ?_);rintro e w42⟨rfl,⟨n42,rfl⟩⟩;replace HI:=am_(HI.out.drewN n42);generalize World.drewN _ n42=wn42 at HI ⊢)|(go_at_call 61;(refine(spec_l01In.calls vars 0 6 _ _ HIN.out).mono ?_);rintro e w46⟨rfl,⟨n46,rfl⟩⟩;replace HI:=am_(HI.out.drewN n46);generalize World.drewN _ n46=wn46 at HI ⊢;have hk0:World.cell? _⟨g9,0,none⟩=some(.slice Au u0.length cu):=(blk_cell(HI.out.get 2 rfl)0).trans rfl;have hk1:World.cell? _⟨g9,1,none⟩=some(.int .i64 u1):=(blk_cell(HI.out.get 2 rfl)1).trans rfl;have hk2:World.cell? _⟨g9,2,none⟩=some(.string u2):=(blk_cell(HI.out.get 2 rfl)2).trans rfl;have hk3:World.cell? _⟨g9,3,none⟩=some(.int .i64 u3):=(blk_cell(HI.out.get 2 rfl)3).trans rfl)|(go_at_call 74;(refine(spec_l05Spent.calls Au cu u0 u1 u2 u3 6 _ _(Kd.R_reads'(HI.out.get 4 rfl)).2.2(Kd.R_reads'(HI.out.get 4 rfl)).2.1 HSP.out).mono ?_);rintro e w54⟨rfl,hb⟩;replace HI:=am_(HI.out.grow hb);clear hb)|((with_reducible refine gate_dst(N:=64)rfl ?_);go_must(refine wpList_load_row rfl 34 _ rfl g6 rfl 34(#[.int .i64 c0,.int .i64 c1])(0,0)_((HI.out.get 3 rfl))hu34 rfl(by kernel_rfl) ?_))|((with_reducible refine gate_dst(N:=67)rfl ?_);go_must(refine wpList_load_row rfl 27 _ rfl g9 rfl 27(#[.slice Au u0.length cu,.int .i64 u1,.string u2,.int .i64 u3])(0,0)_((HI.out.get 2 rfl))hu27 rfl(by kernel_rfl) ?_))|(go_at_call 75;(refine(spec_l08Verify.calls k kind c0 c1 A2 cap2 l2 vars _(.slice Au u0.length cu)u0 u1 u2 u3 v1 v2 v3 0 s0 s1 s2 s3 wb _(HI.out.belowP HB.out HPW.out)(HI.out.get 4 rfl)(fun W_ ha=>HI.out.facts W_(ha.mono(fun k hk=>⟨_,List.mem_of_getElem? (i:=4)rfl,HPE.out k hk⟩)))HVF.out).mono ?_);rintro e w68⟨vp,vs,rfl,hRp,hRs,hB2,hk⟩;obtain⟨As,cs,es⟩:=Kd.R_slice hRs;subst es;replace HI:=am_(Inv.keptTwo(b3:=w.heap.size)rfl rfl(HI.out.front 4 rfl)⟨hB2.os.trans(HI.out.belowP HB.out HPW.out).os.symm,hB2.tape.trans(HI.out.belowP HB.out HPW.out).tape.symm,hB2.output.trans(HI.out.belowP HB.out HPW.out).output.symm,hk.1,fun k hlt hn=>hk.2 k hlt(fun hs=>hn(HPE.out k hs))⟩hRp(Nat.le_refl _)HI.out.agr.size hRs(fun k hk=>hk.1.imp(HPE.out k)id)(fun k hk=>hk.2));clear hRp hRs hB2 hk)|((with_reducible refine gate_dst(N:=16)rfl ?_);refine box_event rfl(N:=16)rfl(cs:=#[.int .i64 0,.int .i64 0])(t:=34)bx_ ?_;intro g16 hg w16_ hbox hb;replace HI:=am_((HI.out).box hg hbox hb);clear hb hbox hg)|((with_reducible refine gate_dst(N:=17)rfl ?_);refine box_event rfl(N:=17)rfl(cs:=#[.slice none 0 0,.int .i64 0,.string(⟨#[]⟩:ByteArray),.int .i64 0])(t:=27)bx_ ?_;intro g17 hg w17_ hbox hb;replace HI:=am_((HI.out).box hg hbox hb);clear hb hbox hg)|((with_reducible refine gate_store(p:=16)(v:=(.tmp 70))(t:=34)rfl ?_);go_must(refine wpList_store_row rfl 34 _ _ rfl g16(#[.int .i64 v2,.int .i64 v3])rfl qz0_ 34(#[.int .i64 0,.int .i64 0])(HI.out.get 1 rfl)(draw_side v2 v3)(draw_len v2 v3)(draw_one v2 v3) ?_;replace HI:=am_((HI.out.front 1 rfl).put0(#[.int .i64 v2,.int .i64 v3]));generalize World.setRow _ g16(#[.int .i64 v2,.int .i64 v3])=w70 at HI ⊢))|((with_reducible refine gate_store(p:=17)(v:=(.tmp 71))(t:=27)rfl ?_);go_must(refine wpList_store_row rfl 27 _ _ rfl g17(#[.slice As s0.length cs,.int .i64 s1,.string s2,.int .i64 s3])rfl qz0_ 27(#[.slice none 0 0,.int .i64 0,.string(⟨#[]⟩:ByteArray),.int .i64 0])(HI.out.get 1 rfl)(by kernel_rfl)rfl qz12_ ?_;replace HI:=am_((HI.out.front 1 rfl).put0(#[.slice As s0.length cs,.int .i64 s1,.string s2,.int .i64 s3]));generalize World.setRow _ g17(#[.slice As s0.length cs,.int .i64 s1,.string s2,.int .i64 s3])=w71 at HI ⊢)))
         refine start_(n:=8)(S:=fun w'=>w'.cell?⟨g16,0,none⟩=some(.int .i64 v2)∧w'.cell?⟨g16,1,none⟩=some(.int .i64 v3)∧w'.cell?⟨g17,0,none⟩=some(.slice As s0.length cs)∧w'.cell?⟨g17,1,none⟩=some(.int .i64 s1)∧w'.cell?⟨g17,2,none⟩=some(.string s2)∧w'.cell?⟨g17,3,none⟩=some(.int .i64 s3))(ds:=[6])(bs_ 8 0)(by kernel_rfl)rfl rfl⟨(blk_cell((HI.out.drew).get 1 rfl)0).trans rfl,(blk_cell((HI.out.drew).get 1 rfl)1).trans rfl,(blk_cell((HI.out.drew).get 0 rfl)0).trans rfl,(blk_cell((HI.out.drew).get 0 rfl)1).trans rfl,(blk_cell((HI.out.drew).get 0 rfl)2).trans rfl,(blk_cell((HI.out.drew).get 0 rfl)3).trans rfl⟩(fun hHeld=>?_)
         replace HI:=am_(HI.out.drew)
         generalize World.drew _=wd0 at HI hHeld ⊢
         refine pu_ 0 79 (bs_ 8 1) ?_
         refine take_(i:=1)(N:=some 80)(v:=?_)(a':=?_)(bs_ 8 3)rfl rfl(by kernel_rfl)(fun _ _ _ h=>h)(Or.inl⟨(by rfl),?_⟩)hHeld ?_ ?_
         rotate_left
         ·
          rintro w'⟨s_0,s_1,s_2,s_3,s_4,s_5⟩
          go_simp
          with_reducible rfl
         rotate_left
         ·
          exact ap_
         refine take_(i:=2)(N:=some 81)(v:=?_)(a':=?_)(bs_ 8 7)rfl rfl(by kernel_rfl)(fun _ _ _ h=>h)(Or.inl⟨(by rfl),?_⟩)hHeld ?_ ?_
         rotate_left
         ·
          rintro w'⟨s_0,s_1,s_2,s_3,s_4,s_5⟩
          go_simp
          with_reducible rfl
         rotate_left
         ·
          exact ap_
         refine one_(i:=3)(N:=some 82)(bs_ 8 15)rfl rfl(by kernel_rfl)(by decide)(fun K hK=>?_)
         refine goes_ Try.func76(by kernel_rfl)rfl #[.agg #[.slice As s0.length cs,.int .i64 s1,.string s2,.int .i64 s3]](by rfl)rfl rfl qz3_ ?_
         with_reducible refine(spec_l05Own.calls As cs s0 s1 s2 s3 o0 o1 o2 o3 _(Kd.R_reads'(HI.out.get 3 rfl)).2.2(Kd.R_reads'(HI.out.get 3 rfl)).2.1 HOW.out).mono ?_
         rintro e w82⟨vo,rfl,hR,hb⟩
         obtain⟨Ao,co,eo⟩:=Kd.R_slice hR
         subst eo
         refine⟨_,rfl,?_⟩
         replace HI:=am_(HI.out.rowPush hb hR)
         clear hR hb
         refine hK.out _ _⟨(blk_cell((HI.out).get 2 rfl)0).trans rfl,(blk_cell((HI.out).get 2 rfl)1).trans rfl,(blk_cell((HI.out).get 1 rfl)0).trans rfl,(blk_cell((HI.out).get 1 rfl)1).trans rfl,(blk_cell((HI.out).get 1 rfl)2).trans rfl,(blk_cell((HI.out).get 1 rfl)3).trans rfl⟩(fun hHeld=>?_)
         clear hK K
         refine norm_(a':=?_) ?_ ?_
         rotate_left
         ·
          show Act.put _(some 82)_=_
          exact ap_
         refine pu_ 4 10 (bs_ 8 31) ?_
         refine one_(i:=5)(N:=none)(bs_ 8 63)rfl rfl(by kernel_rfl)(by decide)(fun K hK=>?_)
         rw [if_pos(by rfl)]
         refine wp_store_row 34 _ _ rfl g11(#[.int .i64 v2,.int .i64 v3])rfl qz0_ 34(#[.int .i64 0,.int .i64 0])(HI.out.get 6 rfl)(draw_side v2 v3)(draw_len v2 v3)(draw_one v2 v3) ?_
         replace HI:=am_((HI.out.front 6 rfl).put0(#[.int .i64 v2,.int .i64 v3]))
         generalize World.setRow _ g11(#[.int .i64 v2,.int .i64 v3])=wz5 at HI ⊢
         refine hK.out _ _⟨(blk_cell((HI.out).get 3 rfl)0).trans rfl,(blk_cell((HI.out).get 3 rfl)1).trans rfl,(blk_cell((HI.out).get 2 rfl)0).trans rfl,(blk_cell((HI.out).get 2 rfl)1).trans rfl,(blk_cell((HI.out).get 2 rfl)2).trans rfl,(blk_cell((HI.out).get 2 rfl)3).trans rfl⟩(fun hHeld=>?_)
         clear hK K
         refine last_(i:=6)(N:=none)(bs_ 8 127)rfl rfl(by kernel_rfl)(by decide)(fun K hK=>?_)
         rw [if_pos(by rfl)]
         refine wp_store_row 27 _ _ rfl g12(#[.slice Ao o0.length co,.int .i64 o1,.string o2,.int .i64 o3])rfl qz0_ 27(#[.slice none 0 0,.int .i64 0,.string(⟨#[]⟩:ByteArray),.int .i64 0])(HI.out.get 6 rfl)(by kernel_rfl)rfl qz12_ ?_
         replace HI:=am_((HI.out.front 6 rfl).put0(#[.slice Ao o0.length co,.int .i64 o1,.string o2,.int .i64 o3]))
         generalize World.setRow _ g12(#[.slice Ao o0.length co,.int .i64 o1,.string o2,.int .i64 o3])=wz6 at HI ⊢
         refine hK.out _ _ ?_
         clear hK K
         refine pu_ 7 13 (bs_ 8 255) ?_
         refine done_(by kernel_rfl) ?_
         try go_wp2
         refine bodyPost_ret(results_tcct rfl _ _ g11 g12 34 27 #[.int .i64 v2,.int .i64 v3] #[.slice Ao o0.length co,.int .i64 o1,.string o2,.int .i64 o3](0,0)(0,0)_ _ rfl(HI.out.get 1 rfl)hu34 rfl(draw_side v2 v3)rfl(HI.out.get 0 rfl)hu27 rfl(by kernel_rfl))rfl ?_
         have hp_:=HI.out.get 5 rfl
         have hs_:=HI.out.get 2 rfl
         have hd_:=HI.out.disj 2 5(by decide)rfl rfl
         exact⟨vp,_,rfl,Kd.R_mono hp_(fun k hk e=>hd_ k(hs_.1 k e.symm)hk),Kd.R_mono hs_(fun k hk e=>hd_ k hk(hp_.1 k e.symm)),HI.out.belowP HB.out HPW.out,⟨HI.out.agr.size,HI.out.agr.block⟩⟩
        ·
         rw [if_neg(show ¬(v1,v2,v3,vc,s0,s1,s2,s3).2.2.2.1=0 from cv)] at h
         simp only [Option.some.injEq,Prod.mk.injEq] at h
         obtain⟨rfl,rfl,rfl,rfl,rfl,rfl,rfl,rfl⟩:=h
         have f5:=eq_false(cv)
         have f6:(vc == 0)=false:=beq_eq_false_iff_ne.mpr cv
         have f7:(vc != 0)=true:=bne_iff_ne.mpr cv
         clear cv
         go_enter Try.func26,Try.ntmps26
         go_wp2_with(first|((with_reducible refine gate_dst(N:=6)rfl ?_);refine box_event rfl(N:=6)rfl(cs:=#[.int .i64 c0,.int .i64 c1])(t:=34)bx_ ?_;intro g6 hg w6_ hbox hb;replace HI:=am_((HI.out).box hg hbox hb);clear hb hbox hg)|((with_reducible refine gate_dst(N:=9)rfl ?_);refine box_event rfl(N:=9)rfl(cs:=#[.slice Au u0.length cu,.int .i64 u1,.string u2,.int .i64 u3])(t:=27)bx_ ?_;intro g9 hg w9_ hbox hb;replace HI:=am_((HI.out).box hg hbox hb);clear hb hbox hg)|((with_reducible refine gate_dst(N:=11)rfl ?_);refine box_event rfl(N:=11)rfl(cs:=#[.int .i64 0,.int .i64 0])(t:=34)bx_ ?_;intro g11 hg w11_ hbox hb;replace HI:=am_((HI.out).box hg hbox hb);clear hb hbox hg)|((with_reducible refine gate_dst(N:=12)rfl ?_);refine box_event rfl(N:=12)rfl(cs:=#[.slice none 0 0,.int .i64 0,.string(⟨#[]⟩:ByteArray),.int .i64 0])(t:=27)bx_ ?_;intro g12 hg w12_ hbox hb;replace HI:=am_((HI.out).box hg hbox hb);clear hb hbox hg)|(go_at_call 70;(refine(spec_l08Rounds.calls k A2 cap2 l2 _ _ HI.out.now HC2.out HRN.out).mono ?_);rintro e w25⟨rfl,hb⟩;replace HI:=am_(HI.out.grow hb);clear hb;have h60:World.cell? _⟨g6,0,none⟩=some(.int .i64 c0):=(blk_cell(HI.out.get 3 rfl)0).trans rfl;have h61:World.cell? _⟨g6,1,none⟩=some(.int .i64 c1):=(blk_cell(HI.out.get 3 rfl)1).trans rfl)|(go_at_call 71;(refine(spec_ExtOK.calls c0 c1 _ _ HEX.out).mono ?_);rintro e w30⟨rfl,hb⟩;replace HI:=am_(HI.out.grow hb);clear hb;have h90:World.cell? _⟨g9,0,none⟩=some(.slice Au u0.length cu):=(blk_cell(HI.out.get 2 rfl)0).trans rfl;have h91:World.cell? _⟨g9,1,none⟩=some(.int .i64 u1):=(blk_cell(HI.out.get 2 rfl)1).trans rfl;have h92:World.cell? _⟨g9,2,none⟩=some(.string u2):=(blk_cell(HI.out.get 2 rfl)2).trans rfl;have h93:World.cell? _⟨g9,3,none⟩=some(.int .i64 u3):=(blk_cell(HI.out.get 2 rfl)3).trans rfl)|(go_at_call 72;(refine(spec_SourceOK.calls k Au cu u0 u1 u2 u3 _ _(Kd.R_reads'(HI.out.get 4 rfl)).2.2(Kd.R_reads'(HI.out.get 4 rfl)).2.1 HSO.out).mono ?_);rintro e w34⟨rfl,hb⟩;replace HI:=am_(HI.out.grow hb);clear hb)|(go_at_call 73;(refine(spec_l08Kind.calls kind _ _ HKN.out).mono ?_);rintro e w42⟨rfl,⟨n42,rfl⟩⟩;replace HI:=am_(HI.out.drewN n42);generalize World.drewN _ n42=wn42 at HI ⊢)|(go_at_call 61;(refine(spec_l01In.calls vars 0 6 _ _ HIN.out).mono ?_);rintro e w46⟨rfl,⟨n46,rfl⟩⟩;replace HI:=am_(HI.out.drewN n46);generalize World.drewN _ n46=wn46 at HI ⊢;have hk0:World.cell? _⟨g9,0,none⟩=some(.slice Au u0.length cu):=(blk_cell(HI.out.get 2 rfl)0).trans rfl;have hk1:World.cell? _⟨g9,1,none⟩=some(.int .i64 u1):=(blk_cell(HI.out.get 2 rfl)1).trans rfl;have hk2:World.cell? _⟨g9,2,none⟩=some(.string u2):=(blk_cell(HI.out.get 2 rfl)2).trans rfl;have hk3:World.cell? _⟨g9,3,none⟩=some(.int .i64 u3):=(blk_cell(HI.out.get 2 rfl)3).trans rfl)|(go_at_call 74;(refine(spec_l05Spent.calls Au cu u0 u1 u2 u3 6 _ _(Kd.R_reads'(HI.out.get 4 rfl)).2.2(Kd.R_reads'(HI.out.get 4 rfl)).2.1 HSP.out).mono ?_);rintro e w54⟨rfl,hb⟩;replace HI:=am_(HI.out.grow hb);clear hb)|((with_reducible refine gate_dst(N:=64)rfl ?_);go_must(refine wpList_load_row rfl 34 _ rfl g6 rfl 34(#[.int .i64 c0,.int .i64 c1])(0,0)_((HI.out.get 3 rfl))hu34 rfl(by kernel_rfl) ?_))|((with_reducible refine gate_dst(N:=67)rfl ?_);go_must(refine wpList_load_row rfl 27 _ rfl g9 rfl 27(#[.slice Au u0.length cu,.int .i64 u1,.string u2,.int .i64 u3])(0,0)_((HI.out.get 2 rfl))hu27 rfl(by kernel_rfl) ?_))|(go_at_call 75;(refine(spec_l08Verify.calls k kind c0 c1 A2 cap2 l2 vars _(.slice Au u0.length cu)u0 u1 u2 u3 v1 v2 v3 vc s0 s1 s2 s3 wb _(HI.out.belowP HB.out HPW.out)(HI.out.get 4 rfl)(fun W_ ha=>HI.out.facts W_(ha.mono(fun k hk=>⟨_,List.mem_of_getElem? (i:=4)rfl,HPE.out k hk⟩)))HVF.out).mono ?_);rintro e w68⟨vp,vs,rfl,hRp,hRs,hB2,hk⟩;obtain⟨As,cs,es⟩:=Kd.R_slice hRs;subst es;replace HI:=am_(Inv.keptTwo(b3:=w.heap.size)rfl rfl(HI.out.front 4 rfl)⟨hB2.os.trans(HI.out.belowP HB.out HPW.out).os.symm,hB2.tape.trans(HI.out.belowP HB.out HPW.out).tape.symm,hB2.output.trans(HI.out.belowP HB.out HPW.out).output.symm,hk.1,fun k hlt hn=>hk.2 k hlt(fun hs=>hn(HPE.out k hs))⟩hRp(Nat.le_refl _)HI.out.agr.size hRs(fun k hk=>hk.1.imp(HPE.out k)id)(fun k hk=>hk.2));clear hRp hRs hB2 hk)|((with_reducible refine gate_dst(N:=16)rfl ?_);refine box_event rfl(N:=16)rfl(cs:=#[.int .i64 0,.int .i64 0])(t:=34)bx_ ?_;intro g16 hg w16_ hbox hb;replace HI:=am_((HI.out).box hg hbox hb);clear hb hbox hg)|((with_reducible refine gate_dst(N:=17)rfl ?_);refine box_event rfl(N:=17)rfl(cs:=#[.slice none 0 0,.int .i64 0,.string(⟨#[]⟩:ByteArray),.int .i64 0])(t:=27)bx_ ?_;intro g17 hg w17_ hbox hb;replace HI:=am_((HI.out).box hg hbox hb);clear hb hbox hg)|((with_reducible refine gate_store(p:=16)(v:=(.tmp 70))(t:=34)rfl ?_);go_must(refine wpList_store_row rfl 34 _ _ rfl g16(#[.int .i64 v2,.int .i64 v3])rfl qz0_ 34(#[.int .i64 0,.int .i64 0])(HI.out.get 1 rfl)(draw_side v2 v3)(draw_len v2 v3)(draw_one v2 v3) ?_;replace HI:=am_((HI.out.front 1 rfl).put0(#[.int .i64 v2,.int .i64 v3]));generalize World.setRow _ g16(#[.int .i64 v2,.int .i64 v3])=w70 at HI ⊢))|((with_reducible refine gate_store(p:=17)(v:=(.tmp 71))(t:=27)rfl ?_);go_must(refine wpList_store_row rfl 27 _ _ rfl g17(#[.slice As s0.length cs,.int .i64 s1,.string s2,.int .i64 s3])rfl qz0_ 27(#[.slice none 0 0,.int .i64 0,.string(⟨#[]⟩:ByteArray),.int .i64 0])(HI.out.get 1 rfl)(by kernel_rfl)rfl qz12_ ?_;replace HI:=am_((HI.out.front 1 rfl).put0(#[.slice As s0.length cs,.int .i64 s1,.string s2,.int .i64 s3]));generalize World.setRow _ g17(#[.slice As s0.length cs,.int .i64 s1,.string s2,.int .i64 s3])=w71 at HI ⊢))|((with_reducible refine gate_dst(N:=75)rfl ?_);refine Kd.R_lit k34(w0:=_)_ 34 ?hg(N:=75) ?hd(xs:=([]:List S34))(inner:=[])(ok:=fun _=>True)(okp:=fun _=>True) ?hr ?hp(fun _ hk=>hk)trivial(Below.refl _ _)(Nat.le_refl _)(by simp) ?_;(case hd=>rfl);(case hg=>rfl);(case hr=>first|(go_simp;done)|(go_simp;rfl));(case hp=>exact(Reps.none _ _));intro ve we hR hb hg hat;replace HI:=am_((HI.out).rowPush hb hR);clear hR hb hg hat)|((with_reducible refine gate_store(p:=11)(v:=(.tmp 76))(t:=34)rfl ?_);go_must(refine wpList_store_row rfl 34 _ _ rfl g11(#[.int .i64 0,.int .i64 0])rfl qz0_ 34(#[.int .i64 0,.int .i64 0])(HI.out.get 6 rfl)(by kernel_rfl)rfl qz12_ ?_;replace HI:=am_((HI.out.front 6 rfl).put0(#[.int .i64 0,.int .i64 0]));generalize World.setRow _ g11(#[.int .i64 0,.int .i64 0])=wf at HI ⊢))|((with_reducible refine gate_store(p:=12)(v:=(.tmp 77))(t:=27)rfl ?_);go_must(refine wpList_store_row rfl 27 _ _ rfl g12(#[.slice none 0 0,.int .i64 0,.string(⟨#[]⟩:ByteArray),.int .i64 0])rfl qz0_ 27(#[.slice none 0 0,.int .i64 0,.string(⟨#[]⟩:ByteArray),.int .i64 0])(HI.out.get 6 rfl)(by kernel_rfl)rfl qz12_ ?_;replace HI:=am_((HI.out.front 6 rfl).put0(#[.slice none 0 0,.int .i64 0,.string(⟨#[]⟩:ByteArray),.int .i64 0]));generalize World.setRow _ g12(#[.slice none 0 0,.int .i64 0,.string(⟨#[]⟩:ByteArray),.int .i64 0])=wg at HI ⊢)))
         refine bodyPost_ret(results_tcct rfl _ _ g11 g12 34 27 #[.int .i64 0,.int .i64 0] #[.slice none 0 0,.int .i64 0,.string(⟨#[]⟩:ByteArray),.int .i64 0](0,0)(0,0)_ _ rfl(HI.out.get 1 rfl)hu34 rfl(by kernel_rfl)rfl(HI.out.get 0 rfl)hu27 rfl(by kernel_rfl))rfl ?_
         exact⟨_,_,rfl,Kd.R_mono(HI.out.get 2 rfl)(fun k hk e=>by simp [Value.ownBlock] at e),Kd.R_nil _ _ _ _ _,HI.out.belowP HB.out HPW.out,⟨HI.out.agr.size,HI.out.agr.block⟩⟩
       | true=>
        rw [if_neg(by decide)] at h
        simp only [Option.some.injEq,Prod.mk.injEq] at h
        obtain⟨rfl,rfl,rfl,rfl,rfl,rfl,rfl,rfl⟩:=h
        go_enter Try.func26,Try.ntmps26
        go_wp2_with(first|((with_reducible refine gate_dst(N:=6)rfl ?_);refine box_event rfl(N:=6)rfl(cs:=#[.int .i64 c0,.int .i64 c1])(t:=34)bx_ ?_;intro g6 hg w6_ hbox hb;replace HI:=am_((HI.out).box hg hbox hb);clear hb hbox hg)|((with_reducible refine gate_dst(N:=9)rfl ?_);refine box_event rfl(N:=9)rfl(cs:=#[.slice Au u0.length cu,.int .i64 u1,.string u2,.int .i64 u3])(t:=27)bx_ ?_;intro g9 hg w9_ hbox hb;replace HI:=am_((HI.out).box hg hbox hb);clear hb hbox hg)|((with_reducible refine gate_dst(N:=11)rfl ?_);refine box_event rfl(N:=11)rfl(cs:=#[.int .i64 0,.int .i64 0])(t:=34)bx_ ?_;intro g11 hg w11_ hbox hb;replace HI:=am_((HI.out).box hg hbox hb);clear hb hbox hg)|((with_reducible refine gate_dst(N:=12)rfl ?_);refine box_event rfl(N:=12)rfl(cs:=#[.slice none 0 0,.int .i64 0,.string(⟨#[]⟩:ByteArray),.int .i64 0])(t:=27)bx_ ?_;intro g12 hg w12_ hbox hb;replace HI:=am_((HI.out).box hg hbox hb);clear hb hbox hg)|(go_at_call 70;(refine(spec_l08Rounds.calls k A2 cap2 l2 _ _ HI.out.now HC2.out HRN.out).mono ?_);rintro e w25⟨rfl,hb⟩;replace HI:=am_(HI.out.grow hb);clear hb;have h60:World.cell? _⟨g6,0,none⟩=some(.int .i64 c0):=(blk_cell(HI.out.get 3 rfl)0).trans rfl;have h61:World.cell? _⟨g6,1,none⟩=some(.int .i64 c1):=(blk_cell(HI.out.get 3 rfl)1).trans rfl)|(go_at_call 71;(refine(spec_ExtOK.calls c0 c1 _ _ HEX.out).mono ?_);rintro e w30⟨rfl,hb⟩;replace HI:=am_(HI.out.grow hb);clear hb;have h90:World.cell? _⟨g9,0,none⟩=some(.slice Au u0.length cu):=(blk_cell(HI.out.get 2 rfl)0).trans rfl;have h91:World.cell? _⟨g9,1,none⟩=some(.int .i64 u1):=(blk_cell(HI.out.get 2 rfl)1).trans rfl;have h92:World.cell? _⟨g9,2,none⟩=some(.string u2):=(blk_cell(HI.out.get 2 rfl)2).trans rfl;have h93:World.cell? _⟨g9,3,none⟩=some(.int .i64 u3):=(blk_cell(HI.out.get 2 rfl)3).trans rfl)|(go_at_call 72;(refine(spec_SourceOK.calls k Au cu u0 u1 u2 u3 _ _(Kd.R_reads'(HI.out.get 4 rfl)).2.2(Kd.R_reads'(HI.out.get 4 rfl)).2.1 HSO.out).mono ?_);rintro e w34⟨rfl,hb⟩;replace HI:=am_(HI.out.grow hb);clear hb)|(go_at_call 73;(refine(spec_l08Kind.calls kind _ _ HKN.out).mono ?_);rintro e w42⟨rfl,⟨n42,rfl⟩⟩;replace HI:=am_(HI.out.drewN n42);generalize World.drewN _ n42=wn42 at HI ⊢)|(go_at_call 61;(refine(spec_l01In.calls vars 0 6 _ _ HIN.out).mono ?_);rintro e w46⟨rfl,⟨n46,rfl⟩⟩;replace HI:=am_(HI.out.drewN n46);generalize World.drewN _ n46=wn46 at HI ⊢;have hk0:World.cell? _⟨g9,0,none⟩=some(.slice Au u0.length cu):=(blk_cell(HI.out.get 2 rfl)0).trans rfl;have hk1:World.cell? _⟨g9,1,none⟩=some(.int .i64 u1):=(blk_cell(HI.out.get 2 rfl)1).trans rfl;have hk2:World.cell? _⟨g9,2,none⟩=some(.string u2):=(blk_cell(HI.out.get 2 rfl)2).trans rfl;have hk3:World.cell? _⟨g9,3,none⟩=some(.int .i64 u3):=(blk_cell(HI.out.get 2 rfl)3).trans rfl)|(go_at_call 74;(refine(spec_l05Spent.calls Au cu u0 u1 u2 u3 6 _ _(Kd.R_reads'(HI.out.get 4 rfl)).2.2(Kd.R_reads'(HI.out.get 4 rfl)).2.1 HSP.out).mono ?_);rintro e w54⟨rfl,hb⟩;replace HI:=am_(HI.out.grow hb);clear hb)|((with_reducible refine gate_dst(N:=58)rfl ?_);refine Kd.R_lit k34(w0:=_)_ 34 ?hg(N:=58) ?hd(xs:=([]:List S34))(inner:=[])(ok:=fun _=>True)(okp:=fun _=>True) ?hr ?hp(fun _ hk=>hk)trivial(Below.refl _ _)(Nat.le_refl _)(by simp) ?_;(case hd=>rfl);(case hg=>rfl);(case hr=>first|(go_simp;done)|(go_simp;rfl));(case hp=>exact(Reps.none _ _));intro ve we hR hb hg hat;replace HI:=am_((HI.out).rowPush hb hR);clear hR hb hg hat)|((with_reducible refine gate_store(p:=11)(v:=(.tmp 59))(t:=34)rfl ?_);go_must(refine wpList_store_row rfl 34 _ _ rfl g11(#[.int .i64 0,.int .i64 0])rfl qz0_ 34(#[.int .i64 0,.int .i64 0])(HI.out.get 2 rfl)(by kernel_rfl)rfl qz12_ ?_;replace HI:=am_((HI.out.front 2 rfl).put0(#[.int .i64 0,.int .i64 0]));generalize World.setRow _ g11(#[.int .i64 0,.int .i64 0])=wf at HI ⊢))|((with_reducible refine gate_store(p:=12)(v:=(.tmp 60))(t:=27)rfl ?_);go_must(refine wpList_store_row rfl 27 _ _ rfl g12(#[.slice none 0 0,.int .i64 0,.string(⟨#[]⟩:ByteArray),.int .i64 0])rfl qz0_ 27(#[.slice none 0 0,.int .i64 0,.string(⟨#[]⟩:ByteArray),.int .i64 0])(HI.out.get 2 rfl)(by kernel_rfl)rfl qz12_ ?_;replace HI:=am_((HI.out.front 2 rfl).put0(#[.slice none 0 0,.int .i64 0,.string(⟨#[]⟩:ByteArray),.int .i64 0]));generalize World.setRow _ g12(#[.slice none 0 0,.int .i64 0,.string(⟨#[]⟩:ByteArray),.int .i64 0])=wg at HI ⊢)))
        refine bodyPost_ret(results_tcct rfl _ _ g11 g12 34 27 #[.int .i64 0,.int .i64 0] #[.slice none 0 0,.int .i64 0,.string(⟨#[]⟩:ByteArray),.int .i64 0](0,0)(0,0)_ _ rfl(HI.out.get 1 rfl)hu34 rfl(by kernel_rfl)rfl(HI.out.get 0 rfl)hu27 rfl(by kernel_rfl))rfl ?_
        exact⟨_,_,rfl,Kd.R_mono(HI.out.get 2 rfl)(fun k hk e=>by simp [Value.ownBlock] at e),Kd.R_nil _ _ _ _ _,HI.out.belowP HB.out HPW.out,⟨HI.out.agr.size,HI.out.agr.block⟩⟩
  ·
   rw [if_neg ct] at h
   have f1:=eq_false(ct)
   have f1b:(t == 0)=false:=beq_eq_false_iff_ne.mpr ct
   have f1c:(t != 0)=true:=bne_iff_ne.mpr ct
   clear ct
   simp only [Option.some.injEq,Prod.mk.injEq] at h
   obtain⟨rfl,rfl,rfl,rfl,rfl,rfl,rfl,rfl⟩:=h
   go_enter Try.func26,Try.ntmps26
   go_wp2_with(first|((with_reducible refine gate_dst(N:=6)rfl ?_);refine box_event rfl(N:=6)rfl(cs:=#[.int .i64 c0,.int .i64 c1])(t:=34)bx_ ?_;intro g6 hg w6_ hbox hb;replace HI:=am_((HI.out).box hg hbox hb);clear hb hbox hg)|((with_reducible refine gate_dst(N:=9)rfl ?_);refine box_event rfl(N:=9)rfl(cs:=#[.slice Au u0.length cu,.int .i64 u1,.string u2,.int .i64 u3])(t:=27)bx_ ?_;intro g9 hg w9_ hbox hb;replace HI:=am_((HI.out).box hg hbox hb);clear hb hbox hg)|((with_reducible refine gate_dst(N:=11)rfl ?_);refine box_event rfl(N:=11)rfl(cs:=#[.int .i64 0,.int .i64 0])(t:=34)bx_ ?_;intro g11 hg w11_ hbox hb;replace HI:=am_((HI.out).box hg hbox hb);clear hb hbox hg)|((with_reducible refine gate_dst(N:=12)rfl ?_);refine box_event rfl(N:=12)rfl(cs:=#[.slice none 0 0,.int .i64 0,.string(⟨#[]⟩:ByteArray),.int .i64 0])(t:=27)bx_ ?_;intro g12 hg w12_ hbox hb;replace HI:=am_((HI.out).box hg hbox hb);clear hb hbox hg)|(go_at_call 70;(refine(spec_l08Rounds.calls k A2 cap2 l2 _ _ HI.out.now HC2.out HRN.out).mono ?_);rintro e w25⟨rfl,hb⟩;replace HI:=am_(HI.out.grow hb);clear hb;have h60:World.cell? _⟨g6,0,none⟩=some(.int .i64 c0):=(blk_cell(HI.out.get 3 rfl)0).trans rfl;have h61:World.cell? _⟨g6,1,none⟩=some(.int .i64 c1):=(blk_cell(HI.out.get 3 rfl)1).trans rfl)|((with_reducible refine gate_dst(N:=58)rfl ?_);refine Kd.R_lit k34(w0:=_)_ 34 ?hg(N:=58) ?hd(xs:=([]:List S34))(inner:=[])(ok:=fun _=>True)(okp:=fun _=>True) ?hr ?hp(fun _ hk=>hk)trivial(Below.refl _ _)(Nat.le_refl _)(by simp) ?_;(case hd=>rfl);(case hg=>rfl);(case hr=>first|(go_simp;done)|(go_simp;rfl));(case hp=>exact(Reps.none _ _));intro ve we hR hb hg hat;replace HI:=am_((HI.out).rowPush hb hR);clear hR hb hg hat)|((with_reducible refine gate_store(p:=11)(v:=(.tmp 59))(t:=34)rfl ?_);go_must(refine wpList_store_row rfl 34 _ _ rfl g11(#[.int .i64 0,.int .i64 0])rfl qz0_ 34(#[.int .i64 0,.int .i64 0])(HI.out.get 2 rfl)(by kernel_rfl)rfl qz12_ ?_;replace HI:=am_((HI.out.front 2 rfl).put0(#[.int .i64 0,.int .i64 0]));generalize World.setRow _ g11(#[.int .i64 0,.int .i64 0])=wf at HI ⊢))|((with_reducible refine gate_store(p:=12)(v:=(.tmp 60))(t:=27)rfl ?_);go_must(refine wpList_store_row rfl 27 _ _ rfl g12(#[.slice none 0 0,.int .i64 0,.string(⟨#[]⟩:ByteArray),.int .i64 0])rfl qz0_ 27(#[.slice none 0 0,.int .i64 0,.string(⟨#[]⟩:ByteArray),.int .i64 0])(HI.out.get 2 rfl)(by kernel_rfl)rfl qz12_ ?_;replace HI:=am_((HI.out.front 2 rfl).put0(#[.slice none 0 0,.int .i64 0,.string(⟨#[]⟩:ByteArray),.int .i64 0]));generalize World.setRow _ g12(#[.slice none 0 0,.int .i64 0,.string(⟨#[]⟩:ByteArray),.int .i64 0])=wg at HI ⊢)))
   refine bodyPost_ret(results_tcct rfl _ _ g11 g12 34 27 #[.int .i64 0,.int .i64 0] #[.slice none 0 0,.int .i64 0,.string(⟨#[]⟩:ByteArray),.int .i64 0](0,0)(0,0)_ _ rfl(HI.out.get 1 rfl)hu34 rfl(by kernel_rfl)rfl(HI.out.get 0 rfl)hu27 rfl(by kernel_rfl))rfl ?_
   exact⟨_,_,rfl,Kd.R_mono(HI.out.get 2 rfl)(fun k hk e=>by simp [Value.ownBlock] at e),Kd.R_nil _ _ _ _ _,HI.out.belowP HB.out HPW.out,⟨HI.out.agr.size,HI.out.agr.block⟩⟩
def impl_FieldOK.f(a0:Int):Option(Bool):=(impl_in.f a0 0 2130706432).bind fun t101=>(some t101)
set_option maxHeartbeats 8000000 in
set_option maxRecDepth 100000 in
theorem impl_FieldOK.calls(a0:Int)(r:Bool)(w:World)(h:impl_FieldOK.f a0=some r):
  Calls Try.prog 86 #[.int .i64 a0] w fun e w'=>e=.returned(.bool r)∧Drawn0 w w':=by
 have H:((impl_in.f a0 0 2130706432).bind fun t101=>(some t101))=some r:=h
 clear h
 replace H:=Option.bind_eq_some_iff.mp H
 obtain⟨t101,A20,H⟩:=H
 replace H:(some t101)=some r:=H
 have A2:=am_ A20
 clear A20
 obtain rfl:=Option.some.inj H
 go_enter Try.func86,Try.ntmps86
 go_wp2_with(first|((with_reducible refine gate_callee(f:=44)rfl ?_);refine goesL_(some 4)rfl rfl Try.func44(by kernel_rfl)rfl #[.int .i64 a0,.int .i64 0,.int .i64 2130706432] rfl qz18_ ?_;(with_reducible refine(impl_in.calls a0 0 2130706432 t101 _ A2.out).mono ?_);rintro e w'⟨rfl,⟨nd,rfl⟩⟩;refine⟨_,rfl,?_⟩))
 go_ret
 exact⟨qz10_,qz2_⟩

def impl_ExtOK.f(a0_0:Int)(a0_1:Int):Option(Bool):=(impl_FieldOK.f a0_0).bind fun t102=>(if t102=true then((impl_FieldOK.f a0_1).bind fun t103=>(some t103))else(some false))
set_option maxHeartbeats 8000000 in
set_option maxRecDepth 100000 in
theorem impl_ExtOK.calls(a0_0:Int)(a0_1:Int)(r:Bool)(w:World)(h:impl_ExtOK.f a0_0 a0_1=some r):
  Calls Try.prog 43 #[.agg #[.int .i64 a0_0,.int .i64 a0_1]] w fun e w'=>e=.returned(.bool r)∧Below w.heap.size w w':=by
 have hu34:=Try.underlying34
 have HB:=am_(Below.refl w.heap.size w)
 have H:((impl_FieldOK.f a0_0).bind fun t102=>(if t102=true then((impl_FieldOK.f a0_1).bind fun t103=>(some t103))else(some false)))=some r:=h
 clear h
 replace H:=Option.bind_eq_some_iff.mp H
 obtain⟨t102,A20,H⟩:=H
 replace H:(if t102=true then((impl_FieldOK.f a0_1).bind fun t103=>(some t103))else(some false))=some r:=H
 have A2:=am_ A20
 clear A20
 by_cases c3:t102=true
 ·
  subst c3
  have H1:((impl_FieldOK.f a0_1).bind fun t103=>(some t103))=some r:=by rw [if_pos rfl] at H;exact H
  clear H
  have H:=H1
  clear H1
  replace H:=Option.bind_eq_some_iff.mp H
  obtain⟨t103,A40,H⟩:=H
  replace H:(some t103)=some r:=H
  have A4:=am_ A40
  clear A40
  obtain rfl:=Option.some.inj H
  go_enter Try.func43,Try.ntmps43
  go_wp2_with(first|((with_reducible refine gate_dst(N:=1)rfl ?_);refine box_event rfl(N:=1)rfl(cs:=#[.int .i64 a0_0,.int .i64 a0_1])(t:=34)bx_ ?_;intro gb101 hg w5 hbox hb;have n0_:=am_(below_step qz4_ hb);have n1_:=am_(hbox);have n2_:=am_((by rw [hg];exact(below_size qz4_):w.heap.size≤gb101));have n3_:=am_((by rw [hg];exact(below_size qz4_):w.heap.size≤gb101));clear HB;have HB:=n0_;have BK101:=n1_;have GW101:=n2_;have GE101:=n3_;clear n0_ n1_ n2_ n3_;clear hb hbox hg;have hcz6_0:w5.cell?⟨gb101,0,none⟩=some(.int .i64 a0_0):=(blk_cell BK101.out 0).trans rfl;have hcz6_1:w5.cell?⟨gb101,1,none⟩=some(.int .i64 a0_1):=(blk_cell BK101.out 1).trans rfl;have hfz6_0:=blk_frozen BK101.out 0;have hfz6_1:=blk_frozen BK101.out 1)|((with_reducible refine gate_callee(f:=86)rfl ?_);refine goesL_(some 5)rfl rfl Try.func86(by kernel_rfl)rfl #[.int .i64 a0_0] rfl qz18_ ?_;(with_reducible refine(impl_FieldOK.calls a0_0 true _ A2.out).mono ?_);rintro e w'⟨rfl,⟨nd,rfl⟩⟩;refine⟨_,rfl,?_⟩)|(go_at_call 86;(with_reducible refine(impl_FieldOK.calls a0_1 t103 _ A4.out).mono ?_);rintro e w'⟨rfl,⟨nd,rfl⟩⟩))
  go_ret
  exact⟨qz8_,qz14_⟩
 ·
  replace c3:=Bool.eq_false_iff.mpr c3
  subst c3
  have H1:(some false)=some r:=by rw [if_neg(show ¬(false=true)by decide)] at H;exact H
  clear H
  have H:=H1
  clear H1
  obtain rfl:=Option.some.inj H
  go_enter Try.func43,Try.ntmps43
  go_wp2_with(first|((with_reducible refine gate_dst(N:=1)rfl ?_);refine box_event rfl(N:=1)rfl(cs:=#[.int .i64 a0_0,.int .i64 a0_1])(t:=34)bx_ ?_;intro gb101 hg w7 hbox hb;have n0_:=am_(below_step qz4_ hb);have n1_:=am_(hbox);have n2_:=am_((by rw [hg];exact(below_size qz4_):w.heap.size≤gb101));have n3_:=am_((by rw [hg];exact(below_size qz4_):w.heap.size≤gb101));clear HB;have HB:=n0_;have BK101:=n1_;have GW101:=n2_;have GE101:=n3_;clear n0_ n1_ n2_ n3_;clear hb hbox hg;have hcz8_0:w7.cell?⟨gb101,0,none⟩=some(.int .i64 a0_0):=(blk_cell BK101.out 0).trans rfl;have hcz8_1:w7.cell?⟨gb101,1,none⟩=some(.int .i64 a0_1):=(blk_cell BK101.out 1).trans rfl;have hfz8_0:=blk_frozen BK101.out 0;have hfz8_1:=blk_frozen BK101.out 1)|((with_reducible refine gate_callee(f:=86)rfl ?_);refine goesL_(some 5)rfl rfl Try.func86(by kernel_rfl)rfl #[.int .i64 a0_0] rfl qz18_ ?_;(with_reducible refine(impl_FieldOK.calls a0_0 false _ A2.out).mono ?_);rintro e w'⟨rfl,⟨nd,rfl⟩⟩;refine⟨_,rfl,?_⟩))
  go_ret
  exact⟨qz8_,qz14_⟩

def impl_are_Ext_ExtOK.p(x:S34):Bool:=(impl_ExtOK.f(x).f0(x).f1).getD false
theorem impl_are_Ext_ExtOK.p_some(x:S34):impl_ExtOK.f(x).f0(x).f1=some(impl_are_Ext_ExtOK.p x):=by
 unfold impl_are_Ext_ExtOK.p
 have:∃ b,impl_ExtOK.f(x).f0(x).f1=some b:=by
  simp only [impl_ExtOK.f,impl_FieldOK.f,impl_in.f]
  repeat'(first|exact⟨_,rfl⟩|(split <;> try exact⟨_,rfl⟩)|(simp only [Option.bind_some]))
 obtain⟨b,hb⟩:=this
 rw [hb];rfl
set_option maxHeartbeats 800000 in
theorem impl_are_Ext_ExtOK.clo(x:S34)(r:Bool)(hr:impl_ExtOK.f(x).f0(x).f1=some r)(g:Nat)(w:World)(hg:w.cell?⟨g,0,none⟩=some(.func(.func 43) #[] #[])):
  Calls Try.prog 85 #[.agg #[.int .i64((x).f0),.int .i64((x).f1)],.pointer(some⟨g,0,none⟩)] w fun e w'=>e=.returned(.bool(!r))∧Below w.heap.size w w':=by
 have hlt:g<w.heap.size:=World.block_lt_of_cell? w _ hg
 have HB:=am_(Below.refl w.heap.size w)
 go_enter Try.func85,Try.ntmps85
 go_wp2_with(go_at_call 43;(refine(impl_ExtOK.calls(x).f0(x).f1 r _ hr).mono ?_);rintro e w'⟨rfl,hb⟩)
 go_ret
 exact⟨(by first|rfl|simp),(by repeat(first|(with_reducible first|exact HB.out|apply below_alloc|apply pw_below_drewN|apply below_drew1)|exact HB.out|refine below_step ?_ hb))⟩

def impl_are_Ext_ExtOK.Idx(l:List(S34))(w:World)(e:Ending)(w':World):Prop:=∃ j:Int,e=.returned(.int .i64 j)∧(decide(0≤j)=!(l.all impl_are_Ext_ExtOK.p))∧Below w.heap.size w w'
theorem impl_are_Ext_ExtOK.all_snoc(l:List(S34))(k:Nat)(hk:k<l.length)(h:(l.take k).all impl_are_Ext_ExtOK.p=true)(h2:impl_are_Ext_ExtOK.p(l.getD k z34)=true):(l.take(k + 1)).all impl_are_Ext_ExtOK.p=true:=by
 rw [List.take_succ_eq_append_getElem hk,List.all_append,h]
 simp [List.getD_eq_getElem?_getD,hk] at h2
 simp [h2]
theorem impl_are_Ext_ExtOK.all_not(l:List(S34))(k:Nat)(hk:k<l.length)(h2:impl_are_Ext_ExtOK.p(l.getD k z34)=false):l.all impl_are_Ext_ExtOK.p=false:=by
 rw [List.all_eq_false]
 simp [List.getD_eq_getElem?_getD,hk] at h2
 exact⟨l[k],List.getElem_mem hk,(by simp [h2])⟩

set_option maxHeartbeats 800000 in
theorem impl_are_Ext_ExtOK.idx(A0:Option Addr)(c0:Nat)(l0:List(S34))(g:Nat)(w:World)(hr0:Kd.C k34 w A0 l0.length l0)(hc0:l0.length≤c0)(hm:l0.length≤9223372036854775807)(hg:w.cell?⟨g,0,none⟩=some(.func(.func 43) #[] #[])):
  Calls Try.prog 127 #[.slice A0 l0.length c0,.func(.func 85) #[] #[.pointer(some⟨g,0,none⟩)]] w(impl_are_Ext_ExtOK.Idx l0 w):=by
 have HR0:=am_ hr0
 have HC0:=am_ hc0
 have HG:=am_ hg
 clear hr0 hc0 hg
 have HB:=am_(Below.refl w.heap.size w)
 go_enter Try.func127,Try.ntmps127
 go_wp2
 go_loopg [8] l0.length(fun kq v8 w'=>∃ k:Nat,k + kq=l0.length∧v8=.int .i64 k∧Aside0((l0.take k).all impl_are_Ext_ExtOK.p=true)∧Aside0(Below w.heap.size w w'))
 case atStart=>exact⟨0,by omega,by first|rfl|simp,⟨rfl⟩,⟨qz4_⟩⟩
 case round=>
  obtain⟨k,hk,rfl,HA,HB⟩:=hrel
  cases gk with
  | zero=>
   have hge:decide((k:Int)<(l0.length:Int))=false:=decide_eq_false(by omega)
   have hge2:decide(k<l0.length)=false:=decide_eq_false(by omega)
   have hkk:l0.take k=l0:=List.take_of_length_le(by omega)
   have HA2:=am_(hkk ▸ HA.out)
   clear HA hkk
   go_wp2
   go_ret
   refine⟨-1,rfl,?_,qz4_⟩
   rw [HA2.out]
   rfl
  | succ k1=>
   have hlt:decide((k:Int)<(l0.length:Int))=true:=decide_eq_true(by omega)
   have hlt2:decide(k<l0.length)=true:=decide_eq_true(by omega)
   have p_:0≤(k:Int):=by omega
   have q_:(k:Int)<(l0.length:Int):=by omega
   obtain⟨ad,e_,hx_0,hx_1⟩:=at_T34 HR0.out k p_ q_
   cases e_
   replace hx_0:=(HB.out.cell(World.block_lt_of_cell? w _ hx_0)).trans hx_0
   replace hx_1:=(HB.out.cell(World.block_lt_of_cell? w _ hx_1)).trans hx_1
   simp only [Int.toNat_natCast] at hx_0 hx_1
   have hgc:=am_((HB.out.cell(World.block_lt_of_cell? w _ HG.out)).trans HG.out)
   have hkl:k<l0.length:=by omega
   have hrd:(rd_T34 l0(k:Int))=l0.getD k z34:=rfl
   by_cases hp:impl_are_Ext_ExtOK.p(rd_T34 l0(k:Int))=true
   ·
    have hs:=am_((impl_are_Ext_ExtOK.p_some(rd_T34 l0(k:Int))).trans(congrArg some hp))
    have HA2:=am_(impl_are_Ext_ExtOK.all_snoc l0 k hkl HA.out(hrd ▸ hp))
    clear hp HA hrd
    go_wp2_with(go_at_call 85;(refine(impl_are_Ext_ExtOK.clo(rd_T34 l0(k:Int))true hs.out g _ hgc.out).mono ?_);rintro e w'⟨rfl,hb⟩;have n0_:=am_(below_step qz4_ hb);clear HB;have HB:=n0_;clear n0_;clear hb)
    go_roundg k1
    case measure=>omega
    case rel=>exact⟨k + 1,by omega,by first|rfl|go_num,HA2,⟨qz4_⟩⟩
   ·
    replace hp:=Bool.eq_false_iff.mpr hp
    have hs:=am_((impl_are_Ext_ExtOK.p_some(rd_T34 l0(k:Int))).trans(congrArg some hp))
    have HA2:=am_(impl_are_Ext_ExtOK.all_not l0 k hkl(hrd ▸ hp))
    clear hp HA hrd
    go_wp2_with(go_at_call 85;(refine(impl_are_Ext_ExtOK.clo(rd_T34 l0(k:Int))false hs.out g _ hgc.out).mono ?_);rintro e w'⟨rfl,hb⟩;have n0_:=am_(below_step qz4_ hb);clear HB;have HB:=n0_;clear n0_;clear hb)
    go_ret
    exact⟨(k:Int),rfl,(by rw [HA2.out];simp),qz4_⟩
set_option maxHeartbeats 800000 in
theorem impl_are_Ext_ExtOK.con(A0:Option Addr)(c0:Nat)(l0:List(S34))(g:Nat)(w:World)(hr0:Kd.C k34 w A0 l0.length l0)(hc0:l0.length≤c0)(hm:l0.length≤9223372036854775807)(hg:w.cell?⟨g,0,none⟩=some(.func(.func 43) #[] #[])):
  Calls Try.prog 84 #[.slice A0 l0.length c0,.func(.func 85) #[] #[.pointer(some⟨g,0,none⟩)]] w fun e w'=>e=.returned(.bool(!(l0.all impl_are_Ext_ExtOK.p)))∧Below w.heap.size w w':=by
 have HR0:=am_ hr0
 have HC0:=am_ hc0
 have HG:=am_ hg
 clear hr0 hc0 hg
 go_enter Try.func84,Try.ntmps84
 go_wp2_with(go_at_call 127;(refine(impl_are_Ext_ExtOK.idx A0 c0 l0 g _ HR0.out HC0.out hm HG.out).mono ?_);rintro e w'⟨j,rfl,hj,hb⟩;have HJ:=am_ hj;clear hj)
 go_ret
 exact⟨(by rw [←HJ.out];rfl),(by repeat(first|exact hb|exact Below.refl _ _|apply below_alloc|apply pw_below_drewN|apply below_drew1))⟩
def impl_are_Ext_ExtOK.f(l1:List(S34)):Option(Bool):=some(l1.all impl_are_Ext_ExtOK.p)
set_option maxHeartbeats 800000 in
theorem impl_are_Ext_ExtOK.calls(A1:Option Addr)(c1:Nat)(l1:List(S34))(r:Bool)(w:World)(hr1:Kd.C k34 w A1 l1.length l1)(hc1:l1.length≤c1)(h:impl_are_Ext_ExtOK.f l1=some r):
  Calls Try.prog 42 #[(Value.func(.func 43) #[] #[]),.slice A1 l1.length c1] w fun e w'=>e=.returned(.bool r)∧Below w.heap.size w w':=by
 unfold impl_are_Ext_ExtOK.f at h
 have hm:l1.length≤9223372036854775807:=hr1.2.1
 ·
  obtain rfl:=Option.some.inj h
  have HR1:=am_ hr1
  have HC1:=am_ hc1
  clear hr1 hc1 h
  have HB:=am_(Below.refl w.heap.size w)
  go_enter Try.func42,Try.ntmps42
  go_wp2_with(go_at_call 84;(refine(impl_are_Ext_ExtOK.con A1 c1 l1 w.heap.size _(Kd.C_below HR1.out qz4_)HC1.out hm(by first|rfl|simp)).mono ?_);rintro e w'⟨rfl,hb⟩;have n0_:=am_(below_step qz4_ hb);clear HB;have HB:=n0_;clear n0_;clear hb)
  go_ret
  exact⟨(by first|rfl|simp),qz4_⟩

end Go.Proofs.Ytgookagndlfehaa.PT
end
section
namespace Go.Proofs.Ytgookagndlfehaa.PT
open Go Go.RowKit Go.Proofs.YtgookagndlfehaaW.PrintWords Go.Proofs.YtgookagndlfehaaW.PrintLast Go.Proofs.YtgookagndlfehaaW.PrintMore
set_option linter.unusedVariables false
set_option linter.unusedSimpArgs false
def okR(x:List S34):Bool:=decide((x.length:Int)≤8)&& x.all impl_are_Ext_ExtOK.p
set_option maxHeartbeats 1000000 in
set_option maxRecDepth 100000 in
theorem okR.clo(A:Option Addr)(c:Nat)(x:List S34)(w:World)(hr:Kd.C k34 w A x.length x)(hc:x.length≤c):
  Calls Try.prog 78 #[.slice A x.length c] w fun e w'=>e=.returned(.bool(!(okR x)))∧Below w.heap.size w w':=by
 have HR:=am_ hr
 have HC:=am_ hc
 clear hr hc
 have HB:=am_(Below.refl w.heap.size w)
 by_cases h:(x.length:Int)>8
 ·
  have b0:decide((x.length:Int)>8)=true:=decide_eq_true h
  have b1:decide(8<(x.length:Int))=true:=decide_eq_true h
  have b2:decide(8<x.length)=true:=decide_eq_true(by omega)
  have hp:okR x=false:=by unfold okR;rw [decide_eq_false(show ¬(x.length:Int)≤8 by omega),Bool.false_and]
  rw [hp]
  clear h hp
  go_enter Try.func78,Try.ntmps78
  go_wp2
  go_ret
  exact⟨(by first|rfl|simp),qz4_⟩
 ·
  have b0:decide((x.length:Int)>8)=false:=decide_eq_false h
  have b1:decide(8<(x.length:Int))=false:=decide_eq_false h
  have b2:decide(8<x.length)=false:=decide_eq_false(by omega)
  have hp:okR x=x.all impl_are_Ext_ExtOK.p:=by unfold okR;rw [decide_eq_true(show(x.length:Int)≤8 by omega),Bool.true_and]
  rw [hp]
  clear h hp
  go_enter Try.func78,Try.ntmps78
  go_wp2_with(go_at_call 42;(refine(impl_are_Ext_ExtOK.calls A c x _ _(by repeat(first|exact(Kd.C_below HR.out HB.out)|(with_reducible refine Kd.C_alloc ?_ _)|(with_reducible refine Kd.C_drewN ?_ _)|(with_reducible refine Kd.C_drew ?_)))HC.out rfl).mono ?_);rintro e w'⟨rfl,hb⟩;have n0_:=am_(below_step qz4_ hb);clear HB;have HB:=n0_;clear n0_;clear hb)
  go_ret
  exact⟨(by first|rfl|simp),qz4_⟩
theorem okR.all_snoc(l:List(List S34))(k:Nat)(hk:k<l.length)(h:(l.take k).all okR=true)(h2:okR(l.getD k [])=true):(l.take(k + 1)).all okR=true:=by
 rw [List.take_succ_eq_append_getElem hk,List.all_append,h]
 simp [List.getD_eq_getElem?_getD,hk] at h2
 simp [h2]
theorem okR.all_not(l:List(List S34))(k:Nat)(hk:k<l.length)(h2:okR(l.getD k [])=false):l.all okR=false:=by
 rw [List.all_eq_false]
 simp [List.getD_eq_getElem?_getD,hk] at h2
 exact⟨l[k],List.getElem_mem hk,(by simp [h2])⟩
theorem at_row {w:World} {A:Option Addr} {n:Nat} {xs:List(List S34)} (h:Kd.C(Kd.slice 34 k34)w A n xs)(k:Nat)(hk:k<n):∃ ad A0 c0,A=some ad∧w.cell? (ad.add k)=some(.slice A0(xs.getD k []).length c0)∧(xs.getD k []).length≤c0∧Kd.C k34 w A0(xs.getD k []).length(xs.getD k []):=by
 obtain⟨ad,c,e,_,hK,hc0⟩:=Kd.C_get h([]:List S34)(k:Int)(by omega)(by omega)
 have hc:∀ j u,c[j]?=some u→w.cell? (ad.add((k:Int).toNat * 1 + j))=some u:=hc0
 rw [Int.toNat_natCast] at hc hK
 obtain⟨B,cc,rfl,hl,hC⟩:=hK
 exact⟨ad,B,cc,e,(by have:=hc 0 _ rfl;simpa using this),hl,hC⟩
set_option maxHeartbeats 1000000 in
set_option maxRecDepth 100000 in
theorem okR.idx(A0:Option Addr)(c0:Nat)(l0:List(List S34))(w:World)(hr0:Kd.C(Kd.slice 34 k34)w A0 l0.length l0)(hm:l0.length≤9223372036854775807):
  Calls Try.prog 120 #[.slice A0 l0.length c0,.func(.func 78) #[] #[]] w fun e w'=>∃ j:Int,e=.returned(.int .i64 j)∧(decide(0≤j)=!(l0.all okR))∧Below w.heap.size w w':=by
 have HR0:=am_ hr0
 clear hr0
 have HB:=am_(Below.refl w.heap.size w)
 go_enter Try.func120,Try.ntmps120
 go_wp2
 go_loopg [8] l0.length(fun kq v8 w'=>∃ k:Nat,k + kq=l0.length∧v8=.int .i64 k∧Aside0((l0.take k).all okR=true)∧Aside0(Below w.heap.size w w'))
 case atStart=>exact⟨0,by omega,by first|rfl|simp,⟨rfl⟩,⟨qz4_⟩⟩
 case round=>
  obtain⟨k,hk,rfl,HA,HB⟩:=hrel
  cases gk with
  | zero=>
   have hge:decide((k:Int)<(l0.length:Int))=false:=decide_eq_false(by omega)
   have hge2:decide(k<l0.length)=false:=decide_eq_false(by omega)
   have hkk:l0.take k=l0:=List.take_of_length_le(by omega)
   have HA2:=am_(hkk ▸ HA.out)
   clear HA hkk
   go_wp2
   go_ret
   refine⟨-1,rfl,?_,qz4_⟩
   rw [HA2.out]
   rfl
  | succ k1=>
   have hkl:k<l0.length:=by omega
   have hlt:decide((k:Int)<(l0.length:Int))=true:=decide_eq_true(by omega)
   have hlt2:decide(k<l0.length)=true:=decide_eq_true hkl
   have p_:0≤(k:Int):=by omega
   have q_:(k:Int)<(l0.length:Int):=by omega
   obtain⟨ad,Ai,ci,e_,hx,hl,hi⟩:=at_row HR0.out k hkl
   cases e_
   replace hx:=(HB.out.cell(World.block_lt_of_cell? w _ hx)).trans hx
   have HI:=am_(Kd.C_below hi HB.out)
   clear hi
   by_cases hp:okR(l0.getD k [])=true
   ·
    have hs:=am_ hp
    have HA2:=am_(okR.all_snoc l0 k hkl HA.out hp)
    clear hp HA
    generalize l0.getD k []=rr at hx hl HI hs
    go_wp2_with(go_at_call 78;(refine(okR.clo _ _ rr _(by repeat(first|exact HI.out|(with_reducible refine Kd.C_alloc ?_ _)|(with_reducible refine Kd.C_drewN ?_ _)|(with_reducible refine Kd.C_drew ?_)))hl).mono ?_);rw [hs.out];rintro e w'⟨rfl,hb⟩;have n0_:=am_(below_step qz4_ hb);clear HB;have HB:=n0_;clear n0_;clear hb)
    go_roundg k1
    case measure=>omega
    case rel=>exact⟨k + 1,by omega,by first|rfl|go_num,HA2,⟨qz4_⟩⟩
   ·
    replace hp:=Bool.eq_false_iff.mpr hp
    have hs:=am_ hp
    have HA2:=am_(okR.all_not l0 k hkl hp)
    clear hp HA
    generalize l0.getD k []=rr at hx hl HI hs
    go_wp2_with(go_at_call 78;(refine(okR.clo _ _ rr _(by repeat(first|exact HI.out|(with_reducible refine Kd.C_alloc ?_ _)|(with_reducible refine Kd.C_drewN ?_ _)|(with_reducible refine Kd.C_drew ?_)))hl).mono ?_);rw [hs.out];rintro e w'⟨rfl,hb⟩;have n0_:=am_(below_step qz4_ hb);clear HB;have HB:=n0_;clear n0_;clear hb)
    go_ret
    exact⟨(k:Int),rfl,(by rw [HA2.out];simp),qz4_⟩
set_option maxHeartbeats 1000000 in
set_option maxRecDepth 100000 in
theorem okR.con(A0:Option Addr)(c0:Nat)(l0:List(List S34))(w:World)(hr0:Kd.C(Kd.slice 34 k34)w A0 l0.length l0):
  Calls Try.prog 77 #[.slice A0 l0.length c0,.func(.func 78) #[] #[]] w fun e w'=>e=.returned(.bool(!(l0.all okR)))∧Below w.heap.size w w':=by
 have hm:l0.length≤9223372036854775807:=hr0.2.1
 have HR0:=am_ hr0
 clear hr0
 go_enter Try.func77,Try.ntmps77
 go_wp2_with(go_at_call 120;(refine(okR.idx A0 c0 l0 _(by repeat(first|exact HR0.out|(with_reducible refine Kd.C_alloc ?_ _)|(with_reducible refine Kd.C_drewN ?_ _)|(with_reducible refine Kd.C_drew ?_)))hm).mono ?_);rintro e w'⟨j,rfl,hj,hb⟩;have HJ:=am_ hj;clear hj)
 go_ret
 exact⟨(by rw [←HJ.out];rfl),(by repeat(first|exact hb|exact Below.refl _ _|apply below_alloc|apply pw_below_drewN|apply below_drew1))⟩
def impl_isHash.f(a0:ByteArray):Option(Bool):=some((a0.size:Int)== 32)
set_option maxHeartbeats 8000000 in
set_option maxRecDepth 100000 in
theorem impl_isHash.calls(a0:ByteArray)(r:Bool)(w:World)(h:impl_isHash.f a0=some r):
  Calls Try.prog 47 #[.string a0] w fun e w'=>e=.returned(.bool r)∧Drawn0 w w':=by
 have H:(some((a0.size:Int)== 32))=some r:=h
 clear h
 obtain rfl:=Option.some.inj H
 go_enter Try.func47,Try.ntmps47
 go_wp2
 go_ret
 exact⟨qz10_,qz2_⟩

def impl_SourceOK.f(l0_0:List(S34))(a0_1:Int)(a0_2:ByteArray)(a0_3:Int):Option(Bool):=if(l0_0.length:Int)≤64 then((impl_are_Ext_ExtOK.f l0_0).bind fun t102=>(if t102=true then((impl_isHash.f a0_2).bind fun t103=>(if t103=true then((impl_in.f a0_1 0 1000000).bind fun t104=>(if t104=true then((impl_in.f a0_3 0 1000000).bind fun t105=>(some t105))else(some false)))else(some false)))else(some false)))else(some false)
set_option maxHeartbeats 8000000 in
set_option maxRecDepth 100000 in
theorem impl_SourceOK.calls(A0_0:Option Addr)(c0_0:Nat)(l0_0:List(S34))(a0_1:Int)(a0_2:ByteArray)(a0_3:Int)(r:Bool)(w:World)(hr0_0:Kd.C k34 w A0_0 l0_0.length l0_0)(hc0_0:l0_0.length≤c0_0)(h:impl_SourceOK.f l0_0 a0_1 a0_2 a0_3=some r):
  Calls Try.prog 11 #[.agg #[.slice A0_0 l0_0.length c0_0,.int .i64 a0_1,.string a0_2,.int .i64 a0_3]] w fun e w'=>e=.returned(.bool r)∧Below w.heap.size w w':=by
 have hu27:=Try.underlying27
 have HR0_0:=am_ hr0_0
 have HC0_0:=am_ hc0_0
 clear hr0_0 hc0_0
 have HB:=am_(Below.refl w.heap.size w)
 have H:(if(l0_0.length:Int)≤64 then((impl_are_Ext_ExtOK.f l0_0).bind fun t102=>(if t102=true then((impl_isHash.f a0_2).bind fun t103=>(if t103=true then((impl_in.f a0_1 0 1000000).bind fun t104=>(if t104=true then((impl_in.f a0_3 0 1000000).bind fun t105=>(some t105))else(some false)))else(some false)))else(some false)))else(some false))=some r:=h
 clear h
 by_cases c2:(l0_0.length:Int)≤64
 ·
  rw [if_pos c2] at H
  have c2b0:decide((l0_0.length:Int)≤64)=true:=decide_eq_true c2
  have c2b1:decide(l0_0.length≤64)=true:=decide_eq_true(by omega)
  clear c2
  replace H:=Option.bind_eq_some_iff.mp H
  obtain⟨t102,A30,H⟩:=H
  replace H:(if t102=true then((impl_isHash.f a0_2).bind fun t103=>(if t103=true then((impl_in.f a0_1 0 1000000).bind fun t104=>(if t104=true then((impl_in.f a0_3 0 1000000).bind fun t105=>(some t105))else(some false)))else(some false)))else(some false))=some r:=H
  have A3:=am_ A30
  clear A30
  by_cases c4:t102=true
  ·
   subst c4
   have H1:((impl_isHash.f a0_2).bind fun t103=>(if t103=true then((impl_in.f a0_1 0 1000000).bind fun t104=>(if t104=true then((impl_in.f a0_3 0 1000000).bind fun t105=>(some t105))else(some false)))else(some false)))=some r:=by rw [if_pos rfl] at H;exact H
   clear H
   have H:=H1
   clear H1
   replace H:=Option.bind_eq_some_iff.mp H
   obtain⟨t103,A50,H⟩:=H
   replace H:(if t103=true then((impl_in.f a0_1 0 1000000).bind fun t104=>(if t104=true then((impl_in.f a0_3 0 1000000).bind fun t105=>(some t105))else(some false)))else(some false))=some r:=H
   have A5:=am_ A50
   clear A50
   by_cases c6:t103=true
   ·
    subst c6
    have H1:((impl_in.f a0_1 0 1000000).bind fun t104=>(if t104=true then((impl_in.f a0_3 0 1000000).bind fun t105=>(some t105))else(some false)))=some r:=by rw [if_pos rfl] at H;exact H
    clear H
    have H:=H1
    clear H1
    replace H:=Option.bind_eq_some_iff.mp H
    obtain⟨t104,A70,H⟩:=H
    replace H:(if t104=true then((impl_in.f a0_3 0 1000000).bind fun t105=>(some t105))else(some false))=some r:=H
    have A7:=am_ A70
    clear A70
    by_cases c8:t104=true
    ·
     subst c8
     have H1:((impl_in.f a0_3 0 1000000).bind fun t105=>(some t105))=some r:=by rw [if_pos rfl] at H;exact H
     clear H
     have H:=H1
     clear H1
     replace H:=Option.bind_eq_some_iff.mp H
     obtain⟨t105,A90,H⟩:=H
     replace H:(some t105)=some r:=H
     have A9:=am_ A90
     clear A90
     obtain rfl:=Option.some.inj H
     go_enter Try.func11,Try.ntmps11
     go_wp2_with(first|((with_reducible refine gate_dst(N:=1)rfl ?_);refine box_event rfl(N:=1)rfl(cs:=#[.slice A0_0 l0_0.length c0_0,.int .i64 a0_1,.string a0_2,.int .i64 a0_3])(t:=27)bx_ ?_;intro gb101 hg w10 hbox hb;have n0_:=am_(below_step qz4_ hb);have n1_:=am_(hbox);have n2_:=am_((by rw [hg];exact(below_size qz4_):w.heap.size≤gb101));have n3_:=am_((by rw [hg];exact(below_size qz4_):w.heap.size≤gb101));clear HB;have HB:=n0_;have BK101:=n1_;have GW101:=n2_;have GE101:=n3_;clear n0_ n1_ n2_ n3_;clear hb hbox hg;have hcz11_0:w10.cell?⟨gb101,0,none⟩=some(.slice A0_0 l0_0.length c0_0):=(blk_cell BK101.out 0).trans rfl;have hcz11_1:w10.cell?⟨gb101,1,none⟩=some(.int .i64 a0_1):=(blk_cell BK101.out 1).trans rfl;have hcz11_2:w10.cell?⟨gb101,2,none⟩=some(.string a0_2):=(blk_cell BK101.out 2).trans rfl;have hcz11_3:w10.cell?⟨gb101,3,none⟩=some(.int .i64 a0_3):=(blk_cell BK101.out 3).trans rfl;have hfz11_0:=blk_frozen BK101.out 0;have hfz11_1:=blk_frozen BK101.out 1;have hfz11_2:=blk_frozen BK101.out 2;have hfz11_3:=blk_frozen BK101.out 3)|(go_at_call 42;(with_reducible refine(impl_are_Ext_ExtOK.calls  _ _ l0_0 true _ ?side1 ?side2 A3.out).mono ?_);(case side1=>exact qc_(Kd.C_below HR0_0.out HB.out));(case side2=>exact HC0_0.out);rintro e w12⟨rfl,hb⟩;have n0_:=am_(blk_below(g:=gb101)(o:=.cells #[.slice A0_0 l0_0.length c0_0,.int .i64 a0_1,.string a0_2,.int .i64 a0_3] 27(0,0))qz13_ hb);have n1_:=am_(below_step qz14_ hb);clear BK101;clear HB;have BK101:=n0_;have HB:=n1_;clear n0_ n1_;(try clear hb);(try clear hb2);(try clear hk);(try clear hi);have hcz13_0:w12.cell?⟨gb101,0,none⟩=some(.slice A0_0 l0_0.length c0_0):=(blk_cell BK101.out 0).trans rfl;have hcz13_1:w12.cell?⟨gb101,1,none⟩=some(.int .i64 a0_1):=(blk_cell BK101.out 1).trans rfl;have hcz13_2:w12.cell?⟨gb101,2,none⟩=some(.string a0_2):=(blk_cell BK101.out 2).trans rfl;have hcz13_3:w12.cell?⟨gb101,3,none⟩=some(.int .i64 a0_3):=(blk_cell BK101.out 3).trans rfl;have hfz13_0:=blk_frozen BK101.out 0;have hfz13_1:=blk_frozen BK101.out 1;have hfz13_2:=blk_frozen BK101.out 2;have hfz13_3:=blk_frozen BK101.out 3)|(go_at_call 47;(with_reducible refine(impl_isHash.calls a0_2 true _ A5.out).mono ?_);rintro e w'⟨rfl,⟨nd,rfl⟩⟩)|(go_at_call 44;(with_reducible refine(impl_in.calls a0_1 0 1000000 true _ A7.out).mono ?_);rintro e w'⟨rfl,⟨nd,rfl⟩⟩)|(go_at_call 44;(with_reducible refine(impl_in.calls a0_3 0 1000000 t105 _ A9.out).mono ?_);rintro e w'⟨rfl,⟨nd,rfl⟩⟩))
     go_ret
     exact⟨qz8_,qz14_⟩
    ·
     replace c8:=Bool.eq_false_iff.mpr c8
     subst c8
     have H1:(some false)=some r:=by rw [if_neg(show ¬(false=true)by decide)] at H;exact H
     clear H
     have H:=H1
     clear H1
     obtain rfl:=Option.some.inj H
     go_enter Try.func11,Try.ntmps11
     go_wp2_with(first|((with_reducible refine gate_dst(N:=1)rfl ?_);refine box_event rfl(N:=1)rfl(cs:=#[.slice A0_0 l0_0.length c0_0,.int .i64 a0_1,.string a0_2,.int .i64 a0_3])(t:=27)bx_ ?_;intro gb101 hg w14 hbox hb;have n0_:=am_(below_step qz4_ hb);have n1_:=am_(hbox);have n2_:=am_((by rw [hg];exact(below_size qz4_):w.heap.size≤gb101));have n3_:=am_((by rw [hg];exact(below_size qz4_):w.heap.size≤gb101));clear HB;have HB:=n0_;have BK101:=n1_;have GW101:=n2_;have GE101:=n3_;clear n0_ n1_ n2_ n3_;clear hb hbox hg;have hcz15_0:w14.cell?⟨gb101,0,none⟩=some(.slice A0_0 l0_0.length c0_0):=(blk_cell BK101.out 0).trans rfl;have hcz15_1:w14.cell?⟨gb101,1,none⟩=some(.int .i64 a0_1):=(blk_cell BK101.out 1).trans rfl;have hcz15_2:w14.cell?⟨gb101,2,none⟩=some(.string a0_2):=(blk_cell BK101.out 2).trans rfl;have hcz15_3:w14.cell?⟨gb101,3,none⟩=some(.int .i64 a0_3):=(blk_cell BK101.out 3).trans rfl;have hfz15_0:=blk_frozen BK101.out 0;have hfz15_1:=blk_frozen BK101.out 1;have hfz15_2:=blk_frozen BK101.out 2;have hfz15_3:=blk_frozen BK101.out 3)|(go_at_call 42;(with_reducible refine(impl_are_Ext_ExtOK.calls  _ _ l0_0 true _ ?side1 ?side2 A3.out).mono ?_);(case side1=>exact qc_(Kd.C_below HR0_0.out HB.out));(case side2=>exact HC0_0.out);rintro e w16⟨rfl,hb⟩;have n0_:=am_(blk_below(g:=gb101)(o:=.cells #[.slice A0_0 l0_0.length c0_0,.int .i64 a0_1,.string a0_2,.int .i64 a0_3] 27(0,0))qz13_ hb);have n1_:=am_(below_step qz14_ hb);clear BK101;clear HB;have BK101:=n0_;have HB:=n1_;clear n0_ n1_;(try clear hb);(try clear hb2);(try clear hk);(try clear hi);have hcz17_0:w16.cell?⟨gb101,0,none⟩=some(.slice A0_0 l0_0.length c0_0):=(blk_cell BK101.out 0).trans rfl;have hcz17_1:w16.cell?⟨gb101,1,none⟩=some(.int .i64 a0_1):=(blk_cell BK101.out 1).trans rfl;have hcz17_2:w16.cell?⟨gb101,2,none⟩=some(.string a0_2):=(blk_cell BK101.out 2).trans rfl;have hcz17_3:w16.cell?⟨gb101,3,none⟩=some(.int .i64 a0_3):=(blk_cell BK101.out 3).trans rfl;have hfz17_0:=blk_frozen BK101.out 0;have hfz17_1:=blk_frozen BK101.out 1;have hfz17_2:=blk_frozen BK101.out 2;have hfz17_3:=blk_frozen BK101.out 3)|(go_at_call 47;(with_reducible refine(impl_isHash.calls a0_2 true _ A5.out).mono ?_);rintro e w'⟨rfl,⟨nd,rfl⟩⟩)|(go_at_call 44;(with_reducible refine(impl_in.calls a0_1 0 1000000 false _ A7.out).mono ?_);rintro e w'⟨rfl,⟨nd,rfl⟩⟩))
     go_ret
     exact⟨qz8_,qz14_⟩
   ·
    replace c6:=Bool.eq_false_iff.mpr c6
    subst c6
    have H1:(some false)=some r:=by rw [if_neg(show ¬(false=true)by decide)] at H;exact H
    clear H
    have H:=H1
    clear H1
    obtain rfl:=Option.some.inj H
    go_enter Try.func11,Try.ntmps11
    go_wp2_with(first|((with_reducible refine gate_dst(N:=1)rfl ?_);refine box_event rfl(N:=1)rfl(cs:=#[.slice A0_0 l0_0.length c0_0,.int .i64 a0_1,.string a0_2,.int .i64 a0_3])(t:=27)bx_ ?_;intro gb101 hg w18 hbox hb;have n0_:=am_(below_step qz4_ hb);have n1_:=am_(hbox);have n2_:=am_((by rw [hg];exact(below_size qz4_):w.heap.size≤gb101));have n3_:=am_((by rw [hg];exact(below_size qz4_):w.heap.size≤gb101));clear HB;have HB:=n0_;have BK101:=n1_;have GW101:=n2_;have GE101:=n3_;clear n0_ n1_ n2_ n3_;clear hb hbox hg;have hcz19_0:w18.cell?⟨gb101,0,none⟩=some(.slice A0_0 l0_0.length c0_0):=(blk_cell BK101.out 0).trans rfl;have hcz19_1:w18.cell?⟨gb101,1,none⟩=some(.int .i64 a0_1):=(blk_cell BK101.out 1).trans rfl;have hcz19_2:w18.cell?⟨gb101,2,none⟩=some(.string a0_2):=(blk_cell BK101.out 2).trans rfl;have hcz19_3:w18.cell?⟨gb101,3,none⟩=some(.int .i64 a0_3):=(blk_cell BK101.out 3).trans rfl;have hfz19_0:=blk_frozen BK101.out 0;have hfz19_1:=blk_frozen BK101.out 1;have hfz19_2:=blk_frozen BK101.out 2;have hfz19_3:=blk_frozen BK101.out 3)|(go_at_call 42;(with_reducible refine(impl_are_Ext_ExtOK.calls  _ _ l0_0 true _ ?side1 ?side2 A3.out).mono ?_);(case side1=>exact qc_(Kd.C_below HR0_0.out HB.out));(case side2=>exact HC0_0.out);rintro e w20⟨rfl,hb⟩;have n0_:=am_(blk_below(g:=gb101)(o:=.cells #[.slice A0_0 l0_0.length c0_0,.int .i64 a0_1,.string a0_2,.int .i64 a0_3] 27(0,0))qz13_ hb);have n1_:=am_(below_step qz14_ hb);clear BK101;clear HB;have BK101:=n0_;have HB:=n1_;clear n0_ n1_;(try clear hb);(try clear hb2);(try clear hk);(try clear hi);have hcz21_0:w20.cell?⟨gb101,0,none⟩=some(.slice A0_0 l0_0.length c0_0):=(blk_cell BK101.out 0).trans rfl;have hcz21_1:w20.cell?⟨gb101,1,none⟩=some(.int .i64 a0_1):=(blk_cell BK101.out 1).trans rfl;have hcz21_2:w20.cell?⟨gb101,2,none⟩=some(.string a0_2):=(blk_cell BK101.out 2).trans rfl;have hcz21_3:w20.cell?⟨gb101,3,none⟩=some(.int .i64 a0_3):=(blk_cell BK101.out 3).trans rfl;have hfz21_0:=blk_frozen BK101.out 0;have hfz21_1:=blk_frozen BK101.out 1;have hfz21_2:=blk_frozen BK101.out 2;have hfz21_3:=blk_frozen BK101.out 3)|(go_at_call 47;(with_reducible refine(impl_isHash.calls a0_2 false _ A5.out).mono ?_);rintro e w'⟨rfl,⟨nd,rfl⟩⟩))
    go_ret
    exact⟨qz8_,qz14_⟩
  ·
   replace c4:=Bool.eq_false_iff.mpr c4
   subst c4
   have H1:(some false)=some r:=by rw [if_neg(show ¬(false=true)by decide)] at H;exact H
   clear H
   have H:=H1
   clear H1
   obtain rfl:=Option.some.inj H
   go_enter Try.func11,Try.ntmps11
   go_wp2_with(first|((with_reducible refine gate_dst(N:=1)rfl ?_);refine box_event rfl(N:=1)rfl(cs:=#[.slice A0_0 l0_0.length c0_0,.int .i64 a0_1,.string a0_2,.int .i64 a0_3])(t:=27)bx_ ?_;intro gb101 hg w22 hbox hb;have n0_:=am_(below_step qz4_ hb);have n1_:=am_(hbox);have n2_:=am_((by rw [hg];exact(below_size qz4_):w.heap.size≤gb101));have n3_:=am_((by rw [hg];exact(below_size qz4_):w.heap.size≤gb101));clear HB;have HB:=n0_;have BK101:=n1_;have GW101:=n2_;have GE101:=n3_;clear n0_ n1_ n2_ n3_;clear hb hbox hg;have hcz23_0:w22.cell?⟨gb101,0,none⟩=some(.slice A0_0 l0_0.length c0_0):=(blk_cell BK101.out 0).trans rfl;have hcz23_1:w22.cell?⟨gb101,1,none⟩=some(.int .i64 a0_1):=(blk_cell BK101.out 1).trans rfl;have hcz23_2:w22.cell?⟨gb101,2,none⟩=some(.string a0_2):=(blk_cell BK101.out 2).trans rfl;have hcz23_3:w22.cell?⟨gb101,3,none⟩=some(.int .i64 a0_3):=(blk_cell BK101.out 3).trans rfl;have hfz23_0:=blk_frozen BK101.out 0;have hfz23_1:=blk_frozen BK101.out 1;have hfz23_2:=blk_frozen BK101.out 2;have hfz23_3:=blk_frozen BK101.out 3)|(go_at_call 42;(with_reducible refine(impl_are_Ext_ExtOK.calls  _ _ l0_0 false _ ?side1 ?side2 A3.out).mono ?_);(case side1=>exact qc_(Kd.C_below HR0_0.out HB.out));(case side2=>exact HC0_0.out);rintro e w24⟨rfl,hb⟩;have n0_:=am_(blk_below(g:=gb101)(o:=.cells #[.slice A0_0 l0_0.length c0_0,.int .i64 a0_1,.string a0_2,.int .i64 a0_3] 27(0,0))qz13_ hb);have n1_:=am_(below_step qz14_ hb);clear BK101;clear HB;have BK101:=n0_;have HB:=n1_;clear n0_ n1_;(try clear hb);(try clear hb2);(try clear hk);(try clear hi)))
   go_ret
   exact⟨qz8_,qz14_⟩
 ·
  rw [if_neg c2] at H
  have c2b0:decide((l0_0.length:Int)≤64)=false:=decide_eq_false c2
  have c2b1:decide(l0_0.length≤64)=false:=decide_eq_false(by omega)
  clear c2
  obtain rfl:=Option.some.inj H
  go_enter Try.func11,Try.ntmps11
  go_wp2_with(first|((with_reducible refine gate_dst(N:=1)rfl ?_);refine box_event rfl(N:=1)rfl(cs:=#[.slice A0_0 l0_0.length c0_0,.int .i64 a0_1,.string a0_2,.int .i64 a0_3])(t:=27)bx_ ?_;intro gb101 hg w25 hbox hb;have n0_:=am_(below_step qz4_ hb);have n1_:=am_(hbox);have n2_:=am_((by rw [hg];exact(below_size qz4_):w.heap.size≤gb101));have n3_:=am_((by rw [hg];exact(below_size qz4_):w.heap.size≤gb101));clear HB;have HB:=n0_;have BK101:=n1_;have GW101:=n2_;have GE101:=n3_;clear n0_ n1_ n2_ n3_;clear hb hbox hg;have hcz26_0:w25.cell?⟨gb101,0,none⟩=some(.slice A0_0 l0_0.length c0_0):=(blk_cell BK101.out 0).trans rfl;have hcz26_1:w25.cell?⟨gb101,1,none⟩=some(.int .i64 a0_1):=(blk_cell BK101.out 1).trans rfl;have hcz26_2:w25.cell?⟨gb101,2,none⟩=some(.string a0_2):=(blk_cell BK101.out 2).trans rfl;have hcz26_3:w25.cell?⟨gb101,3,none⟩=some(.int .i64 a0_3):=(blk_cell BK101.out 3).trans rfl;have hfz26_0:=blk_frozen BK101.out 0;have hfz26_1:=blk_frozen BK101.out 1;have hfz26_2:=blk_frozen BK101.out 2;have hfz26_3:=blk_frozen BK101.out 3))
  go_ret
  exact⟨qz8_,qz14_⟩

def impl_Source_left.f(l0_0:List(S34))(a0_1:Int)(a0_2:ByteArray)(a0_3:Int):Option(Int):=some(wrap64(1000000 - (mx a0_1 a0_3)))
set_option maxHeartbeats 8000000 in
set_option maxRecDepth 100000 in
theorem impl_Source_left.calls(A0_0:Option Addr)(c0_0:Nat)(l0_0:List(S34))(a0_1:Int)(a0_2:ByteArray)(a0_3:Int)(r:Int)(w:World)(hr0_0:Kd.C k34 w A0_0 l0_0.length l0_0)(hc0_0:l0_0.length≤c0_0)(h:impl_Source_left.f l0_0 a0_1 a0_2 a0_3=some r):
  Calls Try.prog 80 #[.agg #[.slice A0_0 l0_0.length c0_0,.int .i64 a0_1,.string a0_2,.int .i64 a0_3]] w fun e w'=>e=.returned(.int .i64 r)∧Below w.heap.size w w':=by
 have hu27:=Try.underlying27
 have HR0_0:=am_ hr0_0
 have HC0_0:=am_ hc0_0
 clear hr0_0 hc0_0
 have HB:=am_(Below.refl w.heap.size w)
 have H:(some(wrap64(1000000 - (mx a0_1 a0_3))))=some r:=h
 clear h
 obtain⟨ji2,hji2⟩:∃ j_:Int,(mx a0_1 a0_3)=j_:=⟨_,rfl⟩
 replace H:(some(wrap64(1000000 - (ji2))))=some r:=by first|(rw [hji2] at H;exact H)|(simp only [hji2] at H ⊢;exact H)
 have hji2_:(if a0_1<a0_3 then a0_3 else a0_1)=ji2:=hji2
 obtain rfl:=Option.some.inj H
 go_enter Try.func80,Try.ntmps80
 go_wp2_with(first|((with_reducible refine gate_dst(N:=1)rfl ?_);refine box_event rfl(N:=1)rfl(cs:=#[.slice A0_0 l0_0.length c0_0,.int .i64 a0_1,.string a0_2,.int .i64 a0_3])(t:=27)bx_ ?_;intro gb101 hg w3 hbox hb;have n0_:=am_(below_step qz4_ hb);have n1_:=am_(hbox);have n2_:=am_((by rw [hg];exact(below_size qz4_):w.heap.size≤gb101));have n3_:=am_((by rw [hg];exact(below_size qz4_):w.heap.size≤gb101));clear HB;have HB:=n0_;have BK101:=n1_;have GW101:=n2_;have GE101:=n3_;clear n0_ n1_ n2_ n3_;clear hb hbox hg;have hcz4_0:w3.cell?⟨gb101,0,none⟩=some(.slice A0_0 l0_0.length c0_0):=(blk_cell BK101.out 0).trans rfl;have hcz4_1:w3.cell?⟨gb101,1,none⟩=some(.int .i64 a0_1):=(blk_cell BK101.out 1).trans rfl;have hcz4_2:w3.cell?⟨gb101,2,none⟩=some(.string a0_2):=(blk_cell BK101.out 2).trans rfl;have hcz4_3:w3.cell?⟨gb101,3,none⟩=some(.int .i64 a0_3):=(blk_cell BK101.out 3).trans rfl;have hfz4_0:=blk_frozen BK101.out 0;have hfz4_1:=blk_frozen BK101.out 1;have hfz4_2:=blk_frozen BK101.out 2;have hfz4_3:=blk_frozen BK101.out 3))
 go_ret
 exact⟨(by first|rfl|(simp [errW_none,errW_some] <;> rfl)|(simp only [←hji2];first|rfl|(simp [errW_none,errW_some] <;> rfl))|(simp [*,errW_none,errW_some] <;> rfl)),qz14_⟩

def impl_Ext_45.f(l0:List(S34)):Option(List(S34)):=if l0.length<8796093022208 then some l0 else none
set_option maxHeartbeats 8000000 in
set_option maxRecDepth 100000 in
theorem impl_Ext_45.calls(A0:Option Addr)(c0:Nat)(l0:List(S34))(r:List(S34))(w:World)(hr0:Kd.C k34 w A0 l0.length l0)(hc0:l0.length≤c0)(h:impl_Ext_45.f l0=some r):
  Calls Try.prog 45 #[.slice A0 l0.length c0] w fun e w'=>∃ v0_:Value,e=.returned(v0_)∧Kd.R k34 34 w' w.heap.size(fun _=>True)v0_ r∧Below w.heap.size w w':=by
 unfold impl_Ext_45.f at h
 by_cases c4:l0.length<8796093022208
 ·
  rw [if_pos c4] at h
  obtain rfl:=Option.some.inj h
  clear h
  have LMc4:=am_ c4
  clear c4
  cases A0 with
  | none=>
   have hl:l0=[]:=by
    cases l0 with
    | nil=>rfl
    | cons x t=>obtain⟨ad,h1,_⟩:=hr0.2.2(by simp);cases h1
   subst hl
   have HB:=am_(Below.refl w.heap.size w)
   have hq:∀ W:World,(binOp .eql 24(.slice none 0 c0)(.slice none 0 0)).run Try.prog W=.ok(.bool true)W:=fun W=>Lib.run_eql_slice_nil_nil W 0 c0 Try.underlying24
   go_enter Try.func45,Try.ntmps45
   go_wp2
   go_ret
   exact⟨_,(by first|rfl|(simp;done)),Kd.R_nil _ _ _ _ _,qz4_⟩
  | some ad0=>
   have HR0:=am_ hr0
   have HC0:=am_ hc0
   clear hr0 hc0
   have hq:∀ W:World,(binOp .eql 24(.slice(some ad0)l0.length c0)(.slice none 0 0)).run Try.prog W=.ok(.bool false)W:=fun W=>Lib.run_eql_slice_nil W 24 34(some ad0)l0.length c0 0 0 Try.underlying24
   have HB:=am_(Below.refl w.heap.size w)
   obtain⟨y101,hy101⟩:∃ y_:List(S34),y_=([]:List(S34)):=⟨_,rfl⟩
   have Ny101:=am_ hy101
   obtain⟨y104,hy104⟩:∃ y_:List(S34),y_=y101++l0:=⟨_,rfl⟩
   have Ny104:=am_ hy104
   have Nend:=am_(show y104=l0 by rw [hy104,hy101];rfl)
   have Nlim:=am_(show y101.length + l0.length<8796093022208 by rw [hy101];simpa using LMc4.out)
   clear hy101 hy104
   go_enter Try.func45,Try.ntmps45
   go_wp2_with(first|((with_reducible refine gate_dst(N:=5)rfl ?_);refine Kd.R_lit k34 _ 34 ?hg(N:=5) ?hd(xs:=([]:List(S34)))(inner:=[])(ok:=fun _=>True)(okp:=fun _=>True) ?hr ?hp(fun _ hk=>hk)trivial(Below.refl _ _)(Nat.le_refl _)(by simp) ?_;(case hd=>rfl);(case hg=>rfl);(case hr=>first|(go_simp;done)|(go_simp;rfl));(case hp=>exact(Reps.none _ _));intro v102 w5 ho6 hb hg_ hnew_;clear hg_ hnew_;(first|rw [←Ny101.out] at ho6|(simp only [Int.reduceToNat] at ho6;rw [←Ny101.out] at ho6));have n0_:=am_(Kd.R_lower ho6(below_size qz4_));have n1_:=am_(below_step qz4_ hb);clear HB;have HO103:=n0_;have HB:=n1_;clear n0_ n1_;clear hb ho6)|((with_reducible refine gate_builtin(b:=.append)(xs:=#[.tmp 5,.tmp 6])rfl ?_);at_builtin;refine Kd.R_append_rows k34(w0:=w)w.heap.size rfl(.tmp 5)(.tmp 6)24 34(.agg #[(.int .i64 0),(.int .i64 0)])16 rfl Try.underlying24 info34 rfl(by decide)(by omega)v102 y101 l0 _ _ _(fun _=>True)(fun _=>False)rfl rfl ?aO ?aR(fun _ _ h=>h)(fun _ h=>h.elim) ?aF ?aB ?aS ?aL ?_;(case aR=>exact qc_(Kd.C_below HR0.out HB.out));(case aB=>exact qz4_);(case aF=>exact(fun _ _=>trivial));(case aO=>exact qz7_);(case aS=>exact(below_size qz4_));(case aL=>have:=Nlim.out;omega);intro v105 w7 ho hb hg hat;rw [←Ny104.out] at ho;have n0_:=am_(hb);have n1_:=am_(ho);clear HB;clear HO103;have HB:=n0_;have HO106:=n1_;clear n0_ n1_;clear ho hb hg hat))
   go_ret
   exact⟨_,(by first|rfl|(simp;done)),(by rw [←Nend.out];(with_reducible repeat(first|apply Kd.R_alloc|apply Kd.R_drewN|apply Kd.R_drew));exact HO106.out),qz4_⟩
 ·
  rw [if_neg c4] at h;exact absurd h(by simp)

end Go.Proofs.Ytgookagndlfehaa.PT
end
section
namespace Go.Proofs.Ytgookagndlfehaa.PT
open Go.RowKit Go.Proofs.YtgookagndlfehaaW.PrintWords Go.Proofs.YtgookagndlfehaaW.PrintLast Go.Proofs.YtgookagndlfehaaW.PrintMore
attribute [local go_sem] max2_int min2_int max_two min_two max_three min_three max_four min_four   -- for this text's walks alone
set_option linter.unusedVariables false
set_option linter.unusedSimpArgs false
def impl_Source_copied.f(l0_0:List(S34))(a0_1:Int)(a0_2:ByteArray)(a0_3:Int):Option((List(S34))× Int × ByteArray × Int):=(impl_Ext_45.f l0_0).bind fun t103=>(some(t103,a0_1,a0_2,a0_3))
set_option maxHeartbeats 8000000 in
set_option maxRecDepth 100000 in
theorem impl_Source_copied.calls(A0_0:Option Addr)(c0_0:Nat)(l0_0:List(S34))(a0_1:Int)(a0_2:ByteArray)(a0_3:Int)(r1:List(S34))(r2:Int)(r3:ByteArray)(r4:Int)(w:World)(hr0_0:Kd.C k34 w A0_0 l0_0.length l0_0)(hc0_0:l0_0.length≤c0_0)(h:impl_Source_copied.f l0_0 a0_1 a0_2 a0_3=some(r1,r2,r3,r4)):
  Calls Try.prog 48 #[.agg #[.slice A0_0 l0_0.length c0_0,.int .i64 a0_1,.string a0_2,.int .i64 a0_3]] w fun e w'=>∃ v0_:Value,e=.returned(.agg #[v0_,.int .i64 r2,.string r3,.int .i64 r4])∧Kd.R k34 34 w' w.heap.size(fun _=>True)v0_ r1∧Below w.heap.size w w':=by
 have hu27:=Try.underlying27
 have HR0_0:=am_ hr0_0
 have HC0_0:=am_ hc0_0
 clear hr0_0 hc0_0
 have HB:=am_(Below.refl w.heap.size w)
 have H:((impl_Ext_45.f l0_0).bind fun t103=>(some(t103,a0_1,a0_2,a0_3)))=some(r1,r2,r3,r4):=h
 clear h
 replace H:=Option.bind_eq_some_iff.mp H
 obtain⟨t103,A20,H⟩:=H
 replace H:(some(t103,a0_1,a0_2,a0_3))=some(r1,r2,r3,r4):=H
 have A2:=am_ A20
 clear A20
 simp only [Option.some.injEq,Prod.mk.injEq] at H
 obtain⟨rfl,rfl,rfl,rfl⟩:=H
 go_enter Try.func48,Try.ntmps48
 go_wp2_with(first|((with_reducible refine gate_dst(N:=1)rfl ?_);refine box_event rfl(N:=1)rfl(cs:=#[.slice A0_0 l0_0.length c0_0,.int .i64 a0_1,.string a0_2,.int .i64 a0_3])(t:=27)bx_ ?_;intro gb101 hg w3 hbox hb;have n0_:=am_(below_step qz4_ hb);have n1_:=am_(hbox);have n2_:=am_((by rw [hg];exact(below_size qz4_):w.heap.size≤gb101));have n3_:=am_((by rw [hg];exact(below_size qz4_):w.heap.size≤gb101));clear HB;have HB:=n0_;have BK101:=n1_;have GW101:=n2_;have GE101:=n3_;clear n0_ n1_ n2_ n3_;clear hb hbox hg)|((with_reducible refine gate_dst(N:=2)rfl ?_);refine box_event rfl(N:=2)rfl(cs:=#[.slice none 0 0,.int .i64 0,.string(⟨#[]⟩:ByteArray),.int .i64 0])(t:=27)bx_ ?_;intro gb102 hg w4 hbox hb;have n0_:=am_(blk_below(g:=gb101)(o:=.cells #[.slice A0_0 l0_0.length c0_0,.int .i64 a0_1,.string a0_2,.int .i64 a0_3] 27(0,0))qz13_ hb);have n1_:=am_(below_step qz14_ hb);have n2_:=am_(hbox);have n3_:=am_((by rw [hg];exact(below_size qz14_):w.heap.size≤gb102));have n4_:=am_((by rw [hg];exact(below_size qz14_):w.heap.size≤gb102));have n5_:=am_((by rw [hg];exact Nat.ne_of_lt(blk_lt(g:=gb101)(o:=.cells #[.slice A0_0 l0_0.length c0_0,.int .i64 a0_1,.string a0_2,.int .i64 a0_3] 27(0,0))qz13_):gb101≠gb102));have n6_:=am_((by rw [hg];exact Nat.ne_of_gt(blk_lt(g:=gb101)(o:=.cells #[.slice A0_0 l0_0.length c0_0,.int .i64 a0_1,.string a0_2,.int .i64 a0_3] 27(0,0))qz13_):gb102≠gb101));clear BK101;clear HB;have BK101:=n0_;have HB:=n1_;have BK102:=n2_;have GW102:=n3_;have GE102:=n4_;have NB101_102:=n5_;have NB102_101:=n6_;clear n0_ n1_ n2_ n3_ n4_ n5_ n6_;clear hb hbox hg;have hnb5:=NB101_102.out;have hnc5:=NB102_101.out;have hcz6_0:w4.cell?⟨gb101,0,none⟩=some(.slice A0_0 l0_0.length c0_0):=(blk_cell BK101.out 0).trans rfl;have hcz6_1:w4.cell?⟨gb101,1,none⟩=some(.int .i64 a0_1):=(blk_cell BK101.out 1).trans rfl;have hcz6_2:w4.cell?⟨gb101,2,none⟩=some(.string a0_2):=(blk_cell BK101.out 2).trans rfl;have hcz6_3:w4.cell?⟨gb101,3,none⟩=some(.int .i64 a0_3):=(blk_cell BK101.out 3).trans rfl;have hfz6_0:=blk_frozen BK101.out 0;have hfz6_1:=blk_frozen BK101.out 1;have hfz6_2:=blk_frozen BK101.out 2;have hfz6_3:=blk_frozen BK101.out 3)|((with_reducible refine gate_callee(f:=45)rfl ?_);refine goesL_(some 5)rfl rfl Try.func45(by kernel_rfl)rfl #[.slice A0_0 l0_0.length c0_0] rfl qz18_ ?_;(with_reducible refine(impl_Ext_45.calls _ _ l0_0 t103 _ ?side1 ?side2 A2.out).mono ?_);(case side1=>exact qc_(Kd.C_below HR0_0.out HB.out));(case side2=>exact HC0_0.out);rintro e w7⟨v104,rfl,ho0,hb⟩;refine⟨_,rfl,?_⟩;have n0_:=am_(Kd.R_lower ho0(below_size qz16_));have n1_:=am_(blk_below(g:=gb101)(o:=.cells #[.slice A0_0 l0_0.length c0_0,.int .i64 a0_1,.string a0_2,.int .i64 a0_3] 27(0,0))qz13_ hb);have n2_:=am_(blk_below(g:=gb102)(o:=.cells #[.slice none 0 0,.int .i64 0,.string(⟨#[]⟩:ByteArray),.int .i64 0] 27(0,0))qz15_ hb);have n3_:=am_(below_step qz16_ hb);clear BK101;clear BK102;clear HB;have HO105:=n0_;have BK101:=n1_;have BK102:=n2_;have HB:=n3_;clear n0_ n1_ n2_ n3_;(try clear hb);(try clear hb2);(try clear hk);(try clear hi);(try clear ho0);obtain⟨Ao8,co8,eo8⟩:=Kd.R_slice HO105.out;subst eo8;have hcz9_0:w7.cell?⟨gb101,0,none⟩=some(.slice A0_0 l0_0.length c0_0):=(blk_cell BK101.out 0).trans rfl;have hcz9_1:w7.cell?⟨gb101,1,none⟩=some(.int .i64 a0_1):=(blk_cell BK101.out 1).trans rfl;have hcz9_2:w7.cell?⟨gb101,2,none⟩=some(.string a0_2):=(blk_cell BK101.out 2).trans rfl;have hcz9_3:w7.cell?⟨gb101,3,none⟩=some(.int .i64 a0_3):=(blk_cell BK101.out 3).trans rfl;have hfz9_0:=blk_frozen BK101.out 0;have hfz9_1:=blk_frozen BK101.out 1;have hfz9_2:=blk_frozen BK101.out 2;have hfz9_3:=blk_frozen BK101.out 3;have hcz10_0:w7.cell?⟨gb102,0,none⟩=some(.slice none 0 0):=(blk_cell BK102.out 0).trans rfl;have hcz10_1:w7.cell?⟨gb102,1,none⟩=some(.int .i64 0):=(blk_cell BK102.out 1).trans rfl;have hcz10_2:w7.cell?⟨gb102,2,none⟩=some(.string(⟨#[]⟩:ByteArray)):=(blk_cell BK102.out 2).trans rfl;have hcz10_3:w7.cell?⟨gb102,3,none⟩=some(.int .i64 0):=(blk_cell BK102.out 3).trans rfl;have hfz10_0:=blk_frozen BK102.out 0;have hfz10_1:=blk_frozen BK102.out 1;have hfz10_2:=blk_frozen BK102.out 2;have hfz10_3:=blk_frozen BK102.out 3))
 refine bodyPost_ret(results_cell_row rfl _ _ gb102 27 #[.slice Ao8 t103.length co8,.int .i64 a0_1,.string a0_2,.int .i64 a0_3](0,0)_ rfl(by(with_reducible repeat(first|refine blk_drewN ?_ _|refine blk_drew ?_|refine blk_alloc ?_ _));refine blk_put(cs:=#[.slice Ao8 t103.length co8,.int .i64 a0_1,.string a0_2,.int .i64 0]) ?_ 3 _ rfl;(with_reducible repeat(first|refine blk_drewN ?_ _|refine blk_drew ?_|refine blk_alloc ?_ _));refine blk_put(cs:=#[.slice Ao8 t103.length co8,.int .i64 a0_1,.string(⟨#[]⟩:ByteArray),.int .i64 0]) ?_ 2 _ rfl;(with_reducible repeat(first|refine blk_drewN ?_ _|refine blk_drew ?_|refine blk_alloc ?_ _));refine blk_put(cs:=#[.slice Ao8 t103.length co8,.int .i64 0,.string(⟨#[]⟩:ByteArray),.int .i64 0]) ?_ 1 _ rfl;(with_reducible repeat(first|refine blk_drewN ?_ _|refine blk_drew ?_|refine blk_alloc ?_ _));refine blk_put(cs:=#[.slice none 0 0,.int .i64 0,.string(⟨#[]⟩:ByteArray),.int .i64 0]) ?_ 0 _ rfl;(with_reducible repeat(first|refine blk_drewN ?_ _|refine blk_drew ?_|refine blk_alloc ?_ _));refine blk_far ?_ NB102_101.out _;(with_reducible repeat(first|refine blk_drewN ?_ _|refine blk_drew ?_|refine blk_alloc ?_ _));exact BK102.out)Try.underlying27 rfl(by kernel_rfl))rfl ?_
 exact⟨_,by first|rfl|(simp [errW_none,errW_some] <;> rfl)|(simp [*,errW_none,errW_some] <;> rfl),by(with_reducible repeat(first|apply Kd.R_alloc|apply Kd.R_drewN|apply Kd.R_drew));exact Kd.R_mono(Kd.R_far(p:=⟨gb102,3,none⟩)(Kd.R_far(p:=⟨gb102,2,none⟩)(Kd.R_far(p:=⟨gb102,1,none⟩)(Kd.R_far(p:=⟨gb102,0,none⟩)(Kd.R_far(p:=⟨gb101,0,none⟩)(Kd.R_types(Kd.R_types HO105.out BK101.out(by decide))BK102.out(by decide))(fun _ hk=>hk.1.2)(.slice Ao8 t103.length co8))(fun _ hk=>hk.2)(.slice Ao8 t103.length co8))(fun _ hk=>hk.2)(.int .i64 a0_1))(fun _ hk=>hk.2)(.string a0_2))(fun _ hk=>hk.2)(.int .i64 a0_3))(fun _ hk=>trivial),by repeat(first|(with_reducible first|exact HB.out|apply below_alloc|apply pw_below_drewN|apply below_drew1|refine below_set ?_ GE101.out|refine below_set ?_ GE102.out)|exact HB.out)⟩

end Go.Proofs.Ytgookagndlfehaa.PT
end
section
namespace Go.Proofs.Ytgookagndlfehaa.PT
open Go Go.RowKit Go.Proofs.YtgookagndlfehaaW.PrintWords Go.Proofs.YtgookagndlfehaaW.PrintLast Go.Proofs.YtgookagndlfehaaW.PrintMore
set_option linter.unusedVariables false
set_option linter.unusedSimpArgs false
theorem perm_six {α:Type} (a b c d e f:α):[a,b,c,d,e,f].Perm [f,e,a,b,c,d]:=by
 have h:=(List.perm_append_comm(l₁:=[a,b,c,d])(l₂:=[e,f]))
 exact(show [a,b,c,d,e,f].Perm [e,f,a,b,c,d] by simpa using h).trans(List.Perm.swap _ _ _)
def impl_SumVerify.f(k:Nat)(kind c0 c1:Int)(l2:List(List S34))(vars:Int)(q0:List S34)(q1:Int)(q2:ByteArray)(q3:Int):Option(List S34 × Int × Int × List S34 × Int × ByteArray × Int × Int):=
 if(l2.length:Int)>4096 then some([],0,0,[],0,(⟨#[]⟩:ByteArray),0,2)else(impl_ExtOK.f c0 c1).bind fun b1=>if b1=false then some([],0,0,[],0,(⟨#[]⟩:ByteArray),0,1)else(impl_SourceOK.f q0 q1 q2 q3).bind fun b2=>if b2=false then some([],0,0,[],0,(⟨#[]⟩:ByteArray),0,1)else if l2.all okR=false then some([],0,0,[],0,(⟨#[]⟩:ByteArray),0,1)else
 (impl_degreeOf.f kind).bind fun d=>if d=0 then some([],0,0,[],0,(⟨#[]⟩:ByteArray),0,4)else(impl_in.f vars 0 6).bind fun b3=>if b3=false then some([],0,0,[],0,(⟨#[]⟩:ByteArray),0,4)else(impl_Source_left.f q0 q1 q2 q3).bind fun t=>if t<6 then some([],0,0,[],0,(⟨#[]⟩:ByteArray),0,6)else if(l2.length:Int)=vars then
  ((impl_Source_copied.f q0 q1 q2 q3).bind fun s=>(vs_ k kind s.1 l2 c0 c1 s.2.1 s.2.2.1 s.2.2.2 []).bind fun v=>if v.2.2.2.1=0 then some(v.1,v.2.1,v.2.2.1,s.1,v.2.2.2.2.1,v.2.2.2.2.2.1,v.2.2.2.2.2.2,0)else some([],0,0,[],0,(⟨#[]⟩:ByteArray),0,v.2.2.2.1))else some([],0,0,[],0,(⟨#[]⟩:ByteArray),0,18)
set_option maxHeartbeats 4000000 in
set_option maxRecDepth 100000 in
theorem impl_SumVerify.calls(k:Nat)(kind c0 c1:Int)(A2:Option Addr)(cap2:Nat)(l2:List(List S34))(vars:Int)(A4:Option Addr)(c4:Nat)(q0:List S34)(q1:Int)(q2:ByteArray)(q3:Int)(r1:List S34)(r2 r3:Int)(r4:List S34)(r5:Int)(r6:ByteArray)(r7 r8:Int)(w:World)(hr2:Kd.C(Kd.slice 34 k34)w A2 l2.length l2)(hc2:l2.length≤cap2)(hr4:Kd.C k34 w A4 q0.length q0)(hc4:q0.length≤c4)(h:impl_SumVerify.f k kind c0 c1 l2 vars q0 q1 q2 q3=some(r1,r2,r3,r4,r5,r6,r7,r8)):
  Calls Try.prog 30 #[.int .i64 kind,.agg #[.int .i64 c0,.int .i64 c1],.slice A2 l2.length cap2,.int .i64 vars,.agg #[.slice A4 q0.length c4,.int .i64 q1,.string q2,.int .i64 q3]] w fun e w'=>∃ v0_ v3_:Value,e=.returned(.tuple #[v0_,.agg #[.int .i64 r2,.int .i64 r3],.agg #[v3_,.int .i64 r5,.string r6,.int .i64 r7],.int .i64 r8])∧Kd.R k34 34 w' w.heap.size(fun k_=>some k_≠v3_.ownBlock)v0_ r1∧Kd.R k34 34 w' w.heap.size(fun k_=>some k_≠v0_.ownBlock)v3_ r4∧Below w.heap.size w w':=by
 have hu34:=Try.underlying34
 have hu27:=Try.underlying27
 have HC2:=am_ hc2
 have HC4:=am_ hc4
 have HI:=am_(Inv.start w(fun w2=>Kd.C k34 w2 A4 q0.length q0∧Kd.C(Kd.slice 34 k34)w2 A2 l2.length l2)(fun w' hb=>⟨Kd.C_below hr4 hb,Kd.C_below hr2 hb⟩))
 clear hr2 hr4 hc2 hc4
 unfold impl_SumVerify.f at h
 by_cases cx4:(l2.length:Int)>4096
 ·
  rw [if_pos cx4] at h
  have f0:decide((l2.length:Int)>4096)=true:=decide_eq_true cx4
  have f0b:decide(4096<(l2.length:Int))=true:=decide_eq_true cx4
  have f0c:decide(4096<l2.length)=true:=decide_eq_true(by omega)
  clear cx4
  simp only [Option.some.injEq,Prod.mk.injEq] at h
  obtain⟨rfl,rfl,rfl,rfl,rfl,rfl,rfl,rfl⟩:=h
  go_enter Try.func30,Try.ntmps30
  go_wp2_with(first|((with_reducible refine gate_dst(N:=6)rfl ?_);refine box_event rfl(N:=6)rfl(cs:=#[.int .i64 c0,.int .i64 c1])(t:=34)bx_ ?_;intro g6 hg w6_ hbox hb;replace HI:=am_((HI.out).box hg hbox hb);clear hb hbox hg)|((with_reducible refine gate_dst(N:=9)rfl ?_);refine box_event rfl(N:=9)rfl(cs:=#[.slice A4 q0.length c4,.int .i64 q1,.string q2,.int .i64 q3])(t:=27)bx_ ?_;intro g9 hg w9_ hbox hb;replace HI:=am_((HI.out).box hg hbox hb);clear hb hbox hg)|((with_reducible refine gate_dst(N:=11)rfl ?_);refine box_event rfl(N:=11)rfl(cs:=#[.int .i64 0,.int .i64 0])(t:=34)bx_ ?_;intro g11 hg w11_ hbox hb;replace HI:=am_((HI.out).box hg hbox hb);clear hb hbox hg)|((with_reducible refine gate_dst(N:=12)rfl ?_);refine box_event rfl(N:=12)rfl(cs:=#[.slice none 0 0,.int .i64 0,.string(⟨#[]⟩:ByteArray),.int .i64 0])(t:=27)bx_ ?_;intro g12 hg w12_ hbox hb;replace HI:=am_((HI.out).box hg hbox hb);clear hb hbox hg)|((with_reducible refine gate_store(p:=11)(v:=(.tmp 55))(t:=34)rfl ?_);go_must(refine wpList_store_row rfl 34 _ _ rfl g11(#[.int .i64 0,.int .i64 0])rfl qz0_ 34(#[.int .i64 0,.int .i64 0])(Inv.blk0(HI.out.swap))(by kernel_rfl)(by rfl)qz12_ ?_;replace HI:=am_(Inv.put0(HI.out.swap)(#[.int .i64 0,.int .i64 0]));generalize World.setRow _ g11(#[.int .i64 0,.int .i64 0])=w55 at HI ⊢))|((with_reducible refine gate_store(p:=12)(v:=(.tmp 56))(t:=27)rfl ?_);go_must(refine wpList_store_row rfl 27 _ _ rfl g12(#[.slice none 0 0,.int .i64 0,.string(⟨#[]⟩:ByteArray),.int .i64 0])rfl qz0_ 27(#[.slice none 0 0,.int .i64 0,.string(⟨#[]⟩:ByteArray),.int .i64 0])(Inv.blk0(HI.out.swap))(by kernel_rfl)(by rfl)qz12_ ?_;replace HI:=am_(Inv.put0(HI.out.swap)(#[.slice none 0 0,.int .i64 0,.string(⟨#[]⟩:ByteArray),.int .i64 0]));generalize World.setRow _ g12(#[.slice none 0 0,.int .i64 0,.string(⟨#[]⟩:ByteArray),.int .i64 0])=w56 at HI ⊢)))
  refine bodyPost_ret(results_tcct rfl _ _ g11 g12 34 27 #[.int .i64 0,.int .i64 0] #[.slice none 0 0,.int .i64 0,.string(⟨#[]⟩:ByteArray),.int .i64 0](0,0)(0,0)_ _ rfl(HI.out.get 1 rfl)hu34 rfl(by kernel_rfl)rfl(HI.out.get 0 rfl)hu27 rfl(by kernel_rfl))rfl ?_
  exact⟨_,_,rfl,Kd.R_nil _ _ _ _ _,Kd.R_nil _ _ _ _ _,HI.out.below⟩
 ·
  rw [if_neg cx4] at h
  have f0:decide((l2.length:Int)>4096)=false:=decide_eq_false cx4
  have f0b:decide(4096<(l2.length:Int))=false:=decide_eq_false cx4
  have f0c:decide(4096<l2.length)=false:=decide_eq_false(by omega)
  clear cx4
  replace h:=Option.bind_eq_some_iff.1 h
  obtain⟨b1,hex_,h⟩:=h
  have HEX:=am_ hex_
  clear hex_
  cases b1 with
  | false=>
   rw [if_pos rfl] at h
   simp only [Option.some.injEq,Prod.mk.injEq] at h
   obtain⟨rfl,rfl,rfl,rfl,rfl,rfl,rfl,rfl⟩:=h
   go_enter Try.func30,Try.ntmps30
   go_wp2_with(first|((with_reducible refine gate_dst(N:=6)rfl ?_);refine box_event rfl(N:=6)rfl(cs:=#[.int .i64 c0,.int .i64 c1])(t:=34)bx_ ?_;intro g6 hg w6_ hbox hb;replace HI:=am_((HI.out).box hg hbox hb);clear hb hbox hg)|((with_reducible refine gate_dst(N:=9)rfl ?_);refine box_event rfl(N:=9)rfl(cs:=#[.slice A4 q0.length c4,.int .i64 q1,.string q2,.int .i64 q3])(t:=27)bx_ ?_;intro g9 hg w9_ hbox hb;replace HI:=am_((HI.out).box hg hbox hb);clear hb hbox hg)|((with_reducible refine gate_dst(N:=11)rfl ?_);refine box_event rfl(N:=11)rfl(cs:=#[.int .i64 0,.int .i64 0])(t:=34)bx_ ?_;intro g11 hg w11_ hbox hb;replace HI:=am_((HI.out).box hg hbox hb);clear hb hbox hg)|((with_reducible refine gate_dst(N:=12)rfl ?_);refine box_event rfl(N:=12)rfl(cs:=#[.slice none 0 0,.int .i64 0,.string(⟨#[]⟩:ByteArray),.int .i64 0])(t:=27)bx_ ?_;intro g12 hg w12_ hbox hb;replace HI:=am_((HI.out).box hg hbox hb);clear hb hbox hg)|((with_reducible refine gate_dst(N:=23)rfl ?_);go_must(refine wpList_load_row rfl 34 _ rfl g6 rfl 34(#[.int .i64 c0,.int .i64 c1])(0,0)_((HI.out.get 3 rfl))hu34 rfl(by kernel_rfl) ?_))|(go_at_call 43;(refine(impl_ExtOK.calls c0 c1 _ _ HEX.out).mono ?_);rintro e w24⟨rfl,hb⟩;replace HI:=am_(HI.out.grow hb);clear hb;have h90:World.cell? _⟨g9,0,none⟩=some(.slice A4 q0.length c4):=(blk_cell(HI.out.get 2 rfl)0).trans rfl;have h91:World.cell? _⟨g9,1,none⟩=some(.int .i64 q1):=(blk_cell(HI.out.get 2 rfl)1).trans rfl;have h92:World.cell? _⟨g9,2,none⟩=some(.string q2):=(blk_cell(HI.out.get 2 rfl)2).trans rfl;have h93:World.cell? _⟨g9,3,none⟩=some(.int .i64 q3):=(blk_cell(HI.out.get 2 rfl)3).trans rfl)|((with_reducible refine gate_store(p:=11)(v:=(.tmp 55))(t:=34)rfl ?_);go_must(refine wpList_store_row rfl 34 _ _ rfl g11(#[.int .i64 0,.int .i64 0])rfl qz0_ 34(#[.int .i64 0,.int .i64 0])(Inv.blk0(HI.out.swap))(by kernel_rfl)(by rfl)qz12_ ?_;replace HI:=am_(Inv.put0(HI.out.swap)(#[.int .i64 0,.int .i64 0]));generalize World.setRow _ g11(#[.int .i64 0,.int .i64 0])=w55 at HI ⊢))|((with_reducible refine gate_store(p:=12)(v:=(.tmp 56))(t:=27)rfl ?_);go_must(refine wpList_store_row rfl 27 _ _ rfl g12(#[.slice none 0 0,.int .i64 0,.string(⟨#[]⟩:ByteArray),.int .i64 0])rfl qz0_ 27(#[.slice none 0 0,.int .i64 0,.string(⟨#[]⟩:ByteArray),.int .i64 0])(Inv.blk0(HI.out.swap))(by kernel_rfl)(by rfl)qz12_ ?_;replace HI:=am_(Inv.put0(HI.out.swap)(#[.slice none 0 0,.int .i64 0,.string(⟨#[]⟩:ByteArray),.int .i64 0]));generalize World.setRow _ g12(#[.slice none 0 0,.int .i64 0,.string(⟨#[]⟩:ByteArray),.int .i64 0])=w56 at HI ⊢)))
   refine bodyPost_ret(results_tcct rfl _ _ g11 g12 34 27 #[.int .i64 0,.int .i64 0] #[.slice none 0 0,.int .i64 0,.string(⟨#[]⟩:ByteArray),.int .i64 0](0,0)(0,0)_ _ rfl(HI.out.get 1 rfl)hu34 rfl(by kernel_rfl)rfl(HI.out.get 0 rfl)hu27 rfl(by kernel_rfl))rfl ?_
   exact⟨_,_,rfl,Kd.R_nil _ _ _ _ _,Kd.R_nil _ _ _ _ _,HI.out.below⟩
  | true=>
   rw [if_neg(by decide)] at h
   replace h:=Option.bind_eq_some_iff.1 h
   obtain⟨b2,hso_,h⟩:=h
   have HSO:=am_ hso_
   clear hso_
   cases b2 with
   | false=>
    rw [if_pos rfl] at h
    simp only [Option.some.injEq,Prod.mk.injEq] at h
    obtain⟨rfl,rfl,rfl,rfl,rfl,rfl,rfl,rfl⟩:=h
    go_enter Try.func30,Try.ntmps30
    go_wp2_with(first|((with_reducible refine gate_dst(N:=6)rfl ?_);refine box_event rfl(N:=6)rfl(cs:=#[.int .i64 c0,.int .i64 c1])(t:=34)bx_ ?_;intro g6 hg w6_ hbox hb;replace HI:=am_((HI.out).box hg hbox hb);clear hb hbox hg)|((with_reducible refine gate_dst(N:=9)rfl ?_);refine box_event rfl(N:=9)rfl(cs:=#[.slice A4 q0.length c4,.int .i64 q1,.string q2,.int .i64 q3])(t:=27)bx_ ?_;intro g9 hg w9_ hbox hb;replace HI:=am_((HI.out).box hg hbox hb);clear hb hbox hg)|((with_reducible refine gate_dst(N:=11)rfl ?_);refine box_event rfl(N:=11)rfl(cs:=#[.int .i64 0,.int .i64 0])(t:=34)bx_ ?_;intro g11 hg w11_ hbox hb;replace HI:=am_((HI.out).box hg hbox hb);clear hb hbox hg)|((with_reducible refine gate_dst(N:=12)rfl ?_);refine box_event rfl(N:=12)rfl(cs:=#[.slice none 0 0,.int .i64 0,.string(⟨#[]⟩:ByteArray),.int .i64 0])(t:=27)bx_ ?_;intro g12 hg w12_ hbox hb;replace HI:=am_((HI.out).box hg hbox hb);clear hb hbox hg)|((with_reducible refine gate_dst(N:=23)rfl ?_);go_must(refine wpList_load_row rfl 34 _ rfl g6 rfl 34(#[.int .i64 c0,.int .i64 c1])(0,0)_((HI.out.get 3 rfl))hu34 rfl(by kernel_rfl) ?_))|(go_at_call 43;(refine(impl_ExtOK.calls c0 c1 _ _ HEX.out).mono ?_);rintro e w24⟨rfl,hb⟩;replace HI:=am_(HI.out.grow hb);clear hb;have h90:World.cell? _⟨g9,0,none⟩=some(.slice A4 q0.length c4):=(blk_cell(HI.out.get 2 rfl)0).trans rfl;have h91:World.cell? _⟨g9,1,none⟩=some(.int .i64 q1):=(blk_cell(HI.out.get 2 rfl)1).trans rfl;have h92:World.cell? _⟨g9,2,none⟩=some(.string q2):=(blk_cell(HI.out.get 2 rfl)2).trans rfl;have h93:World.cell? _⟨g9,3,none⟩=some(.int .i64 q3):=(blk_cell(HI.out.get 2 rfl)3).trans rfl)|(go_at_call 11;(refine(impl_SourceOK.calls A4 c4 q0 q1 q2 q3 _ _ HI.out.now.1 HC4.out HSO.out).mono ?_);rintro e w28⟨rfl,hb⟩;replace HI:=am_(HI.out.grow hb);clear hb)|((with_reducible refine gate_store(p:=11)(v:=(.tmp 55))(t:=34)rfl ?_);go_must(refine wpList_store_row rfl 34 _ _ rfl g11(#[.int .i64 0,.int .i64 0])rfl qz0_ 34(#[.int .i64 0,.int .i64 0])(Inv.blk0(HI.out.swap))(by kernel_rfl)(by rfl)qz12_ ?_;replace HI:=am_(Inv.put0(HI.out.swap)(#[.int .i64 0,.int .i64 0]));generalize World.setRow _ g11(#[.int .i64 0,.int .i64 0])=w55 at HI ⊢))|((with_reducible refine gate_store(p:=12)(v:=(.tmp 56))(t:=27)rfl ?_);go_must(refine wpList_store_row rfl 27 _ _ rfl g12(#[.slice none 0 0,.int .i64 0,.string(⟨#[]⟩:ByteArray),.int .i64 0])rfl qz0_ 27(#[.slice none 0 0,.int .i64 0,.string(⟨#[]⟩:ByteArray),.int .i64 0])(Inv.blk0(HI.out.swap))(by kernel_rfl)(by rfl)qz12_ ?_;replace HI:=am_(Inv.put0(HI.out.swap)(#[.slice none 0 0,.int .i64 0,.string(⟨#[]⟩:ByteArray),.int .i64 0]));generalize World.setRow _ g12(#[.slice none 0 0,.int .i64 0,.string(⟨#[]⟩:ByteArray),.int .i64 0])=w56 at HI ⊢)))
    refine bodyPost_ret(results_tcct rfl _ _ g11 g12 34 27 #[.int .i64 0,.int .i64 0] #[.slice none 0 0,.int .i64 0,.string(⟨#[]⟩:ByteArray),.int .i64 0](0,0)(0,0)_ _ rfl(HI.out.get 1 rfl)hu34 rfl(by kernel_rfl)rfl(HI.out.get 0 rfl)hu27 rfl(by kernel_rfl))rfl ?_
    exact⟨_,_,rfl,Kd.R_nil _ _ _ _ _,Kd.R_nil _ _ _ _ _,HI.out.below⟩
   | true=>
    rw [if_neg(by decide)] at h
    by_cases ca:l2.all okR=false
    ·
     rw [if_pos ca] at h
     have HCN:=am_ ca
     clear ca
     simp only [Option.some.injEq,Prod.mk.injEq] at h
     obtain⟨rfl,rfl,rfl,rfl,rfl,rfl,rfl,rfl⟩:=h
     go_enter Try.func30,Try.ntmps30
     go_wp2_with(first|((with_reducible refine gate_dst(N:=6)rfl ?_);refine box_event rfl(N:=6)rfl(cs:=#[.int .i64 c0,.int .i64 c1])(t:=34)bx_ ?_;intro g6 hg w6_ hbox hb;replace HI:=am_((HI.out).box hg hbox hb);clear hb hbox hg)|((with_reducible refine gate_dst(N:=9)rfl ?_);refine box_event rfl(N:=9)rfl(cs:=#[.slice A4 q0.length c4,.int .i64 q1,.string q2,.int .i64 q3])(t:=27)bx_ ?_;intro g9 hg w9_ hbox hb;replace HI:=am_((HI.out).box hg hbox hb);clear hb hbox hg)|((with_reducible refine gate_dst(N:=11)rfl ?_);refine box_event rfl(N:=11)rfl(cs:=#[.int .i64 0,.int .i64 0])(t:=34)bx_ ?_;intro g11 hg w11_ hbox hb;replace HI:=am_((HI.out).box hg hbox hb);clear hb hbox hg)|((with_reducible refine gate_dst(N:=12)rfl ?_);refine box_event rfl(N:=12)rfl(cs:=#[.slice none 0 0,.int .i64 0,.string(⟨#[]⟩:ByteArray),.int .i64 0])(t:=27)bx_ ?_;intro g12 hg w12_ hbox hb;replace HI:=am_((HI.out).box hg hbox hb);clear hb hbox hg)|((with_reducible refine gate_dst(N:=23)rfl ?_);go_must(refine wpList_load_row rfl 34 _ rfl g6 rfl 34(#[.int .i64 c0,.int .i64 c1])(0,0)_((HI.out.get 3 rfl))hu34 rfl(by kernel_rfl) ?_))|(go_at_call 43;(refine(impl_ExtOK.calls c0 c1 _ _ HEX.out).mono ?_);rintro e w24⟨rfl,hb⟩;replace HI:=am_(HI.out.grow hb);clear hb;have h90:World.cell? _⟨g9,0,none⟩=some(.slice A4 q0.length c4):=(blk_cell(HI.out.get 2 rfl)0).trans rfl;have h91:World.cell? _⟨g9,1,none⟩=some(.int .i64 q1):=(blk_cell(HI.out.get 2 rfl)1).trans rfl;have h92:World.cell? _⟨g9,2,none⟩=some(.string q2):=(blk_cell(HI.out.get 2 rfl)2).trans rfl;have h93:World.cell? _⟨g9,3,none⟩=some(.int .i64 q3):=(blk_cell(HI.out.get 2 rfl)3).trans rfl)|(go_at_call 11;(refine(impl_SourceOK.calls A4 c4 q0 q1 q2 q3 _ _ HI.out.now.1 HC4.out HSO.out).mono ?_);rintro e w28⟨rfl,hb⟩;replace HI:=am_(HI.out.grow hb);clear hb)|(go_at_call 77;(refine(okR.con A2 cap2 l2 _ HI.out.now.2).mono ?_);rw [HCN.out];rintro e w33⟨rfl,hb⟩;replace HI:=am_(HI.out.grow hb);clear hb)|((with_reducible refine gate_store(p:=11)(v:=(.tmp 55))(t:=34)rfl ?_);go_must(refine wpList_store_row rfl 34 _ _ rfl g11(#[.int .i64 0,.int .i64 0])rfl qz0_ 34(#[.int .i64 0,.int .i64 0])(Inv.blk0(HI.out.swap))(by kernel_rfl)(by rfl)qz12_ ?_;replace HI:=am_(Inv.put0(HI.out.swap)(#[.int .i64 0,.int .i64 0]));generalize World.setRow _ g11(#[.int .i64 0,.int .i64 0])=w55 at HI ⊢))|((with_reducible refine gate_store(p:=12)(v:=(.tmp 56))(t:=27)rfl ?_);go_must(refine wpList_store_row rfl 27 _ _ rfl g12(#[.slice none 0 0,.int .i64 0,.string(⟨#[]⟩:ByteArray),.int .i64 0])rfl qz0_ 27(#[.slice none 0 0,.int .i64 0,.string(⟨#[]⟩:ByteArray),.int .i64 0])(Inv.blk0(HI.out.swap))(by kernel_rfl)(by rfl)qz12_ ?_;replace HI:=am_(Inv.put0(HI.out.swap)(#[.slice none 0 0,.int .i64 0,.string(⟨#[]⟩:ByteArray),.int .i64 0]));generalize World.setRow _ g12(#[.slice none 0 0,.int .i64 0,.string(⟨#[]⟩:ByteArray),.int .i64 0])=w56 at HI ⊢)))
     refine bodyPost_ret(results_tcct rfl _ _ g11 g12 34 27 #[.int .i64 0,.int .i64 0] #[.slice none 0 0,.int .i64 0,.string(⟨#[]⟩:ByteArray),.int .i64 0](0,0)(0,0)_ _ rfl(HI.out.get 1 rfl)hu34 rfl(by kernel_rfl)rfl(HI.out.get 0 rfl)hu27 rfl(by kernel_rfl))rfl ?_
     exact⟨_,_,rfl,Kd.R_nil _ _ _ _ _,Kd.R_nil _ _ _ _ _,HI.out.below⟩
    ·
     rw [if_neg ca] at h
     have HCN:=am_(show l2.all okR=true from by cases hz:l2.all okR <;> simp_all)
     clear ca
     replace h:=Option.bind_eq_some_iff.1 h
     obtain⟨d,hdg_,h⟩:=h
     have HDG:=am_ hdg_
     clear hdg_
     by_cases cd:d=0
     ·
      rw [if_pos cd] at h
      subst cd
      simp only [Option.some.injEq,Prod.mk.injEq] at h
      obtain⟨rfl,rfl,rfl,rfl,rfl,rfl,rfl,rfl⟩:=h
      go_enter Try.func30,Try.ntmps30
      go_wp2_with(first|((with_reducible refine gate_dst(N:=6)rfl ?_);refine box_event rfl(N:=6)rfl(cs:=#[.int .i64 c0,.int .i64 c1])(t:=34)bx_ ?_;intro g6 hg w6_ hbox hb;replace HI:=am_((HI.out).box hg hbox hb);clear hb hbox hg)|((with_reducible refine gate_dst(N:=9)rfl ?_);refine box_event rfl(N:=9)rfl(cs:=#[.slice A4 q0.length c4,.int .i64 q1,.string q2,.int .i64 q3])(t:=27)bx_ ?_;intro g9 hg w9_ hbox hb;replace HI:=am_((HI.out).box hg hbox hb);clear hb hbox hg)|((with_reducible refine gate_dst(N:=11)rfl ?_);refine box_event rfl(N:=11)rfl(cs:=#[.int .i64 0,.int .i64 0])(t:=34)bx_ ?_;intro g11 hg w11_ hbox hb;replace HI:=am_((HI.out).box hg hbox hb);clear hb hbox hg)|((with_reducible refine gate_dst(N:=12)rfl ?_);refine box_event rfl(N:=12)rfl(cs:=#[.slice none 0 0,.int .i64 0,.string(⟨#[]⟩:ByteArray),.int .i64 0])(t:=27)bx_ ?_;intro g12 hg w12_ hbox hb;replace HI:=am_((HI.out).box hg hbox hb);clear hb hbox hg)|((with_reducible refine gate_dst(N:=23)rfl ?_);go_must(refine wpList_load_row rfl 34 _ rfl g6 rfl 34(#[.int .i64 c0,.int .i64 c1])(0,0)_((HI.out.get 3 rfl))hu34 rfl(by kernel_rfl) ?_))|(go_at_call 43;(refine(impl_ExtOK.calls c0 c1 _ _ HEX.out).mono ?_);rintro e w24⟨rfl,hb⟩;replace HI:=am_(HI.out.grow hb);clear hb;have h90:World.cell? _⟨g9,0,none⟩=some(.slice A4 q0.length c4):=(blk_cell(HI.out.get 2 rfl)0).trans rfl;have h91:World.cell? _⟨g9,1,none⟩=some(.int .i64 q1):=(blk_cell(HI.out.get 2 rfl)1).trans rfl;have h92:World.cell? _⟨g9,2,none⟩=some(.string q2):=(blk_cell(HI.out.get 2 rfl)2).trans rfl;have h93:World.cell? _⟨g9,3,none⟩=some(.int .i64 q3):=(blk_cell(HI.out.get 2 rfl)3).trans rfl)|(go_at_call 11;(refine(impl_SourceOK.calls A4 c4 q0 q1 q2 q3 _ _ HI.out.now.1 HC4.out HSO.out).mono ?_);rintro e w28⟨rfl,hb⟩;replace HI:=am_(HI.out.grow hb);clear hb)|(go_at_call 77;(refine(okR.con A2 cap2 l2 _ HI.out.now.2).mono ?_);rw [HCN.out];rintro e w33⟨rfl,hb⟩;replace HI:=am_(HI.out.grow hb);clear hb)|(go_at_call 79;(refine(impl_degreeOf.calls kind _ _ HDG.out).mono ?_);rintro e w37⟨rfl,⟨n37,rfl⟩⟩;replace HI:=am_(HI.out.drewN n37);generalize World.drewN _ n37=wn37 at HI ⊢)|((with_reducible refine gate_store(p:=11)(v:=(.tmp 55))(t:=34)rfl ?_);go_must(refine wpList_store_row rfl 34 _ _ rfl g11(#[.int .i64 0,.int .i64 0])rfl qz0_ 34(#[.int .i64 0,.int .i64 0])(Inv.blk0(HI.out.swap))(by kernel_rfl)(by rfl)qz12_ ?_;replace HI:=am_(Inv.put0(HI.out.swap)(#[.int .i64 0,.int .i64 0]));generalize World.setRow _ g11(#[.int .i64 0,.int .i64 0])=w55 at HI ⊢))|((with_reducible refine gate_store(p:=12)(v:=(.tmp 56))(t:=27)rfl ?_);go_must(refine wpList_store_row rfl 27 _ _ rfl g12(#[.slice none 0 0,.int .i64 0,.string(⟨#[]⟩:ByteArray),.int .i64 0])rfl qz0_ 27(#[.slice none 0 0,.int .i64 0,.string(⟨#[]⟩:ByteArray),.int .i64 0])(Inv.blk0(HI.out.swap))(by kernel_rfl)(by rfl)qz12_ ?_;replace HI:=am_(Inv.put0(HI.out.swap)(#[.slice none 0 0,.int .i64 0,.string(⟨#[]⟩:ByteArray),.int .i64 0]));generalize World.setRow _ g12(#[.slice none 0 0,.int .i64 0,.string(⟨#[]⟩:ByteArray),.int .i64 0])=w56 at HI ⊢)))
      refine bodyPost_ret(results_tcct rfl _ _ g11 g12 34 27 #[.int .i64 0,.int .i64 0] #[.slice none 0 0,.int .i64 0,.string(⟨#[]⟩:ByteArray),.int .i64 0](0,0)(0,0)_ _ rfl(HI.out.get 1 rfl)hu34 rfl(by kernel_rfl)rfl(HI.out.get 0 rfl)hu27 rfl(by kernel_rfl))rfl ?_
      exact⟨_,_,rfl,Kd.R_nil _ _ _ _ _,Kd.R_nil _ _ _ _ _,HI.out.below⟩
     ·
      rw [if_neg cd] at h
      have f1:=eq_false(cd)
      have f1b:(d == 0)=false:=beq_eq_false_iff_ne.mpr cd
      clear cd
      replace h:=Option.bind_eq_some_iff.1 h
      obtain⟨b3,hin_,h⟩:=h
      have HIN:=am_ hin_
      clear hin_
      cases b3 with
      | false=>
       rw [if_pos rfl] at h
       simp only [Option.some.injEq,Prod.mk.injEq] at h
       obtain⟨rfl,rfl,rfl,rfl,rfl,rfl,rfl,rfl⟩:=h
       go_enter Try.func30,Try.ntmps30
       go_wp2_with(first|((with_reducible refine gate_dst(N:=6)rfl ?_);refine box_event rfl(N:=6)rfl(cs:=#[.int .i64 c0,.int .i64 c1])(t:=34)bx_ ?_;intro g6 hg w6_ hbox hb;replace HI:=am_((HI.out).box hg hbox hb);clear hb hbox hg)|((with_reducible refine gate_dst(N:=9)rfl ?_);refine box_event rfl(N:=9)rfl(cs:=#[.slice A4 q0.length c4,.int .i64 q1,.string q2,.int .i64 q3])(t:=27)bx_ ?_;intro g9 hg w9_ hbox hb;replace HI:=am_((HI.out).box hg hbox hb);clear hb hbox hg)|((with_reducible refine gate_dst(N:=11)rfl ?_);refine box_event rfl(N:=11)rfl(cs:=#[.int .i64 0,.int .i64 0])(t:=34)bx_ ?_;intro g11 hg w11_ hbox hb;replace HI:=am_((HI.out).box hg hbox hb);clear hb hbox hg)|((with_reducible refine gate_dst(N:=12)rfl ?_);refine box_event rfl(N:=12)rfl(cs:=#[.slice none 0 0,.int .i64 0,.string(⟨#[]⟩:ByteArray),.int .i64 0])(t:=27)bx_ ?_;intro g12 hg w12_ hbox hb;replace HI:=am_((HI.out).box hg hbox hb);clear hb hbox hg)|((with_reducible refine gate_dst(N:=23)rfl ?_);go_must(refine wpList_load_row rfl 34 _ rfl g6 rfl 34(#[.int .i64 c0,.int .i64 c1])(0,0)_((HI.out.get 3 rfl))hu34 rfl(by kernel_rfl) ?_))|(go_at_call 43;(refine(impl_ExtOK.calls c0 c1 _ _ HEX.out).mono ?_);rintro e w24⟨rfl,hb⟩;replace HI:=am_(HI.out.grow hb);clear hb;have h90:World.cell? _⟨g9,0,none⟩=some(.slice A4 q0.length c4):=(blk_cell(HI.out.get 2 rfl)0).trans rfl;have h91:World.cell? _⟨g9,1,none⟩=some(.int .i64 q1):=(blk_cell(HI.out.get 2 rfl)1).trans rfl;have h92:World.cell? _⟨g9,2,none⟩=some(.string q2):=(blk_cell(HI.out.get 2 rfl)2).trans rfl;have h93:World.cell? _⟨g9,3,none⟩=some(.int .i64 q3):=(blk_cell(HI.out.get 2 rfl)3).trans rfl)|(go_at_call 11;(refine(impl_SourceOK.calls A4 c4 q0 q1 q2 q3 _ _ HI.out.now.1 HC4.out HSO.out).mono ?_);rintro e w28⟨rfl,hb⟩;replace HI:=am_(HI.out.grow hb);clear hb)|(go_at_call 77;(refine(okR.con A2 cap2 l2 _ HI.out.now.2).mono ?_);rw [HCN.out];rintro e w33⟨rfl,hb⟩;replace HI:=am_(HI.out.grow hb);clear hb)|(go_at_call 79;(refine(impl_degreeOf.calls kind _ _ HDG.out).mono ?_);rintro e w37⟨rfl,⟨n37,rfl⟩⟩;replace HI:=am_(HI.out.drewN n37);generalize World.drewN _ n37=wn37 at HI ⊢)|(go_at_call 44;(refine(impl_in.calls vars 0 6 _ _ HIN.out).mono ?_);rintro e w41⟨rfl,⟨n41,rfl⟩⟩;replace HI:=am_(HI.out.drewN n41);generalize World.drewN _ n41=wn41 at HI ⊢)|((with_reducible refine gate_store(p:=11)(v:=(.tmp 55))(t:=34)rfl ?_);go_must(refine wpList_store_row rfl 34 _ _ rfl g11(#[.int .i64 0,.int .i64 0])rfl qz0_ 34(#[.int .i64 0,.int .i64 0])(Inv.blk0(HI.out.swap))(by kernel_rfl)(by rfl)qz12_ ?_;replace HI:=am_(Inv.put0(HI.out.swap)(#[.int .i64 0,.int .i64 0]));generalize World.setRow _ g11(#[.int .i64 0,.int .i64 0])=w55 at HI ⊢))|((with_reducible refine gate_store(p:=12)(v:=(.tmp 56))(t:=27)rfl ?_);go_must(refine wpList_store_row rfl 27 _ _ rfl g12(#[.slice none 0 0,.int .i64 0,.string(⟨#[]⟩:ByteArray),.int .i64 0])rfl qz0_ 27(#[.slice none 0 0,.int .i64 0,.string(⟨#[]⟩:ByteArray),.int .i64 0])(Inv.blk0(HI.out.swap))(by kernel_rfl)(by rfl)qz12_ ?_;replace HI:=am_(Inv.put0(HI.out.swap)(#[.slice none 0 0,.int .i64 0,.string(⟨#[]⟩:ByteArray),.int .i64 0]));generalize World.setRow _ g12(#[.slice none 0 0,.int .i64 0,.string(⟨#[]⟩:ByteArray),.int .i64 0])=w56 at HI ⊢)))
       refine bodyPost_ret(results_tcct rfl _ _ g11 g12 34 27 #[.int .i64 0,.int .i64 0] #[.slice none 0 0,.int .i64 0,.string(⟨#[]⟩:ByteArray),.int .i64 0](0,0)(0,0)_ _ rfl(HI.out.get 1 rfl)hu34 rfl(by kernel_rfl)rfl(HI.out.get 0 rfl)hu27 rfl(by kernel_rfl))rfl ?_
       exact⟨_,_,rfl,Kd.R_nil _ _ _ _ _,Kd.R_nil _ _ _ _ _,HI.out.below⟩
      | true=>
       rw [if_neg(by decide)] at h
       replace h:=Option.bind_eq_some_iff.1 h
       obtain⟨t,hlf_,h⟩:=h
       have HLF:=am_ hlf_
       clear hlf_
       by_cases ct:t<6
       ·
        rw [if_pos ct] at h
        have f2:decide(t<6)=true:=decide_eq_true ct
        clear ct
        simp only [Option.some.injEq,Prod.mk.injEq] at h
        obtain⟨rfl,rfl,rfl,rfl,rfl,rfl,rfl,rfl⟩:=h
        go_enter Try.func30,Try.ntmps30
        go_wp2_with(first|((with_reducible refine gate_dst(N:=6)rfl ?_);refine box_event rfl(N:=6)rfl(cs:=#[.int .i64 c0,.int .i64 c1])(t:=34)bx_ ?_;intro g6 hg w6_ hbox hb;replace HI:=am_((HI.out).box hg hbox hb);clear hb hbox hg)|((with_reducible refine gate_dst(N:=9)rfl ?_);refine box_event rfl(N:=9)rfl(cs:=#[.slice A4 q0.length c4,.int .i64 q1,.string q2,.int .i64 q3])(t:=27)bx_ ?_;intro g9 hg w9_ hbox hb;replace HI:=am_((HI.out).box hg hbox hb);clear hb hbox hg)|((with_reducible refine gate_dst(N:=11)rfl ?_);refine box_event rfl(N:=11)rfl(cs:=#[.int .i64 0,.int .i64 0])(t:=34)bx_ ?_;intro g11 hg w11_ hbox hb;replace HI:=am_((HI.out).box hg hbox hb);clear hb hbox hg)|((with_reducible refine gate_dst(N:=12)rfl ?_);refine box_event rfl(N:=12)rfl(cs:=#[.slice none 0 0,.int .i64 0,.string(⟨#[]⟩:ByteArray),.int .i64 0])(t:=27)bx_ ?_;intro g12 hg w12_ hbox hb;replace HI:=am_((HI.out).box hg hbox hb);clear hb hbox hg)|((with_reducible refine gate_dst(N:=23)rfl ?_);go_must(refine wpList_load_row rfl 34 _ rfl g6 rfl 34(#[.int .i64 c0,.int .i64 c1])(0,0)_((HI.out.get 3 rfl))hu34 rfl(by kernel_rfl) ?_))|(go_at_call 43;(refine(impl_ExtOK.calls c0 c1 _ _ HEX.out).mono ?_);rintro e w24⟨rfl,hb⟩;replace HI:=am_(HI.out.grow hb);clear hb;have h90:World.cell? _⟨g9,0,none⟩=some(.slice A4 q0.length c4):=(blk_cell(HI.out.get 2 rfl)0).trans rfl;have h91:World.cell? _⟨g9,1,none⟩=some(.int .i64 q1):=(blk_cell(HI.out.get 2 rfl)1).trans rfl;have h92:World.cell? _⟨g9,2,none⟩=some(.string q2):=(blk_cell(HI.out.get 2 rfl)2).trans rfl;have h93:World.cell? _⟨g9,3,none⟩=some(.int .i64 q3):=(blk_cell(HI.out.get 2 rfl)3).trans rfl)|(go_at_call 11;(refine(impl_SourceOK.calls A4 c4 q0 q1 q2 q3 _ _ HI.out.now.1 HC4.out HSO.out).mono ?_);rintro e w28⟨rfl,hb⟩;replace HI:=am_(HI.out.grow hb);clear hb)|(go_at_call 77;(refine(okR.con A2 cap2 l2 _ HI.out.now.2).mono ?_);rw [HCN.out];rintro e w33⟨rfl,hb⟩;replace HI:=am_(HI.out.grow hb);clear hb)|(go_at_call 79;(refine(impl_degreeOf.calls kind _ _ HDG.out).mono ?_);rintro e w37⟨rfl,⟨n37,rfl⟩⟩;replace HI:=am_(HI.out.drewN n37);generalize World.drewN _ n37=wn37 at HI ⊢)|(go_at_call 44;(refine(impl_in.calls vars 0 6 _ _ HIN.out).mono ?_);rintro e w41⟨rfl,⟨n41,rfl⟩⟩;replace HI:=am_(HI.out.drewN n41);generalize World.drewN _ n41=wn41 at HI ⊢)|((with_reducible refine gate_dst(N:=45)rfl ?_);go_must(refine wpList_load_row rfl 27 _ rfl g9 rfl 27(#[.slice A4 q0.length c4,.int .i64 q1,.string q2,.int .i64 q3])(0,0)_((HI.out.get 2 rfl))hu27 rfl(by kernel_rfl) ?_))|(go_at_call 80;(refine(impl_Source_left.calls A4 c4 q0 q1 q2 q3 _ _ HI.out.now.1 HC4.out HLF.out).mono ?_);rintro e w46⟨rfl,hb⟩;replace HI:=am_(HI.out.grow hb);clear hb)|((with_reducible refine gate_store(p:=11)(v:=(.tmp 55))(t:=34)rfl ?_);go_must(refine wpList_store_row rfl 34 _ _ rfl g11(#[.int .i64 0,.int .i64 0])rfl qz0_ 34(#[.int .i64 0,.int .i64 0])(Inv.blk0(HI.out.swap))(by kernel_rfl)(by rfl)qz12_ ?_;replace HI:=am_(Inv.put0(HI.out.swap)(#[.int .i64 0,.int .i64 0]));generalize World.setRow _ g11(#[.int .i64 0,.int .i64 0])=w55 at HI ⊢))|((with_reducible refine gate_store(p:=12)(v:=(.tmp 56))(t:=27)rfl ?_);go_must(refine wpList_store_row rfl 27 _ _ rfl g12(#[.slice none 0 0,.int .i64 0,.string(⟨#[]⟩:ByteArray),.int .i64 0])rfl qz0_ 27(#[.slice none 0 0,.int .i64 0,.string(⟨#[]⟩:ByteArray),.int .i64 0])(Inv.blk0(HI.out.swap))(by kernel_rfl)(by rfl)qz12_ ?_;replace HI:=am_(Inv.put0(HI.out.swap)(#[.slice none 0 0,.int .i64 0,.string(⟨#[]⟩:ByteArray),.int .i64 0]));generalize World.setRow _ g12(#[.slice none 0 0,.int .i64 0,.string(⟨#[]⟩:ByteArray),.int .i64 0])=w56 at HI ⊢)))
        refine bodyPost_ret(results_tcct rfl _ _ g11 g12 34 27 #[.int .i64 0,.int .i64 0] #[.slice none 0 0,.int .i64 0,.string(⟨#[]⟩:ByteArray),.int .i64 0](0,0)(0,0)_ _ rfl(HI.out.get 1 rfl)hu34 rfl(by kernel_rfl)rfl(HI.out.get 0 rfl)hu27 rfl(by kernel_rfl))rfl ?_
        exact⟨_,_,rfl,Kd.R_nil _ _ _ _ _,Kd.R_nil _ _ _ _ _,HI.out.below⟩
       ·
        rw [if_neg ct] at h
        have f2:decide(t<6)=false:=decide_eq_false ct
        clear ct
        by_cases cl:(l2.length:Int)=vars
        ·
         rw [if_pos cl] at h
         have f3:=eq_true(cl)
         have f3b:((l2.length:Int)== vars)=true:=beq_iff_eq.mpr cl
         have f3c:((l2.length:Int) != vars)=false:=bne_eq_false_iff_eq.mpr cl
         clear cl
         replace h:=Option.bind_eq_some_iff.1 h
         obtain⟨⟨s0,s1,s2,s3⟩,hcp_,h⟩:=h
         have HCP:=am_ hcp_
         clear hcp_
         replace h:=Option.bind_eq_some_iff.1 h
         obtain⟨⟨v1,v2,v3,v4,v5,v6,v7⟩,hvf_,h⟩:=h
         have HVF:=am_(show vs_ k kind s0 l2 c0 c1 s1 s2 s3 []=some(v1,v2,v3,v4,v5,v6,v7)from hvf_)
         clear hvf_
         by_cases cv:v4=0
         ·
          rw [if_pos(show(v1,v2,v3,v4,v5,v6,v7).2.2.2.1=0 from cv)] at h
          subst cv
          simp only [Option.some.injEq,Prod.mk.injEq] at h
          obtain⟨rfl,rfl,rfl,rfl,rfl,rfl,rfl,rfl⟩:=h
          go_enter Try.func30,Try.ntmps30
          go_wp2_with(first|((with_reducible refine gate_dst(N:=6)rfl ?_);refine box_event rfl(N:=6)rfl(cs:=#[.int .i64 c0,.int .i64 c1])(t:=34)bx_ ?_;intro g6 hg w6_ hbox hb;replace HI:=am_((HI.out).box hg hbox hb);clear hb hbox hg)|((with_reducible refine gate_dst(N:=9)rfl ?_);refine box_event rfl(N:=9)rfl(cs:=#[.slice A4 q0.length c4,.int .i64 q1,.string q2,.int .i64 q3])(t:=27)bx_ ?_;intro g9 hg w9_ hbox hb;replace HI:=am_((HI.out).box hg hbox hb);clear hb hbox hg)|((with_reducible refine gate_dst(N:=11)rfl ?_);refine box_event rfl(N:=11)rfl(cs:=#[.int .i64 0,.int .i64 0])(t:=34)bx_ ?_;intro g11 hg w11_ hbox hb;replace HI:=am_((HI.out).box hg hbox hb);clear hb hbox hg)|((with_reducible refine gate_dst(N:=12)rfl ?_);refine box_event rfl(N:=12)rfl(cs:=#[.slice none 0 0,.int .i64 0,.string(⟨#[]⟩:ByteArray),.int .i64 0])(t:=27)bx_ ?_;intro g12 hg w12_ hbox hb;replace HI:=am_((HI.out).box hg hbox hb);clear hb hbox hg)|((with_reducible refine gate_dst(N:=23)rfl ?_);go_must(refine wpList_load_row rfl 34 _ rfl g6 rfl 34(#[.int .i64 c0,.int .i64 c1])(0,0)_((HI.out.get 3 rfl))hu34 rfl(by kernel_rfl) ?_))|(go_at_call 43;(refine(impl_ExtOK.calls c0 c1 _ _ HEX.out).mono ?_);rintro e w24⟨rfl,hb⟩;replace HI:=am_(HI.out.grow hb);clear hb;have h90:World.cell? _⟨g9,0,none⟩=some(.slice A4 q0.length c4):=(blk_cell(HI.out.get 2 rfl)0).trans rfl;have h91:World.cell? _⟨g9,1,none⟩=some(.int .i64 q1):=(blk_cell(HI.out.get 2 rfl)1).trans rfl;have h92:World.cell? _⟨g9,2,none⟩=some(.string q2):=(blk_cell(HI.out.get 2 rfl)2).trans rfl;have h93:World.cell? _⟨g9,3,none⟩=some(.int .i64 q3):=(blk_cell(HI.out.get 2 rfl)3).trans rfl)|(go_at_call 11;(refine(impl_SourceOK.calls A4 c4 q0 q1 q2 q3 _ _ HI.out.now.1 HC4.out HSO.out).mono ?_);rintro e w28⟨rfl,hb⟩;replace HI:=am_(HI.out.grow hb);clear hb)|(go_at_call 77;(refine(okR.con A2 cap2 l2 _ HI.out.now.2).mono ?_);rw [HCN.out];rintro e w33⟨rfl,hb⟩;replace HI:=am_(HI.out.grow hb);clear hb)|(go_at_call 79;(refine(impl_degreeOf.calls kind _ _ HDG.out).mono ?_);rintro e w37⟨rfl,⟨n37,rfl⟩⟩;replace HI:=am_(HI.out.drewN n37);generalize World.drewN _ n37=wn37 at HI ⊢)|(go_at_call 44;(refine(impl_in.calls vars 0 6 _ _ HIN.out).mono ?_);rintro e w41⟨rfl,⟨n41,rfl⟩⟩;replace HI:=am_(HI.out.drewN n41);generalize World.drewN _ n41=wn41 at HI ⊢)|((with_reducible refine gate_dst(N:=45)rfl ?_);go_must(refine wpList_load_row rfl 27 _ rfl g9 rfl 27(#[.slice A4 q0.length c4,.int .i64 q1,.string q2,.int .i64 q3])(0,0)_((HI.out.get 2 rfl))hu27 rfl(by kernel_rfl) ?_))|(go_at_call 80;(refine(impl_Source_left.calls A4 c4 q0 q1 q2 q3 _ _ HI.out.now.1 HC4.out HLF.out).mono ?_);rintro e w46⟨rfl,hb⟩;replace HI:=am_(HI.out.grow hb);clear hb)|((with_reducible refine gate_dst(N:=58)rfl ?_);go_must(refine wpList_load_row rfl 27 _ rfl g9 rfl 27(#[.slice A4 q0.length c4,.int .i64 q1,.string q2,.int .i64 q3])(0,0)_((HI.out.get 2 rfl))hu27 rfl(by kernel_rfl) ?_))|(go_at_call 48;(refine(impl_Source_copied.calls A4 c4 q0 q1 q2 q3 s0 s1 s2 s3 _ HI.out.now.1 HC4.out HCP.out).mono ?_);rintro e w59⟨v0,rfl,hR59,hb59⟩;obtain⟨Ao,co,eo⟩:=Kd.R_slice hR59;subst eo;replace HI:=am_(HI.out.rowPush hb59 hR59);have HR59:=am_(Kd.R_reads' hR59).2.2;have HJ:=am_(Inv.start w59(fun w2=>Kd.C k34 w2 Ao s0.length s0)(fun w' hb=>Kd.C_below HR59.out hb));clear hR59 hb59)|((with_reducible refine gate_dst(N:=15)rfl ?_);refine box_event rfl(N:=15)rfl(cs:=#[.slice none 0 0,.int .i64 0,.string(⟨#[]⟩:ByteArray),.int .i64 0])(t:=27)bx_ ?_;intro go hg wo hbox hb;replace HI:=am_((HI.out).box hg hbox hb);have HJ_:=am_(HJ.out.box hg hbox hb);clear HJ;have HJ:=HJ_;clear HJ_;clear hb hbox hg)|((with_reducible refine gate_store(p:=15)(v:=(.tmp 59))(t:=27)rfl ?_);go_must(refine wpList_store_row rfl 27 _ _ rfl go(#[.slice Ao s0.length co,.int .i64 s1,.string s2,.int .i64 s3])rfl qz0_ 27(#[.slice none 0 0,.int .i64 0,.string(⟨#[]⟩:ByteArray),.int .i64 0])(Inv.blk0(HI.out))(by kernel_rfl)(by rfl)qz12_ ?_;replace HI:=am_(Inv.put0(HI.out)(#[.slice Ao s0.length co,.int .i64 s1,.string s2,.int .i64 s3]));have HJ_:=am_(Inv.put0(HJ.out)(#[.slice Ao s0.length co,.int .i64 s1,.string s2,.int .i64 s3]));clear HJ;have HJ:=HJ_;clear HJ_;generalize World.setRow _ go(#[.slice Ao s0.length co,.int .i64 s1,.string s2,.int .i64 s3])=w15 at HI HJ ⊢))|((with_reducible refine gate_dst(N:=62)rfl ?_);go_must(refine wpList_load_row rfl 34 _ rfl g6 rfl 34(#[.int .i64 c0,.int .i64 c1])(0,0)_((HI.out.get 5 rfl))hu34 rfl(by kernel_rfl) ?_))|(go_at_call 81;(refine(impl_verifySum.calls k go s0 s1 s2 s3 kind c0 c1 A2 cap2 l2 v1 v2 v3 0 v5 v6 v7 {w59 with drawn:=codeA Ao co} w15⟨Ao,co,HJ.out.blk0,⟨HJ.out.ge0,rfl⟩,HR59.out⟩⟨HJ.out.below.os,HJ.out.below.tape,HJ.out.below.output,HJ.out.below.size,HJ.out.below.block⟩(fun W_ hk=>(Inv.factsKeep0 HI.out hk).2)HC2.out HVF.out).mono ?_);rintro e wd⟨vp,rfl,hRp,⟨Aq_,cq_,hbq,⟨_,hdq⟩,_⟩,hBq,hkq⟩;obtain⟨e1,e2⟩:=codeA_inj hdq;subst e1 e2;replace HI:=am_(Inv.keepRow0(wb:={w59 with drawn:=codeA Ao co})HI.out⟨HJ.out.below.os,HJ.out.below.tape,HJ.out.below.output,HJ.out.below.size,HJ.out.below.block⟩hBq hkq hbq hRp);clear HJ hbq hdq hBq hkq hRp)|((with_reducible refine gate_dst(N:=17)rfl ?_);refine box_event rfl(N:=17)rfl(cs:=#[.int .i64 0,.int .i64 0])(t:=34)bx_ ?_;intro g17 hg w17_ hbox hb;replace HI:=am_((HI.out).box hg hbox hb);clear hb hbox hg)|((with_reducible refine gate_store(p:=17)(v:=(.tmp 66))(t:=34)rfl ?_);go_must(refine wpList_store_row rfl 34 _ _ rfl g17(#[.int .i64 v2,.int .i64 v3])rfl(by first|rfl|(go_simp;done)|(go_simp;rfl))34(#[.int .i64 0,.int .i64 0])(Inv.blk0(HI.out))(draw_side v2 v3)(draw_len v2 v3)(draw_one v2 v3) ?_;replace HI:=am_(Inv.put0(HI.out)(#[.int .i64 v2,.int .i64 v3]));generalize World.setRow _ g17(#[.int .i64 v2,.int .i64 v3])=w66 at HI ⊢)))
          have HI_:=am_((HI.out.subL(L':=[blk g17 34 #[.int .i64 v2,.int .i64 v3],row k34 34 w.heap.size vp v1 _,blk go 27 #[.slice Ao s0.length co,.int .i64 v5,.string v6,.int .i64 v7],row k34 34 w.heap.size(.slice Ao s0.length co)s0 _,blk g12 27 #[.slice none 0 0,.int .i64 0,.string(⟨#[]⟩:ByteArray),.int .i64 0],blk g11 34 #[.int .i64 0,.int .i64 0]])qz34_).perm(perm_six _ _ _ _ _ _))
          clear HI
          have HI:=HI_
          clear HI_
          refine start_(n:=7)(S:=fun w'=>w'.cell?⟨g17,0,none⟩=some(.int .i64 v2)∧w'.cell?⟨g17,1,none⟩=some(.int .i64 v3)∧w'.cell?⟨go,0,none⟩=some(.slice Ao s0.length co)∧w'.cell?⟨go,1,none⟩=some(.int .i64 v5)∧w'.cell?⟨go,2,none⟩=some(.string v6)∧w'.cell?⟨go,3,none⟩=some(.int .i64 v7))(ds:=[5])(bs_ 7 0)(by kernel_rfl)rfl rfl⟨(blk_cell((HI.out.drew).get 2 rfl)0).trans rfl,(blk_cell((HI.out.drew).get 2 rfl)1).trans rfl,(blk_cell((HI.out.drew).get 4 rfl)0).trans rfl,(blk_cell((HI.out.drew).get 4 rfl)1).trans rfl,(blk_cell((HI.out.drew).get 4 rfl)2).trans rfl,(blk_cell((HI.out.drew).get 4 rfl)3).trans rfl⟩(fun hHeld=>?_)
          replace HI:=am_(HI.out.drew)
          generalize World.drew _=wd0 at HI hHeld ⊢
          refine pu_ 0 73 (bs_ 7 1) ?_
          refine take_(i:=1)(N:=some 74)(v:=?_)(a':=?_)(bs_ 7 3)rfl rfl(by kernel_rfl)(fun _ _ _ h=>h)(Or.inl⟨(by rfl),?_⟩)hHeld ?_ ?_
          rotate_left
          ·
           rintro w'⟨s_0,s_1,s_2,s_3,s_4,s_5⟩
           go_simp
           with_reducible rfl
          rotate_left
          ·
           exact ap_
          refine take_(i:=2)(N:=some 75)(v:=?_)(a':=?_)(bs_ 7 7)rfl rfl(by kernel_rfl)(fun _ _ _ h=>h)(Or.inl⟨(by rfl),?_⟩)hHeld ?_ ?_
          rotate_left
          ·
           rintro w'⟨s_0,s_1,s_2,s_3,s_4,s_5⟩
           go_simp
           with_reducible rfl
          rotate_left
          ·
           exact ap_
          refine pu_ 3 10 (bs_ 7 15) ?_
          refine one_(i:=4)(N:=none)(bs_ 7 31)rfl rfl(by kernel_rfl)(by decide)(fun K hK=>?_)
          rw [if_pos(by rfl)]
          refine wp_store_row 34 _ _ rfl g11(#[.int .i64 v2,.int .i64 v3])rfl qz0_ 34(#[.int .i64 0,.int .i64 0])(Inv.blk0(HI.out))(draw_side v2 v3)(draw_len v2 v3)(draw_one v2 v3) ?_
          replace HI:=am_(Inv.put0(HI.out)(#[.int .i64 v2,.int .i64 v3]))
          generalize World.setRow _ g11(#[.int .i64 v2,.int .i64 v3])=w12 at HI ⊢
          refine hK.out _ _⟨(blk_cell((HI.out).get 2 rfl)0).trans rfl,(blk_cell((HI.out).get 2 rfl)1).trans rfl,(blk_cell((HI.out).get 4 rfl)0).trans rfl,(blk_cell((HI.out).get 4 rfl)1).trans rfl,(blk_cell((HI.out).get 4 rfl)2).trans rfl,(blk_cell((HI.out).get 4 rfl)3).trans rfl⟩(fun hHeld=>?_)
          clear hK K
          refine last_(i:=5)(N:=none)(bs_ 7 63)rfl rfl(by kernel_rfl)(by decide)(fun K hK=>?_)
          rw [if_pos(by rfl)]
          refine wp_store_row 27 _ _ rfl g12(#[.slice Ao s0.length co,.int .i64 v5,.string v6,.int .i64 v7])rfl qz0_ 27(#[.slice none 0 0,.int .i64 0,.string(⟨#[]⟩:ByteArray),.int .i64 0])(Inv.blk0(HI.out.swap))(by kernel_rfl)rfl qz12_ ?_
          replace HI:=am_(Inv.put0(HI.out.swap)(#[.slice Ao s0.length co,.int .i64 v5,.string v6,.int .i64 v7]))
          generalize World.setRow _ g12(#[.slice Ao s0.length co,.int .i64 v5,.string v6,.int .i64 v7])=w13 at HI ⊢
          refine hK.out _ _ ?_
          clear hK K
          refine pu_ 6 13 (bs_ 7 127) ?_
          refine done_(by kernel_rfl) ?_
          try go_wp2
          refine bodyPost_ret(results_tcct rfl _ _ g11 g12 34 27 #[.int .i64 v2,.int .i64 v3] #[.slice Ao s0.length co,.int .i64 v5,.string v6,.int .i64 v7](0,0)(0,0)_ _ rfl(HI.out.get 1 rfl)hu34 rfl(draw_side v2 v3)rfl(HI.out.get 0 rfl)hu27 rfl(by kernel_rfl))rfl ?_
          have hp_:=HI.out.get 3 rfl
          have hs_:=HI.out.get 5 rfl
          have hd_:=HI.out.disj 3 5(by decide)rfl rfl
          exact⟨vp,_,rfl,Kd.R_mono hp_(fun k hk e=>hd_ k hk(hs_.1 k e.symm)),Kd.R_mono hs_(fun k hk e=>hd_ k(hp_.1 k e.symm)hk),HI.out.below⟩
         ·
          rw [if_neg(show ¬(v1,v2,v3,v4,v5,v6,v7).2.2.2.1=0 from cv)] at h
          simp only [Option.some.injEq,Prod.mk.injEq] at h
          obtain⟨rfl,rfl,rfl,rfl,rfl,rfl,rfl,rfl⟩:=h
          have f5:=eq_false(cv)
          have f6:(v4 == 0)=false:=beq_eq_false_iff_ne.mpr cv
          have f7:(v4 != 0)=true:=bne_iff_ne.mpr cv
          clear cv
          go_enter Try.func30,Try.ntmps30
          go_wp2_with(first|((with_reducible refine gate_dst(N:=6)rfl ?_);refine box_event rfl(N:=6)rfl(cs:=#[.int .i64 c0,.int .i64 c1])(t:=34)bx_ ?_;intro g6 hg w6_ hbox hb;replace HI:=am_((HI.out).box hg hbox hb);clear hb hbox hg)|((with_reducible refine gate_dst(N:=9)rfl ?_);refine box_event rfl(N:=9)rfl(cs:=#[.slice A4 q0.length c4,.int .i64 q1,.string q2,.int .i64 q3])(t:=27)bx_ ?_;intro g9 hg w9_ hbox hb;replace HI:=am_((HI.out).box hg hbox hb);clear hb hbox hg)|((with_reducible refine gate_dst(N:=11)rfl ?_);refine box_event rfl(N:=11)rfl(cs:=#[.int .i64 0,.int .i64 0])(t:=34)bx_ ?_;intro g11 hg w11_ hbox hb;replace HI:=am_((HI.out).box hg hbox hb);clear hb hbox hg)|((with_reducible refine gate_dst(N:=12)rfl ?_);refine box_event rfl(N:=12)rfl(cs:=#[.slice none 0 0,.int .i64 0,.string(⟨#[]⟩:ByteArray),.int .i64 0])(t:=27)bx_ ?_;intro g12 hg w12_ hbox hb;replace HI:=am_((HI.out).box hg hbox hb);clear hb hbox hg)|((with_reducible refine gate_dst(N:=23)rfl ?_);go_must(refine wpList_load_row rfl 34 _ rfl g6 rfl 34(#[.int .i64 c0,.int .i64 c1])(0,0)_((HI.out.get 3 rfl))hu34 rfl(by kernel_rfl) ?_))|(go_at_call 43;(refine(impl_ExtOK.calls c0 c1 _ _ HEX.out).mono ?_);rintro e w24⟨rfl,hb⟩;replace HI:=am_(HI.out.grow hb);clear hb;have h90:World.cell? _⟨g9,0,none⟩=some(.slice A4 q0.length c4):=(blk_cell(HI.out.get 2 rfl)0).trans rfl;have h91:World.cell? _⟨g9,1,none⟩=some(.int .i64 q1):=(blk_cell(HI.out.get 2 rfl)1).trans rfl;have h92:World.cell? _⟨g9,2,none⟩=some(.string q2):=(blk_cell(HI.out.get 2 rfl)2).trans rfl;have h93:World.cell? _⟨g9,3,none⟩=some(.int .i64 q3):=(blk_cell(HI.out.get 2 rfl)3).trans rfl)|(go_at_call 11;(refine(impl_SourceOK.calls A4 c4 q0 q1 q2 q3 _ _ HI.out.now.1 HC4.out HSO.out).mono ?_);rintro e w28⟨rfl,hb⟩;replace HI:=am_(HI.out.grow hb);clear hb)|(go_at_call 77;(refine(okR.con A2 cap2 l2 _ HI.out.now.2).mono ?_);rw [HCN.out];rintro e w33⟨rfl,hb⟩;replace HI:=am_(HI.out.grow hb);clear hb)|(go_at_call 79;(refine(impl_degreeOf.calls kind _ _ HDG.out).mono ?_);rintro e w37⟨rfl,⟨n37,rfl⟩⟩;replace HI:=am_(HI.out.drewN n37);generalize World.drewN _ n37=wn37 at HI ⊢)|(go_at_call 44;(refine(impl_in.calls vars 0 6 _ _ HIN.out).mono ?_);rintro e w41⟨rfl,⟨n41,rfl⟩⟩;replace HI:=am_(HI.out.drewN n41);generalize World.drewN _ n41=wn41 at HI ⊢)|((with_reducible refine gate_dst(N:=45)rfl ?_);go_must(refine wpList_load_row rfl 27 _ rfl g9 rfl 27(#[.slice A4 q0.length c4,.int .i64 q1,.string q2,.int .i64 q3])(0,0)_((HI.out.get 2 rfl))hu27 rfl(by kernel_rfl) ?_))|(go_at_call 80;(refine(impl_Source_left.calls A4 c4 q0 q1 q2 q3 _ _ HI.out.now.1 HC4.out HLF.out).mono ?_);rintro e w46⟨rfl,hb⟩;replace HI:=am_(HI.out.grow hb);clear hb)|((with_reducible refine gate_dst(N:=58)rfl ?_);go_must(refine wpList_load_row rfl 27 _ rfl g9 rfl 27(#[.slice A4 q0.length c4,.int .i64 q1,.string q2,.int .i64 q3])(0,0)_((HI.out.get 2 rfl))hu27 rfl(by kernel_rfl) ?_))|(go_at_call 48;(refine(impl_Source_copied.calls A4 c4 q0 q1 q2 q3 s0 s1 s2 s3 _ HI.out.now.1 HC4.out HCP.out).mono ?_);rintro e w59⟨v0,rfl,hR59,hb59⟩;obtain⟨Ao,co,eo⟩:=Kd.R_slice hR59;subst eo;replace HI:=am_(HI.out.rowPush hb59 hR59);have HR59:=am_(Kd.R_reads' hR59).2.2;have HJ:=am_(Inv.start w59(fun w2=>Kd.C k34 w2 Ao s0.length s0)(fun w' hb=>Kd.C_below HR59.out hb));clear hR59 hb59)|((with_reducible refine gate_dst(N:=15)rfl ?_);refine box_event rfl(N:=15)rfl(cs:=#[.slice none 0 0,.int .i64 0,.string(⟨#[]⟩:ByteArray),.int .i64 0])(t:=27)bx_ ?_;intro go hg wo hbox hb;replace HI:=am_((HI.out).box hg hbox hb);have HJ_:=am_(HJ.out.box hg hbox hb);clear HJ;have HJ:=HJ_;clear HJ_;clear hb hbox hg)|((with_reducible refine gate_store(p:=15)(v:=(.tmp 59))(t:=27)rfl ?_);go_must(refine wpList_store_row rfl 27 _ _ rfl go(#[.slice Ao s0.length co,.int .i64 s1,.string s2,.int .i64 s3])rfl qz0_ 27(#[.slice none 0 0,.int .i64 0,.string(⟨#[]⟩:ByteArray),.int .i64 0])(Inv.blk0(HI.out))(by kernel_rfl)(by rfl)qz12_ ?_;replace HI:=am_(Inv.put0(HI.out)(#[.slice Ao s0.length co,.int .i64 s1,.string s2,.int .i64 s3]));have HJ_:=am_(Inv.put0(HJ.out)(#[.slice Ao s0.length co,.int .i64 s1,.string s2,.int .i64 s3]));clear HJ;have HJ:=HJ_;clear HJ_;generalize World.setRow _ go(#[.slice Ao s0.length co,.int .i64 s1,.string s2,.int .i64 s3])=w15 at HI HJ ⊢))|((with_reducible refine gate_dst(N:=62)rfl ?_);go_must(refine wpList_load_row rfl 34 _ rfl g6 rfl 34(#[.int .i64 c0,.int .i64 c1])(0,0)_((HI.out.get 5 rfl))hu34 rfl(by kernel_rfl) ?_))|(go_at_call 81;(refine(impl_verifySum.calls k go s0 s1 s2 s3 kind c0 c1 A2 cap2 l2 v1 v2 v3 v4 v5 v6 v7 {w59 with drawn:=codeA Ao co} w15⟨Ao,co,HJ.out.blk0,⟨HJ.out.ge0,rfl⟩,HR59.out⟩⟨HJ.out.below.os,HJ.out.below.tape,HJ.out.below.output,HJ.out.below.size,HJ.out.below.block⟩(fun W_ hk=>(Inv.factsKeep0 HI.out hk).2)HC2.out HVF.out).mono ?_);rintro e wd⟨vp,rfl,hRp,⟨Aq_,cq_,hbq,⟨_,hdq⟩,_⟩,hBq,hkq⟩;obtain⟨e1,e2⟩:=codeA_inj hdq;subst e1 e2;replace HI:=am_(Inv.keepRow0(wb:={w59 with drawn:=codeA Ao co})HI.out⟨HJ.out.below.os,HJ.out.below.tape,HJ.out.below.output,HJ.out.below.size,HJ.out.below.block⟩hBq hkq hbq hRp);clear HJ hbq hdq hBq hkq hRp)|((with_reducible refine gate_dst(N:=17)rfl ?_);refine box_event rfl(N:=17)rfl(cs:=#[.int .i64 0,.int .i64 0])(t:=34)bx_ ?_;intro g17 hg w17_ hbox hb;replace HI:=am_((HI.out).box hg hbox hb);clear hb hbox hg)|((with_reducible refine gate_store(p:=17)(v:=(.tmp 66))(t:=34)rfl ?_);go_must(refine wpList_store_row rfl 34 _ _ rfl g17(#[.int .i64 v2,.int .i64 v3])rfl(by first|rfl|(go_simp;done)|(go_simp;rfl))34(#[.int .i64 0,.int .i64 0])(Inv.blk0(HI.out))(draw_side v2 v3)(draw_len v2 v3)(draw_one v2 v3) ?_;replace HI:=am_(Inv.put0(HI.out)(#[.int .i64 v2,.int .i64 v3]));generalize World.setRow _ g17(#[.int .i64 v2,.int .i64 v3])=w66 at HI ⊢))|((with_reducible refine gate_store(p:=11)(v:=(.tmp 70))(t:=34)rfl ?_);go_must(refine wpList_store_row rfl 34 _ _ rfl g11(#[.int .i64 0,.int .i64 0])rfl qz0_ 34(#[.int .i64 0,.int .i64 0])(Inv.blk0((HI.out.subL(L':=[blk g12 27 #[.slice none 0 0,.int .i64 0,.string(⟨#[]⟩:ByteArray),.int .i64 0],blk g11 34 #[.int .i64 0,.int .i64 0]])qz34_).swap))(by kernel_rfl)(by rfl)qz12_ ?_;replace HI:=am_(Inv.put0((HI.out.subL(L':=[blk g12 27 #[.slice none 0 0,.int .i64 0,.string(⟨#[]⟩:ByteArray),.int .i64 0],blk g11 34 #[.int .i64 0,.int .i64 0]])qz34_).swap)(#[.int .i64 0,.int .i64 0]));generalize World.setRow _ g11(#[.int .i64 0,.int .i64 0])=w70 at HI ⊢))|((with_reducible refine gate_store(p:=12)(v:=(.tmp 71))(t:=27)rfl ?_);go_must(refine wpList_store_row rfl 27 _ _ rfl g12(#[.slice none 0 0,.int .i64 0,.string(⟨#[]⟩:ByteArray),.int .i64 0])rfl qz0_ 27(#[.slice none 0 0,.int .i64 0,.string(⟨#[]⟩:ByteArray),.int .i64 0])(Inv.blk0(HI.out.swap))(by kernel_rfl)(by rfl)qz12_ ?_;replace HI:=am_(Inv.put0(HI.out.swap)(#[.slice none 0 0,.int .i64 0,.string(⟨#[]⟩:ByteArray),.int .i64 0]));generalize World.setRow _ g12(#[.slice none 0 0,.int .i64 0,.string(⟨#[]⟩:ByteArray),.int .i64 0])=w71 at HI ⊢)))
          refine bodyPost_ret(results_tcct rfl _ _ g11 g12 34 27 #[.int .i64 0,.int .i64 0] #[.slice none 0 0,.int .i64 0,.string(⟨#[]⟩:ByteArray),.int .i64 0](0,0)(0,0)_ _ rfl(HI.out.get 1 rfl)hu34 rfl(by kernel_rfl)rfl(HI.out.get 0 rfl)hu27 rfl(by kernel_rfl))rfl ?_
          exact⟨_,_,rfl,Kd.R_nil _ _ _ _ _,Kd.R_nil _ _ _ _ _,HI.out.below⟩
        ·
         rw [if_neg cl] at h
         have f3:=eq_false(cl)
         have f3b:((l2.length:Int)== vars)=false:=beq_eq_false_iff_ne.mpr cl
         have f3c:((l2.length:Int) != vars)=true:=bne_iff_ne.mpr cl
         clear cl
         simp only [Option.some.injEq,Prod.mk.injEq] at h
         obtain⟨rfl,rfl,rfl,rfl,rfl,rfl,rfl,rfl⟩:=h
         go_enter Try.func30,Try.ntmps30
         go_wp2_with(first|((with_reducible refine gate_dst(N:=6)rfl ?_);refine box_event rfl(N:=6)rfl(cs:=#[.int .i64 c0,.int .i64 c1])(t:=34)bx_ ?_;intro g6 hg w6_ hbox hb;replace HI:=am_((HI.out).box hg hbox hb);clear hb hbox hg)|((with_reducible refine gate_dst(N:=9)rfl ?_);refine box_event rfl(N:=9)rfl(cs:=#[.slice A4 q0.length c4,.int .i64 q1,.string q2,.int .i64 q3])(t:=27)bx_ ?_;intro g9 hg w9_ hbox hb;replace HI:=am_((HI.out).box hg hbox hb);clear hb hbox hg)|((with_reducible refine gate_dst(N:=11)rfl ?_);refine box_event rfl(N:=11)rfl(cs:=#[.int .i64 0,.int .i64 0])(t:=34)bx_ ?_;intro g11 hg w11_ hbox hb;replace HI:=am_((HI.out).box hg hbox hb);clear hb hbox hg)|((with_reducible refine gate_dst(N:=12)rfl ?_);refine box_event rfl(N:=12)rfl(cs:=#[.slice none 0 0,.int .i64 0,.string(⟨#[]⟩:ByteArray),.int .i64 0])(t:=27)bx_ ?_;intro g12 hg w12_ hbox hb;replace HI:=am_((HI.out).box hg hbox hb);clear hb hbox hg)|((with_reducible refine gate_dst(N:=23)rfl ?_);go_must(refine wpList_load_row rfl 34 _ rfl g6 rfl 34(#[.int .i64 c0,.int .i64 c1])(0,0)_((HI.out.get 3 rfl))hu34 rfl(by kernel_rfl) ?_))|(go_at_call 43;(refine(impl_ExtOK.calls c0 c1 _ _ HEX.out).mono ?_);rintro e w24⟨rfl,hb⟩;replace HI:=am_(HI.out.grow hb);clear hb;have h90:World.cell? _⟨g9,0,none⟩=some(.slice A4 q0.length c4):=(blk_cell(HI.out.get 2 rfl)0).trans rfl;have h91:World.cell? _⟨g9,1,none⟩=some(.int .i64 q1):=(blk_cell(HI.out.get 2 rfl)1).trans rfl;have h92:World.cell? _⟨g9,2,none⟩=some(.string q2):=(blk_cell(HI.out.get 2 rfl)2).trans rfl;have h93:World.cell? _⟨g9,3,none⟩=some(.int .i64 q3):=(blk_cell(HI.out.get 2 rfl)3).trans rfl)|(go_at_call 11;(refine(impl_SourceOK.calls A4 c4 q0 q1 q2 q3 _ _ HI.out.now.1 HC4.out HSO.out).mono ?_);rintro e w28⟨rfl,hb⟩;replace HI:=am_(HI.out.grow hb);clear hb)|(go_at_call 77;(refine(okR.con A2 cap2 l2 _ HI.out.now.2).mono ?_);rw [HCN.out];rintro e w33⟨rfl,hb⟩;replace HI:=am_(HI.out.grow hb);clear hb)|(go_at_call 79;(refine(impl_degreeOf.calls kind _ _ HDG.out).mono ?_);rintro e w37⟨rfl,⟨n37,rfl⟩⟩;replace HI:=am_(HI.out.drewN n37);generalize World.drewN _ n37=wn37 at HI ⊢)|(go_at_call 44;(refine(impl_in.calls vars 0 6 _ _ HIN.out).mono ?_);rintro e w41⟨rfl,⟨n41,rfl⟩⟩;replace HI:=am_(HI.out.drewN n41);generalize World.drewN _ n41=wn41 at HI ⊢)|((with_reducible refine gate_dst(N:=45)rfl ?_);go_must(refine wpList_load_row rfl 27 _ rfl g9 rfl 27(#[.slice A4 q0.length c4,.int .i64 q1,.string q2,.int .i64 q3])(0,0)_((HI.out.get 2 rfl))hu27 rfl(by kernel_rfl) ?_))|(go_at_call 80;(refine(impl_Source_left.calls A4 c4 q0 q1 q2 q3 _ _ HI.out.now.1 HC4.out HLF.out).mono ?_);rintro e w46⟨rfl,hb⟩;replace HI:=am_(HI.out.grow hb);clear hb)|((with_reducible refine gate_store(p:=11)(v:=(.tmp 55))(t:=34)rfl ?_);go_must(refine wpList_store_row rfl 34 _ _ rfl g11(#[.int .i64 0,.int .i64 0])rfl qz0_ 34(#[.int .i64 0,.int .i64 0])(Inv.blk0(HI.out.swap))(by kernel_rfl)(by rfl)qz12_ ?_;replace HI:=am_(Inv.put0(HI.out.swap)(#[.int .i64 0,.int .i64 0]));generalize World.setRow _ g11(#[.int .i64 0,.int .i64 0])=w55 at HI ⊢))|((with_reducible refine gate_store(p:=12)(v:=(.tmp 56))(t:=27)rfl ?_);go_must(refine wpList_store_row rfl 27 _ _ rfl g12(#[.slice none 0 0,.int .i64 0,.string(⟨#[]⟩:ByteArray),.int .i64 0])rfl qz0_ 27(#[.slice none 0 0,.int .i64 0,.string(⟨#[]⟩:ByteArray),.int .i64 0])(Inv.blk0(HI.out.swap))(by kernel_rfl)(by rfl)qz12_ ?_;replace HI:=am_(Inv.put0(HI.out.swap)(#[.slice none 0 0,.int .i64 0,.string(⟨#[]⟩:ByteArray),.int .i64 0]));generalize World.setRow _ g12(#[.slice none 0 0,.int .i64 0,.string(⟨#[]⟩:ByteArray),.int .i64 0])=w56 at HI ⊢)))
         refine bodyPost_ret(results_tcct rfl _ _ g11 g12 34 27 #[.int .i64 0,.int .i64 0] #[.slice none 0 0,.int .i64 0,.string(⟨#[]⟩:ByteArray),.int .i64 0](0,0)(0,0)_ _ rfl(HI.out.get 1 rfl)hu34 rfl(by kernel_rfl)rfl(HI.out.get 0 rfl)hu27 rfl(by kernel_rfl))rfl ?_
         exact⟨_,_,rfl,Kd.R_nil _ _ _ _ _,Kd.R_nil _ _ _ _ _,HI.out.below⟩
end Go.Proofs.Ytgookagndlfehaa.PT
end
