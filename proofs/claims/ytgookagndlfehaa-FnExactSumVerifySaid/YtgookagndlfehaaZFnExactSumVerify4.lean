/- Part 4 of the proof of FnExactSumVerify: what functions compute, shown step by step, and what that says (the claim's last text states the law). -/
import Derived.Test.YtgookagndlfehaaProg
import Derived.Test.YtgookagndlfehaaVMore
import Derived.Test.YtgookagndlfehaaVWords
import Derived.Test.YtgookagndlfehaaVLast
import Derived.Test.YtgookagndlfehaaVTab
import Derived.Test.YtgookagndlfehaaVFour
import Derived.Test.YtgookagndlfehaaVQPut
import Derived.Test.YtgookagndlfehaaVApart
import Derived.Test.YtgookagndlfehaaVArr
import Derived.Test.YtgookagndlfehaaVZeros
import Derived.Test.YtgookagndlfehaaVFoot
import Derived.Test.YtgookagndlfehaaVKept
import Derived.Test.YtgookagndlfehaaVShare
import Derived.Test.YtgookagndlfehaaVN
import Derived.Test.YtgookagndlfehaaVFootNe
import Derived.Test.YtgookagndlfehaaVAt
import Derived.Test.YtgookagndlfehaaVRepsOne
import Derived.Test.YtgookagndlfehaaVInv
import Derived.Test.YtgookagndlfehaaVInvWords
import Derived.Test.YtgookagndlfehaaVGuard
import Derived.Test.YtgookagndlfehaaVNEv
import Derived.Test.YtgookagndlfehaaRows
import Derived.JoinedOf
import Derived.WalkKit
import Derived.ProofKit
import Derived.Below
import Derived.Deep.Draws
import Derived.Deep.AppendLies
import Derived.Maps.AppendAt
import Derived.OwnWalk
import Derived.Laws.BytesArg
import Derived.Laws.MakeOwn
import Derived.Laws.OwnMore
import Derived.Deep.OwnRows
import Derived.Tactics
import Derived.Lib.ConvBytes
import Derived.Laws.Slices
import Derived.KernelRfl
import Derived.RowKit3
import Derived.Deep.LoopGhost
import Derived.Deep.QuietTactic
import Derived.BigQuiet
import Derived.WideLaws
import Derived.Deep.DeepCutAuto
import Derived.Deep.CutBlock
import Derived.Deep.RegionHeld3
import Derived.Laws.Rows
import Derived.Lib.AppendStr
import Derived.ArgAppend
import Derived.Laws.IdiomCopy
import Derived.OrdersHeld
import Derived.Laws.BitsLemmas
import Derived.RowKit
import Derived.Deep.DeepMust
import Derived.Laws.CopyOwn
import Derived.Lib.BufferMore
import Derived.Lib.SliceRun
import Derived.OpenShut
import Derived.ShutString
import Derived.ChangeOld
import Derived.SizedLaws
import Derived.Deep.Slices
import Derived.ChangeArms
import Derived.Shelf.Small.Bits
import Derived.Shelf.Strconv.Itoa0
import Derived.Laws.Bits64b
import Derived.Test.YtgookagndlfehaaZFnExactSumVerify3
set_option maxRecDepth 100000
set_option maxHeartbeats 8000000
section
namespace Go.Proofs.Ytgookagndlfehaa.PT
open Go.RowKit Go.Proofs.YtgookagndlfehaaW.PrintWords Go.Proofs.YtgookagndlfehaaW.PrintLast Go.Proofs.YtgookagndlfehaaW.PrintMore
attribute [local go_sem] zex zev zfa ze8 zec zed zeu zew   -- for this text's walks alone
set_option linter.unusedVariables false
set_option linter.unusedSimpArgs false
def zda.f (l0_0:List (S34)) (a0_1:Int) (a0_2:ByteArray) (a0_3:Int):Option ((List (S34)) × Int × ByteArray × Int):=(ze3.f l0_0).bind fun t103=>(some (t103,a0_1,a0_2,a0_3))
theorem zda.calls (A0_0:Option Addr) (c0_0:Nat) (l0_0:List (S34)) (a0_1:Int) (a0_2:ByteArray) (a0_3:Int) (r1:List (S34)) (r2:Int) (r3:ByteArray) (r4:Int) (w:World) (hr0_0:Kd.C k34 w A0_0 l0_0.length l0_0) (hc0_0:l0_0.length≤c0_0) (h:zda.f l0_0 a0_1 a0_2 a0_3=some (r1,r2,r3,r4)) :
  Calls Try.prog 48 #[.agg #[.slice A0_0 l0_0.length c0_0,.int .i64 a0_1,.string a0_2,.int .i64 a0_3]] w fun e w'=>∃ v0_:Value,e=.returned (.agg #[v0_,.int .i64 r2,.string r3,.int .i64 r4])∧Kd.R k34 34 w' w.heap.size (fun _=>True) v0_ r1∧Below w.heap.size w w':=by
 have hu27:=Try.underlying27
 have HR0_0:=am_ hr0_0
 have HC0_0:=am_ hc0_0
 clear hr0_0 hc0_0
 have HB:=am_ (Below.refl w.heap.size w)
 have H:((ze3.f l0_0).bind fun t103=>(some (t103,a0_1,a0_2,a0_3)))=some (r1,r2,r3,r4):=h
 clear h
 replace H:=Option.bind_eq_some_iff.mp H
 obtain⟨t103,A20,H⟩:=H
 replace H:(some (t103,a0_1,a0_2,a0_3))=some (r1,r2,r3,r4):=H
 have A2:=am_ A20
 clear A20
 simp only [Option.some.injEq,Prod.mk.injEq] at H
 obtain⟨rfl,rfl,rfl,rfl⟩:=H
 go_enter Try.func48,Try.ntmps48
 go_wp2_with (first|((with_reducible refine zad (N:=1) rfl ?_);refine zae rfl (N:=1) rfl (cs:=#[.slice A0_0 l0_0.length c0_0,.int .i64 a0_1,.string a0_2,.int .i64 a0_3]) (t:=27) bx_ ?_;intro gb101 hg w3 hbox hb;replace BK101:=am_ (hbox);replace GW101:=am_ ((by rw [hg];exact(zac qz4_):w.heap.size≤gb101));replace GE101:=am_ ((by rw [hg];exact(zac qz4_):w.heap.size≤gb101));replace HB:=am_ (zaj qz4_ hb);clear hb hbox hg)|((with_reducible refine zad (N:=2) rfl ?_);refine zae rfl (N:=2) rfl (cs:=#[.slice none 0 0,.int .i64 0,.string (⟨#[]⟩:ByteArray),.int .i64 0]) (t:=27) bx_ ?_;intro gb102 hg w4 hbox hb;replace BK102:=am_ (hbox);replace GW102:=am_ ((by rw [hg];exact(zac qz14_):w.heap.size≤gb102));replace GE102:=am_ ((by rw [hg];exact(zac qz14_):w.heap.size≤gb102));replace HB:=am_ (zaj qz14_ hb);replace NB101_102:=am_ ((by rw [hg];exact Nat.ne_of_lt (zar (g:=gb101) (o:=.cells #[.slice A0_0 l0_0.length c0_0,.int .i64 a0_1,.string a0_2,.int .i64 a0_3] 27 (0,0)) qz13_):gb101≠gb102));replace NB102_101:=am_ ((by rw [hg];exact Nat.ne_of_gt (zar (g:=gb101) (o:=.cells #[.slice A0_0 l0_0.length c0_0,.int .i64 a0_1,.string a0_2,.int .i64 a0_3] 27 (0,0)) qz13_):gb102≠gb101));replace BK101:=am_ (zak (g:=gb101) (o:=.cells #[.slice A0_0 l0_0.length c0_0,.int .i64 a0_1,.string a0_2,.int .i64 a0_3] 27 (0,0)) qz13_ hb);clear hb hbox hg;have hnb5:=NB101_102.out;have hnc5:=NB102_101.out;have hcz6_0:w4.cell? ⟨gb101,0,none⟩=some (.slice A0_0 l0_0.length c0_0):=(zaa BK101.out 0).trans rfl;have hcz6_1:w4.cell? ⟨gb101,1,none⟩=some (.int .i64 a0_1):=(zaa BK101.out 1).trans rfl;have hcz6_2:w4.cell? ⟨gb101,2,none⟩=some (.string a0_2):=(zaa BK101.out 2).trans rfl;have hcz6_3:w4.cell? ⟨gb101,3,none⟩=some (.int .i64 a0_3):=(zaa BK101.out 3).trans rfl;have hfz6_0:=zab BK101.out 0;have hfz6_1:=zab BK101.out 1;have hfz6_2:=zab BK101.out 2;have hfz6_3:=zab BK101.out 3)|((with_reducible refine zaz (f:=45) rfl ?_);refine zc5 (some 5) rfl rfl Try.func45 (by kernel_rfl) rfl #[.slice A0_0 l0_0.length c0_0] rfl qz18_ ?_;(with_reducible refine(ze3.calls _ _ l0_0 t103 _ ?side1 ?side2 A2.out).mono ?_);(case side1=>exact qc_ (Kd.zbs HR0_0.out HB.out));(case side2=>exact HC0_0.out);rintro e w7 ⟨v104,rfl,ho0,hb⟩;refine⟨_,rfl,?_⟩;replace HO105:=am_ (Kd.zdk ho0 (zac qz16_));replace BK101:=am_ (zak (g:=gb101) (o:=.cells #[.slice A0_0 l0_0.length c0_0,.int .i64 a0_1,.string a0_2,.int .i64 a0_3] 27 (0,0)) qz13_ hb);replace BK102:=am_ (zak (g:=gb102) (o:=.cells #[.slice none 0 0,.int .i64 0,.string (⟨#[]⟩:ByteArray),.int .i64 0] 27 (0,0)) qz15_ hb);replace HB:=am_ (zaj qz16_ hb);(try clear hb);(try clear hb2);(try clear hk);(try clear hi);(try clear ho0);obtain⟨Ao8,co8,eo8⟩:=Kd.zb0 HO105.out;subst eo8;have hcz9_0:w7.cell? ⟨gb101,0,none⟩=some (.slice A0_0 l0_0.length c0_0):=(zaa BK101.out 0).trans rfl;have hcz9_1:w7.cell? ⟨gb101,1,none⟩=some (.int .i64 a0_1):=(zaa BK101.out 1).trans rfl;have hcz9_2:w7.cell? ⟨gb101,2,none⟩=some (.string a0_2):=(zaa BK101.out 2).trans rfl;have hcz9_3:w7.cell? ⟨gb101,3,none⟩=some (.int .i64 a0_3):=(zaa BK101.out 3).trans rfl;have hfz9_0:=zab BK101.out 0;have hfz9_1:=zab BK101.out 1;have hfz9_2:=zab BK101.out 2;have hfz9_3:=zab BK101.out 3;have hcz10_0:w7.cell? ⟨gb102,0,none⟩=some (.slice none 0 0):=(zaa BK102.out 0).trans rfl;have hcz10_1:w7.cell? ⟨gb102,1,none⟩=some (.int .i64 0):=(zaa BK102.out 1).trans rfl;have hcz10_2:w7.cell? ⟨gb102,2,none⟩=some (.string (⟨#[]⟩:ByteArray)):=(zaa BK102.out 2).trans rfl;have hcz10_3:w7.cell? ⟨gb102,3,none⟩=some (.int .i64 0):=(zaa BK102.out 3).trans rfl;have hfz10_0:=zab BK102.out 0;have hfz10_1:=zab BK102.out 1;have hfz10_2:=zab BK102.out 2;have hfz10_3:=zab BK102.out 3))
 refine bodyPost_ret (results_cell_row rfl _ _ gb102 27 #[.slice Ao8 t103.length co8,.int .i64 a0_1,.string a0_2,.int .i64 a0_3] (0,0) _ rfl (by(with_reducible repeat(first|refine zah ?_ _|refine zaf ?_|refine zai ?_ _));refine za9 (cs:=#[.slice Ao8 t103.length co8,.int .i64 a0_1,.string a0_2,.int .i64 0]) ?_ 3 _ rfl;(with_reducible repeat(first|refine zah ?_ _|refine zaf ?_|refine zai ?_ _));refine za9 (cs:=#[.slice Ao8 t103.length co8,.int .i64 a0_1,.string (⟨#[]⟩:ByteArray),.int .i64 0]) ?_ 2 _ rfl;(with_reducible repeat(first|refine zah ?_ _|refine zaf ?_|refine zai ?_ _));refine za9 (cs:=#[.slice Ao8 t103.length co8,.int .i64 0,.string (⟨#[]⟩:ByteArray),.int .i64 0]) ?_ 1 _ rfl;(with_reducible repeat(first|refine zah ?_ _|refine zaf ?_|refine zai ?_ _));refine za9 (cs:=#[.slice none 0 0,.int .i64 0,.string (⟨#[]⟩:ByteArray),.int .i64 0]) ?_ 0 _ rfl;(with_reducible repeat(first|refine zah ?_ _|refine zaf ?_|refine zai ?_ _));refine zbc ?_ NB102_101.out _;(with_reducible repeat(first|refine zah ?_ _|refine zaf ?_|refine zai ?_ _));exact BK102.out) Try.underlying27 rfl (by kernel_rfl)) rfl ?_
 exact⟨_,by first|rfl|(simp [zc3,zc2] <;> rfl)|(simp [*,zc3,zc2] <;> rfl),by(with_reducible repeat(first|apply Kd.zb3|apply Kd.zb4|apply Kd.zch));exact Kd.zbi (Kd.R_far (p:=⟨gb102,3,none⟩) (Kd.R_far (p:=⟨gb102,2,none⟩) (Kd.R_far (p:=⟨gb102,1,none⟩) (Kd.R_far (p:=⟨gb102,0,none⟩) (Kd.R_far (p:=⟨gb101,0,none⟩) (Kd.zep (Kd.zep HO105.out BK101.out (by decide)) BK102.out (by decide)) (fun _ hk=>hk.1.2) (.slice Ao8 t103.length co8)) (fun _ hk=>hk.2) (.slice Ao8 t103.length co8)) (fun _ hk=>hk.2) (.int .i64 a0_1)) (fun _ hk=>hk.2) (.string a0_2)) (fun _ hk=>hk.2) (.int .i64 a0_3)) (fun _ hk=>trivial),by repeat(first|(with_reducible first|exact HB.out|apply za0|apply zay|apply zat|refine za4 ?_ GE101.out|refine za4 ?_ GE102.out)|exact HB.out)⟩
end Go.Proofs.Ytgookagndlfehaa.PT
end
section
namespace Go.Proofs.Ytgookagndlfehaa.PT
open Go Go.RowKit Go.Proofs.YtgookagndlfehaaW.PrintWords Go.Proofs.YtgookagndlfehaaW.PrintLast Go.Proofs.YtgookagndlfehaaW.PrintMore
set_option linter.unusedVariables false
set_option linter.unusedSimpArgs false
theorem perm_six {α:Type} (a b c d e f:α):[a,b,c,d,e,f].Perm [f,e,a,b,c,d]:=by
 have h:=(List.perm_append_comm (l₁:=[a,b,c,d]) (l₂:=[e,f]))
 exact(show [a,b,c,d,e,f].Perm [e,f,a,b,c,d] by simpa using h).trans (List.Perm.swap _ _ _)
def zbm.f (k:Nat) (kind c0 c1:Int) (l2:List (List S34)) (vars:Int) (q0:List S34) (q1:Int) (q2:ByteArray) (q3:Int):Option (List S34 × Int × Int × List S34 × Int × ByteArray × Int × Int):=
 if (l2.length:Int)>4096 then some ([],0,0,[],0,(⟨#[]⟩:ByteArray),0,2) else(zcl.f c0 c1).bind fun b1=>if b1=false then some ([],0,0,[],0,(⟨#[]⟩:ByteArray),0,1) else(zcq.f q0 q1 q2 q3).bind fun b2=>if b2=false then some ([],0,0,[],0,(⟨#[]⟩:ByteArray),0,1) else if l2.all okR=false then some ([],0,0,[],0,(⟨#[]⟩:ByteArray),0,1) else
 (zbw.f kind).bind fun d=>if d=0 then some ([],0,0,[],0,(⟨#[]⟩:ByteArray),0,4) else(zcn.f vars 0 6).bind fun b3=>if b3=false then some ([],0,0,[],0,(⟨#[]⟩:ByteArray),0,4) else(zc0.f q0 q1 q2 q3).bind fun t=>if t<6 then some ([],0,0,[],0,(⟨#[]⟩:ByteArray),0,6) else if (l2.length:Int)=vars then
  ((zda.f q0 q1 q2 q3).bind fun s=>(vs_ k kind s.1 l2 c0 c1 s.2.1 s.2.2.1 s.2.2.2 []).bind fun v=>if v.2.2.2.1=0 then some (v.1,v.2.1,v.2.2.1,s.1,v.2.2.2.2.1,v.2.2.2.2.2.1,v.2.2.2.2.2.2,0) else some ([],0,0,[],0,(⟨#[]⟩:ByteArray),0,v.2.2.2.1)) else some ([],0,0,[],0,(⟨#[]⟩:ByteArray),0,18)
theorem zbm.calls (k:Nat) (kind c0 c1:Int) (A2:Option Addr) (cap2:Nat) (l2:List (List S34)) (vars:Int) (A4:Option Addr) (c4:Nat) (q0:List S34) (q1:Int) (q2:ByteArray) (q3:Int) (r1:List S34) (r2 r3:Int) (r4:List S34) (r5:Int) (r6:ByteArray) (r7 r8:Int) (w:World) (hr2:Kd.C (Kd.slice 34 k34) w A2 l2.length l2) (hc2:l2.length≤cap2) (hr4:Kd.C k34 w A4 q0.length q0) (hc4:q0.length≤c4) (h:zbm.f k kind c0 c1 l2 vars q0 q1 q2 q3=some (r1,r2,r3,r4,r5,r6,r7,r8)) :
  Calls Try.prog 30 #[.int .i64 kind,.agg #[.int .i64 c0,.int .i64 c1],.slice A2 l2.length cap2,.int .i64 vars,.agg #[.slice A4 q0.length c4,.int .i64 q1,.string q2,.int .i64 q3]] w fun e w'=>∃ v0_ v3_:Value,e=.returned (.tuple #[v0_,.agg #[.int .i64 r2,.int .i64 r3],.agg #[v3_,.int .i64 r5,.string r6,.int .i64 r7],.int .i64 r8])∧Kd.R k34 34 w' w.heap.size (fun k_=>some k_≠v3_.ownBlock) v0_ r1∧Kd.R k34 34 w' w.heap.size (fun k_=>some k_≠v0_.ownBlock) v3_ r4∧Below w.heap.size w w':=by
 have hu34:=Try.underlying34
 have hu27:=Try.underlying27
 have HC2:=am_ hc2
 have HC4:=am_ hc4
 have HI:=am_ (Inv.start w (fun w2=>Kd.C k34 w2 A4 q0.length q0∧Kd.C (Kd.slice 34 k34) w2 A2 l2.length l2) (fun w' hb=>⟨Kd.zbs hr4 hb,Kd.zbs hr2 hb⟩))
 clear hr2 hr4 hc2 hc4
 unfold zbm.f at h
 by_cases cx4:(l2.length:Int)>4096
 ·
  rw [if_pos cx4] at h
  have f0:decide ((l2.length:Int)>4096)=true:=decide_eq_true cx4
  have f0b:decide (4096<(l2.length:Int))=true:=decide_eq_true cx4
  have f0c:decide (4096<l2.length)=true:=decide_eq_true (by omega)
  clear cx4
  simp only [Option.some.injEq,Prod.mk.injEq] at h
  obtain⟨rfl,rfl,rfl,rfl,rfl,rfl,rfl,rfl⟩:=h
  go_enter Try.func30,Try.ntmps30
  go_wp2_with (first|((with_reducible refine zad (N:=6) rfl ?_);refine zae rfl (N:=6) rfl (cs:=#[.int .i64 c0,.int .i64 c1]) (t:=34) bx_ ?_;intro g6 hg w6_ hbox hb;replace HI:=am_ ((HI.out).box hg hbox hb);clear hb hbox hg)|((with_reducible refine zad (N:=9) rfl ?_);refine zae rfl (N:=9) rfl (cs:=#[.slice A4 q0.length c4,.int .i64 q1,.string q2,.int .i64 q3]) (t:=27) bx_ ?_;intro g9 hg w9_ hbox hb;replace HI:=am_ ((HI.out).box hg hbox hb);clear hb hbox hg)|((with_reducible refine zad (N:=11) rfl ?_);refine zae rfl (N:=11) rfl (cs:=#[.int .i64 0,.int .i64 0]) (t:=34) bx_ ?_;intro g11 hg w11_ hbox hb;replace HI:=am_ ((HI.out).box hg hbox hb);clear hb hbox hg)|((with_reducible refine zad (N:=12) rfl ?_);refine zae rfl (N:=12) rfl (cs:=#[.slice none 0 0,.int .i64 0,.string (⟨#[]⟩:ByteArray),.int .i64 0]) (t:=27) bx_ ?_;intro g12 hg w12_ hbox hb;replace HI:=am_ ((HI.out).box hg hbox hb);clear hb hbox hg)|((with_reducible refine zaq (p:=11) (v:=(.tmp 55)) (t:=34) rfl ?_);go_must (refine wpList_store_row rfl 34 _ _ rfl g11 (#[.int .i64 0,.int .i64 0]) rfl qz0_ 34 (#[.int .i64 0,.int .i64 0]) (Inv.blk0 (HI.out.swap)) (by kernel_rfl) (by rfl) qz12_ ?_;replace HI:=am_ (Inv.put0 (HI.out.swap) (#[.int .i64 0,.int .i64 0]));generalize World.setRow _ g11 (#[.int .i64 0,.int .i64 0])=w55 at HI ⊢))|((with_reducible refine zaq (p:=12) (v:=(.tmp 56)) (t:=27) rfl ?_);go_must (refine wpList_store_row rfl 27 _ _ rfl g12 (#[.slice none 0 0,.int .i64 0,.string (⟨#[]⟩:ByteArray),.int .i64 0]) rfl qz0_ 27 (#[.slice none 0 0,.int .i64 0,.string (⟨#[]⟩:ByteArray),.int .i64 0]) (Inv.blk0 (HI.out.swap)) (by kernel_rfl) (by rfl) qz12_ ?_;replace HI:=am_ (Inv.put0 (HI.out.swap) (#[.slice none 0 0,.int .i64 0,.string (⟨#[]⟩:ByteArray),.int .i64 0]));generalize World.setRow _ g12 (#[.slice none 0 0,.int .i64 0,.string (⟨#[]⟩:ByteArray),.int .i64 0])=w56 at HI ⊢)))
  refine bodyPost_ret (zbp rfl _ _ g11 g12 34 27 #[.int .i64 0,.int .i64 0] #[.slice none 0 0,.int .i64 0,.string (⟨#[]⟩:ByteArray),.int .i64 0] (0,0) (0,0) _ _ rfl (HI.out.get 1 rfl) hu34 rfl (by kernel_rfl) rfl (HI.out.get 0 rfl) hu27 rfl (by kernel_rfl)) rfl ?_
  exact⟨_,_,rfl,Kd.R_nil _ _ _ _ _,Kd.R_nil _ _ _ _ _,HI.out.below⟩
 ·
  rw [if_neg cx4] at h
  have f0:decide ((l2.length:Int)>4096)=false:=decide_eq_false cx4
  have f0b:decide (4096<(l2.length:Int))=false:=decide_eq_false cx4
  have f0c:decide (4096<l2.length)=false:=decide_eq_false (by omega)
  clear cx4
  replace h:=Option.bind_eq_some_iff.1 h
  obtain⟨b1,hex_,h⟩:=h
  have HEX:=am_ hex_
  clear hex_
  cases b1 with
  | false=>
   rw [if_pos rfl] at h
   simp only [Option.some.injEq,Prod.mk.injEq] at h
   obtain⟨rfl,rfl,rfl,rfl,rfl,rfl,rfl,rfl⟩:=h
   go_enter Try.func30,Try.ntmps30
   go_wp2_with (first|((with_reducible refine zad (N:=6) rfl ?_);refine zae rfl (N:=6) rfl (cs:=#[.int .i64 c0,.int .i64 c1]) (t:=34) bx_ ?_;intro g6 hg w6_ hbox hb;replace HI:=am_ ((HI.out).box hg hbox hb);clear hb hbox hg)|((with_reducible refine zad (N:=9) rfl ?_);refine zae rfl (N:=9) rfl (cs:=#[.slice A4 q0.length c4,.int .i64 q1,.string q2,.int .i64 q3]) (t:=27) bx_ ?_;intro g9 hg w9_ hbox hb;replace HI:=am_ ((HI.out).box hg hbox hb);clear hb hbox hg)|((with_reducible refine zad (N:=11) rfl ?_);refine zae rfl (N:=11) rfl (cs:=#[.int .i64 0,.int .i64 0]) (t:=34) bx_ ?_;intro g11 hg w11_ hbox hb;replace HI:=am_ ((HI.out).box hg hbox hb);clear hb hbox hg)|((with_reducible refine zad (N:=12) rfl ?_);refine zae rfl (N:=12) rfl (cs:=#[.slice none 0 0,.int .i64 0,.string (⟨#[]⟩:ByteArray),.int .i64 0]) (t:=27) bx_ ?_;intro g12 hg w12_ hbox hb;replace HI:=am_ ((HI.out).box hg hbox hb);clear hb hbox hg)|((with_reducible refine zad (N:=23) rfl ?_);go_must (refine wpList_load_row rfl 34 _ rfl g6 rfl 34 (#[.int .i64 c0,.int .i64 c1]) (0,0) _ ((HI.out.get 3 rfl)) hu34 rfl (by kernel_rfl) ?_))|(go_at_call 43;(refine(zcl.calls c0 c1 _ _ HEX.out).mono ?_);rintro e w24 ⟨rfl,hb⟩;replace HI:=am_ (HI.out.grow hb);clear hb;have h90:World.cell? _ ⟨g9,0,none⟩=some (.slice A4 q0.length c4):=(zaa (HI.out.get 2 rfl) 0).trans rfl;have h91:World.cell? _ ⟨g9,1,none⟩=some (.int .i64 q1):=(zaa (HI.out.get 2 rfl) 1).trans rfl;have h92:World.cell? _ ⟨g9,2,none⟩=some (.string q2):=(zaa (HI.out.get 2 rfl) 2).trans rfl;have h93:World.cell? _ ⟨g9,3,none⟩=some (.int .i64 q3):=(zaa (HI.out.get 2 rfl) 3).trans rfl)|((with_reducible refine zaq (p:=11) (v:=(.tmp 55)) (t:=34) rfl ?_);go_must (refine wpList_store_row rfl 34 _ _ rfl g11 (#[.int .i64 0,.int .i64 0]) rfl qz0_ 34 (#[.int .i64 0,.int .i64 0]) (Inv.blk0 (HI.out.swap)) (by kernel_rfl) (by rfl) qz12_ ?_;replace HI:=am_ (Inv.put0 (HI.out.swap) (#[.int .i64 0,.int .i64 0]));generalize World.setRow _ g11 (#[.int .i64 0,.int .i64 0])=w55 at HI ⊢))|((with_reducible refine zaq (p:=12) (v:=(.tmp 56)) (t:=27) rfl ?_);go_must (refine wpList_store_row rfl 27 _ _ rfl g12 (#[.slice none 0 0,.int .i64 0,.string (⟨#[]⟩:ByteArray),.int .i64 0]) rfl qz0_ 27 (#[.slice none 0 0,.int .i64 0,.string (⟨#[]⟩:ByteArray),.int .i64 0]) (Inv.blk0 (HI.out.swap)) (by kernel_rfl) (by rfl) qz12_ ?_;replace HI:=am_ (Inv.put0 (HI.out.swap) (#[.slice none 0 0,.int .i64 0,.string (⟨#[]⟩:ByteArray),.int .i64 0]));generalize World.setRow _ g12 (#[.slice none 0 0,.int .i64 0,.string (⟨#[]⟩:ByteArray),.int .i64 0])=w56 at HI ⊢)))
   refine bodyPost_ret (zbp rfl _ _ g11 g12 34 27 #[.int .i64 0,.int .i64 0] #[.slice none 0 0,.int .i64 0,.string (⟨#[]⟩:ByteArray),.int .i64 0] (0,0) (0,0) _ _ rfl (HI.out.get 1 rfl) hu34 rfl (by kernel_rfl) rfl (HI.out.get 0 rfl) hu27 rfl (by kernel_rfl)) rfl ?_
   exact⟨_,_,rfl,Kd.R_nil _ _ _ _ _,Kd.R_nil _ _ _ _ _,HI.out.below⟩
  | true=>
   rw [if_neg (by decide)] at h
   replace h:=Option.bind_eq_some_iff.1 h
   obtain⟨b2,hso_,h⟩:=h
   have HSO:=am_ hso_
   clear hso_
   cases b2 with
   | false=>
    rw [if_pos rfl] at h
    simp only [Option.some.injEq,Prod.mk.injEq] at h
    obtain⟨rfl,rfl,rfl,rfl,rfl,rfl,rfl,rfl⟩:=h
    go_enter Try.func30,Try.ntmps30
    go_wp2_with (first|((with_reducible refine zad (N:=6) rfl ?_);refine zae rfl (N:=6) rfl (cs:=#[.int .i64 c0,.int .i64 c1]) (t:=34) bx_ ?_;intro g6 hg w6_ hbox hb;replace HI:=am_ ((HI.out).box hg hbox hb);clear hb hbox hg)|((with_reducible refine zad (N:=9) rfl ?_);refine zae rfl (N:=9) rfl (cs:=#[.slice A4 q0.length c4,.int .i64 q1,.string q2,.int .i64 q3]) (t:=27) bx_ ?_;intro g9 hg w9_ hbox hb;replace HI:=am_ ((HI.out).box hg hbox hb);clear hb hbox hg)|((with_reducible refine zad (N:=11) rfl ?_);refine zae rfl (N:=11) rfl (cs:=#[.int .i64 0,.int .i64 0]) (t:=34) bx_ ?_;intro g11 hg w11_ hbox hb;replace HI:=am_ ((HI.out).box hg hbox hb);clear hb hbox hg)|((with_reducible refine zad (N:=12) rfl ?_);refine zae rfl (N:=12) rfl (cs:=#[.slice none 0 0,.int .i64 0,.string (⟨#[]⟩:ByteArray),.int .i64 0]) (t:=27) bx_ ?_;intro g12 hg w12_ hbox hb;replace HI:=am_ ((HI.out).box hg hbox hb);clear hb hbox hg)|((with_reducible refine zad (N:=23) rfl ?_);go_must (refine wpList_load_row rfl 34 _ rfl g6 rfl 34 (#[.int .i64 c0,.int .i64 c1]) (0,0) _ ((HI.out.get 3 rfl)) hu34 rfl (by kernel_rfl) ?_))|(go_at_call 43;(refine(zcl.calls c0 c1 _ _ HEX.out).mono ?_);rintro e w24 ⟨rfl,hb⟩;replace HI:=am_ (HI.out.grow hb);clear hb;have h90:World.cell? _ ⟨g9,0,none⟩=some (.slice A4 q0.length c4):=(zaa (HI.out.get 2 rfl) 0).trans rfl;have h91:World.cell? _ ⟨g9,1,none⟩=some (.int .i64 q1):=(zaa (HI.out.get 2 rfl) 1).trans rfl;have h92:World.cell? _ ⟨g9,2,none⟩=some (.string q2):=(zaa (HI.out.get 2 rfl) 2).trans rfl;have h93:World.cell? _ ⟨g9,3,none⟩=some (.int .i64 q3):=(zaa (HI.out.get 2 rfl) 3).trans rfl)|(go_at_call 11;(refine(zcq.calls A4 c4 q0 q1 q2 q3 _ _ HI.out.now.1 HC4.out HSO.out).mono ?_);rintro e w28 ⟨rfl,hb⟩;replace HI:=am_ (HI.out.grow hb);clear hb)|((with_reducible refine zaq (p:=11) (v:=(.tmp 55)) (t:=34) rfl ?_);go_must (refine wpList_store_row rfl 34 _ _ rfl g11 (#[.int .i64 0,.int .i64 0]) rfl qz0_ 34 (#[.int .i64 0,.int .i64 0]) (Inv.blk0 (HI.out.swap)) (by kernel_rfl) (by rfl) qz12_ ?_;replace HI:=am_ (Inv.put0 (HI.out.swap) (#[.int .i64 0,.int .i64 0]));generalize World.setRow _ g11 (#[.int .i64 0,.int .i64 0])=w55 at HI ⊢))|((with_reducible refine zaq (p:=12) (v:=(.tmp 56)) (t:=27) rfl ?_);go_must (refine wpList_store_row rfl 27 _ _ rfl g12 (#[.slice none 0 0,.int .i64 0,.string (⟨#[]⟩:ByteArray),.int .i64 0]) rfl qz0_ 27 (#[.slice none 0 0,.int .i64 0,.string (⟨#[]⟩:ByteArray),.int .i64 0]) (Inv.blk0 (HI.out.swap)) (by kernel_rfl) (by rfl) qz12_ ?_;replace HI:=am_ (Inv.put0 (HI.out.swap) (#[.slice none 0 0,.int .i64 0,.string (⟨#[]⟩:ByteArray),.int .i64 0]));generalize World.setRow _ g12 (#[.slice none 0 0,.int .i64 0,.string (⟨#[]⟩:ByteArray),.int .i64 0])=w56 at HI ⊢)))
    refine bodyPost_ret (zbp rfl _ _ g11 g12 34 27 #[.int .i64 0,.int .i64 0] #[.slice none 0 0,.int .i64 0,.string (⟨#[]⟩:ByteArray),.int .i64 0] (0,0) (0,0) _ _ rfl (HI.out.get 1 rfl) hu34 rfl (by kernel_rfl) rfl (HI.out.get 0 rfl) hu27 rfl (by kernel_rfl)) rfl ?_
    exact⟨_,_,rfl,Kd.R_nil _ _ _ _ _,Kd.R_nil _ _ _ _ _,HI.out.below⟩
   | true=>
    rw [if_neg (by decide)] at h
    by_cases ca:l2.all okR=false
    ·
     rw [if_pos ca] at h
     have HCN:=am_ ca
     clear ca
     simp only [Option.some.injEq,Prod.mk.injEq] at h
     obtain⟨rfl,rfl,rfl,rfl,rfl,rfl,rfl,rfl⟩:=h
     go_enter Try.func30,Try.ntmps30
     go_wp2_with (first|((with_reducible refine zad (N:=6) rfl ?_);refine zae rfl (N:=6) rfl (cs:=#[.int .i64 c0,.int .i64 c1]) (t:=34) bx_ ?_;intro g6 hg w6_ hbox hb;replace HI:=am_ ((HI.out).box hg hbox hb);clear hb hbox hg)|((with_reducible refine zad (N:=9) rfl ?_);refine zae rfl (N:=9) rfl (cs:=#[.slice A4 q0.length c4,.int .i64 q1,.string q2,.int .i64 q3]) (t:=27) bx_ ?_;intro g9 hg w9_ hbox hb;replace HI:=am_ ((HI.out).box hg hbox hb);clear hb hbox hg)|((with_reducible refine zad (N:=11) rfl ?_);refine zae rfl (N:=11) rfl (cs:=#[.int .i64 0,.int .i64 0]) (t:=34) bx_ ?_;intro g11 hg w11_ hbox hb;replace HI:=am_ ((HI.out).box hg hbox hb);clear hb hbox hg)|((with_reducible refine zad (N:=12) rfl ?_);refine zae rfl (N:=12) rfl (cs:=#[.slice none 0 0,.int .i64 0,.string (⟨#[]⟩:ByteArray),.int .i64 0]) (t:=27) bx_ ?_;intro g12 hg w12_ hbox hb;replace HI:=am_ ((HI.out).box hg hbox hb);clear hb hbox hg)|((with_reducible refine zad (N:=23) rfl ?_);go_must (refine wpList_load_row rfl 34 _ rfl g6 rfl 34 (#[.int .i64 c0,.int .i64 c1]) (0,0) _ ((HI.out.get 3 rfl)) hu34 rfl (by kernel_rfl) ?_))|(go_at_call 43;(refine(zcl.calls c0 c1 _ _ HEX.out).mono ?_);rintro e w24 ⟨rfl,hb⟩;replace HI:=am_ (HI.out.grow hb);clear hb;have h90:World.cell? _ ⟨g9,0,none⟩=some (.slice A4 q0.length c4):=(zaa (HI.out.get 2 rfl) 0).trans rfl;have h91:World.cell? _ ⟨g9,1,none⟩=some (.int .i64 q1):=(zaa (HI.out.get 2 rfl) 1).trans rfl;have h92:World.cell? _ ⟨g9,2,none⟩=some (.string q2):=(zaa (HI.out.get 2 rfl) 2).trans rfl;have h93:World.cell? _ ⟨g9,3,none⟩=some (.int .i64 q3):=(zaa (HI.out.get 2 rfl) 3).trans rfl)|(go_at_call 11;(refine(zcq.calls A4 c4 q0 q1 q2 q3 _ _ HI.out.now.1 HC4.out HSO.out).mono ?_);rintro e w28 ⟨rfl,hb⟩;replace HI:=am_ (HI.out.grow hb);clear hb)|(go_at_call 77;(refine(okR.con A2 cap2 l2 _ HI.out.now.2).mono ?_);rw [HCN.out];rintro e w33 ⟨rfl,hb⟩;replace HI:=am_ (HI.out.grow hb);clear hb)|((with_reducible refine zaq (p:=11) (v:=(.tmp 55)) (t:=34) rfl ?_);go_must (refine wpList_store_row rfl 34 _ _ rfl g11 (#[.int .i64 0,.int .i64 0]) rfl qz0_ 34 (#[.int .i64 0,.int .i64 0]) (Inv.blk0 (HI.out.swap)) (by kernel_rfl) (by rfl) qz12_ ?_;replace HI:=am_ (Inv.put0 (HI.out.swap) (#[.int .i64 0,.int .i64 0]));generalize World.setRow _ g11 (#[.int .i64 0,.int .i64 0])=w55 at HI ⊢))|((with_reducible refine zaq (p:=12) (v:=(.tmp 56)) (t:=27) rfl ?_);go_must (refine wpList_store_row rfl 27 _ _ rfl g12 (#[.slice none 0 0,.int .i64 0,.string (⟨#[]⟩:ByteArray),.int .i64 0]) rfl qz0_ 27 (#[.slice none 0 0,.int .i64 0,.string (⟨#[]⟩:ByteArray),.int .i64 0]) (Inv.blk0 (HI.out.swap)) (by kernel_rfl) (by rfl) qz12_ ?_;replace HI:=am_ (Inv.put0 (HI.out.swap) (#[.slice none 0 0,.int .i64 0,.string (⟨#[]⟩:ByteArray),.int .i64 0]));generalize World.setRow _ g12 (#[.slice none 0 0,.int .i64 0,.string (⟨#[]⟩:ByteArray),.int .i64 0])=w56 at HI ⊢)))
     refine bodyPost_ret (zbp rfl _ _ g11 g12 34 27 #[.int .i64 0,.int .i64 0] #[.slice none 0 0,.int .i64 0,.string (⟨#[]⟩:ByteArray),.int .i64 0] (0,0) (0,0) _ _ rfl (HI.out.get 1 rfl) hu34 rfl (by kernel_rfl) rfl (HI.out.get 0 rfl) hu27 rfl (by kernel_rfl)) rfl ?_
     exact⟨_,_,rfl,Kd.R_nil _ _ _ _ _,Kd.R_nil _ _ _ _ _,HI.out.below⟩
    ·
     rw [if_neg ca] at h
     have HCN:=am_ (show l2.all okR=true from by cases hz:l2.all okR <;> simp_all)
     clear ca
     replace h:=Option.bind_eq_some_iff.1 h
     obtain⟨d,hdg_,h⟩:=h
     have HDG:=am_ hdg_
     clear hdg_
     by_cases cd:d=0
     ·
      rw [if_pos cd] at h
      subst cd
      simp only [Option.some.injEq,Prod.mk.injEq] at h
      obtain⟨rfl,rfl,rfl,rfl,rfl,rfl,rfl,rfl⟩:=h
      go_enter Try.func30,Try.ntmps30
      go_wp2_with (first|((with_reducible refine zad (N:=6) rfl ?_);refine zae rfl (N:=6) rfl (cs:=#[.int .i64 c0,.int .i64 c1]) (t:=34) bx_ ?_;intro g6 hg w6_ hbox hb;replace HI:=am_ ((HI.out).box hg hbox hb);clear hb hbox hg)|((with_reducible refine zad (N:=9) rfl ?_);refine zae rfl (N:=9) rfl (cs:=#[.slice A4 q0.length c4,.int .i64 q1,.string q2,.int .i64 q3]) (t:=27) bx_ ?_;intro g9 hg w9_ hbox hb;replace HI:=am_ ((HI.out).box hg hbox hb);clear hb hbox hg)|((with_reducible refine zad (N:=11) rfl ?_);refine zae rfl (N:=11) rfl (cs:=#[.int .i64 0,.int .i64 0]) (t:=34) bx_ ?_;intro g11 hg w11_ hbox hb;replace HI:=am_ ((HI.out).box hg hbox hb);clear hb hbox hg)|((with_reducible refine zad (N:=12) rfl ?_);refine zae rfl (N:=12) rfl (cs:=#[.slice none 0 0,.int .i64 0,.string (⟨#[]⟩:ByteArray),.int .i64 0]) (t:=27) bx_ ?_;intro g12 hg w12_ hbox hb;replace HI:=am_ ((HI.out).box hg hbox hb);clear hb hbox hg)|((with_reducible refine zad (N:=23) rfl ?_);go_must (refine wpList_load_row rfl 34 _ rfl g6 rfl 34 (#[.int .i64 c0,.int .i64 c1]) (0,0) _ ((HI.out.get 3 rfl)) hu34 rfl (by kernel_rfl) ?_))|(go_at_call 43;(refine(zcl.calls c0 c1 _ _ HEX.out).mono ?_);rintro e w24 ⟨rfl,hb⟩;replace HI:=am_ (HI.out.grow hb);clear hb;have h90:World.cell? _ ⟨g9,0,none⟩=some (.slice A4 q0.length c4):=(zaa (HI.out.get 2 rfl) 0).trans rfl;have h91:World.cell? _ ⟨g9,1,none⟩=some (.int .i64 q1):=(zaa (HI.out.get 2 rfl) 1).trans rfl;have h92:World.cell? _ ⟨g9,2,none⟩=some (.string q2):=(zaa (HI.out.get 2 rfl) 2).trans rfl;have h93:World.cell? _ ⟨g9,3,none⟩=some (.int .i64 q3):=(zaa (HI.out.get 2 rfl) 3).trans rfl)|(go_at_call 11;(refine(zcq.calls A4 c4 q0 q1 q2 q3 _ _ HI.out.now.1 HC4.out HSO.out).mono ?_);rintro e w28 ⟨rfl,hb⟩;replace HI:=am_ (HI.out.grow hb);clear hb)|(go_at_call 77;(refine(okR.con A2 cap2 l2 _ HI.out.now.2).mono ?_);rw [HCN.out];rintro e w33 ⟨rfl,hb⟩;replace HI:=am_ (HI.out.grow hb);clear hb)|(go_at_call 79;(refine(zbw.calls kind _ _ HDG.out).mono ?_);rintro e w37 ⟨rfl,⟨n37,rfl⟩⟩;replace HI:=am_ (HI.out.drewN n37);generalize World.drewN _ n37=wn37 at HI ⊢)|((with_reducible refine zaq (p:=11) (v:=(.tmp 55)) (t:=34) rfl ?_);go_must (refine wpList_store_row rfl 34 _ _ rfl g11 (#[.int .i64 0,.int .i64 0]) rfl qz0_ 34 (#[.int .i64 0,.int .i64 0]) (Inv.blk0 (HI.out.swap)) (by kernel_rfl) (by rfl) qz12_ ?_;replace HI:=am_ (Inv.put0 (HI.out.swap) (#[.int .i64 0,.int .i64 0]));generalize World.setRow _ g11 (#[.int .i64 0,.int .i64 0])=w55 at HI ⊢))|((with_reducible refine zaq (p:=12) (v:=(.tmp 56)) (t:=27) rfl ?_);go_must (refine wpList_store_row rfl 27 _ _ rfl g12 (#[.slice none 0 0,.int .i64 0,.string (⟨#[]⟩:ByteArray),.int .i64 0]) rfl qz0_ 27 (#[.slice none 0 0,.int .i64 0,.string (⟨#[]⟩:ByteArray),.int .i64 0]) (Inv.blk0 (HI.out.swap)) (by kernel_rfl) (by rfl) qz12_ ?_;replace HI:=am_ (Inv.put0 (HI.out.swap) (#[.slice none 0 0,.int .i64 0,.string (⟨#[]⟩:ByteArray),.int .i64 0]));generalize World.setRow _ g12 (#[.slice none 0 0,.int .i64 0,.string (⟨#[]⟩:ByteArray),.int .i64 0])=w56 at HI ⊢)))
      refine bodyPost_ret (zbp rfl _ _ g11 g12 34 27 #[.int .i64 0,.int .i64 0] #[.slice none 0 0,.int .i64 0,.string (⟨#[]⟩:ByteArray),.int .i64 0] (0,0) (0,0) _ _ rfl (HI.out.get 1 rfl) hu34 rfl (by kernel_rfl) rfl (HI.out.get 0 rfl) hu27 rfl (by kernel_rfl)) rfl ?_
      exact⟨_,_,rfl,Kd.R_nil _ _ _ _ _,Kd.R_nil _ _ _ _ _,HI.out.below⟩
     ·
      rw [if_neg cd] at h
      have f1:=eq_false (cd)
      have f1b:(d == 0)=false:=beq_eq_false_iff_ne.mpr cd
      clear cd
      replace h:=Option.bind_eq_some_iff.1 h
      obtain⟨b3,hin_,h⟩:=h
      have HIN:=am_ hin_
      clear hin_
      cases b3 with
      | false=>
       rw [if_pos rfl] at h
       simp only [Option.some.injEq,Prod.mk.injEq] at h
       obtain⟨rfl,rfl,rfl,rfl,rfl,rfl,rfl,rfl⟩:=h
       go_enter Try.func30,Try.ntmps30
       go_wp2_with (first|((with_reducible refine zad (N:=6) rfl ?_);refine zae rfl (N:=6) rfl (cs:=#[.int .i64 c0,.int .i64 c1]) (t:=34) bx_ ?_;intro g6 hg w6_ hbox hb;replace HI:=am_ ((HI.out).box hg hbox hb);clear hb hbox hg)|((with_reducible refine zad (N:=9) rfl ?_);refine zae rfl (N:=9) rfl (cs:=#[.slice A4 q0.length c4,.int .i64 q1,.string q2,.int .i64 q3]) (t:=27) bx_ ?_;intro g9 hg w9_ hbox hb;replace HI:=am_ ((HI.out).box hg hbox hb);clear hb hbox hg)|((with_reducible refine zad (N:=11) rfl ?_);refine zae rfl (N:=11) rfl (cs:=#[.int .i64 0,.int .i64 0]) (t:=34) bx_ ?_;intro g11 hg w11_ hbox hb;replace HI:=am_ ((HI.out).box hg hbox hb);clear hb hbox hg)|((with_reducible refine zad (N:=12) rfl ?_);refine zae rfl (N:=12) rfl (cs:=#[.slice none 0 0,.int .i64 0,.string (⟨#[]⟩:ByteArray),.int .i64 0]) (t:=27) bx_ ?_;intro g12 hg w12_ hbox hb;replace HI:=am_ ((HI.out).box hg hbox hb);clear hb hbox hg)|((with_reducible refine zad (N:=23) rfl ?_);go_must (refine wpList_load_row rfl 34 _ rfl g6 rfl 34 (#[.int .i64 c0,.int .i64 c1]) (0,0) _ ((HI.out.get 3 rfl)) hu34 rfl (by kernel_rfl) ?_))|(go_at_call 43;(refine(zcl.calls c0 c1 _ _ HEX.out).mono ?_);rintro e w24 ⟨rfl,hb⟩;replace HI:=am_ (HI.out.grow hb);clear hb;have h90:World.cell? _ ⟨g9,0,none⟩=some (.slice A4 q0.length c4):=(zaa (HI.out.get 2 rfl) 0).trans rfl;have h91:World.cell? _ ⟨g9,1,none⟩=some (.int .i64 q1):=(zaa (HI.out.get 2 rfl) 1).trans rfl;have h92:World.cell? _ ⟨g9,2,none⟩=some (.string q2):=(zaa (HI.out.get 2 rfl) 2).trans rfl;have h93:World.cell? _ ⟨g9,3,none⟩=some (.int .i64 q3):=(zaa (HI.out.get 2 rfl) 3).trans rfl)|(go_at_call 11;(refine(zcq.calls A4 c4 q0 q1 q2 q3 _ _ HI.out.now.1 HC4.out HSO.out).mono ?_);rintro e w28 ⟨rfl,hb⟩;replace HI:=am_ (HI.out.grow hb);clear hb)|(go_at_call 77;(refine(okR.con A2 cap2 l2 _ HI.out.now.2).mono ?_);rw [HCN.out];rintro e w33 ⟨rfl,hb⟩;replace HI:=am_ (HI.out.grow hb);clear hb)|(go_at_call 79;(refine(zbw.calls kind _ _ HDG.out).mono ?_);rintro e w37 ⟨rfl,⟨n37,rfl⟩⟩;replace HI:=am_ (HI.out.drewN n37);generalize World.drewN _ n37=wn37 at HI ⊢)|(go_at_call 44;(refine(zcn.calls vars 0 6 _ _ HIN.out).mono ?_);rintro e w41 ⟨rfl,⟨n41,rfl⟩⟩;replace HI:=am_ (HI.out.drewN n41);generalize World.drewN _ n41=wn41 at HI ⊢)|((with_reducible refine zaq (p:=11) (v:=(.tmp 55)) (t:=34) rfl ?_);go_must (refine wpList_store_row rfl 34 _ _ rfl g11 (#[.int .i64 0,.int .i64 0]) rfl qz0_ 34 (#[.int .i64 0,.int .i64 0]) (Inv.blk0 (HI.out.swap)) (by kernel_rfl) (by rfl) qz12_ ?_;replace HI:=am_ (Inv.put0 (HI.out.swap) (#[.int .i64 0,.int .i64 0]));generalize World.setRow _ g11 (#[.int .i64 0,.int .i64 0])=w55 at HI ⊢))|((with_reducible refine zaq (p:=12) (v:=(.tmp 56)) (t:=27) rfl ?_);go_must (refine wpList_store_row rfl 27 _ _ rfl g12 (#[.slice none 0 0,.int .i64 0,.string (⟨#[]⟩:ByteArray),.int .i64 0]) rfl qz0_ 27 (#[.slice none 0 0,.int .i64 0,.string (⟨#[]⟩:ByteArray),.int .i64 0]) (Inv.blk0 (HI.out.swap)) (by kernel_rfl) (by rfl) qz12_ ?_;replace HI:=am_ (Inv.put0 (HI.out.swap) (#[.slice none 0 0,.int .i64 0,.string (⟨#[]⟩:ByteArray),.int .i64 0]));generalize World.setRow _ g12 (#[.slice none 0 0,.int .i64 0,.string (⟨#[]⟩:ByteArray),.int .i64 0])=w56 at HI ⊢)))
       refine bodyPost_ret (zbp rfl _ _ g11 g12 34 27 #[.int .i64 0,.int .i64 0] #[.slice none 0 0,.int .i64 0,.string (⟨#[]⟩:ByteArray),.int .i64 0] (0,0) (0,0) _ _ rfl (HI.out.get 1 rfl) hu34 rfl (by kernel_rfl) rfl (HI.out.get 0 rfl) hu27 rfl (by kernel_rfl)) rfl ?_
       exact⟨_,_,rfl,Kd.R_nil _ _ _ _ _,Kd.R_nil _ _ _ _ _,HI.out.below⟩
      | true=>
       rw [if_neg (by decide)] at h
       replace h:=Option.bind_eq_some_iff.1 h
       obtain⟨t,hlf_,h⟩:=h
       have HLF:=am_ hlf_
       clear hlf_
       by_cases ct:t<6
       ·
        rw [if_pos ct] at h
        have f2:decide (t<6)=true:=decide_eq_true ct
        clear ct
        simp only [Option.some.injEq,Prod.mk.injEq] at h
        obtain⟨rfl,rfl,rfl,rfl,rfl,rfl,rfl,rfl⟩:=h
        go_enter Try.func30,Try.ntmps30
        go_wp2_with (first|((with_reducible refine zad (N:=6) rfl ?_);refine zae rfl (N:=6) rfl (cs:=#[.int .i64 c0,.int .i64 c1]) (t:=34) bx_ ?_;intro g6 hg w6_ hbox hb;replace HI:=am_ ((HI.out).box hg hbox hb);clear hb hbox hg)|((with_reducible refine zad (N:=9) rfl ?_);refine zae rfl (N:=9) rfl (cs:=#[.slice A4 q0.length c4,.int .i64 q1,.string q2,.int .i64 q3]) (t:=27) bx_ ?_;intro g9 hg w9_ hbox hb;replace HI:=am_ ((HI.out).box hg hbox hb);clear hb hbox hg)|((with_reducible refine zad (N:=11) rfl ?_);refine zae rfl (N:=11) rfl (cs:=#[.int .i64 0,.int .i64 0]) (t:=34) bx_ ?_;intro g11 hg w11_ hbox hb;replace HI:=am_ ((HI.out).box hg hbox hb);clear hb hbox hg)|((with_reducible refine zad (N:=12) rfl ?_);refine zae rfl (N:=12) rfl (cs:=#[.slice none 0 0,.int .i64 0,.string (⟨#[]⟩:ByteArray),.int .i64 0]) (t:=27) bx_ ?_;intro g12 hg w12_ hbox hb;replace HI:=am_ ((HI.out).box hg hbox hb);clear hb hbox hg)|((with_reducible refine zad (N:=23) rfl ?_);go_must (refine wpList_load_row rfl 34 _ rfl g6 rfl 34 (#[.int .i64 c0,.int .i64 c1]) (0,0) _ ((HI.out.get 3 rfl)) hu34 rfl (by kernel_rfl) ?_))|(go_at_call 43;(refine(zcl.calls c0 c1 _ _ HEX.out).mono ?_);rintro e w24 ⟨rfl,hb⟩;replace HI:=am_ (HI.out.grow hb);clear hb;have h90:World.cell? _ ⟨g9,0,none⟩=some (.slice A4 q0.length c4):=(zaa (HI.out.get 2 rfl) 0).trans rfl;have h91:World.cell? _ ⟨g9,1,none⟩=some (.int .i64 q1):=(zaa (HI.out.get 2 rfl) 1).trans rfl;have h92:World.cell? _ ⟨g9,2,none⟩=some (.string q2):=(zaa (HI.out.get 2 rfl) 2).trans rfl;have h93:World.cell? _ ⟨g9,3,none⟩=some (.int .i64 q3):=(zaa (HI.out.get 2 rfl) 3).trans rfl)|(go_at_call 11;(refine(zcq.calls A4 c4 q0 q1 q2 q3 _ _ HI.out.now.1 HC4.out HSO.out).mono ?_);rintro e w28 ⟨rfl,hb⟩;replace HI:=am_ (HI.out.grow hb);clear hb)|(go_at_call 77;(refine(okR.con A2 cap2 l2 _ HI.out.now.2).mono ?_);rw [HCN.out];rintro e w33 ⟨rfl,hb⟩;replace HI:=am_ (HI.out.grow hb);clear hb)|(go_at_call 79;(refine(zbw.calls kind _ _ HDG.out).mono ?_);rintro e w37 ⟨rfl,⟨n37,rfl⟩⟩;replace HI:=am_ (HI.out.drewN n37);generalize World.drewN _ n37=wn37 at HI ⊢)|(go_at_call 44;(refine(zcn.calls vars 0 6 _ _ HIN.out).mono ?_);rintro e w41 ⟨rfl,⟨n41,rfl⟩⟩;replace HI:=am_ (HI.out.drewN n41);generalize World.drewN _ n41=wn41 at HI ⊢)|((with_reducible refine zad (N:=45) rfl ?_);go_must (refine wpList_load_row rfl 27 _ rfl g9 rfl 27 (#[.slice A4 q0.length c4,.int .i64 q1,.string q2,.int .i64 q3]) (0,0) _ ((HI.out.get 2 rfl)) hu27 rfl (by kernel_rfl) ?_))|(go_at_call 80;(refine(zc0.calls A4 c4 q0 q1 q2 q3 _ _ HI.out.now.1 HC4.out HLF.out).mono ?_);rintro e w46 ⟨rfl,hb⟩;replace HI:=am_ (HI.out.grow hb);clear hb)|((with_reducible refine zaq (p:=11) (v:=(.tmp 55)) (t:=34) rfl ?_);go_must (refine wpList_store_row rfl 34 _ _ rfl g11 (#[.int .i64 0,.int .i64 0]) rfl qz0_ 34 (#[.int .i64 0,.int .i64 0]) (Inv.blk0 (HI.out.swap)) (by kernel_rfl) (by rfl) qz12_ ?_;replace HI:=am_ (Inv.put0 (HI.out.swap) (#[.int .i64 0,.int .i64 0]));generalize World.setRow _ g11 (#[.int .i64 0,.int .i64 0])=w55 at HI ⊢))|((with_reducible refine zaq (p:=12) (v:=(.tmp 56)) (t:=27) rfl ?_);go_must (refine wpList_store_row rfl 27 _ _ rfl g12 (#[.slice none 0 0,.int .i64 0,.string (⟨#[]⟩:ByteArray),.int .i64 0]) rfl qz0_ 27 (#[.slice none 0 0,.int .i64 0,.string (⟨#[]⟩:ByteArray),.int .i64 0]) (Inv.blk0 (HI.out.swap)) (by kernel_rfl) (by rfl) qz12_ ?_;replace HI:=am_ (Inv.put0 (HI.out.swap) (#[.slice none 0 0,.int .i64 0,.string (⟨#[]⟩:ByteArray),.int .i64 0]));generalize World.setRow _ g12 (#[.slice none 0 0,.int .i64 0,.string (⟨#[]⟩:ByteArray),.int .i64 0])=w56 at HI ⊢)))
        refine bodyPost_ret (zbp rfl _ _ g11 g12 34 27 #[.int .i64 0,.int .i64 0] #[.slice none 0 0,.int .i64 0,.string (⟨#[]⟩:ByteArray),.int .i64 0] (0,0) (0,0) _ _ rfl (HI.out.get 1 rfl) hu34 rfl (by kernel_rfl) rfl (HI.out.get 0 rfl) hu27 rfl (by kernel_rfl)) rfl ?_
        exact⟨_,_,rfl,Kd.R_nil _ _ _ _ _,Kd.R_nil _ _ _ _ _,HI.out.below⟩
       ·
        rw [if_neg ct] at h
        have f2:decide (t<6)=false:=decide_eq_false ct
        clear ct
        by_cases cl:(l2.length:Int)=vars
        ·
         rw [if_pos cl] at h
         have f3:=eq_true (cl)
         have f3b:((l2.length:Int) == vars)=true:=beq_iff_eq.mpr cl
         have f3c:((l2.length:Int) != vars)=false:=bne_eq_false_iff_eq.mpr cl
         clear cl
         replace h:=Option.bind_eq_some_iff.1 h
         obtain⟨⟨s0,s1,s2,s3⟩,hcp_,h⟩:=h
         have HCP:=am_ hcp_
         clear hcp_
         replace h:=Option.bind_eq_some_iff.1 h
         obtain⟨⟨v1,v2,v3,v4,v5,v6,v7⟩,hvf_,h⟩:=h
         have HVF:=am_ (show vs_ k kind s0 l2 c0 c1 s1 s2 s3 []=some (v1,v2,v3,v4,v5,v6,v7) from hvf_)
         clear hvf_
         by_cases cv:v4=0
         ·
          rw [if_pos (show (v1,v2,v3,v4,v5,v6,v7).2.2.2.1=0 from cv)] at h
          subst cv
          simp only [Option.some.injEq,Prod.mk.injEq] at h
          obtain⟨rfl,rfl,rfl,rfl,rfl,rfl,rfl,rfl⟩:=h
          go_enter Try.func30,Try.ntmps30
          go_wp2_with (first|((with_reducible refine zad (N:=6) rfl ?_);refine zae rfl (N:=6) rfl (cs:=#[.int .i64 c0,.int .i64 c1]) (t:=34) bx_ ?_;intro g6 hg w6_ hbox hb;replace HI:=am_ ((HI.out).box hg hbox hb);clear hb hbox hg)|((with_reducible refine zad (N:=9) rfl ?_);refine zae rfl (N:=9) rfl (cs:=#[.slice A4 q0.length c4,.int .i64 q1,.string q2,.int .i64 q3]) (t:=27) bx_ ?_;intro g9 hg w9_ hbox hb;replace HI:=am_ ((HI.out).box hg hbox hb);clear hb hbox hg)|((with_reducible refine zad (N:=11) rfl ?_);refine zae rfl (N:=11) rfl (cs:=#[.int .i64 0,.int .i64 0]) (t:=34) bx_ ?_;intro g11 hg w11_ hbox hb;replace HI:=am_ ((HI.out).box hg hbox hb);clear hb hbox hg)|((with_reducible refine zad (N:=12) rfl ?_);refine zae rfl (N:=12) rfl (cs:=#[.slice none 0 0,.int .i64 0,.string (⟨#[]⟩:ByteArray),.int .i64 0]) (t:=27) bx_ ?_;intro g12 hg w12_ hbox hb;replace HI:=am_ ((HI.out).box hg hbox hb);clear hb hbox hg)|((with_reducible refine zad (N:=23) rfl ?_);go_must (refine wpList_load_row rfl 34 _ rfl g6 rfl 34 (#[.int .i64 c0,.int .i64 c1]) (0,0) _ ((HI.out.get 3 rfl)) hu34 rfl (by kernel_rfl) ?_))|(go_at_call 43;(refine(zcl.calls c0 c1 _ _ HEX.out).mono ?_);rintro e w24 ⟨rfl,hb⟩;replace HI:=am_ (HI.out.grow hb);clear hb;have h90:World.cell? _ ⟨g9,0,none⟩=some (.slice A4 q0.length c4):=(zaa (HI.out.get 2 rfl) 0).trans rfl;have h91:World.cell? _ ⟨g9,1,none⟩=some (.int .i64 q1):=(zaa (HI.out.get 2 rfl) 1).trans rfl;have h92:World.cell? _ ⟨g9,2,none⟩=some (.string q2):=(zaa (HI.out.get 2 rfl) 2).trans rfl;have h93:World.cell? _ ⟨g9,3,none⟩=some (.int .i64 q3):=(zaa (HI.out.get 2 rfl) 3).trans rfl)|(go_at_call 11;(refine(zcq.calls A4 c4 q0 q1 q2 q3 _ _ HI.out.now.1 HC4.out HSO.out).mono ?_);rintro e w28 ⟨rfl,hb⟩;replace HI:=am_ (HI.out.grow hb);clear hb)|(go_at_call 77;(refine(okR.con A2 cap2 l2 _ HI.out.now.2).mono ?_);rw [HCN.out];rintro e w33 ⟨rfl,hb⟩;replace HI:=am_ (HI.out.grow hb);clear hb)|(go_at_call 79;(refine(zbw.calls kind _ _ HDG.out).mono ?_);rintro e w37 ⟨rfl,⟨n37,rfl⟩⟩;replace HI:=am_ (HI.out.drewN n37);generalize World.drewN _ n37=wn37 at HI ⊢)|(go_at_call 44;(refine(zcn.calls vars 0 6 _ _ HIN.out).mono ?_);rintro e w41 ⟨rfl,⟨n41,rfl⟩⟩;replace HI:=am_ (HI.out.drewN n41);generalize World.drewN _ n41=wn41 at HI ⊢)|((with_reducible refine zad (N:=45) rfl ?_);go_must (refine wpList_load_row rfl 27 _ rfl g9 rfl 27 (#[.slice A4 q0.length c4,.int .i64 q1,.string q2,.int .i64 q3]) (0,0) _ ((HI.out.get 2 rfl)) hu27 rfl (by kernel_rfl) ?_))|(go_at_call 80;(refine(zc0.calls A4 c4 q0 q1 q2 q3 _ _ HI.out.now.1 HC4.out HLF.out).mono ?_);rintro e w46 ⟨rfl,hb⟩;replace HI:=am_ (HI.out.grow hb);clear hb)|((with_reducible refine zad (N:=58) rfl ?_);go_must (refine wpList_load_row rfl 27 _ rfl g9 rfl 27 (#[.slice A4 q0.length c4,.int .i64 q1,.string q2,.int .i64 q3]) (0,0) _ ((HI.out.get 2 rfl)) hu27 rfl (by kernel_rfl) ?_))|(go_at_call 48;(refine(zda.calls A4 c4 q0 q1 q2 q3 s0 s1 s2 s3 _ HI.out.now.1 HC4.out HCP.out).mono ?_);rintro e w59 ⟨v0,rfl,hR59,hb59⟩;obtain⟨Ao,co,eo⟩:=Kd.zb0 hR59;subst eo;replace HI:=am_ (HI.out.zdj hb59 hR59);have HR59:=am_ (Kd.R_reads' hR59).2.2;have HJ:=am_ (Inv.start w59 (fun w2=>Kd.C k34 w2 Ao s0.length s0) (fun w' hb=>Kd.zbs HR59.out hb));clear hR59 hb59)|((with_reducible refine zad (N:=15) rfl ?_);refine zae rfl (N:=15) rfl (cs:=#[.slice none 0 0,.int .i64 0,.string (⟨#[]⟩:ByteArray),.int .i64 0]) (t:=27) bx_ ?_;intro go hg wo hbox hb;replace HI:=am_ ((HI.out).box hg hbox hb);have HJ_:=am_ (HJ.out.box hg hbox hb);clear HJ;have HJ:=HJ_;clear HJ_;clear hb hbox hg)|((with_reducible refine zaq (p:=15) (v:=(.tmp 59)) (t:=27) rfl ?_);go_must (refine wpList_store_row rfl 27 _ _ rfl go (#[.slice Ao s0.length co,.int .i64 s1,.string s2,.int .i64 s3]) rfl qz0_ 27 (#[.slice none 0 0,.int .i64 0,.string (⟨#[]⟩:ByteArray),.int .i64 0]) (Inv.blk0 (HI.out)) (by kernel_rfl) (by rfl) qz12_ ?_;replace HI:=am_ (Inv.put0 (HI.out) (#[.slice Ao s0.length co,.int .i64 s1,.string s2,.int .i64 s3]));have HJ_:=am_ (Inv.put0 (HJ.out) (#[.slice Ao s0.length co,.int .i64 s1,.string s2,.int .i64 s3]));clear HJ;have HJ:=HJ_;clear HJ_;generalize World.setRow _ go (#[.slice Ao s0.length co,.int .i64 s1,.string s2,.int .i64 s3])=w15 at HI HJ ⊢))|((with_reducible refine zad (N:=62) rfl ?_);go_must (refine wpList_load_row rfl 34 _ rfl g6 rfl 34 (#[.int .i64 c0,.int .i64 c1]) (0,0) _ ((HI.out.get 5 rfl)) hu34 rfl (by kernel_rfl) ?_))|(go_at_call 81;(refine(zgu.calls k go s0 s1 s2 s3 kind c0 c1 A2 cap2 l2 v1 v2 v3 0 v5 v6 v7 {w59 with drawn:=codeA Ao co} w15 ⟨Ao,co,HJ.out.blk0,⟨HJ.out.ge0,rfl⟩,HR59.out⟩ ⟨HJ.out.below.os,HJ.out.below.tape,HJ.out.below.output,HJ.out.below.size,HJ.out.below.block⟩ (fun W_ hk=>(Inv.zhy HI.out hk).2) HC2.out HVF.out).mono ?_);rintro e wd ⟨vp,rfl,hRp,⟨Aq_,cq_,hbq,⟨_,hdq⟩,_⟩,hBq,hkq⟩;obtain⟨e1,e2⟩:=zhq hdq;subst e1 e2;replace HI:=am_ (Inv.zmo (wb:={w59 with drawn:=codeA Ao co}) HI.out ⟨HJ.out.below.os,HJ.out.below.tape,HJ.out.below.output,HJ.out.below.size,HJ.out.below.block⟩ hBq hkq hbq hRp);clear HJ hbq hdq hBq hkq hRp)|((with_reducible refine zad (N:=17) rfl ?_);refine zae rfl (N:=17) rfl (cs:=#[.int .i64 0,.int .i64 0]) (t:=34) bx_ ?_;intro g17 hg w17_ hbox hb;replace HI:=am_ ((HI.out).box hg hbox hb);clear hb hbox hg)|((with_reducible refine zaq (p:=17) (v:=(.tmp 66)) (t:=34) rfl ?_);go_must (refine wpList_store_row rfl 34 _ _ rfl g17 (#[.int .i64 v2,.int .i64 v3]) rfl (by first|rfl|(go_simp;done)|(go_simp;rfl)) 34 (#[.int .i64 0,.int .i64 0]) (Inv.blk0 (HI.out)) (zby v2 v3) (zeo v2 v3) (zd8 v2 v3) ?_;replace HI:=am_ (Inv.put0 (HI.out) (#[.int .i64 v2,.int .i64 v3]));generalize World.setRow _ g17 (#[.int .i64 v2,.int .i64 v3])=w66 at HI ⊢)))
          have HI_:=am_ ((HI.out.subL (L':=[blk g17 34 #[.int .i64 v2,.int .i64 v3],row k34 34 w.heap.size vp v1 _,blk go 27 #[.slice Ao s0.length co,.int .i64 v5,.string v6,.int .i64 v7],row k34 34 w.heap.size (.slice Ao s0.length co) s0 _,blk g12 27 #[.slice none 0 0,.int .i64 0,.string (⟨#[]⟩:ByteArray),.int .i64 0],blk g11 34 #[.int .i64 0,.int .i64 0]]) qz34_).perm (perm_six _ _ _ _ _ _))
          clear HI
          have HI:=HI_
          clear HI_
          refine zcb (n:=7) (S:=fun w'=>w'.cell? ⟨g17,0,none⟩=some (.int .i64 v2)∧w'.cell? ⟨g17,1,none⟩=some (.int .i64 v3)∧w'.cell? ⟨go,0,none⟩=some (.slice Ao s0.length co)∧w'.cell? ⟨go,1,none⟩=some (.int .i64 v5)∧w'.cell? ⟨go,2,none⟩=some (.string v6)∧w'.cell? ⟨go,3,none⟩=some (.int .i64 v7)) (ds:=[5]) (bs_ 7 0) (by kernel_rfl) rfl rfl ⟨(zaa ((HI.out.drew).get 2 rfl) 0).trans rfl,(zaa ((HI.out.drew).get 2 rfl) 1).trans rfl,(zaa ((HI.out.drew).get 4 rfl) 0).trans rfl,(zaa ((HI.out.drew).get 4 rfl) 1).trans rfl,(zaa ((HI.out.drew).get 4 rfl) 2).trans rfl,(zaa ((HI.out.drew).get 4 rfl) 3).trans rfl⟩ (fun hHeld=>?_)
          replace HI:=am_ (HI.out.drew)
          generalize World.drew _=wd0 at HI hHeld ⊢
          refine pu_ 0 73 (bs_ 7 1) ?_
          refine take_ (i:=1) (N:=some 74) (v:=?_) (a':=?_) (bs_ 7 3) rfl rfl (by kernel_rfl) (fun _ _ _ h=>h) (Or.inl ⟨(by rfl),?_⟩) hHeld ?_ ?_
          rotate_left
          ·
           rintro w' ⟨s_0,s_1,s_2,s_3,s_4,s_5⟩
           go_simp
           with_reducible rfl
          rotate_left
          ·
           exact ap_
          refine take_ (i:=2) (N:=some 75) (v:=?_) (a':=?_) (bs_ 7 7) rfl rfl (by kernel_rfl) (fun _ _ _ h=>h) (Or.inl ⟨(by rfl),?_⟩) hHeld ?_ ?_
          rotate_left
          ·
           rintro w' ⟨s_0,s_1,s_2,s_3,s_4,s_5⟩
           go_simp
           with_reducible rfl
          rotate_left
          ·
           exact ap_
          refine pu_ 3 10 (bs_ 7 15) ?_
          refine one_ (i:=4) (N:=none) (bs_ 7 31) rfl rfl (by kernel_rfl) (by decide) (fun K hK=>?_)
          rw [if_pos (by rfl)]
          refine wp_store_row 34 _ _ rfl g11 (#[.int .i64 v2,.int .i64 v3]) rfl qz0_ 34 (#[.int .i64 0,.int .i64 0]) (Inv.blk0 (HI.out)) (zby v2 v3) (zeo v2 v3) (zd8 v2 v3) ?_
          replace HI:=am_ (Inv.put0 (HI.out) (#[.int .i64 v2,.int .i64 v3]))
          generalize World.setRow _ g11 (#[.int .i64 v2,.int .i64 v3])=w12 at HI ⊢
          refine hK.out _ _ ⟨(zaa ((HI.out).get 2 rfl) 0).trans rfl,(zaa ((HI.out).get 2 rfl) 1).trans rfl,(zaa ((HI.out).get 4 rfl) 0).trans rfl,(zaa ((HI.out).get 4 rfl) 1).trans rfl,(zaa ((HI.out).get 4 rfl) 2).trans rfl,(zaa ((HI.out).get 4 rfl) 3).trans rfl⟩ (fun hHeld=>?_)
          clear hK K
          refine last_ (i:=5) (N:=none) (bs_ 7 63) rfl rfl (by kernel_rfl) (by decide) (fun K hK=>?_)
          rw [if_pos (by rfl)]
          refine wp_store_row 27 _ _ rfl g12 (#[.slice Ao s0.length co,.int .i64 v5,.string v6,.int .i64 v7]) rfl qz0_ 27 (#[.slice none 0 0,.int .i64 0,.string (⟨#[]⟩:ByteArray),.int .i64 0]) (Inv.blk0 (HI.out.swap)) (by kernel_rfl) rfl qz12_ ?_
          replace HI:=am_ (Inv.put0 (HI.out.swap) (#[.slice Ao s0.length co,.int .i64 v5,.string v6,.int .i64 v7]))
          generalize World.setRow _ g12 (#[.slice Ao s0.length co,.int .i64 v5,.string v6,.int .i64 v7])=w13 at HI ⊢
          refine hK.out _ _ ?_
          clear hK K
          refine pu_ 6 13 (bs_ 7 127) ?_
          refine done_ (by kernel_rfl) ?_
          try go_wp2
          refine bodyPost_ret (zbp rfl _ _ g11 g12 34 27 #[.int .i64 v2,.int .i64 v3] #[.slice Ao s0.length co,.int .i64 v5,.string v6,.int .i64 v7] (0,0) (0,0) _ _ rfl (HI.out.get 1 rfl) hu34 rfl (zby v2 v3) rfl (HI.out.get 0 rfl) hu27 rfl (by kernel_rfl)) rfl ?_
          have hp_:=HI.out.get 3 rfl
          have hs_:=HI.out.get 5 rfl
          have hd_:=HI.out.disj 3 5 (by decide) rfl rfl
          exact⟨vp,_,rfl,Kd.zbi hp_ (fun k hk e=>hd_ k hk (hs_.1 k e.symm)),Kd.zbi hs_ (fun k hk e=>hd_ k (hp_.1 k e.symm) hk),HI.out.below⟩
         ·
          rw [if_neg (show ¬(v1,v2,v3,v4,v5,v6,v7).2.2.2.1=0 from cv)] at h
          simp only [Option.some.injEq,Prod.mk.injEq] at h
          obtain⟨rfl,rfl,rfl,rfl,rfl,rfl,rfl,rfl⟩:=h
          have f5:=eq_false (cv)
          have f6:(v4 == 0)=false:=beq_eq_false_iff_ne.mpr cv
          have f7:(v4 != 0)=true:=bne_iff_ne.mpr cv
          clear cv
          go_enter Try.func30,Try.ntmps30
          go_wp2_with (first|((with_reducible refine zad (N:=6) rfl ?_);refine zae rfl (N:=6) rfl (cs:=#[.int .i64 c0,.int .i64 c1]) (t:=34) bx_ ?_;intro g6 hg w6_ hbox hb;replace HI:=am_ ((HI.out).box hg hbox hb);clear hb hbox hg)|((with_reducible refine zad (N:=9) rfl ?_);refine zae rfl (N:=9) rfl (cs:=#[.slice A4 q0.length c4,.int .i64 q1,.string q2,.int .i64 q3]) (t:=27) bx_ ?_;intro g9 hg w9_ hbox hb;replace HI:=am_ ((HI.out).box hg hbox hb);clear hb hbox hg)|((with_reducible refine zad (N:=11) rfl ?_);refine zae rfl (N:=11) rfl (cs:=#[.int .i64 0,.int .i64 0]) (t:=34) bx_ ?_;intro g11 hg w11_ hbox hb;replace HI:=am_ ((HI.out).box hg hbox hb);clear hb hbox hg)|((with_reducible refine zad (N:=12) rfl ?_);refine zae rfl (N:=12) rfl (cs:=#[.slice none 0 0,.int .i64 0,.string (⟨#[]⟩:ByteArray),.int .i64 0]) (t:=27) bx_ ?_;intro g12 hg w12_ hbox hb;replace HI:=am_ ((HI.out).box hg hbox hb);clear hb hbox hg)|((with_reducible refine zad (N:=23) rfl ?_);go_must (refine wpList_load_row rfl 34 _ rfl g6 rfl 34 (#[.int .i64 c0,.int .i64 c1]) (0,0) _ ((HI.out.get 3 rfl)) hu34 rfl (by kernel_rfl) ?_))|(go_at_call 43;(refine(zcl.calls c0 c1 _ _ HEX.out).mono ?_);rintro e w24 ⟨rfl,hb⟩;replace HI:=am_ (HI.out.grow hb);clear hb;have h90:World.cell? _ ⟨g9,0,none⟩=some (.slice A4 q0.length c4):=(zaa (HI.out.get 2 rfl) 0).trans rfl;have h91:World.cell? _ ⟨g9,1,none⟩=some (.int .i64 q1):=(zaa (HI.out.get 2 rfl) 1).trans rfl;have h92:World.cell? _ ⟨g9,2,none⟩=some (.string q2):=(zaa (HI.out.get 2 rfl) 2).trans rfl;have h93:World.cell? _ ⟨g9,3,none⟩=some (.int .i64 q3):=(zaa (HI.out.get 2 rfl) 3).trans rfl)|(go_at_call 11;(refine(zcq.calls A4 c4 q0 q1 q2 q3 _ _ HI.out.now.1 HC4.out HSO.out).mono ?_);rintro e w28 ⟨rfl,hb⟩;replace HI:=am_ (HI.out.grow hb);clear hb)|(go_at_call 77;(refine(okR.con A2 cap2 l2 _ HI.out.now.2).mono ?_);rw [HCN.out];rintro e w33 ⟨rfl,hb⟩;replace HI:=am_ (HI.out.grow hb);clear hb)|(go_at_call 79;(refine(zbw.calls kind _ _ HDG.out).mono ?_);rintro e w37 ⟨rfl,⟨n37,rfl⟩⟩;replace HI:=am_ (HI.out.drewN n37);generalize World.drewN _ n37=wn37 at HI ⊢)|(go_at_call 44;(refine(zcn.calls vars 0 6 _ _ HIN.out).mono ?_);rintro e w41 ⟨rfl,⟨n41,rfl⟩⟩;replace HI:=am_ (HI.out.drewN n41);generalize World.drewN _ n41=wn41 at HI ⊢)|((with_reducible refine zad (N:=45) rfl ?_);go_must (refine wpList_load_row rfl 27 _ rfl g9 rfl 27 (#[.slice A4 q0.length c4,.int .i64 q1,.string q2,.int .i64 q3]) (0,0) _ ((HI.out.get 2 rfl)) hu27 rfl (by kernel_rfl) ?_))|(go_at_call 80;(refine(zc0.calls A4 c4 q0 q1 q2 q3 _ _ HI.out.now.1 HC4.out HLF.out).mono ?_);rintro e w46 ⟨rfl,hb⟩;replace HI:=am_ (HI.out.grow hb);clear hb)|((with_reducible refine zad (N:=58) rfl ?_);go_must (refine wpList_load_row rfl 27 _ rfl g9 rfl 27 (#[.slice A4 q0.length c4,.int .i64 q1,.string q2,.int .i64 q3]) (0,0) _ ((HI.out.get 2 rfl)) hu27 rfl (by kernel_rfl) ?_))|(go_at_call 48;(refine(zda.calls A4 c4 q0 q1 q2 q3 s0 s1 s2 s3 _ HI.out.now.1 HC4.out HCP.out).mono ?_);rintro e w59 ⟨v0,rfl,hR59,hb59⟩;obtain⟨Ao,co,eo⟩:=Kd.zb0 hR59;subst eo;replace HI:=am_ (HI.out.zdj hb59 hR59);have HR59:=am_ (Kd.R_reads' hR59).2.2;have HJ:=am_ (Inv.start w59 (fun w2=>Kd.C k34 w2 Ao s0.length s0) (fun w' hb=>Kd.zbs HR59.out hb));clear hR59 hb59)|((with_reducible refine zad (N:=15) rfl ?_);refine zae rfl (N:=15) rfl (cs:=#[.slice none 0 0,.int .i64 0,.string (⟨#[]⟩:ByteArray),.int .i64 0]) (t:=27) bx_ ?_;intro go hg wo hbox hb;replace HI:=am_ ((HI.out).box hg hbox hb);have HJ_:=am_ (HJ.out.box hg hbox hb);clear HJ;have HJ:=HJ_;clear HJ_;clear hb hbox hg)|((with_reducible refine zaq (p:=15) (v:=(.tmp 59)) (t:=27) rfl ?_);go_must (refine wpList_store_row rfl 27 _ _ rfl go (#[.slice Ao s0.length co,.int .i64 s1,.string s2,.int .i64 s3]) rfl qz0_ 27 (#[.slice none 0 0,.int .i64 0,.string (⟨#[]⟩:ByteArray),.int .i64 0]) (Inv.blk0 (HI.out)) (by kernel_rfl) (by rfl) qz12_ ?_;replace HI:=am_ (Inv.put0 (HI.out) (#[.slice Ao s0.length co,.int .i64 s1,.string s2,.int .i64 s3]));have HJ_:=am_ (Inv.put0 (HJ.out) (#[.slice Ao s0.length co,.int .i64 s1,.string s2,.int .i64 s3]));clear HJ;have HJ:=HJ_;clear HJ_;generalize World.setRow _ go (#[.slice Ao s0.length co,.int .i64 s1,.string s2,.int .i64 s3])=w15 at HI HJ ⊢))|((with_reducible refine zad (N:=62) rfl ?_);go_must (refine wpList_load_row rfl 34 _ rfl g6 rfl 34 (#[.int .i64 c0,.int .i64 c1]) (0,0) _ ((HI.out.get 5 rfl)) hu34 rfl (by kernel_rfl) ?_))|(go_at_call 81;(refine(zgu.calls k go s0 s1 s2 s3 kind c0 c1 A2 cap2 l2 v1 v2 v3 v4 v5 v6 v7 {w59 with drawn:=codeA Ao co} w15 ⟨Ao,co,HJ.out.blk0,⟨HJ.out.ge0,rfl⟩,HR59.out⟩ ⟨HJ.out.below.os,HJ.out.below.tape,HJ.out.below.output,HJ.out.below.size,HJ.out.below.block⟩ (fun W_ hk=>(Inv.zhy HI.out hk).2) HC2.out HVF.out).mono ?_);rintro e wd ⟨vp,rfl,hRp,⟨Aq_,cq_,hbq,⟨_,hdq⟩,_⟩,hBq,hkq⟩;obtain⟨e1,e2⟩:=zhq hdq;subst e1 e2;replace HI:=am_ (Inv.zmo (wb:={w59 with drawn:=codeA Ao co}) HI.out ⟨HJ.out.below.os,HJ.out.below.tape,HJ.out.below.output,HJ.out.below.size,HJ.out.below.block⟩ hBq hkq hbq hRp);clear HJ hbq hdq hBq hkq hRp)|((with_reducible refine zad (N:=17) rfl ?_);refine zae rfl (N:=17) rfl (cs:=#[.int .i64 0,.int .i64 0]) (t:=34) bx_ ?_;intro g17 hg w17_ hbox hb;replace HI:=am_ ((HI.out).box hg hbox hb);clear hb hbox hg)|((with_reducible refine zaq (p:=17) (v:=(.tmp 66)) (t:=34) rfl ?_);go_must (refine wpList_store_row rfl 34 _ _ rfl g17 (#[.int .i64 v2,.int .i64 v3]) rfl (by first|rfl|(go_simp;done)|(go_simp;rfl)) 34 (#[.int .i64 0,.int .i64 0]) (Inv.blk0 (HI.out)) (zby v2 v3) (zeo v2 v3) (zd8 v2 v3) ?_;replace HI:=am_ (Inv.put0 (HI.out) (#[.int .i64 v2,.int .i64 v3]));generalize World.setRow _ g17 (#[.int .i64 v2,.int .i64 v3])=w66 at HI ⊢))|((with_reducible refine zaq (p:=11) (v:=(.tmp 70)) (t:=34) rfl ?_);go_must (refine wpList_store_row rfl 34 _ _ rfl g11 (#[.int .i64 0,.int .i64 0]) rfl qz0_ 34 (#[.int .i64 0,.int .i64 0]) (Inv.blk0 ((HI.out.subL (L':=[blk g12 27 #[.slice none 0 0,.int .i64 0,.string (⟨#[]⟩:ByteArray),.int .i64 0],blk g11 34 #[.int .i64 0,.int .i64 0]]) qz34_).swap)) (by kernel_rfl) (by rfl) qz12_ ?_;replace HI:=am_ (Inv.put0 ((HI.out.subL (L':=[blk g12 27 #[.slice none 0 0,.int .i64 0,.string (⟨#[]⟩:ByteArray),.int .i64 0],blk g11 34 #[.int .i64 0,.int .i64 0]]) qz34_).swap) (#[.int .i64 0,.int .i64 0]));generalize World.setRow _ g11 (#[.int .i64 0,.int .i64 0])=w70 at HI ⊢))|((with_reducible refine zaq (p:=12) (v:=(.tmp 71)) (t:=27) rfl ?_);go_must (refine wpList_store_row rfl 27 _ _ rfl g12 (#[.slice none 0 0,.int .i64 0,.string (⟨#[]⟩:ByteArray),.int .i64 0]) rfl qz0_ 27 (#[.slice none 0 0,.int .i64 0,.string (⟨#[]⟩:ByteArray),.int .i64 0]) (Inv.blk0 (HI.out.swap)) (by kernel_rfl) (by rfl) qz12_ ?_;replace HI:=am_ (Inv.put0 (HI.out.swap) (#[.slice none 0 0,.int .i64 0,.string (⟨#[]⟩:ByteArray),.int .i64 0]));generalize World.setRow _ g12 (#[.slice none 0 0,.int .i64 0,.string (⟨#[]⟩:ByteArray),.int .i64 0])=w71 at HI ⊢)))
          refine bodyPost_ret (zbp rfl _ _ g11 g12 34 27 #[.int .i64 0,.int .i64 0] #[.slice none 0 0,.int .i64 0,.string (⟨#[]⟩:ByteArray),.int .i64 0] (0,0) (0,0) _ _ rfl (HI.out.get 1 rfl) hu34 rfl (by kernel_rfl) rfl (HI.out.get 0 rfl) hu27 rfl (by kernel_rfl)) rfl ?_
          exact⟨_,_,rfl,Kd.R_nil _ _ _ _ _,Kd.R_nil _ _ _ _ _,HI.out.below⟩
        ·
         rw [if_neg cl] at h
         have f3:=eq_false (cl)
         have f3b:((l2.length:Int) == vars)=false:=beq_eq_false_iff_ne.mpr cl
         have f3c:((l2.length:Int) != vars)=true:=bne_iff_ne.mpr cl
         clear cl
         simp only [Option.some.injEq,Prod.mk.injEq] at h
         obtain⟨rfl,rfl,rfl,rfl,rfl,rfl,rfl,rfl⟩:=h
         go_enter Try.func30,Try.ntmps30
         go_wp2_with (first|((with_reducible refine zad (N:=6) rfl ?_);refine zae rfl (N:=6) rfl (cs:=#[.int .i64 c0,.int .i64 c1]) (t:=34) bx_ ?_;intro g6 hg w6_ hbox hb;replace HI:=am_ ((HI.out).box hg hbox hb);clear hb hbox hg)|((with_reducible refine zad (N:=9) rfl ?_);refine zae rfl (N:=9) rfl (cs:=#[.slice A4 q0.length c4,.int .i64 q1,.string q2,.int .i64 q3]) (t:=27) bx_ ?_;intro g9 hg w9_ hbox hb;replace HI:=am_ ((HI.out).box hg hbox hb);clear hb hbox hg)|((with_reducible refine zad (N:=11) rfl ?_);refine zae rfl (N:=11) rfl (cs:=#[.int .i64 0,.int .i64 0]) (t:=34) bx_ ?_;intro g11 hg w11_ hbox hb;replace HI:=am_ ((HI.out).box hg hbox hb);clear hb hbox hg)|((with_reducible refine zad (N:=12) rfl ?_);refine zae rfl (N:=12) rfl (cs:=#[.slice none 0 0,.int .i64 0,.string (⟨#[]⟩:ByteArray),.int .i64 0]) (t:=27) bx_ ?_;intro g12 hg w12_ hbox hb;replace HI:=am_ ((HI.out).box hg hbox hb);clear hb hbox hg)|((with_reducible refine zad (N:=23) rfl ?_);go_must (refine wpList_load_row rfl 34 _ rfl g6 rfl 34 (#[.int .i64 c0,.int .i64 c1]) (0,0) _ ((HI.out.get 3 rfl)) hu34 rfl (by kernel_rfl) ?_))|(go_at_call 43;(refine(zcl.calls c0 c1 _ _ HEX.out).mono ?_);rintro e w24 ⟨rfl,hb⟩;replace HI:=am_ (HI.out.grow hb);clear hb;have h90:World.cell? _ ⟨g9,0,none⟩=some (.slice A4 q0.length c4):=(zaa (HI.out.get 2 rfl) 0).trans rfl;have h91:World.cell? _ ⟨g9,1,none⟩=some (.int .i64 q1):=(zaa (HI.out.get 2 rfl) 1).trans rfl;have h92:World.cell? _ ⟨g9,2,none⟩=some (.string q2):=(zaa (HI.out.get 2 rfl) 2).trans rfl;have h93:World.cell? _ ⟨g9,3,none⟩=some (.int .i64 q3):=(zaa (HI.out.get 2 rfl) 3).trans rfl)|(go_at_call 11;(refine(zcq.calls A4 c4 q0 q1 q2 q3 _ _ HI.out.now.1 HC4.out HSO.out).mono ?_);rintro e w28 ⟨rfl,hb⟩;replace HI:=am_ (HI.out.grow hb);clear hb)|(go_at_call 77;(refine(okR.con A2 cap2 l2 _ HI.out.now.2).mono ?_);rw [HCN.out];rintro e w33 ⟨rfl,hb⟩;replace HI:=am_ (HI.out.grow hb);clear hb)|(go_at_call 79;(refine(zbw.calls kind _ _ HDG.out).mono ?_);rintro e w37 ⟨rfl,⟨n37,rfl⟩⟩;replace HI:=am_ (HI.out.drewN n37);generalize World.drewN _ n37=wn37 at HI ⊢)|(go_at_call 44;(refine(zcn.calls vars 0 6 _ _ HIN.out).mono ?_);rintro e w41 ⟨rfl,⟨n41,rfl⟩⟩;replace HI:=am_ (HI.out.drewN n41);generalize World.drewN _ n41=wn41 at HI ⊢)|((with_reducible refine zad (N:=45) rfl ?_);go_must (refine wpList_load_row rfl 27 _ rfl g9 rfl 27 (#[.slice A4 q0.length c4,.int .i64 q1,.string q2,.int .i64 q3]) (0,0) _ ((HI.out.get 2 rfl)) hu27 rfl (by kernel_rfl) ?_))|(go_at_call 80;(refine(zc0.calls A4 c4 q0 q1 q2 q3 _ _ HI.out.now.1 HC4.out HLF.out).mono ?_);rintro e w46 ⟨rfl,hb⟩;replace HI:=am_ (HI.out.grow hb);clear hb)|((with_reducible refine zaq (p:=11) (v:=(.tmp 55)) (t:=34) rfl ?_);go_must (refine wpList_store_row rfl 34 _ _ rfl g11 (#[.int .i64 0,.int .i64 0]) rfl qz0_ 34 (#[.int .i64 0,.int .i64 0]) (Inv.blk0 (HI.out.swap)) (by kernel_rfl) (by rfl) qz12_ ?_;replace HI:=am_ (Inv.put0 (HI.out.swap) (#[.int .i64 0,.int .i64 0]));generalize World.setRow _ g11 (#[.int .i64 0,.int .i64 0])=w55 at HI ⊢))|((with_reducible refine zaq (p:=12) (v:=(.tmp 56)) (t:=27) rfl ?_);go_must (refine wpList_store_row rfl 27 _ _ rfl g12 (#[.slice none 0 0,.int .i64 0,.string (⟨#[]⟩:ByteArray),.int .i64 0]) rfl qz0_ 27 (#[.slice none 0 0,.int .i64 0,.string (⟨#[]⟩:ByteArray),.int .i64 0]) (Inv.blk0 (HI.out.swap)) (by kernel_rfl) (by rfl) qz12_ ?_;replace HI:=am_ (Inv.put0 (HI.out.swap) (#[.slice none 0 0,.int .i64 0,.string (⟨#[]⟩:ByteArray),.int .i64 0]));generalize World.setRow _ g12 (#[.slice none 0 0,.int .i64 0,.string (⟨#[]⟩:ByteArray),.int .i64 0])=w56 at HI ⊢)))
         refine bodyPost_ret (zbp rfl _ _ g11 g12 34 27 #[.int .i64 0,.int .i64 0] #[.slice none 0 0,.int .i64 0,.string (⟨#[]⟩:ByteArray),.int .i64 0] (0,0) (0,0) _ _ rfl (HI.out.get 1 rfl) hu34 rfl (by kernel_rfl) rfl (HI.out.get 0 rfl) hu27 rfl (by kernel_rfl)) rfl ?_
         exact⟨_,_,rfl,Kd.R_nil _ _ _ _ _,Kd.R_nil _ _ _ _ _,HI.out.below⟩
end Go.Proofs.Ytgookagndlfehaa.PT
end
section
namespace Go.Proofs.Ytgookagndlfehaa.PT
open Go.RowKit Go.Proofs.YtgookagndlfehaaW.PrintWords Go.Proofs.YtgookagndlfehaaW.PrintLast Go.Proofs.YtgookagndlfehaaW.PrintMore
attribute [local go_sem] zex zev zfa ze8 zec zed zeu zew   -- for this text's walks alone
set_option linter.unusedVariables false
set_option linter.unusedSimpArgs false
open Go Go.RowKit
theorem rowR {α:Type} {d:Kd α} {e b:Nat} {v:Value} {xs:List α} {S:Nat→Prop} {W:World} (h:(row d e b v xs S).A W):d.R e W b S v xs:=h
theorem ownRow {α:Type} {d:Kd α} {e b:Nat} {v:Value} {xs:List α} {S P:Nat→Prop} {w0 w:World} {L:List Grp} {F:World→Prop} (h:Inv w0 P w (row d e b v xs S::L) F):∀ k,some k=v.ownBlock→(row d e b v xs S).S k:=fun k hk=>h.row0.1 k hk.symm
theorem gifA {c:Bool} {g:Grp} {W:World} (h:(gif c g).A W) (hc:c=true):g.A W:=h hc
theorem tagC {f:Nat→Nat} {W:World} {e b:Nat} {ok:Nat→Prop} {A:Option Addr} {n c:Nat} {L:List (List S34)} (h:(Kd.tag f (Kd.slice 34 k34)).R e W b ok (.slice A n c) L.zipIdx):Kd.C (Kd.slice 34 k34) W A L.length L∧L.length≤c:=by
 have h2:=Kd.R_reads' (Kd.S_R ⟨f,h⟩)
 exact⟨h2.2.2,(by have:=h2.1;have:=h2.2.1;omega)⟩
theorem zjt (k:Nat) {A:Option Addr} {n c e b:Nat} {ok:Nat→Prop} {l:List S34} (a r:Int) (w:World) (hR:Kd.R k34 e w b ok (.slice A n c) l) (h:zbo.f k l a=some r):Calls Try.prog 37 #[.slice A n c,.int .i64 a] w fun e w'=>e=.returned (.int .i64 r)∧zbr w w':=by
 obtain⟨rfl,hc,hC⟩:=Kd.R_reads' hR
 exact zbo.calls k A c l a r w hC hc h
theorem zh8 (k:Nat) {A:Option Addr} {n c e b:Nat} {ok:Nat→Prop} {l:List S34} (a1:Int) (a2:ByteArray) (a3 a r:Int) (w:World) (hR:Kd.R k34 e w b ok (.slice A n c) l) (h:zdm.f k l a1 a2 a3 a=some r):Calls Try.prog 38 #[.agg #[.slice A n c,.int .i64 a1,.string a2,.int .i64 a3],.int .i64 a] w fun e w'=>e=.returned (.int .i64 r)∧Below w.heap.size w w':=by
 obtain⟨rfl,hc,hC⟩:=Kd.R_reads' hR
 exact zdm.calls k A c l a1 a2 a3 a r w hC hc h
theorem ite_some {α:Type} {c:Prop} [Decidable c] {x:Option α} {r:α} (h:(if c then x else none)=some r):c∧x=some r:=by
 by_cases hc:c
 ·
  rw [if_pos hc] at h;exact⟨hc,h⟩
 ·
  rw [if_neg hc] at h;cases h
def zao.f (k:Nat) (kind d0 d1:Int) (l2:List (List S56)) (vars:Int) (m0:List S56) (m1:Int) (m2:ByteArray) (m3:Int):Option Bool:=
 (zbd.f k l2 1048576).bind fun t1=>if t1<0 then some true else(zel.f m0 m1 m2 m3 t1).bind fun t2=>if t2<0 then some true else
 (zea.f d0 d1).bind fun c=>(zbt.f k l2).bind fun L=>(zdh.f k m0 m1 m2 m3).bind fun q=>(zbq.f k kind c.1 c.2 L vars q.1 q.2.1 q.2.2.1 q.2.2.2).bind fun x=>(zbm.f k kind c.1 c.2 L vars q.1 q.2.1 q.2.2.1 q.2.2.2).bind fun g=>
 if zax.f k g.1 x.1=some true∧zdn.f g.2.1 g.2.2.1 x.2.1 x.2.2.1=some true∧zc1.f k g.2.2.2.1 g.2.2.2.2.1 g.2.2.2.2.2.1 g.2.2.2.2.2.2.1 x.2.2.2.1 x.2.2.2.2.1 x.2.2.2.2.2.1 x.2.2.2.2.2.2.1=some true∧g.2.2.2.2.2.2.2=x.2.2.2.2.2.2.2∧zbe.f k L L=some true∧zc1.f k q.1 q.2.1 q.2.2.1 q.2.2.2 q.1 q.2.1 q.2.2.1 q.2.2.2=some true then
  ((zcd.f k L 1).bind fun n1=>(zcy.f k q.1 q.2.1 q.2.2.1 q.2.2.2 n1).bind fun n2=>if n2.1<0 then none else(zbh.f k g.1 1).bind fun n3=>(zcy.f k g.2.2.2.1 g.2.2.2.2.1 g.2.2.2.2.2.1 g.2.2.2.2.2.2.1 n3.1).bind fun n4=>(zbo.f k n3.2 1).bind fun n5=>if n5<0 then none else(zdm.f k n4.2 g.2.2.2.2.1 g.2.2.2.2.2.1 g.2.2.2.2.2.2.1 n5).bind fun n6=>if n6<0 then none else if n6=n4.1 then some true else none) else none
def zao.T8:Bool × List (List Nat × List Nat):=(true,[([],[]),([],[]),([1],[1]),([],[]),([3,2],[3]),([],[]),([],[]),([6,4],[6]),([0,2,4,5,7,7],[0,2,4,5,7]),([8],[8]),([9],[9]),([9],[9]),([9],[9]),([9],[9]),([],[]),([],[]),([10,8,0,1,2,3,4,5,6,7,8,9,10,14,15],[10]),([14,11,16,0,1,2,3,4,5,6,7,8,9,10,11,14,15,16],[11,14]),([15,12,17,0,1,2,3,4,5,6,7,8,9,10,11,12,14,15,16,17],[12,15]),([13,18,0,1,2,3,4,5,6,7,8,9,10,11,12,13,14,15,16,17,18],[13])])
def zao.B8:List Nat:=[0,0,2,0,14,0,0,94,255,511,1023,1023,1023,1023,0,0,51199,118783,253951,524287]
theorem zao.tab8:rtab .any (opsOf Try.f6 8)=zao.T8:=by kernel_rfl
theorem zao.bits8:zc8 zao.T8.2 zao.B8=true:=by kernel_rfl
def zao.T11:Bool × List (List Nat × List Nat):=(true,[([],[]),([],[]),([1],[1]),([],[]),([],[]),([],[]),([0,2,3,4,5,2],[0,2,3,4,5]),([6],[6]),([7],[7]),([7],[7]),([7],[7]),([7],[7]),([],[]),([],[]),([8,6,0,1,2,3,4,5,6,7,8,12,13],[8]),([12,9,14,0,1,2,3,4,5,6,7,8,9,12,13,14],[9,12]),([13,10,15,0,1,2,3,4,5,6,7,8,9,10,12,13,14,15],[10,13]),([11,16,0,1,2,3,4,5,6,7,8,9,10,11,12,13,14,15,16],[11])])
def zao.B11:List Nat:=[0,0,2,0,0,0,63,127,255,255,255,255,0,0,12799,29695,63487,131071]
theorem zao.tab11:rtab .any (opsOf Try.f6 11)=zao.T11:=by kernel_rfl
theorem zao.bits11:zc8 zao.T11.2 zao.B11=true:=by kernel_rfl
def zao.T35:Bool × List (List Nat × List Nat):=(true,[([],[]),([],[]),([1],[1]),([],[]),([3,2],[3]),([],[]),([],[]),([6,4],[6]),([0,2,4,5,7,7],[0,2,4,5,7]),([8],[8]),([9],[9]),([9],[9]),([9],[9]),([9],[9]),([],[]),([],[]),([10,8,0,1,2,3,4,5,6,7,8,9,10,14,15],[10]),([14,11,16,0,1,2,3,4,5,6,7,8,9,10,11,14,15,16],[11,14]),([15,12,17,0,1,2,3,4,5,6,7,8,9,10,11,12,14,15,16,17],[12,15]),([13,18,0,1,2,3,4,5,6,7,8,9,10,11,12,13,14,15,16,17,18],[13])])
def zao.B35:List Nat:=[0,0,2,0,14,0,0,94,255,511,1023,1023,1023,1023,0,0,51199,118783,253951,524287]
theorem zao.tab35:rtab .any (opsOf Try.f6 35)=zao.T35:=by kernel_rfl
theorem zao.bits35:zc8 zao.T35.2 zao.B35=true:=by kernel_rfl
theorem zao.calls (k:Nat) (kind d0 d1:Int) (A2:Option Addr) (c2:Nat) (l2:List (List S56)) (vars:Int) (A4:Option Addr) (c4:Nat) (m0:List S56) (m1:Int) (m2:ByteArray) (m3:Int) (r:Bool) (w:World) (hr2:Kd.C (Kd.slice 56 k56) w A2 l2.length l2) (hc2:l2.length≤c2) (hr4:Kd.C k56 w A4 m0.length m0) (hc4:m0.length≤c4) (hr_:r=true) (h:zao.f k kind d0 d1 l2 vars m0 m1 m2 m3=some r) :
  Calls Try.prog 6 #[.int .i64 kind,.agg #[.int .i64 d0,.int .i64 d1],.slice A2 l2.length c2,.int .i64 vars,.agg #[.slice A4 m0.length c4,.int .i64 m1,.string m2,.int .i64 m3]] w fun e w'=>e=.returned (.bool r)∧Below w.heap.size w w':=by
 subst hr_
 have hu34:=Try.underlying34
 have hu27:=Try.underlying27
 have hu56:=Try.underlying56
 have hu59:=Try.underlying59
 have HC2:=am_ hc2
 have HC4:=am_ hc4
 have HI:=am_ (Inv.start w (fun w2=>Kd.C (Kd.slice 56 k56) w2 A2 l2.length l2∧Kd.C k56 w2 A4 m0.length m0) (fun w' hb=>⟨Kd.zbs hr2 hb,Kd.zbs hr4 hb⟩))
 clear hr2 hr4 hc2 hc4
 unfold zao.f at h
 replace h:=Option.bind_eq_some_iff.1 h
 obtain⟨t1,hz1_,h⟩:=h
 have HZ1:=am_ hz1_
 clear hz1_
 by_cases ct1:t1<0
 ·
  have f1_:decide (t1<0)=true:=decide_eq_true ct1
  clear ct1 h
  go_enter Try.func6,Try.ntmps6
  go_wp2_with (first|((with_reducible refine zad (N:=6) rfl ?_);refine zae rfl (N:=6) rfl (cs:=#[.int .i64 d0,.int .i64 d1]) (t:=56) bx_ ?_;intro g6 hg w6_ hbox hb;replace HI:=am_ ((HI.out).box hg hbox hb);clear hb hbox hg)|((with_reducible refine zad (N:=9) rfl ?_);refine zae rfl (N:=9) rfl (cs:=#[.slice A4 m0.length c4,.int .i64 m1,.string m2,.int .i64 m3]) (t:=59) bx_ ?_;intro g9 hg w9_ hbox hb;replace HI:=am_ ((HI.out).box hg hbox hb);clear hb hbox hg)|(go_at_call 24;(refine(zbd.calls k A2 c2 l2 1048576 t1 _ HI.out.now.1 HC2.out HZ1.out).mono ?_);rintro e w31 ⟨rfl,⟨n31,rfl⟩⟩;replace HI:=am_ (HI.out.drewN n31);generalize World.drewN _ n31=wn31 at HI ⊢))
  go_ret
  exact⟨rfl,HI.out.below⟩
 rw [if_neg ct1] at h
 have f1_:decide (t1<0)=false:=decide_eq_false ct1
 clear ct1
 replace h:=Option.bind_eq_some_iff.1 h
 obtain⟨t2,hz2_,h⟩:=h
 have HZ2:=am_ hz2_
 clear hz2_
 by_cases ct2:t2<0
 ·
  have f2_:decide (t2<0)=true:=decide_eq_true ct2
  clear ct2 h
  go_enter Try.func6,Try.ntmps6
  go_wp2_with (first|((with_reducible refine zad (N:=6) rfl ?_);refine zae rfl (N:=6) rfl (cs:=#[.int .i64 d0,.int .i64 d1]) (t:=56) bx_ ?_;intro g6 hg w6_ hbox hb;replace HI:=am_ ((HI.out).box hg hbox hb);clear hb hbox hg)|((with_reducible refine zad (N:=9) rfl ?_);refine zae rfl (N:=9) rfl (cs:=#[.slice A4 m0.length c4,.int .i64 m1,.string m2,.int .i64 m3]) (t:=59) bx_ ?_;intro g9 hg w9_ hbox hb;replace HI:=am_ ((HI.out).box hg hbox hb);clear hb hbox hg)|(go_at_call 24;(refine(zbd.calls k A2 c2 l2 1048576 t1 _ HI.out.now.1 HC2.out HZ1.out).mono ?_);rintro e w31 ⟨rfl,⟨n31,rfl⟩⟩;replace HI:=am_ (HI.out.drewN n31);generalize World.drewN _ n31=wn31 at HI ⊢)|((with_reducible refine zad (N:=34) rfl ?_);go_must (refine wpList_load_row rfl 59 _ rfl g9 rfl 59 (#[.slice A4 m0.length c4,.int .i64 m1,.string m2,.int .i64 m3]) (0,0) _ (HI.out.at_ (blk g9 59 #[.slice A4 m0.length c4,.int .i64 m1,.string m2,.int .i64 m3]) qz40_) hu59 rfl (by first|exact zby _ _|kernel_rfl) ?_))|(go_at_call 25;(refine(zel.calls A4 c4 m0 m1 m2 m3 t1 t2 _ HI.out.now.2 HC4.out HZ2.out).mono ?_);rintro e w36 ⟨rfl,hb⟩;replace HI:=am_ (HI.out.grow hb);clear hb))
  go_ret
  exact⟨rfl,HI.out.below⟩
 rw [if_neg ct2] at h
 have f1b_:decide (t2<0)=false:=decide_eq_false ct2
 clear ct2
 replace h:=Option.bind_eq_some_iff.1 h
 obtain⟨⟨c0,c1⟩,hte_,h⟩:=h
 have HTE:=am_ (show zea.f d0 d1=some (c0,c1) from hte_)
 clear hte_
 replace h:=Option.bind_eq_some_iff.1 h
 obtain⟨L,htl_,h⟩:=h
 have HTL:=am_ htl_
 clear htl_
 replace h:=Option.bind_eq_some_iff.1 h
 obtain⟨⟨q0,q1,q2,q3⟩,hts_,h⟩:=h
 have HTS:=am_ (show zdh.f k m0 m1 m2 m3=some (q0,q1,q2,q3) from hts_)
 clear hts_
 replace h:=Option.bind_eq_some_iff.1 h
 obtain⟨⟨x1,x2,x3,x4,x5,x6,x7,x8⟩,hsv_,h⟩:=h
 have HSV:=am_ (show zbq.f k kind c0 c1 L vars q0 q1 q2 q3=some (x1,x2,x3,x4,x5,x6,x7,x8) from hsv_)
 clear hsv_
 replace h:=Option.bind_eq_some_iff.1 h
 obtain⟨⟨g1,g2,g3,g4,g5,g6_,g7,g8⟩,hiv_,h⟩:=h
 have HIV:=am_ (show zbm.f k kind c0 c1 L vars q0 q1 q2 q3=some (g1,g2,g3,g4,g5,g6_,g7,g8) from hiv_)
 clear hiv_
 replace h:=ite_some h
 obtain⟨hq,h⟩:=h
 have HQ1:=am_ (show zax.f k g1 x1=some true from hq.1)
 have HQ2:=am_ (show zdn.f g2 g3 x2 x3=some true from hq.2.1)
 have HQ3:=am_ (show zc1.f k g4 g5 g6_ g7 x4 x5 x6 x7=some true from hq.2.2.1)
 obtain rfl:g8=x8:=hq.2.2.2.1
 have HQ4:=am_ hq.2.2.2.2.1
 have HQ5:=am_ (show zc1.f k q0 q1 q2 q3 q0 q1 q2 q3=some true from hq.2.2.2.2.2)
 clear hq
 replace h:=Option.bind_eq_some_iff.1 h
 obtain⟨n1,hm1_,h⟩:=h
 have HM1:=am_ hm1_
 clear hm1_
 replace h:=Option.bind_eq_some_iff.1 h
 obtain⟨⟨n2,ql⟩,hm2_,h⟩:=h
 have HM2:=am_ (show zcy.f k q0 q1 q2 q3 n1=some (n2,ql) from hm2_)
 clear hm2_
 by_cases cn2:n2<0
 ·
  rw [if_pos (show (n2,ql).1<0 from cn2)] at h;cases h
 rw [if_neg (show ¬(n2,ql).1<0 from cn2)] at h
 have f2_:decide (n2<0)=false:=decide_eq_false cn2
 clear cn2
 replace h:=Option.bind_eq_some_iff.1 h
 obtain⟨⟨n3,gl⟩,hm3_,h⟩:=h
 have HM3:=am_ (show zbh.f k g1 1=some (n3,gl) from hm3_)
 clear hm3_
 replace h:=Option.bind_eq_some_iff.1 h
 obtain⟨⟨n4,hl_⟩,hm4_,h⟩:=h
 have HM4:=am_ (show zcy.f k g4 g5 g6_ g7 n3=some (n4,hl_) from hm4_)
 clear hm4_
 replace h:=Option.bind_eq_some_iff.1 h
 obtain⟨n5,hh1_,h⟩:=h
 have HH1:=am_ (show zbo.f k gl 1=some n5 from hh1_)
 clear hh1_
 by_cases cn5:n5<0
 ·
  rw [if_pos cn5] at h;cases h
 rw [if_neg cn5] at h
 have f5_:decide (n5<0)=false:=decide_eq_false cn5
 clear cn5
 replace h:=Option.bind_eq_some_iff.1 h
 obtain⟨n6,hh2_,h⟩:=h
 by_cases cn6:n6<0
 ·
  rw [if_pos cn6] at h;cases h
 rw [if_neg cn6] at h
 by_cases c64:n6=n4
 ·
  subst c64
  have HH2:=am_ (show zdm.f k hl_ g5 g6_ g7 n5=some n6 from hh2_)
  clear hh2_ h
  have f6_:decide (n6<0)=false:=decide_eq_false cn6
  clear cn6
  go_enter Try.func6,Try.ntmps6
  go_wp2_with (first|((with_reducible refine zad (N:=6) rfl ?_);refine zae rfl (N:=6) rfl (cs:=#[.int .i64 d0,.int .i64 d1]) (t:=56) bx_ ?_;intro g6 hg w6_ hbox hb;replace HI:=am_ ((HI.out).box hg hbox hb);clear hb hbox hg)|((with_reducible refine zad (N:=9) rfl ?_);refine zae rfl (N:=9) rfl (cs:=#[.slice A4 m0.length c4,.int .i64 m1,.string m2,.int .i64 m3]) (t:=59) bx_ ?_;intro g9 hg w9_ hbox hb;replace HI:=am_ ((HI.out).box hg hbox hb);clear hb hbox hg)|(go_at_call 24;(refine(zbd.calls k A2 c2 l2 1048576 t1 _ HI.out.now.1 HC2.out HZ1.out).mono ?_);rintro e w31 ⟨rfl,⟨n31,rfl⟩⟩;replace HI:=am_ (HI.out.drewN n31);generalize World.drewN _ n31=wn31 at HI ⊢)|((with_reducible refine zad (N:=34) rfl ?_);go_must (refine wpList_load_row rfl 59 _ rfl g9 rfl 59 (#[.slice A4 m0.length c4,.int .i64 m1,.string m2,.int .i64 m3]) (0,0) _ (HI.out.at_ (blk g9 59 #[.slice A4 m0.length c4,.int .i64 m1,.string m2,.int .i64 m3]) qz40_) hu59 rfl (by first|exact zby _ _|kernel_rfl) ?_))|(go_at_call 25;(refine(zel.calls A4 c4 m0 m1 m2 m3 t1 t2 _ HI.out.now.2 HC4.out HZ2.out).mono ?_);rintro e w36 ⟨rfl,hb⟩;replace HI:=am_ (HI.out.grow hb);clear hb))
  refine zcb (n:=20) (S:=fun w'=>True) (ds:=[]) (bs_ 20 0) (by kernel_rfl) rfl rfl trivial (fun hHeld=>?_)
  refine zcr zao.tab8 zao.bits8 (fun HT_ HW_=>?_)
  have CBa:True:=trivial
  replace HI:=am_ (HI.out.drew)
  generalize World.drew _=wd8 at HI ⊢
  refine pt_ HT_.out 0 40 (bs_ 20 1) ?_
  refine pt_ HT_.out 3 43 (bs_ 20 9) ?_
  refine pt_ HT_.out 5 45 (bs_ 20 41) ?_
  refine zo7 [1,2,4,6,7,8,9,10,11,12,13,14,15,16,17,18,19] (fun a0_ b a w'=>∃ (L1:Option Addr) (cl1:Nat) (f1:Nat→Nat) (S1_:Nat→Prop) (Q1:Option Addr) (cq1:Nat) (T1_:Nat→Prop) (X1:Option Addr) (cx1:Nat) (X4:Option Addr) (cx4:Nat) (g13:Nat) (g14:Nat) (CB8:Array Value) (m4_:Value) (m7_:Value) (m8_:Value) (m9_:Value) (m10_:Value) (m12_:Value) (m14_:Value) (m15_:Value) (m16_:Value),a=zdz a0_ b [(1,41,.agg #[.int .i64 d0,.int .i64 d1]),(2,42,.agg #[.int .i64 c0,.int .i64 c1]),(4,44,m4_),(6,46,.agg #[.slice A4 m0.length c4,.int .i64 m1,.string m2,.int .i64 m3]),(7,47,m7_),(8,48,m8_),(9,39,m9_),(10,49,m10_),(11,50,.agg #[.int .i64 x2,.int .i64 x3]),(12,51,m12_),(13,52,.int .i64 g8),(14,13,m14_),(15,14,m15_),(16,12,m16_),(19,15,.int .i64 g8)]∧(b 18=false→CB8=#[.slice none 0 0,.int .i64 0,.string (⟨#[]⟩:ByteArray),.int .i64 0])∧(b 18=true→CB8=#[.slice X4 x4.length cx4,.int .i64 x5,.string x6,.int .i64 x7])∧(Inv w NoB w' [gif (b 14) (blk g13 34 (cond (b 17) (#[.int .i64 x2,.int .i64 x3]) (#[.int .i64 0,.int .i64 0]))),gif (b 15) (blk g14 27 CB8),gif (b 8) (row k34 34 w.heap.size (.slice X1 x1.length cx1) x1 (fun k=>some k=(Value.ownBlock (.slice X1 x1.length cx1)))),gif (b 8) (row k34 34 w.heap.size (.slice X4 x4.length cx4) x4 (fun k=>some k=(Value.ownBlock (.slice X4 x4.length cx4)))),gif (b 4) (row (Kd.tag f1 (Kd.slice 34 k34)) 24 w.heap.size (.slice L1 L.length cl1) L.zipIdx S1_),gif (!(b 8) && b 7) (row k34 34 w.heap.size (.slice Q1 q0.length cq1) q0 T1_),blk g9 59 #[.slice A4 m0.length c4,.int .i64 m1,.string m2,.int .i64 m3],blk g6 56 #[.int .i64 d0,.int .i64 d1]] (fun w2=>Kd.C (Kd.slice 56 k56) w2 A2 l2.length l2∧Kd.C k56 w2 A4 m0.length m0))∧(b 4=true→(m4_:Value)=.slice L1 L.length cl1)∧(b 7=true→(m7_:Value)=.agg #[.slice Q1 q0.length cq1,.int .i64 q1,.string q2,.int .i64 q3])∧(b 8=true→(m8_:Value)=.tuple #[.slice X1 x1.length cx1,.agg #[.int .i64 x2,.int .i64 x3],.agg #[.slice X4 x4.length cx4,.int .i64 x5,.string x6,.int .i64 x7],.int .i64 g8])∧(b 9=true→(m9_:Value)=.tuple #[.slice X1 x1.length cx1,.agg #[.int .i64 x2,.int .i64 x3],.agg #[.slice X4 x4.length cx4,.int .i64 x5,.string x6,.int .i64 x7],.int .i64 g8])∧(b 10=true→(m10_:Value)=.slice X1 x1.length cx1)∧(b 12=true→(m12_:Value)=.agg #[.slice X4 x4.length cx4,.int .i64 x5,.string x6,.int .i64 x7])∧(b 14=true→(m14_:Value)=.pointer (some ⟨g13,0,none⟩))∧(b 15=true→(m15_:Value)=.pointer (some ⟨g14,0,none⟩))∧(b 16=true→(m16_:Value)=.slice X1 x1.length cx1)) HT_.out HW_.out (by kernel_rfl) (by kernel_rfl) ?_ ?_ ?_
  ·
   exact⟨none,0,fun _=>0,fun _=>False,none,0,fun _=>False,none,0,none,0,0,0,#[.slice none 0 0,.int .i64 0,.string (⟨#[]⟩:ByteArray),.int .i64 0],.bool false,.bool false,.bool false,.bool false,.bool false,.bool false,.bool false,.bool false,.bool false,by simp only [zdz,Bool.false_eq_true,if_false],fun _=>rfl,fun h_=>absurd h_ (by decide),Inv.off (Inv.off (Inv.off (Inv.off (Inv.off (Inv.off (HI.out)))))),fun h_=>absurd h_ (by decide),fun h_=>absurd h_ (by decide),fun h_=>absurd h_ (by decide),fun h_=>absurd h_ (by decide),fun h_=>absurd h_ (by decide),fun h_=>absurd h_ (by decide),fun h_=>absurd h_ (by decide),fun h_=>absurd h_ (by decide),fun h_=>absurd h_ (by decide)⟩
  ·
   skip
   clear CBa HI
   refine zaw ?_ ?_
   ·
    rintro b a w' ⟨L1,cl1,f1,S1_,Q1,cq1,T1_,X1,cx1,X4,cx4,g13,g14,CB8,m4_,m7_,m8_,m9_,m10_,m12_,m14_,m15_,m16_,ha,Q_CBa,Q_CBb,Q_HI,Q_X4_,Q_X7_,Q_X8_,Q_X9_,Q_X10_,Q_X12_,Q_X14_,Q_X15_,Q_X16_⟩ hb_ hon hoff
    refine⟨_,rfl,fun K hK=>?_⟩
    have e6:a.tmps[6]?=some (.pointer (some ⟨g6,0,none⟩)):=by rw [ha];exact(zcx rfl).trans rfl
    replace ha:=am_ ha
    have CBa:=am_ (Q_CBa (hoff 18 (by kernel_rfl)))
    have HI:=am_ Q_HI
    have y_0:w'.cell? ⟨g6,0,none⟩=some (.int .i64 d0):=(zaa (HI.out.at_ (blk g6 56 #[.int .i64 d0,.int .i64 d1]) qz40_) 0).trans rfl
    have y_1:w'.cell? ⟨g6,1,none⟩=some (.int .i64 d1):=(zaa (HI.out.at_ (blk g6 56 #[.int .i64 d0,.int .i64 d1]) qz40_) 1).trans rfl
    refine zbf (w1:=w') (v:=.agg #[.int .i64 d0,.int .i64 d1]) (by rfl) rfl ?_ ?_
    ·
     go_simp
     (try simp only [i64_w])
     try rfl
    refine hK.out _ _ ⟨L1,cl1,f1,S1_,Q1,cq1,T1_,X1,cx1,X4,cx4,g13,g14,CB8,m4_,m7_,m8_,m9_,m10_,m12_,m14_,m15_,m16_,(by rw [ha.out];exact za5 0 hb_ rfl rfl rfl),Q_CBa,fun h0_=>ab_ (hoff 18 (by kernel_rfl)) h0_,Q_HI,fun h0_=>ab_ (hoff 4 (by kernel_rfl)) h0_,fun h0_=>ab_ (hoff 7 (by kernel_rfl)) h0_,fun h0_=>ab_ (hoff 8 (by kernel_rfl)) h0_,fun h0_=>ab_ (hoff 9 (by kernel_rfl)) h0_,fun h0_=>ab_ (hoff 10 (by kernel_rfl)) h0_,fun h0_=>ab_ (hoff 12 (by kernel_rfl)) h0_,Q_X14_,Q_X15_,fun h0_=>ab_ (hoff 16 (by kernel_rfl)) h0_⟩
   refine zaw ?_ ?_
   ·
    rintro b a w' ⟨L1,cl1,f1,S1_,Q1,cq1,T1_,X1,cx1,X4,cx4,g13,g14,CB8,m4_,m7_,m8_,m9_,m10_,m12_,m14_,m15_,m16_,ha,Q_CBa,Q_CBb,Q_HI,Q_X4_,Q_X7_,Q_X8_,Q_X9_,Q_X10_,Q_X12_,Q_X14_,Q_X15_,Q_X16_⟩ hb_ hon hoff
    refine⟨_,rfl,fun K hK=>?_⟩
    have e41:a.tmps[41]?=some (.agg #[.int .i64 d0,.int .i64 d1]):=by rw [ha];exact zbb (e:=(1,41,.agg #[.int .i64 d0,.int .i64 d1])) 0 rfl rfl (hon 1 (by kernel_rfl)) rfl
    replace ha:=am_ ha
    have CBa:=am_ (Q_CBa (hoff 18 (by kernel_rfl)))
    have HI:=am_ Q_HI
    refine goes_ Try.func27 (by kernel_rfl) rfl #[.agg #[.int .i64 d0,.int .i64 d1]] (by rfl) rfl rfl (by first|(simp only [List.map_toArray,List.map_cons,List.map_nil,Act.eval,Array.getD_eq_getD_getElem?,Option.getD_some,e41];done)|(simp only [List.map_toArray,List.map_cons,List.map_nil,Act.eval,Array.getD_eq_getD_getElem?,Option.getD_some,e41];rfl)) ?_
    with_reducible refine(zea.calls d0 d1 c0 c1 _ HTE.out).mono ?_
    rintro e wt ⟨rfl,hb⟩
    refine⟨_,rfl,?_⟩
    have HI2:=am_ (HI.out.grow hb)
    refine hK.out _ _ ⟨L1,cl1,f1,S1_,Q1,cq1,T1_,X1,cx1,X4,cx4,g13,g14,CB8,m4_,m7_,m8_,m9_,m10_,m12_,m14_,m15_,m16_,(by rw [ha.out];exact za5 1 hb_ rfl rfl rfl),Q_CBa,fun h0_=>ab_ (hoff 18 (by kernel_rfl)) h0_,HI2.out,fun h0_=>ab_ (hoff 4 (by kernel_rfl)) h0_,fun h0_=>ab_ (hoff 7 (by kernel_rfl)) h0_,fun h0_=>ab_ (hoff 8 (by kernel_rfl)) h0_,fun h0_=>ab_ (hoff 9 (by kernel_rfl)) h0_,fun h0_=>ab_ (hoff 10 (by kernel_rfl)) h0_,fun h0_=>ab_ (hoff 12 (by kernel_rfl)) h0_,Q_X14_,Q_X15_,fun h0_=>ab_ (hoff 16 (by kernel_rfl)) h0_⟩
   refine zaw ?_ ?_
   ·
    rintro b a w' ⟨L1,cl1,f1,S1_,Q1,cq1,T1_,X1,cx1,X4,cx4,g13,g14,CB8,m4_,m7_,m8_,m9_,m10_,m12_,m14_,m15_,m16_,ha,Q_CBa,Q_CBb,Q_HI,Q_X4_,Q_X7_,Q_X8_,Q_X9_,Q_X10_,Q_X12_,Q_X14_,Q_X15_,Q_X16_⟩ hb_ hon hoff
    refine⟨_,rfl,fun K hK=>?_⟩
    have e43:a.tmps[43]?=some (.slice A2 l2.length c2):=by rw [ha];exact(zcx rfl).trans rfl
    replace ha:=am_ ha
    have CBa:=am_ (Q_CBa (hoff 18 (by kernel_rfl)))
    have HI:=am_ Q_HI
    refine goes_ Try.func28 (by kernel_rfl) rfl #[.slice A2 l2.length c2] (by rfl) rfl rfl (by first|(simp only [List.map_toArray,List.map_cons,List.map_nil,Act.eval,Array.getD_eq_getD_getElem?,Option.getD_some,e43];done)|(simp only [List.map_toArray,List.map_cons,List.map_nil,Act.eval,Array.getD_eq_getD_getElem?,Option.getD_some,e43];rfl)) ?_
    with_reducible refine(zbt.calls k A2 c2 l2 L _ HI.out.now.1 HC2.out HTL.out).mono ?_
    rintro e wt ⟨vl_,rfl,hS,hb⟩
    obtain⟨L_n,cl_n,el_⟩:=Kd.zb0 (Kd.S_R hS)
    subst el_
    obtain⟨f_n,hR⟩:=hS
    refine⟨_,rfl,?_⟩
    have HI2:=am_ (Inv.fill true (HI.out.zdj hb hR) 4 rfl)
    refine hK.out _ _ ⟨L_n,cl_n,f_n,(fun k=>w'.heap.size≤k∧k<wt.heap.size),Q1,cq1,T1_,X1,cx1,X4,cx4,g13,g14,CB8,(.slice L_n L.length cl_n),m7_,m8_,m9_,m10_,m12_,m14_,m15_,m16_,(by rw [ha.out];exact za5 2 hb_ rfl rfl rfl),Q_CBa,fun h0_=>ab_ (hoff 18 (by kernel_rfl)) h0_,HI2.out,fun _=>rfl,fun h0_=>ab_ (hoff 7 (by kernel_rfl)) h0_,fun h0_=>ab_ (hoff 8 (by kernel_rfl)) h0_,fun h0_=>ab_ (hoff 9 (by kernel_rfl)) h0_,fun h0_=>ab_ (hoff 10 (by kernel_rfl)) h0_,fun h0_=>ab_ (hoff 12 (by kernel_rfl)) h0_,Q_X14_,Q_X15_,fun h0_=>ab_ (hoff 16 (by kernel_rfl)) h0_⟩
   refine zaw ?_ ?_
   ·
    rintro b a w' ⟨L1,cl1,f1,S1_,Q1,cq1,T1_,X1,cx1,X4,cx4,g13,g14,CB8,m4_,m7_,m8_,m9_,m10_,m12_,m14_,m15_,m16_,ha,Q_CBa,Q_CBb,Q_HI,Q_X4_,Q_X7_,Q_X8_,Q_X9_,Q_X10_,Q_X12_,Q_X14_,Q_X15_,Q_X16_⟩ hb_ hon hoff
    refine⟨_,rfl,fun K hK=>?_⟩
    have e9:a.tmps[9]?=some (.pointer (some ⟨g9,0,none⟩)):=by rw [ha];exact(zcx rfl).trans rfl
    replace ha:=am_ ha
    have CBa:=am_ (Q_CBa (hoff 18 (by kernel_rfl)))
    have HI:=am_ Q_HI
    have y_0:w'.cell? ⟨g9,0,none⟩=some (.slice A4 m0.length c4):=(zaa (HI.out.at_ (blk g9 59 #[.slice A4 m0.length c4,.int .i64 m1,.string m2,.int .i64 m3]) qz40_) 0).trans rfl
    have y_1:w'.cell? ⟨g9,1,none⟩=some (.int .i64 m1):=(zaa (HI.out.at_ (blk g9 59 #[.slice A4 m0.length c4,.int .i64 m1,.string m2,.int .i64 m3]) qz40_) 1).trans rfl
    have y_2:w'.cell? ⟨g9,2,none⟩=some (.string m2):=(zaa (HI.out.at_ (blk g9 59 #[.slice A4 m0.length c4,.int .i64 m1,.string m2,.int .i64 m3]) qz40_) 2).trans rfl
    have y_3:w'.cell? ⟨g9,3,none⟩=some (.int .i64 m3):=(zaa (HI.out.at_ (blk g9 59 #[.slice A4 m0.length c4,.int .i64 m1,.string m2,.int .i64 m3]) qz40_) 3).trans rfl
    refine zbf (w1:=w') (v:=.agg #[.slice A4 m0.length c4,.int .i64 m1,.string m2,.int .i64 m3]) (by rfl) rfl ?_ ?_
    ·
     go_simp
     (try simp only [i64_w])
     try rfl
    refine hK.out _ _ ⟨L1,cl1,f1,S1_,Q1,cq1,T1_,X1,cx1,X4,cx4,g13,g14,CB8,m4_,m7_,m8_,m9_,m10_,m12_,m14_,m15_,m16_,(by rw [ha.out];exact za5 3 hb_ rfl rfl rfl),Q_CBa,fun h0_=>ab_ (hoff 18 (by kernel_rfl)) h0_,Q_HI,Q_X4_,fun h0_=>ab_ (hoff 7 (by kernel_rfl)) h0_,fun h0_=>ab_ (hoff 8 (by kernel_rfl)) h0_,fun h0_=>ab_ (hoff 9 (by kernel_rfl)) h0_,fun h0_=>ab_ (hoff 10 (by kernel_rfl)) h0_,fun h0_=>ab_ (hoff 12 (by kernel_rfl)) h0_,Q_X14_,Q_X15_,fun h0_=>ab_ (hoff 16 (by kernel_rfl)) h0_⟩
   refine zaw ?_ ?_
   ·
    rintro b a w' ⟨L1,cl1,f1,S1_,Q1,cq1,T1_,X1,cx1,X4,cx4,g13,g14,CB8,m4_,m7_,m8_,m9_,m10_,m12_,m14_,m15_,m16_,ha,Q_CBa,Q_CBb,Q_HI,Q_X4_,Q_X7_,Q_X8_,Q_X9_,Q_X10_,Q_X12_,Q_X14_,Q_X15_,Q_X16_⟩ hb_ hon hoff
    refine⟨_,rfl,fun K hK=>?_⟩
    have e46:a.tmps[46]?=some (.agg #[.slice A4 m0.length c4,.int .i64 m1,.string m2,.int .i64 m3]):=by rw [ha];exact zbb (e:=(6,46,.agg #[.slice A4 m0.length c4,.int .i64 m1,.string m2,.int .i64 m3])) 3 rfl rfl (hon 6 (by kernel_rfl)) rfl
    replace ha:=am_ ha
    have CBa:=am_ (Q_CBa (hoff 18 (by kernel_rfl)))
    have HI:=am_ Q_HI
    refine goes_ Try.func29 (by kernel_rfl) rfl #[.agg #[.slice A4 m0.length c4,.int .i64 m1,.string m2,.int .i64 m3]] (by rfl) rfl rfl (by first|(simp only [List.map_toArray,List.map_cons,List.map_nil,Act.eval,Array.getD_eq_getD_getElem?,Option.getD_some,e46];done)|(simp only [List.map_toArray,List.map_cons,List.map_nil,Act.eval,Array.getD_eq_getD_getElem?,Option.getD_some,e46];rfl)) ?_
    with_reducible refine(zdh.calls k A4 c4 m0 m1 m2 m3 q0 q1 q2 q3 _ HI.out.now.2 HC4.out HTS.out).mono ?_
    rintro e wt ⟨vq_,rfl,hR,hb⟩
    obtain⟨Q_n,cq_n,eq_⟩:=Kd.zb0 hR
    subst eq_
    refine⟨_,rfl,?_⟩
    have HI2:=am_ (Inv.fill (!(b 8) && true) (HI.out.zdj hb hR) 5 rfl)
    refine hK.out _ _ ⟨L1,cl1,f1,S1_,Q_n,cq_n,(fun k=>w'.heap.size≤k∧k<wt.heap.size),X1,cx1,X4,cx4,g13,g14,CB8,m4_,(.agg #[.slice Q_n q0.length cq_n,.int .i64 q1,.string q2,.int .i64 q3]),m8_,m9_,m10_,m12_,m14_,m15_,m16_,(by rw [ha.out];exact za5 4 hb_ rfl rfl rfl),Q_CBa,fun h0_=>ab_ (hoff 18 (by kernel_rfl)) h0_,HI2.out,Q_X4_,fun _=>rfl,fun h0_=>ab_ (hoff 8 (by kernel_rfl)) h0_,fun h0_=>ab_ (hoff 9 (by kernel_rfl)) h0_,fun h0_=>ab_ (hoff 10 (by kernel_rfl)) h0_,fun h0_=>ab_ (hoff 12 (by kernel_rfl)) h0_,Q_X14_,Q_X15_,fun h0_=>ab_ (hoff 16 (by kernel_rfl)) h0_⟩
   refine zaw ?_ ?_
   ·
    rintro b a w' ⟨L1,cl1,f1,S1_,Q1,cq1,T1_,X1,cx1,X4,cx4,g13,g14,CB8,m4_,m7_,m8_,m9_,m10_,m12_,m14_,m15_,m16_,ha,Q_CBa,Q_CBb,Q_HI,Q_X4_,Q_X7_,Q_X8_,Q_X9_,Q_X10_,Q_X12_,Q_X14_,Q_X15_,Q_X16_⟩ hb_ hon hoff
    refine⟨_,rfl,fun K hK=>?_⟩
    have e40:a.tmps[40]?=some (.int .i64 kind):=by rw [ha];exact(zcx rfl).trans rfl
    have e42:a.tmps[42]?=some (.agg #[.int .i64 c0,.int .i64 c1]):=by rw [ha];exact zbb (e:=(2,42,.agg #[.int .i64 c0,.int .i64 c1])) 1 rfl rfl (hon 2 (by kernel_rfl)) rfl
    have e44:a.tmps[44]?=some (m4_):=by rw [ha];exact zbb (e:=(4,44,m4_)) 2 rfl rfl (hon 4 (by kernel_rfl)) rfl
    rw [Q_X4_ (hon 4 (by kernel_rfl))] at e44
    have e45:a.tmps[45]?=some (.int .i64 vars):=by rw [ha];exact(zcx rfl).trans rfl
    have e47:a.tmps[47]?=some (m7_):=by rw [ha];exact zbb (e:=(7,47,m7_)) 4 rfl rfl (hon 7 (by kernel_rfl)) rfl
    rw [Q_X7_ (hon 7 (by kernel_rfl))] at e47
    replace ha:=am_ ha
    have CBa:=am_ (Q_CBa (hoff 18 (by kernel_rfl)))
    have HI:=am_ Q_HI
    have HI3:zal (Inv w NoB w' (row k34 34 w.heap.size (.slice Q1 q0.length cq1) q0 T1_::[gif (b 14) (blk g13 34 (cond (b 17) (#[.int .i64 x2,.int .i64 x3]) (#[.int .i64 0,.int .i64 0]))),gif (b 15) (blk g14 27 CB8),gif (b 8) (row k34 34 w.heap.size (.slice X1 x1.length cx1) x1 (fun k=>some k=(Value.ownBlock (.slice X1 x1.length cx1)))),gif (b 8) (row k34 34 w.heap.size (.slice X4 x4.length cx4) x4 (fun k=>some k=(Value.ownBlock (.slice X4 x4.length cx4)))),gif (b 4) (row (Kd.tag f1 (Kd.slice 34 k34)) 24 w.heap.size (.slice L1 L.length cl1) L.zipIdx S1_),gif false (row k34 34 w.heap.size (.slice Q1 q0.length cq1) q0 T1_),blk g9 59 #[.slice A4 m0.length c4,.int .i64 m1,.string m2,.int .i64 m3],blk g6 56 #[.int .i64 d0,.int .i64 d1]]) (fun w2=>Kd.C (Kd.slice 56 k56) w2 A2 l2.length l2∧Kd.C k56 w2 A4 m0.length m0)):=⟨Inv.take HI.out 5 rfl (show (!(b 8) && b 7)=true from by rw [hb_,(hon 7 (by kernel_rfl))];rfl)⟩
    refine goes_ Try.func26 (by kernel_rfl) rfl #[.int .i64 kind,.agg #[.int .i64 c0,.int .i64 c1],.slice L1 L.length cl1,.int .i64 vars,.agg #[.slice Q1 q0.length cq1,.int .i64 q1,.string q2,.int .i64 q3]] (by rfl) rfl rfl (by first|(simp only [List.map_toArray,List.map_cons,List.map_nil,Act.eval,Array.getD_eq_getD_getElem?,Option.getD_some,e40,e42,e44,e45,e47];done)|(simp only [List.map_toArray,List.map_cons,List.map_nil,Act.eval,Array.getD_eq_getD_getElem?,Option.getD_some,e40,e42,e44,e45,e47];rfl)) ?_
    with_reducible refine(zbq.calls k kind c0 c1 L1 cl1 L vars _ (.slice Q1 q0.length cq1) q0 q1 q2 q3 x1 x2 x3 x4 x5 x6 x7 g8 w _ HI3.out.below HI3.out.row0 (fun W_ ha=>(tagC (rowR (gifA (HI3.out.ownOther ha (ownRow HI3.out) (gif (b 4) (row (Kd.tag f1 (Kd.slice 34 k34)) 24 w.heap.size (.slice L1 L.length cl1) L.zipIdx S1_)) qz40_) (hon 4 (by kernel_rfl))))).1) (tagC (rowR (gifA (HI3.out.at_ (gif (b 4) (row (Kd.tag f1 (Kd.slice 34 k34)) 24 w.heap.size (.slice L1 L.length cl1) L.zipIdx S1_)) qz40_) (hon 4 (by kernel_rfl))))).2 HSV.out).mono ?_
    rintro e wt ⟨v0_,v3_,rfl,hR0,hR3,hB2,hk⟩
    obtain⟨X_n,cx_n,ex_⟩:=Kd.zb0 hR0
    subst ex_
    obtain⟨Y_n,cy_n,ey_⟩:=Kd.zb0 hR3
    subst ey_
    refine⟨_,rfl,?_⟩
    have HI5:=am_ (Inv.zin (b3:=w.heap.size) rfl rfl HI3.out (Agr.zmi hk HI3.out.below hB2 (ownRow HI3.out)) hR0 (Nat.le_refl _) HI3.out.agr.size (Kd.zdk (Kd.zee hR3) HI3.out.agr.size) (fun k hk=>.inr hk.2.1) (fun k hk=>hk.1))
    have HI2:=am_ (Inv.fill true (Inv.fill true HI5.out 3 rfl) 3 rfl)
    refine hK.out _ _ ⟨L1,cl1,f1,S1_,Q1,cq1,T1_,X_n,cx_n,Y_n,cy_n,g13,g14,CB8,m4_,m7_,(.tuple #[.slice X_n x1.length cx_n,.agg #[.int .i64 x2,.int .i64 x3],.agg #[.slice Y_n x4.length cy_n,.int .i64 x5,.string x6,.int .i64 x7],.int .i64 g8]),m9_,m10_,m12_,m14_,m15_,m16_,(by rw [ha.out];exact za5 5 hb_ rfl rfl rfl),Q_CBa,fun h0_=>ab_ (hoff 18 (by kernel_rfl)) h0_,HI2.out,Q_X4_,Q_X7_,fun _=>rfl,fun h0_=>ab_ (hoff 9 (by kernel_rfl)) h0_,fun h0_=>ab_ (hoff 10 (by kernel_rfl)) h0_,fun h0_=>ab_ (hoff 12 (by kernel_rfl)) h0_,Q_X14_,Q_X15_,fun h0_=>ab_ (hoff 16 (by kernel_rfl)) h0_⟩
   refine zaw ?_ ?_
   ·
    rintro b a w' ⟨L1,cl1,f1,S1_,Q1,cq1,T1_,X1,cx1,X4,cx4,g13,g14,CB8,m4_,m7_,m8_,m9_,m10_,m12_,m14_,m15_,m16_,ha,Q_CBa,Q_CBb,Q_HI,Q_X4_,Q_X7_,Q_X8_,Q_X9_,Q_X10_,Q_X12_,Q_X14_,Q_X15_,Q_X16_⟩ hb_ hon hoff
    refine⟨_,rfl,fun K hK=>?_⟩
    have e48:a.tmps[48]?=some (m8_):=by rw [ha];exact zbb (e:=(8,48,m8_)) 5 rfl rfl (hon 8 (by kernel_rfl)) rfl
    rw [Q_X8_ (hon 8 (by kernel_rfl))] at e48
    replace ha:=am_ ha
    have CBa:=am_ (Q_CBa (hoff 18 (by kernel_rfl)))
    have HI:=am_ Q_HI
    refine zbf (w1:=w') (v:=.tuple #[.slice X1 x1.length cx1,.agg #[.int .i64 x2,.int .i64 x3],.agg #[.slice X4 x4.length cx4,.int .i64 x5,.string x6,.int .i64 x7],.int .i64 g8]) (by rfl) rfl ?_ ?_
    ·
     go_simp
     (try simp only [i64_w])
     try rfl
    refine hK.out _ _ ⟨L1,cl1,f1,S1_,Q1,cq1,T1_,X1,cx1,X4,cx4,g13,g14,CB8,m4_,m7_,m8_,(.tuple #[.slice X1 x1.length cx1,.agg #[.int .i64 x2,.int .i64 x3],.agg #[.slice X4 x4.length cx4,.int .i64 x5,.string x6,.int .i64 x7],.int .i64 g8]),m10_,m12_,m14_,m15_,m16_,(by rw [ha.out];exact za5 6 hb_ rfl rfl rfl),Q_CBa,fun h0_=>ab_ (hoff 18 (by kernel_rfl)) h0_,Q_HI,Q_X4_,Q_X7_,Q_X8_,fun _=>rfl,fun h0_=>ab_ (hoff 10 (by kernel_rfl)) h0_,fun h0_=>ab_ (hoff 12 (by kernel_rfl)) h0_,Q_X14_,Q_X15_,fun h0_=>ab_ (hoff 16 (by kernel_rfl)) h0_⟩
   refine zaw ?_ ?_
   ·
    rintro b a w' ⟨L1,cl1,f1,S1_,Q1,cq1,T1_,X1,cx1,X4,cx4,g13,g14,CB8,m4_,m7_,m8_,m9_,m10_,m12_,m14_,m15_,m16_,ha,Q_CBa,Q_CBb,Q_HI,Q_X4_,Q_X7_,Q_X8_,Q_X9_,Q_X10_,Q_X12_,Q_X14_,Q_X15_,Q_X16_⟩ hb_ hon hoff
    refine⟨_,rfl,fun K hK=>?_⟩
    have e39:a.tmps[39]?=some (m9_):=by rw [ha];exact zbb (e:=(9,39,m9_)) 6 rfl rfl (hon 9 (by kernel_rfl)) rfl
    rw [Q_X9_ (hon 9 (by kernel_rfl))] at e39
    replace ha:=am_ ha
    have CBa:=am_ (Q_CBa (hoff 18 (by kernel_rfl)))
    have HI:=am_ Q_HI
    refine zbf (w1:=w') (v:=.slice X1 x1.length cx1) (by rfl) rfl ?_ ?_
    ·
     go_simp
     (try simp only [i64_w])
     try rfl
    refine hK.out _ _ ⟨L1,cl1,f1,S1_,Q1,cq1,T1_,X1,cx1,X4,cx4,g13,g14,CB8,m4_,m7_,m8_,m9_,(.slice X1 x1.length cx1),m12_,m14_,m15_,m16_,(by rw [ha.out];exact za5 7 hb_ rfl rfl rfl),Q_CBa,fun h0_=>ab_ (hoff 18 (by kernel_rfl)) h0_,Q_HI,Q_X4_,Q_X7_,Q_X8_,Q_X9_,fun _=>rfl,Q_X12_,Q_X14_,Q_X15_,fun h0_=>ab_ (hoff 16 (by kernel_rfl)) h0_⟩
   refine zaw ?_ ?_
   ·
    rintro b a w' ⟨L1,cl1,f1,S1_,Q1,cq1,T1_,X1,cx1,X4,cx4,g13,g14,CB8,m4_,m7_,m8_,m9_,m10_,m12_,m14_,m15_,m16_,ha,Q_CBa,Q_CBb,Q_HI,Q_X4_,Q_X7_,Q_X8_,Q_X9_,Q_X10_,Q_X12_,Q_X14_,Q_X15_,Q_X16_⟩ hb_ hon hoff
    refine⟨_,rfl,fun K hK=>?_⟩
    have e39:a.tmps[39]?=some (m9_):=by rw [ha];exact zbb (e:=(9,39,m9_)) 6 rfl rfl (hon 9 (by kernel_rfl)) rfl
    rw [Q_X9_ (hon 9 (by kernel_rfl))] at e39
    replace ha:=am_ ha
    have CBa:=am_ (Q_CBa (hoff 18 (by kernel_rfl)))
    have HI:=am_ Q_HI
    refine zbf (w1:=w') (v:=.agg #[.int .i64 x2,.int .i64 x3]) (by rfl) rfl ?_ ?_
    ·
     go_simp
     (try simp only [i64_w])
     try rfl
    refine hK.out _ _ ⟨L1,cl1,f1,S1_,Q1,cq1,T1_,X1,cx1,X4,cx4,g13,g14,CB8,m4_,m7_,m8_,m9_,m10_,m12_,m14_,m15_,m16_,(by rw [ha.out];exact za5 8 hb_ rfl rfl rfl),Q_CBa,fun h0_=>ab_ (hoff 18 (by kernel_rfl)) h0_,Q_HI,Q_X4_,Q_X7_,Q_X8_,Q_X9_,Q_X10_,Q_X12_,Q_X14_,Q_X15_,Q_X16_⟩
   refine zaw ?_ ?_
   ·
    rintro b a w' ⟨L1,cl1,f1,S1_,Q1,cq1,T1_,X1,cx1,X4,cx4,g13,g14,CB8,m4_,m7_,m8_,m9_,m10_,m12_,m14_,m15_,m16_,ha,Q_CBa,Q_CBb,Q_HI,Q_X4_,Q_X7_,Q_X8_,Q_X9_,Q_X10_,Q_X12_,Q_X14_,Q_X15_,Q_X16_⟩ hb_ hon hoff
    refine⟨_,rfl,fun K hK=>?_⟩
    have e39:a.tmps[39]?=some (m9_):=by rw [ha];exact zbb (e:=(9,39,m9_)) 6 rfl rfl (hon 9 (by kernel_rfl)) rfl
    rw [Q_X9_ (hon 9 (by kernel_rfl))] at e39
    replace ha:=am_ ha
    have CBa:=am_ (Q_CBa (hoff 18 (by kernel_rfl)))
    have HI:=am_ Q_HI
    refine zbf (w1:=w') (v:=.agg #[.slice X4 x4.length cx4,.int .i64 x5,.string x6,.int .i64 x7]) (by rfl) rfl ?_ ?_
    ·
     go_simp
     (try simp only [i64_w])
     try rfl
    refine hK.out _ _ ⟨L1,cl1,f1,S1_,Q1,cq1,T1_,X1,cx1,X4,cx4,g13,g14,CB8,m4_,m7_,m8_,m9_,m10_,(.agg #[.slice X4 x4.length cx4,.int .i64 x5,.string x6,.int .i64 x7]),m14_,m15_,m16_,(by rw [ha.out];exact za5 9 hb_ rfl rfl rfl),Q_CBa,fun h0_=>ab_ (hoff 18 (by kernel_rfl)) h0_,Q_HI,Q_X4_,Q_X7_,Q_X8_,Q_X9_,Q_X10_,fun _=>rfl,Q_X14_,Q_X15_,Q_X16_⟩
   refine zaw ?_ ?_
   ·
    rintro b a w' ⟨L1,cl1,f1,S1_,Q1,cq1,T1_,X1,cx1,X4,cx4,g13,g14,CB8,m4_,m7_,m8_,m9_,m10_,m12_,m14_,m15_,m16_,ha,Q_CBa,Q_CBb,Q_HI,Q_X4_,Q_X7_,Q_X8_,Q_X9_,Q_X10_,Q_X12_,Q_X14_,Q_X15_,Q_X16_⟩ hb_ hon hoff
    refine⟨_,rfl,fun K hK=>?_⟩
    have e39:a.tmps[39]?=some (m9_):=by rw [ha];exact zbb (e:=(9,39,m9_)) 6 rfl rfl (hon 9 (by kernel_rfl)) rfl
    rw [Q_X9_ (hon 9 (by kernel_rfl))] at e39
    replace ha:=am_ ha
    have HI:=am_ Q_HI
    refine zbf (w1:=w') (v:=.int .i64 g8) (by rfl) rfl ?_ ?_
    ·
     go_simp
     (try simp only [i64_w])
     try rfl
    refine hK.out _ _ ⟨L1,cl1,f1,S1_,Q1,cq1,T1_,X1,cx1,X4,cx4,g13,g14,CB8,m4_,m7_,m8_,m9_,m10_,m12_,m14_,m15_,m16_,(by rw [ha.out];exact za5 10 hb_ rfl rfl rfl),Q_CBa,Q_CBb,Q_HI,Q_X4_,Q_X7_,Q_X8_,Q_X9_,Q_X10_,Q_X12_,Q_X14_,Q_X15_,Q_X16_⟩
   refine zaw ?_ ?_
   ·
    rintro b a w' ⟨L1,cl1,f1,S1_,Q1,cq1,T1_,X1,cx1,X4,cx4,g13,g14,CB8,m4_,m7_,m8_,m9_,m10_,m12_,m14_,m15_,m16_,ha,Q_CBa,Q_CBb,Q_HI,Q_X4_,Q_X7_,Q_X8_,Q_X9_,Q_X10_,Q_X12_,Q_X14_,Q_X15_,Q_X16_⟩ hb_ hon hoff
    refine⟨_,rfl,fun K hK=>?_⟩
    replace ha:=am_ ha
    have CBa:=am_ (Q_CBa (hoff 18 (by kernel_rfl)))
    have HI:=am_ Q_HI
    refine zbf (w1:=w'.alloc (.cells #[.int .i64 0,.int .i64 0] 34)) (v:=.pointer (some ⟨w'.heap.size,0,none⟩)) (by rfl) rfl ?_ ?_
    ·
     first|(go_simp;done)|(go_simp;rfl)
    have HI2:=am_ (Inv.fill true (Inv.ze1 (HI.out.zgm 34 (#[.int .i64 0,.int .i64 0])) (cs':=cond (b 17) (#[.int .i64 x2,.int .i64 x3]) (#[.int .i64 0,.int .i64 0])) (by rw [hoff 17 (by kernel_rfl)];rfl)) 0 rfl)
    refine hK.out _ _ ⟨L1,cl1,f1,S1_,Q1,cq1,T1_,X1,cx1,X4,cx4,w'.heap.size,g14,CB8,m4_,m7_,m8_,m9_,m10_,m12_,(.pointer (some ⟨w'.heap.size,0,none⟩)),m15_,m16_,(by rw [ha.out];exact za5 11 hb_ rfl rfl rfl),Q_CBa,fun h0_=>ab_ (hoff 18 (by kernel_rfl)) h0_,HI2.out,Q_X4_,Q_X7_,Q_X8_,Q_X9_,Q_X10_,Q_X12_,fun _=>rfl,Q_X15_,fun h0_=>ab_ (hoff 16 (by kernel_rfl)) h0_⟩
   refine zaw ?_ ?_
   ·
    rintro b a w' ⟨L1,cl1,f1,S1_,Q1,cq1,T1_,X1,cx1,X4,cx4,g13,g14,CB8,m4_,m7_,m8_,m9_,m10_,m12_,m14_,m15_,m16_,ha,Q_CBa,Q_CBb,Q_HI,Q_X4_,Q_X7_,Q_X8_,Q_X9_,Q_X10_,Q_X12_,Q_X14_,Q_X15_,Q_X16_⟩ hb_ hon hoff
    refine⟨_,rfl,fun K hK=>?_⟩
    replace ha:=am_ ha
    have CBa:=am_ (Q_CBa (hoff 18 (by kernel_rfl)))
    have HI:=am_ Q_HI
    refine zbf (w1:=w'.alloc (.cells #[.slice none 0 0,.int .i64 0,.string (⟨#[]⟩:ByteArray),.int .i64 0] 27)) (v:=.pointer (some ⟨w'.heap.size,0,none⟩)) (by rfl) rfl ?_ ?_
    ·
     first|(go_simp;done)|(go_simp;rfl)
    have HI2:=am_ (Inv.fill true (Inv.ze1 (HI.out.zgm 27 (#[.slice none 0 0,.int .i64 0,.string (⟨#[]⟩:ByteArray),.int .i64 0])) (cs':=CB8) CBa.out) 1 rfl)
    refine hK.out _ _ ⟨L1,cl1,f1,S1_,Q1,cq1,T1_,X1,cx1,X4,cx4,g13,w'.heap.size,CB8,m4_,m7_,m8_,m9_,m10_,m12_,m14_,(.pointer (some ⟨w'.heap.size,0,none⟩)),m16_,(by rw [ha.out];exact za5 12 hb_ rfl rfl rfl),Q_CBa,fun h0_=>ab_ (hoff 18 (by kernel_rfl)) h0_,HI2.out,Q_X4_,Q_X7_,Q_X8_,Q_X9_,Q_X10_,Q_X12_,Q_X14_,fun _=>rfl,fun h0_=>ab_ (hoff 16 (by kernel_rfl)) h0_⟩
   refine zaw ?_ ?_
   ·
    rintro b a w' ⟨L1,cl1,f1,S1_,Q1,cq1,T1_,X1,cx1,X4,cx4,g13,g14,CB8,m4_,m7_,m8_,m9_,m10_,m12_,m14_,m15_,m16_,ha,Q_CBa,Q_CBb,Q_HI,Q_X4_,Q_X7_,Q_X8_,Q_X9_,Q_X10_,Q_X12_,Q_X14_,Q_X15_,Q_X16_⟩ hb_ hon hoff
    refine⟨_,rfl,fun K hK=>?_⟩
    have e49:a.tmps[49]?=some (m10_):=by rw [ha];exact zbb (e:=(10,49,m10_)) 7 rfl rfl (hon 10 (by kernel_rfl)) rfl
    rw [Q_X10_ (hon 10 (by kernel_rfl))] at e49
    replace ha:=am_ ha
    have CBa:=am_ (Q_CBa (hoff 18 (by kernel_rfl)))
    have HI:=am_ Q_HI
    refine zbf (w1:=w') (v:=.slice X1 x1.length cx1) (by rfl) rfl ?_ ?_
    ·
     go_simp
     (try simp only [i64_w])
     try rfl
    refine hK.out _ _ ⟨L1,cl1,f1,S1_,Q1,cq1,T1_,X1,cx1,X4,cx4,g13,g14,CB8,m4_,m7_,m8_,m9_,m10_,m12_,m14_,m15_,(.slice X1 x1.length cx1),(by rw [ha.out];exact za5 13 hb_ rfl rfl rfl),Q_CBa,fun h0_=>ab_ (hoff 18 (by kernel_rfl)) h0_,Q_HI,Q_X4_,Q_X7_,Q_X8_,Q_X9_,Q_X10_,Q_X12_,Q_X14_,Q_X15_,fun _=>rfl⟩
   refine zaw ?_ ?_
   ·
    rintro b a w' ⟨L1,cl1,f1,S1_,Q1,cq1,T1_,X1,cx1,X4,cx4,g13,g14,CB8,m4_,m7_,m8_,m9_,m10_,m12_,m14_,m15_,m16_,ha,Q_CBa,Q_CBb,Q_HI,Q_X4_,Q_X7_,Q_X8_,Q_X9_,Q_X10_,Q_X12_,Q_X14_,Q_X15_,Q_X16_⟩ hb_ hon hoff
    refine⟨_,rfl,fun K hK=>?_⟩
    have e13:a.tmps[13]?=some (m14_):=by rw [ha];exact zbb (e:=(14,13,m14_)) 11 rfl rfl (hon 14 (by kernel_rfl)) rfl
    rw [Q_X14_ (hon 14 (by kernel_rfl))] at e13
    have e50:a.tmps[50]?=some (.agg #[.int .i64 x2,.int .i64 x3]):=by rw [ha];exact zbb (e:=(11,50,.agg #[.int .i64 x2,.int .i64 x3])) 8 rfl rfl (hon 11 (by kernel_rfl)) rfl
    replace ha:=am_ ha
    have CBa:=am_ (Q_CBa (hoff 18 (by kernel_rfl)))
    have HI:=am_ Q_HI
    rw [if_pos (by rfl)]
    have HI3:=am_ (Inv.ze1 (Inv.take HI.out 0 rfl (hon 14 (by kernel_rfl))) (cs':=#[.int .i64 0,.int .i64 0]) (by rw [hb_];rfl))
    refine wp_store_row 34 _ _ rfl g13 (#[.int .i64 x2,.int .i64 x3]) (zfc e13) (zfc e50) 34 (#[.int .i64 0,.int .i64 0]) HI3.out.blk0 (zby x2 x3) (zeo x2 x3) (zd8 x2 x3) ?_
    have HI2:=am_ (Inv.fill (b 14) (HI3.out.put0 (#[.int .i64 x2,.int .i64 x3])) 0 rfl)
    refine hK.out _ _ ⟨L1,cl1,f1,S1_,Q1,cq1,T1_,X1,cx1,X4,cx4,g13,g14,CB8,m4_,m7_,m8_,m9_,m10_,m12_,m14_,m15_,m16_,(by rw [ha.out];exact zfb (v:=undef) rfl),Q_CBa,fun h0_=>ab_ (hoff 18 (by kernel_rfl)) h0_,HI2.out,Q_X4_,Q_X7_,Q_X8_,Q_X9_,Q_X10_,Q_X12_,Q_X14_,Q_X15_,Q_X16_⟩
   refine zaw ?_ ?_
   ·
    rintro b a w' ⟨L1,cl1,f1,S1_,Q1,cq1,T1_,X1,cx1,X4,cx4,g13,g14,CB8,m4_,m7_,m8_,m9_,m10_,m12_,m14_,m15_,m16_,ha,Q_CBa,Q_CBb,Q_HI,Q_X4_,Q_X7_,Q_X8_,Q_X9_,Q_X10_,Q_X12_,Q_X14_,Q_X15_,Q_X16_⟩ hb_ hon hoff
    refine⟨_,rfl,fun K hK=>?_⟩
    have e14:a.tmps[14]?=some (m15_):=by rw [ha];exact zbb (e:=(15,14,m15_)) 12 rfl rfl (hon 15 (by kernel_rfl)) rfl
    rw [Q_X15_ (hon 15 (by kernel_rfl))] at e14
    have e51:a.tmps[51]?=some (m12_):=by rw [ha];exact zbb (e:=(12,51,m12_)) 9 rfl rfl (hon 12 (by kernel_rfl)) rfl
    rw [Q_X12_ (hon 12 (by kernel_rfl))] at e51
    replace ha:=am_ ha
    have CBa:=am_ (Q_CBa hb_)
    have HI:=am_ Q_HI
    rw [if_pos (by rfl)]
    have HI3:=am_ (Inv.ze1 (Inv.take HI.out 1 rfl (hon 15 (by kernel_rfl))) (cs':=#[.slice none 0 0,.int .i64 0,.string (⟨#[]⟩:ByteArray),.int .i64 0]) CBa.out.symm)
    refine wp_store_row 27 _ _ rfl g14 (#[.slice X4 x4.length cx4,.int .i64 x5,.string x6,.int .i64 x7]) (zfc e14) (zfc e51) 27 (#[.slice none 0 0,.int .i64 0,.string (⟨#[]⟩:ByteArray),.int .i64 0]) HI3.out.blk0 (by kernel_rfl) rfl qz12_ ?_
    have HI2:=am_ (Inv.fill (b 15) (HI3.out.put0 (#[.slice X4 x4.length cx4,.int .i64 x5,.string x6,.int .i64 x7])) 1 rfl)
    refine hK.out _ _ ⟨L1,cl1,f1,S1_,Q1,cq1,T1_,X1,cx1,X4,cx4,g13,g14,#[.slice X4 x4.length cx4,.int .i64 x5,.string x6,.int .i64 x7],m4_,m7_,m8_,m9_,m10_,m12_,m14_,m15_,m16_,(by rw [ha.out];exact zfb (v:=undef) rfl),fun h0_=>absurd ((zg8 b 18).symm.trans h0_) (by decide),fun _=>rfl,HI2.out,Q_X4_,Q_X7_,Q_X8_,Q_X9_,Q_X10_,Q_X12_,Q_X14_,Q_X15_,Q_X16_⟩
   refine zaw ?_ ?_
   ·
    rintro b a w' ⟨L1,cl1,f1,S1_,Q1,cq1,T1_,X1,cx1,X4,cx4,g13,g14,CB8,m4_,m7_,m8_,m9_,m10_,m12_,m14_,m15_,m16_,ha,Q_CBa,Q_CBb,Q_HI,Q_X4_,Q_X7_,Q_X8_,Q_X9_,Q_X10_,Q_X12_,Q_X14_,Q_X15_,Q_X16_⟩ hb_ hon hoff
    refine⟨_,rfl,fun K hK=>?_⟩
    have e52:a.tmps[52]?=some (.int .i64 g8):=by rw [ha];exact zbb (e:=(13,52,.int .i64 g8)) 10 rfl rfl (hon 13 (by kernel_rfl)) rfl
    replace ha:=am_ ha
    have CBb:=am_ (Q_CBb (hon 18 (by kernel_rfl)))
    have HI:=am_ Q_HI
    refine zbf (w1:=w') (v:=.int .i64 g8) (by rfl) rfl ?_ ?_
    ·
     go_simp
     (try simp only [i64_w])
     try rfl
    refine hK.out _ _ ⟨L1,cl1,f1,S1_,Q1,cq1,T1_,X1,cx1,X4,cx4,g13,g14,CB8,m4_,m7_,m8_,m9_,m10_,m12_,m14_,m15_,m16_,(by rw [ha.out];exact za5 14 hb_ rfl rfl rfl),fun h0_=>ab_ h0_ (hon 18 (by kernel_rfl)),Q_CBb,Q_HI,Q_X4_,Q_X7_,Q_X8_,Q_X9_,Q_X10_,Q_X12_,Q_X14_,Q_X15_,Q_X16_⟩
   exact zi0
  rintro b a w' hall ⟨L1,cl1,f1,S1_,Q1,cq1,T1_,X1,cx1,X4,cx4,g13,g14,CB8,m4_,m7_,m8_,m9_,m10_,m12_,m14_,m15_,m16_,ha,Q_CBa,Q_CBb,Q_HI,Q_X4_,Q_X7_,Q_X8_,Q_X9_,Q_X10_,Q_X12_,Q_X14_,Q_X15_,Q_X16_⟩
  clear CBa HI
  have hb1_:=hall 1 (by kernel_rfl)
  have hb2_:=hall 2 (by kernel_rfl)
  have hb4_:=hall 4 (by kernel_rfl)
  have hb6_:=hall 6 (by kernel_rfl)
  have hb7_:=hall 7 (by kernel_rfl)
  have hb8_:=hall 8 (by kernel_rfl)
  have hb9_:=hall 9 (by kernel_rfl)
  have hb10_:=hall 10 (by kernel_rfl)
  have hb11_:=hall 11 (by kernel_rfl)
  have hb12_:=hall 12 (by kernel_rfl)
  have hb13_:=hall 13 (by kernel_rfl)
  have hb14_:=hall 14 (by kernel_rfl)
  have hb15_:=hall 15 (by kernel_rfl)
  have hb16_:=hall 16 (by kernel_rfl)
  have hb17_:=hall 17 (by kernel_rfl)
  have hb18_:=hall 18 (by kernel_rfl)
  have hb19_:=hall 19 (by kernel_rfl)
  subst ha
  obtain rfl:=Q_X4_ hb4_
  obtain rfl:=Q_X7_ hb7_
  obtain rfl:=Q_X8_ hb8_
  obtain rfl:=Q_X9_ hb9_
  obtain rfl:=Q_X10_ hb10_
  obtain rfl:=Q_X12_ hb12_
  obtain rfl:=Q_X14_ hb14_
  obtain rfl:=Q_X15_ hb15_
  obtain rfl:=Q_X16_ hb16_
  simp only [zdz,hb1_,hb2_,hb4_,hb6_,hb7_,hb8_,hb9_,hb10_,hb11_,hb12_,hb13_,hb14_,hb15_,hb16_,hb17_,hb18_,hb19_,if_true,Act.put,List.setIfInBounds_toArray,List.set_cons_zero,List.set_cons_succ]
  clear Q_CBa
  have CBb:=am_ (Q_CBb hb18_)
  clear Q_CBb
  have hCB_:=CBb.out
  clear CBb
  subst hCB_
  have HI:=am_ Q_HI
  replace HI:=am_ (Inv.take HI.out 4 rfl hb4_)
  replace HI:=am_ (Inv.take HI.out 4 rfl hb8_)
  replace HI:=am_ (Inv.take HI.out 4 rfl hb8_)
  replace HI:=am_ (Inv.take HI.out 4 rfl hb15_)
  replace HI:=am_ (Inv.take HI.out 4 rfl hb14_)
  replace HI:zal (Inv w NoB w' [blk g13 34 #[.int .i64 x2,.int .i64 x3],blk g14 27 #[.slice X4 x4.length cx4,.int .i64 x5,.string x6,.int .i64 x7],row k34 34 w.heap.size (.slice X1 x1.length cx1) x1 (fun k=>some k=(Value.ownBlock (.slice X1 x1.length cx1))),row k34 34 w.heap.size (.slice X4 x4.length cx4) x4 (fun k=>some k=(Value.ownBlock (.slice X4 x4.length cx4))),row (Kd.tag f1 (Kd.slice 34 k34)) 24 w.heap.size (.slice L1 L.length cl1) L.zipIdx S1_,blk g9 59 #[.slice A4 m0.length c4,.int .i64 m1,.string m2,.int .i64 m3],blk g6 56 #[.int .i64 d0,.int .i64 d1]] (fun w2=>Kd.C (Kd.slice 56 k56) w2 A2 l2.length l2∧Kd.C k56 w2 A4 m0.length m0)):=⟨Inv.ze1 (HI.out.subL (L':=[blk g13 34 (cond (b 17) (#[.int .i64 x2,.int .i64 x3]) (#[.int .i64 0,.int .i64 0])),blk g14 27 (#[.slice X4 x4.length cx4,.int .i64 x5,.string x6,.int .i64 x7]),row k34 34 w.heap.size (.slice X1 x1.length cx1) x1 (fun k=>some k=(Value.ownBlock (.slice X1 x1.length cx1))),row k34 34 w.heap.size (.slice X4 x4.length cx4) x4 (fun k=>some k=(Value.ownBlock (.slice X4 x4.length cx4))),row (Kd.tag f1 (Kd.slice 34 k34)) 24 w.heap.size (.slice L1 L.length cl1) L.zipIdx S1_,blk g9 59 #[.slice A4 m0.length c4,.int .i64 m1,.string m2,.int .i64 m3],blk g6 56 #[.int .i64 d0,.int .i64 d1]]) qz34_) (by rw [hb17_];rfl)⟩
  clear Q_HI
  clear hall hb1_ hb2_ hb4_ hb6_ hb7_ hb8_ hb9_ hb10_ hb11_ hb12_ hb13_ hb14_ hb15_ hb16_ hb17_ hb18_ hb19_
  go_wp2_with (first|((go_at_call 28;(refine(zbt.calls k A2 c2 l2 L _ HI.out.now.1 HC2.out HTL.out).mono ?_);rintro e w54 ⟨vl_,rfl,hS,hb⟩;obtain⟨L2,cl2,el_⟩:=Kd.zb0 (Kd.S_R hS);subst el_;obtain⟨f2,hR⟩:=hS;replace HI:=am_ (HI.out.zdj hb hR);clear hR hb))|((with_reducible refine zad (N:=55) rfl ?_);go_must (refine wpList_load_row rfl 59 _ rfl g9 rfl 59 (#[.slice A4 m0.length c4,.int .i64 m1,.string m2,.int .i64 m3]) (0,0) _ (HI.out.at_ (blk g9 59 #[.slice A4 m0.length c4,.int .i64 m1,.string m2,.int .i64 m3]) qz40_) hu59 rfl (by first|exact zby _ _|kernel_rfl) ?_))|((go_at_call 29;(refine(zdh.calls k A4 c4 m0 m1 m2 m3 q0 q1 q2 q3 _ HI.out.now.2 HC4.out HTS.out).mono ?_);rintro e w56 ⟨vq_,rfl,hR,hb⟩;obtain⟨Q2,cq2,eq_⟩:=Kd.zb0 hR;subst eq_;replace HI:=am_ (HI.out.zdj hb hR);clear hR hb))|((with_reducible refine zad (N:=17) rfl ?_);refine zae rfl (N:=17) rfl (cs:=#[.slice none 0 0,.int .i64 0,.string (⟨#[]⟩:ByteArray),.int .i64 0]) (t:=27) bx_ ?_;intro g17 hg w17_ hbox hb;replace HI:=am_ ((HI.out).box hg hbox hb);clear hb hbox hg)|((with_reducible refine zaq (p:=17) (v:=(.tmp 56)) (t:=27) rfl ?_);go_must (refine wpList_store_row rfl 27 _ _ rfl g17 (#[.slice Q2 q0.length cq2,.int .i64 q1,.string q2,.int .i64 q3]) rfl (by first|rfl|(go_simp;done)|(go_simp;rfl)) 27 (#[.slice none 0 0,.int .i64 0,.string (⟨#[]⟩:ByteArray),.int .i64 0]) (HI.out.get 0 rfl) (by kernel_rfl) rfl qz12_ ?_;replace HI:=am_ ((HI.out).put0 (#[.slice Q2 q0.length cq2,.int .i64 q1,.string q2,.int .i64 q3]));generalize World.setRow _ g17 (#[.slice Q2 q0.length cq2,.int .i64 q1,.string q2,.int .i64 q3])=w56 at HI ⊢)))
  have HE_:∃ (S3_:Nat→Prop) (S2_:Nat→Prop),Inv w NoB _ [blk g17 27 #[.slice Q2 q0.length cq2,.int .i64 q1,.string q2,.int .i64 q3],row k34 34 w.heap.size (.slice Q2 q0.length cq2) q0 S3_,row (Kd.tag f2 (Kd.slice 34 k34)) 24 w.heap.size (.slice L2 L.length cl2) L.zipIdx S2_,blk g13 34 #[.int .i64 x2,.int .i64 x3],blk g14 27 #[.slice X4 x4.length cx4,.int .i64 x5,.string x6,.int .i64 x7],row k34 34 w.heap.size (.slice X1 x1.length cx1) x1 (fun k=>some k=(Value.ownBlock (.slice X1 x1.length cx1))),row k34 34 w.heap.size (.slice X4 x4.length cx4) x4 (fun k=>some k=(Value.ownBlock (.slice X4 x4.length cx4))),row (Kd.tag f1 (Kd.slice 34 k34)) 24 w.heap.size (.slice L1 L.length cl1) L.zipIdx S1_,blk g9 59 #[.slice A4 m0.length c4,.int .i64 m1,.string m2,.int .i64 m3],blk g6 56 #[.int .i64 d0,.int .i64 d1]] (fun w2=>Kd.C (Kd.slice 56 k56) w2 A2 l2.length l2∧Kd.C k56 w2 A4 m0.length m0):=⟨_,_,HI.out⟩
  clear HI
  obtain⟨S3_,S2_,HI_⟩:=HE_
  have HI:=am_ HI_
  clear HI_
  refine zcb (n:=18) (S:=fun w'=>True) (ds:=[]) (bs_ 18 0) (by kernel_rfl) rfl rfl trivial (fun hHeld=>?_)
  refine zcr zao.tab11 zao.bits11 (fun HT_ HW_=>?_)
  have CBa:True:=trivial
  replace HI:=am_ (HI.out.drew)
  generalize World.drew _=wd11 at HI ⊢
  refine pt_ HT_.out 0 58 (bs_ 18 1) ?_
  refine pt_ HT_.out 3 61 (bs_ 18 9) ?_
  refine pt_ HT_.out 4 62 (bs_ 18 25) ?_
  refine zo7 [1,2,5,6,7,8,9,10,11,12,13,14,15,16,17] (fun a0_ b a w'=>∃ (G1:Option Addr) (cg1:Nat) (G4:Option Addr) (cg4:Nat) (g19:Nat) (g20:Nat) (CB11:Array Value) (m6_:Value) (m7_:Value) (m8_:Value) (m10_:Value) (m12_:Value) (m13_:Value) (m14_:Value),a=zdz a0_ b [(1,59,.agg #[.int .i64 d0,.int .i64 d1]),(2,60,.agg #[.int .i64 c0,.int .i64 c1]),(5,63,.agg #[.slice Q2 q0.length cq2,.int .i64 q1,.string q2,.int .i64 q3]),(6,64,m6_),(7,57,m7_),(8,65,m8_),(9,66,.agg #[.int .i64 g2,.int .i64 g3]),(10,67,m10_),(11,68,.int .i64 g8),(12,19,m12_),(13,20,m13_),(14,18,m14_),(17,21,.int .i64 g8)]∧(b 16=false→CB11=#[.slice none 0 0,.int .i64 0,.string (⟨#[]⟩:ByteArray),.int .i64 0])∧(b 16=true→CB11=#[.slice G4 g4.length cg4,.int .i64 g5,.string g6_,.int .i64 g7])∧(Inv w NoB w' [gif (b 12) (blk g19 34 (cond (b 15) (#[.int .i64 g2,.int .i64 g3]) (#[.int .i64 0,.int .i64 0]))),gif (b 13) (blk g20 27 CB11),gif (b 6) (row k34 34 w.heap.size (.slice G1 g1.length cg1) g1 (fun k=>some k=(Value.ownBlock (.slice G1 g1.length cg1)))),gif (b 6) (row k34 34 w.heap.size (.slice G4 g4.length cg4) g4 (fun k=>some k=(Value.ownBlock (.slice G4 g4.length cg4)))),blk g17 27 #[.slice Q2 q0.length cq2,.int .i64 q1,.string q2,.int .i64 q3],row k34 34 w.heap.size (.slice Q2 q0.length cq2) q0 S3_,row (Kd.tag f2 (Kd.slice 34 k34)) 24 w.heap.size (.slice L2 L.length cl2) L.zipIdx S2_,blk g13 34 #[.int .i64 x2,.int .i64 x3],blk g14 27 #[.slice X4 x4.length cx4,.int .i64 x5,.string x6,.int .i64 x7],row k34 34 w.heap.size (.slice X1 x1.length cx1) x1 (fun k=>some k=(Value.ownBlock (.slice X1 x1.length cx1))),row k34 34 w.heap.size (.slice X4 x4.length cx4) x4 (fun k=>some k=(Value.ownBlock (.slice X4 x4.length cx4))),row (Kd.tag f1 (Kd.slice 34 k34)) 24 w.heap.size (.slice L1 L.length cl1) L.zipIdx S1_,blk g9 59 #[.slice A4 m0.length c4,.int .i64 m1,.string m2,.int .i64 m3],blk g6 56 #[.int .i64 d0,.int .i64 d1]] (fun w2=>Kd.C (Kd.slice 56 k56) w2 A2 l2.length l2∧Kd.C k56 w2 A4 m0.length m0))∧(b 6=true→(m6_:Value)=.tuple #[.slice G1 g1.length cg1,.agg #[.int .i64 g2,.int .i64 g3],.agg #[.slice G4 g4.length cg4,.int .i64 g5,.string g6_,.int .i64 g7],.int .i64 g8])∧(b 7=true→(m7_:Value)=.tuple #[.slice G1 g1.length cg1,.agg #[.int .i64 g2,.int .i64 g3],.agg #[.slice G4 g4.length cg4,.int .i64 g5,.string g6_,.int .i64 g7],.int .i64 g8])∧(b 8=true→(m8_:Value)=.slice G1 g1.length cg1)∧(b 10=true→(m10_:Value)=.agg #[.slice G4 g4.length cg4,.int .i64 g5,.string g6_,.int .i64 g7])∧(b 12=true→(m12_:Value)=.pointer (some ⟨g19,0,none⟩))∧(b 13=true→(m13_:Value)=.pointer (some ⟨g20,0,none⟩))∧(b 14=true→(m14_:Value)=.slice G1 g1.length cg1)) HT_.out HW_.out (by kernel_rfl) (by kernel_rfl) ?_ ?_ ?_
  ·
   exact⟨none,0,none,0,0,0,#[.slice none 0 0,.int .i64 0,.string (⟨#[]⟩:ByteArray),.int .i64 0],.bool false,.bool false,.bool false,.bool false,.bool false,.bool false,.bool false,by simp only [zdz,Bool.false_eq_true,if_false],fun _=>rfl,fun h_=>absurd h_ (by decide),Inv.off (Inv.off (Inv.off (Inv.off (HI.out)))),fun h_=>absurd h_ (by decide),fun h_=>absurd h_ (by decide),fun h_=>absurd h_ (by decide),fun h_=>absurd h_ (by decide),fun h_=>absurd h_ (by decide),fun h_=>absurd h_ (by decide),fun h_=>absurd h_ (by decide)⟩
  ·
   skip
   clear CBa HI
   refine zaw ?_ ?_
   ·
    rintro b a w' ⟨G1,cg1,G4,cg4,g19,g20,CB11,m6_,m7_,m8_,m10_,m12_,m13_,m14_,ha,Q_CBa,Q_CBb,Q_HI,Q_X6_,Q_X7_,Q_X8_,Q_X10_,Q_X12_,Q_X13_,Q_X14_⟩ hb_ hon hoff
    refine⟨_,rfl,fun K hK=>?_⟩
    have e6:a.tmps[6]?=some (.pointer (some ⟨g6,0,none⟩)):=by rw [ha];exact(zcx rfl).trans rfl
    replace ha:=am_ ha
    have CBa:=am_ (Q_CBa (hoff 16 (by kernel_rfl)))
    have HI:=am_ Q_HI
    have y_0:w'.cell? ⟨g6,0,none⟩=some (.int .i64 d0):=(zaa (HI.out.at_ (blk g6 56 #[.int .i64 d0,.int .i64 d1]) qz40_) 0).trans rfl
    have y_1:w'.cell? ⟨g6,1,none⟩=some (.int .i64 d1):=(zaa (HI.out.at_ (blk g6 56 #[.int .i64 d0,.int .i64 d1]) qz40_) 1).trans rfl
    refine zbf (w1:=w') (v:=.agg #[.int .i64 d0,.int .i64 d1]) (by rfl) rfl ?_ ?_
    ·
     go_simp
     (try simp only [i64_w])
     try rfl
    refine hK.out _ _ ⟨G1,cg1,G4,cg4,g19,g20,CB11,m6_,m7_,m8_,m10_,m12_,m13_,m14_,(by rw [ha.out];exact za5 0 hb_ rfl rfl rfl),Q_CBa,fun h0_=>ab_ (hoff 16 (by kernel_rfl)) h0_,Q_HI,fun h0_=>ab_ (hoff 6 (by kernel_rfl)) h0_,fun h0_=>ab_ (hoff 7 (by kernel_rfl)) h0_,fun h0_=>ab_ (hoff 8 (by kernel_rfl)) h0_,fun h0_=>ab_ (hoff 10 (by kernel_rfl)) h0_,Q_X12_,Q_X13_,fun h0_=>ab_ (hoff 14 (by kernel_rfl)) h0_⟩
   refine zaw ?_ ?_
   ·
    rintro b a w' ⟨G1,cg1,G4,cg4,g19,g20,CB11,m6_,m7_,m8_,m10_,m12_,m13_,m14_,ha,Q_CBa,Q_CBb,Q_HI,Q_X6_,Q_X7_,Q_X8_,Q_X10_,Q_X12_,Q_X13_,Q_X14_⟩ hb_ hon hoff
    refine⟨_,rfl,fun K hK=>?_⟩
    have e59:a.tmps[59]?=some (.agg #[.int .i64 d0,.int .i64 d1]):=by rw [ha];exact zbb (e:=(1,59,.agg #[.int .i64 d0,.int .i64 d1])) 0 rfl rfl (hon 1 (by kernel_rfl)) rfl
    replace ha:=am_ ha
    have CBa:=am_ (Q_CBa (hoff 16 (by kernel_rfl)))
    have HI:=am_ Q_HI
    refine goes_ Try.func27 (by kernel_rfl) rfl #[.agg #[.int .i64 d0,.int .i64 d1]] (by rfl) rfl rfl (by first|(simp only [List.map_toArray,List.map_cons,List.map_nil,Act.eval,Array.getD_eq_getD_getElem?,Option.getD_some,e59];done)|(simp only [List.map_toArray,List.map_cons,List.map_nil,Act.eval,Array.getD_eq_getD_getElem?,Option.getD_some,e59];rfl)) ?_
    with_reducible refine(zea.calls d0 d1 c0 c1 _ HTE.out).mono ?_
    rintro e wt ⟨rfl,hb⟩
    refine⟨_,rfl,?_⟩
    have HI2:=am_ (HI.out.grow hb)
    refine hK.out _ _ ⟨G1,cg1,G4,cg4,g19,g20,CB11,m6_,m7_,m8_,m10_,m12_,m13_,m14_,(by rw [ha.out];exact za5 1 hb_ rfl rfl rfl),Q_CBa,fun h0_=>ab_ (hoff 16 (by kernel_rfl)) h0_,HI2.out,fun h0_=>ab_ (hoff 6 (by kernel_rfl)) h0_,fun h0_=>ab_ (hoff 7 (by kernel_rfl)) h0_,fun h0_=>ab_ (hoff 8 (by kernel_rfl)) h0_,fun h0_=>ab_ (hoff 10 (by kernel_rfl)) h0_,Q_X12_,Q_X13_,fun h0_=>ab_ (hoff 14 (by kernel_rfl)) h0_⟩
   refine zaw ?_ ?_
   ·
    rintro b a w' ⟨G1,cg1,G4,cg4,g19,g20,CB11,m6_,m7_,m8_,m10_,m12_,m13_,m14_,ha,Q_CBa,Q_CBb,Q_HI,Q_X6_,Q_X7_,Q_X8_,Q_X10_,Q_X12_,Q_X13_,Q_X14_⟩ hb_ hon hoff
    refine⟨_,rfl,fun K hK=>?_⟩
    have e17:a.tmps[17]?=some (.pointer (some ⟨g17,0,none⟩)):=by rw [ha];exact(zcx rfl).trans rfl
    replace ha:=am_ ha
    have CBa:=am_ (Q_CBa (hoff 16 (by kernel_rfl)))
    have HI:=am_ Q_HI
    have y_0:w'.cell? ⟨g17,0,none⟩=some (.slice Q2 q0.length cq2):=(zaa (HI.out.at_ (blk g17 27 #[.slice Q2 q0.length cq2,.int .i64 q1,.string q2,.int .i64 q3]) qz40_) 0).trans rfl
    have y_1:w'.cell? ⟨g17,1,none⟩=some (.int .i64 q1):=(zaa (HI.out.at_ (blk g17 27 #[.slice Q2 q0.length cq2,.int .i64 q1,.string q2,.int .i64 q3]) qz40_) 1).trans rfl
    have y_2:w'.cell? ⟨g17,2,none⟩=some (.string q2):=(zaa (HI.out.at_ (blk g17 27 #[.slice Q2 q0.length cq2,.int .i64 q1,.string q2,.int .i64 q3]) qz40_) 2).trans rfl
    have y_3:w'.cell? ⟨g17,3,none⟩=some (.int .i64 q3):=(zaa (HI.out.at_ (blk g17 27 #[.slice Q2 q0.length cq2,.int .i64 q1,.string q2,.int .i64 q3]) qz40_) 3).trans rfl
    refine zbf (w1:=w') (v:=.agg #[.slice Q2 q0.length cq2,.int .i64 q1,.string q2,.int .i64 q3]) (by rfl) rfl ?_ ?_
    ·
     go_simp
     (try simp only [i64_w])
     try rfl
    refine hK.out _ _ ⟨G1,cg1,G4,cg4,g19,g20,CB11,m6_,m7_,m8_,m10_,m12_,m13_,m14_,(by rw [ha.out];exact za5 2 hb_ rfl rfl rfl),Q_CBa,fun h0_=>ab_ (hoff 16 (by kernel_rfl)) h0_,Q_HI,fun h0_=>ab_ (hoff 6 (by kernel_rfl)) h0_,fun h0_=>ab_ (hoff 7 (by kernel_rfl)) h0_,fun h0_=>ab_ (hoff 8 (by kernel_rfl)) h0_,fun h0_=>ab_ (hoff 10 (by kernel_rfl)) h0_,Q_X12_,Q_X13_,fun h0_=>ab_ (hoff 14 (by kernel_rfl)) h0_⟩
   refine zaw ?_ ?_
   ·
    rintro b a w' ⟨G1,cg1,G4,cg4,g19,g20,CB11,m6_,m7_,m8_,m10_,m12_,m13_,m14_,ha,Q_CBa,Q_CBb,Q_HI,Q_X6_,Q_X7_,Q_X8_,Q_X10_,Q_X12_,Q_X13_,Q_X14_⟩ hb_ hon hoff
    refine⟨_,rfl,fun K hK=>?_⟩
    have e58:a.tmps[58]?=some (.int .i64 kind):=by rw [ha];exact(zcx rfl).trans rfl
    have e60:a.tmps[60]?=some (.agg #[.int .i64 c0,.int .i64 c1]):=by rw [ha];exact zbb (e:=(2,60,.agg #[.int .i64 c0,.int .i64 c1])) 1 rfl rfl (hon 2 (by kernel_rfl)) rfl
    have e61:a.tmps[61]?=some (.slice L2 L.length cl2):=by rw [ha];exact(zcx rfl).trans rfl
    have e62:a.tmps[62]?=some (.int .i64 vars):=by rw [ha];exact(zcx rfl).trans rfl
    have e63:a.tmps[63]?=some (.agg #[.slice Q2 q0.length cq2,.int .i64 q1,.string q2,.int .i64 q3]):=by rw [ha];exact zbb (e:=(5,63,.agg #[.slice Q2 q0.length cq2,.int .i64 q1,.string q2,.int .i64 q3])) 2 rfl rfl (hon 5 (by kernel_rfl)) rfl
    replace ha:=am_ ha
    have CBa:=am_ (Q_CBa (hoff 16 (by kernel_rfl)))
    have HI:=am_ Q_HI
    refine goes_ Try.func30 (by kernel_rfl) rfl #[.int .i64 kind,.agg #[.int .i64 c0,.int .i64 c1],.slice L2 L.length cl2,.int .i64 vars,.agg #[.slice Q2 q0.length cq2,.int .i64 q1,.string q2,.int .i64 q3]] (by rfl) rfl rfl (by first|(simp only [List.map_toArray,List.map_cons,List.map_nil,Act.eval,Array.getD_eq_getD_getElem?,Option.getD_some,e58,e60,e61,e62,e63];done)|(simp only [List.map_toArray,List.map_cons,List.map_nil,Act.eval,Array.getD_eq_getD_getElem?,Option.getD_some,e58,e60,e61,e62,e63];rfl)) ?_
    have hQ_:=Kd.R_reads' (rowR (HI.out.at_ (row k34 34 w.heap.size (.slice Q2 q0.length cq2) q0 S3_) qz40_))
    with_reducible refine(zbm.calls k kind c0 c1 L2 cl2 L vars Q2 cq2 q0 q1 q2 q3 g1 g2 g3 g4 g5 g6_ g7 g8 _ (tagC (rowR (HI.out.at_ (row (Kd.tag f2 (Kd.slice 34 k34)) 24 w.heap.size (.slice L2 L.length cl2) L.zipIdx S2_) qz40_))).1 (tagC (rowR (HI.out.at_ (row (Kd.tag f2 (Kd.slice 34 k34)) 24 w.heap.size (.slice L2 L.length cl2) L.zipIdx S2_) qz40_))).2 hQ_.2.2 hQ_.2.1 HIV.out).mono ?_
    rintro e wt ⟨v0_,v3_,rfl,hR0,hR3,hb⟩
    obtain⟨X_n,cx_n,ex_⟩:=Kd.zb0 hR0
    subst ex_
    obtain⟨Y_n,cy_n,ey_⟩:=Kd.zb0 hR3
    subst ey_
    refine⟨_,rfl,?_⟩
    have HI5:=am_ (Inv.zin (b3:=w.heap.size) rfl rfl HI.out.nil0 ((Agr.of_below hb).mono (fun _ h=>h.elim)) hR0 (Nat.le_refl _) HI.out.agr.size (Kd.zdk (Kd.zee hR3) HI.out.agr.size) (fun k hk=>.inr hk.2.1) (fun k hk=>hk.1))
    have HI2:=am_ (Inv.fill true (Inv.fill true HI5.out 3 rfl) 3 rfl)
    refine hK.out _ _ ⟨X_n,cx_n,Y_n,cy_n,g19,g20,CB11,(.tuple #[.slice X_n g1.length cx_n,.agg #[.int .i64 g2,.int .i64 g3],.agg #[.slice Y_n g4.length cy_n,.int .i64 g5,.string g6_,.int .i64 g7],.int .i64 g8]),m7_,m8_,m10_,m12_,m13_,m14_,(by rw [ha.out];exact za5 3 hb_ rfl rfl rfl),Q_CBa,fun h0_=>ab_ (hoff 16 (by kernel_rfl)) h0_,HI2.out,fun _=>rfl,fun h0_=>ab_ (hoff 7 (by kernel_rfl)) h0_,fun h0_=>ab_ (hoff 8 (by kernel_rfl)) h0_,fun h0_=>ab_ (hoff 10 (by kernel_rfl)) h0_,Q_X12_,Q_X13_,fun h0_=>ab_ (hoff 14 (by kernel_rfl)) h0_⟩
   refine zaw ?_ ?_
   ·
    rintro b a w' ⟨G1,cg1,G4,cg4,g19,g20,CB11,m6_,m7_,m8_,m10_,m12_,m13_,m14_,ha,Q_CBa,Q_CBb,Q_HI,Q_X6_,Q_X7_,Q_X8_,Q_X10_,Q_X12_,Q_X13_,Q_X14_⟩ hb_ hon hoff
    refine⟨_,rfl,fun K hK=>?_⟩
    have e64:a.tmps[64]?=some (m6_):=by rw [ha];exact zbb (e:=(6,64,m6_)) 3 rfl rfl (hon 6 (by kernel_rfl)) rfl
    rw [Q_X6_ (hon 6 (by kernel_rfl))] at e64
    replace ha:=am_ ha
    have CBa:=am_ (Q_CBa (hoff 16 (by kernel_rfl)))
    have HI:=am_ Q_HI
    refine zbf (w1:=w') (v:=.tuple #[.slice G1 g1.length cg1,.agg #[.int .i64 g2,.int .i64 g3],.agg #[.slice G4 g4.length cg4,.int .i64 g5,.string g6_,.int .i64 g7],.int .i64 g8]) (by rfl) rfl ?_ ?_
    ·
     go_simp
     (try simp only [i64_w])
     try rfl
    refine hK.out _ _ ⟨G1,cg1,G4,cg4,g19,g20,CB11,m6_,(.tuple #[.slice G1 g1.length cg1,.agg #[.int .i64 g2,.int .i64 g3],.agg #[.slice G4 g4.length cg4,.int .i64 g5,.string g6_,.int .i64 g7],.int .i64 g8]),m8_,m10_,m12_,m13_,m14_,(by rw [ha.out];exact za5 4 hb_ rfl rfl rfl),Q_CBa,fun h0_=>ab_ (hoff 16 (by kernel_rfl)) h0_,Q_HI,Q_X6_,fun _=>rfl,fun h0_=>ab_ (hoff 8 (by kernel_rfl)) h0_,fun h0_=>ab_ (hoff 10 (by kernel_rfl)) h0_,Q_X12_,Q_X13_,fun h0_=>ab_ (hoff 14 (by kernel_rfl)) h0_⟩
   refine zaw ?_ ?_
   ·
    rintro b a w' ⟨G1,cg1,G4,cg4,g19,g20,CB11,m6_,m7_,m8_,m10_,m12_,m13_,m14_,ha,Q_CBa,Q_CBb,Q_HI,Q_X6_,Q_X7_,Q_X8_,Q_X10_,Q_X12_,Q_X13_,Q_X14_⟩ hb_ hon hoff
    refine⟨_,rfl,fun K hK=>?_⟩
    have e57:a.tmps[57]?=some (m7_):=by rw [ha];exact zbb (e:=(7,57,m7_)) 4 rfl rfl (hon 7 (by kernel_rfl)) rfl
    rw [Q_X7_ (hon 7 (by kernel_rfl))] at e57
    replace ha:=am_ ha
    have CBa:=am_ (Q_CBa (hoff 16 (by kernel_rfl)))
    have HI:=am_ Q_HI
    refine zbf (w1:=w') (v:=.slice G1 g1.length cg1) (by rfl) rfl ?_ ?_
    ·
     go_simp
     (try simp only [i64_w])
     try rfl
    refine hK.out _ _ ⟨G1,cg1,G4,cg4,g19,g20,CB11,m6_,m7_,(.slice G1 g1.length cg1),m10_,m12_,m13_,m14_,(by rw [ha.out];exact za5 5 hb_ rfl rfl rfl),Q_CBa,fun h0_=>ab_ (hoff 16 (by kernel_rfl)) h0_,Q_HI,Q_X6_,Q_X7_,fun _=>rfl,Q_X10_,Q_X12_,Q_X13_,fun h0_=>ab_ (hoff 14 (by kernel_rfl)) h0_⟩
   refine zaw ?_ ?_
   ·
    rintro b a w' ⟨G1,cg1,G4,cg4,g19,g20,CB11,m6_,m7_,m8_,m10_,m12_,m13_,m14_,ha,Q_CBa,Q_CBb,Q_HI,Q_X6_,Q_X7_,Q_X8_,Q_X10_,Q_X12_,Q_X13_,Q_X14_⟩ hb_ hon hoff
    refine⟨_,rfl,fun K hK=>?_⟩
    have e57:a.tmps[57]?=some (m7_):=by rw [ha];exact zbb (e:=(7,57,m7_)) 4 rfl rfl (hon 7 (by kernel_rfl)) rfl
    rw [Q_X7_ (hon 7 (by kernel_rfl))] at e57
    replace ha:=am_ ha
    have CBa:=am_ (Q_CBa (hoff 16 (by kernel_rfl)))
    have HI:=am_ Q_HI
    refine zbf (w1:=w') (v:=.agg #[.int .i64 g2,.int .i64 g3]) (by rfl) rfl ?_ ?_
    ·
     go_simp
     (try simp only [i64_w])
     try rfl
    refine hK.out _ _ ⟨G1,cg1,G4,cg4,g19,g20,CB11,m6_,m7_,m8_,m10_,m12_,m13_,m14_,(by rw [ha.out];exact za5 6 hb_ rfl rfl rfl),Q_CBa,fun h0_=>ab_ (hoff 16 (by kernel_rfl)) h0_,Q_HI,Q_X6_,Q_X7_,Q_X8_,Q_X10_,Q_X12_,Q_X13_,Q_X14_⟩
   refine zaw ?_ ?_
   ·
    rintro b a w' ⟨G1,cg1,G4,cg4,g19,g20,CB11,m6_,m7_,m8_,m10_,m12_,m13_,m14_,ha,Q_CBa,Q_CBb,Q_HI,Q_X6_,Q_X7_,Q_X8_,Q_X10_,Q_X12_,Q_X13_,Q_X14_⟩ hb_ hon hoff
    refine⟨_,rfl,fun K hK=>?_⟩
    have e57:a.tmps[57]?=some (m7_):=by rw [ha];exact zbb (e:=(7,57,m7_)) 4 rfl rfl (hon 7 (by kernel_rfl)) rfl
    rw [Q_X7_ (hon 7 (by kernel_rfl))] at e57
    replace ha:=am_ ha
    have CBa:=am_ (Q_CBa (hoff 16 (by kernel_rfl)))
    have HI:=am_ Q_HI
    refine zbf (w1:=w') (v:=.agg #[.slice G4 g4.length cg4,.int .i64 g5,.string g6_,.int .i64 g7]) (by rfl) rfl ?_ ?_
    ·
     go_simp
     (try simp only [i64_w])
     try rfl
    refine hK.out _ _ ⟨G1,cg1,G4,cg4,g19,g20,CB11,m6_,m7_,m8_,(.agg #[.slice G4 g4.length cg4,.int .i64 g5,.string g6_,.int .i64 g7]),m12_,m13_,m14_,(by rw [ha.out];exact za5 7 hb_ rfl rfl rfl),Q_CBa,fun h0_=>ab_ (hoff 16 (by kernel_rfl)) h0_,Q_HI,Q_X6_,Q_X7_,Q_X8_,fun _=>rfl,Q_X12_,Q_X13_,Q_X14_⟩
   refine zaw ?_ ?_
   ·
    rintro b a w' ⟨G1,cg1,G4,cg4,g19,g20,CB11,m6_,m7_,m8_,m10_,m12_,m13_,m14_,ha,Q_CBa,Q_CBb,Q_HI,Q_X6_,Q_X7_,Q_X8_,Q_X10_,Q_X12_,Q_X13_,Q_X14_⟩ hb_ hon hoff
    refine⟨_,rfl,fun K hK=>?_⟩
    have e57:a.tmps[57]?=some (m7_):=by rw [ha];exact zbb (e:=(7,57,m7_)) 4 rfl rfl (hon 7 (by kernel_rfl)) rfl
    rw [Q_X7_ (hon 7 (by kernel_rfl))] at e57
    replace ha:=am_ ha
    have HI:=am_ Q_HI
    refine zbf (w1:=w') (v:=.int .i64 g8) (by rfl) rfl ?_ ?_
    ·
     go_simp
     (try simp only [i64_w])
     try rfl
    refine hK.out _ _ ⟨G1,cg1,G4,cg4,g19,g20,CB11,m6_,m7_,m8_,m10_,m12_,m13_,m14_,(by rw [ha.out];exact za5 8 hb_ rfl rfl rfl),Q_CBa,Q_CBb,Q_HI,Q_X6_,Q_X7_,Q_X8_,Q_X10_,Q_X12_,Q_X13_,Q_X14_⟩
   refine zaw ?_ ?_
   ·
    rintro b a w' ⟨G1,cg1,G4,cg4,g19,g20,CB11,m6_,m7_,m8_,m10_,m12_,m13_,m14_,ha,Q_CBa,Q_CBb,Q_HI,Q_X6_,Q_X7_,Q_X8_,Q_X10_,Q_X12_,Q_X13_,Q_X14_⟩ hb_ hon hoff
    refine⟨_,rfl,fun K hK=>?_⟩
    replace ha:=am_ ha
    have CBa:=am_ (Q_CBa (hoff 16 (by kernel_rfl)))
    have HI:=am_ Q_HI
    refine zbf (w1:=w'.alloc (.cells #[.int .i64 0,.int .i64 0] 34)) (v:=.pointer (some ⟨w'.heap.size,0,none⟩)) (by rfl) rfl ?_ ?_
    ·
     first|(go_simp;done)|(go_simp;rfl)
    have HI2:=am_ (Inv.fill true (Inv.ze1 (HI.out.zgm 34 (#[.int .i64 0,.int .i64 0])) (cs':=cond (b 15) (#[.int .i64 g2,.int .i64 g3]) (#[.int .i64 0,.int .i64 0])) (by rw [hoff 15 (by kernel_rfl)];rfl)) 0 rfl)
    refine hK.out _ _ ⟨G1,cg1,G4,cg4,w'.heap.size,g20,CB11,m6_,m7_,m8_,m10_,(.pointer (some ⟨w'.heap.size,0,none⟩)),m13_,m14_,(by rw [ha.out];exact za5 9 hb_ rfl rfl rfl),Q_CBa,fun h0_=>ab_ (hoff 16 (by kernel_rfl)) h0_,HI2.out,Q_X6_,Q_X7_,Q_X8_,Q_X10_,fun _=>rfl,Q_X13_,fun h0_=>ab_ (hoff 14 (by kernel_rfl)) h0_⟩
   refine zaw ?_ ?_
   ·
    rintro b a w' ⟨G1,cg1,G4,cg4,g19,g20,CB11,m6_,m7_,m8_,m10_,m12_,m13_,m14_,ha,Q_CBa,Q_CBb,Q_HI,Q_X6_,Q_X7_,Q_X8_,Q_X10_,Q_X12_,Q_X13_,Q_X14_⟩ hb_ hon hoff
    refine⟨_,rfl,fun K hK=>?_⟩
    replace ha:=am_ ha
    have CBa:=am_ (Q_CBa (hoff 16 (by kernel_rfl)))
    have HI:=am_ Q_HI
    refine zbf (w1:=w'.alloc (.cells #[.slice none 0 0,.int .i64 0,.string (⟨#[]⟩:ByteArray),.int .i64 0] 27)) (v:=.pointer (some ⟨w'.heap.size,0,none⟩)) (by rfl) rfl ?_ ?_
    ·
     first|(go_simp;done)|(go_simp;rfl)
    have HI2:=am_ (Inv.fill true (Inv.ze1 (HI.out.zgm 27 (#[.slice none 0 0,.int .i64 0,.string (⟨#[]⟩:ByteArray),.int .i64 0])) (cs':=CB11) CBa.out) 1 rfl)
    refine hK.out _ _ ⟨G1,cg1,G4,cg4,g19,w'.heap.size,CB11,m6_,m7_,m8_,m10_,m12_,(.pointer (some ⟨w'.heap.size,0,none⟩)),m14_,(by rw [ha.out];exact za5 10 hb_ rfl rfl rfl),Q_CBa,fun h0_=>ab_ (hoff 16 (by kernel_rfl)) h0_,HI2.out,Q_X6_,Q_X7_,Q_X8_,Q_X10_,Q_X12_,fun _=>rfl,fun h0_=>ab_ (hoff 14 (by kernel_rfl)) h0_⟩
   refine zaw ?_ ?_
   ·
    rintro b a w' ⟨G1,cg1,G4,cg4,g19,g20,CB11,m6_,m7_,m8_,m10_,m12_,m13_,m14_,ha,Q_CBa,Q_CBb,Q_HI,Q_X6_,Q_X7_,Q_X8_,Q_X10_,Q_X12_,Q_X13_,Q_X14_⟩ hb_ hon hoff
    refine⟨_,rfl,fun K hK=>?_⟩
    have e65:a.tmps[65]?=some (m8_):=by rw [ha];exact zbb (e:=(8,65,m8_)) 5 rfl rfl (hon 8 (by kernel_rfl)) rfl
    rw [Q_X8_ (hon 8 (by kernel_rfl))] at e65
    replace ha:=am_ ha
    have CBa:=am_ (Q_CBa (hoff 16 (by kernel_rfl)))
    have HI:=am_ Q_HI
    refine zbf (w1:=w') (v:=.slice G1 g1.length cg1) (by rfl) rfl ?_ ?_
    ·
     go_simp
     (try simp only [i64_w])
     try rfl
    refine hK.out _ _ ⟨G1,cg1,G4,cg4,g19,g20,CB11,m6_,m7_,m8_,m10_,m12_,m13_,(.slice G1 g1.length cg1),(by rw [ha.out];exact za5 11 hb_ rfl rfl rfl),Q_CBa,fun h0_=>ab_ (hoff 16 (by kernel_rfl)) h0_,Q_HI,Q_X6_,Q_X7_,Q_X8_,Q_X10_,Q_X12_,Q_X13_,fun _=>rfl⟩
   refine zaw ?_ ?_
   ·
    rintro b a w' ⟨G1,cg1,G4,cg4,g19,g20,CB11,m6_,m7_,m8_,m10_,m12_,m13_,m14_,ha,Q_CBa,Q_CBb,Q_HI,Q_X6_,Q_X7_,Q_X8_,Q_X10_,Q_X12_,Q_X13_,Q_X14_⟩ hb_ hon hoff
    refine⟨_,rfl,fun K hK=>?_⟩
    have e19:a.tmps[19]?=some (m12_):=by rw [ha];exact zbb (e:=(12,19,m12_)) 9 rfl rfl (hon 12 (by kernel_rfl)) rfl
    rw [Q_X12_ (hon 12 (by kernel_rfl))] at e19
    have e66:a.tmps[66]?=some (.agg #[.int .i64 g2,.int .i64 g3]):=by rw [ha];exact zbb (e:=(9,66,.agg #[.int .i64 g2,.int .i64 g3])) 6 rfl rfl (hon 9 (by kernel_rfl)) rfl
    replace ha:=am_ ha
    have CBa:=am_ (Q_CBa (hoff 16 (by kernel_rfl)))
    have HI:=am_ Q_HI
    rw [if_pos (by rfl)]
    have HI3:=am_ (Inv.ze1 (Inv.take HI.out 0 rfl (hon 12 (by kernel_rfl))) (cs':=#[.int .i64 0,.int .i64 0]) (by rw [hb_];rfl))
    refine wp_store_row 34 _ _ rfl g19 (#[.int .i64 g2,.int .i64 g3]) (zfc e19) (zfc e66) 34 (#[.int .i64 0,.int .i64 0]) HI3.out.blk0 (zby g2 g3) (zeo g2 g3) (zd8 g2 g3) ?_
    have HI2:=am_ (Inv.fill (b 12) (HI3.out.put0 (#[.int .i64 g2,.int .i64 g3])) 0 rfl)
    refine hK.out _ _ ⟨G1,cg1,G4,cg4,g19,g20,CB11,m6_,m7_,m8_,m10_,m12_,m13_,m14_,(by rw [ha.out];exact zfb (v:=undef) rfl),Q_CBa,fun h0_=>ab_ (hoff 16 (by kernel_rfl)) h0_,HI2.out,Q_X6_,Q_X7_,Q_X8_,Q_X10_,Q_X12_,Q_X13_,Q_X14_⟩
   refine zaw ?_ ?_
   ·
    rintro b a w' ⟨G1,cg1,G4,cg4,g19,g20,CB11,m6_,m7_,m8_,m10_,m12_,m13_,m14_,ha,Q_CBa,Q_CBb,Q_HI,Q_X6_,Q_X7_,Q_X8_,Q_X10_,Q_X12_,Q_X13_,Q_X14_⟩ hb_ hon hoff
    refine⟨_,rfl,fun K hK=>?_⟩
    have e20:a.tmps[20]?=some (m13_):=by rw [ha];exact zbb (e:=(13,20,m13_)) 10 rfl rfl (hon 13 (by kernel_rfl)) rfl
    rw [Q_X13_ (hon 13 (by kernel_rfl))] at e20
    have e67:a.tmps[67]?=some (m10_):=by rw [ha];exact zbb (e:=(10,67,m10_)) 7 rfl rfl (hon 10 (by kernel_rfl)) rfl
    rw [Q_X10_ (hon 10 (by kernel_rfl))] at e67
    replace ha:=am_ ha
    have CBa:=am_ (Q_CBa hb_)
    have HI:=am_ Q_HI
    rw [if_pos (by rfl)]
    have HI3:=am_ (Inv.ze1 (Inv.take HI.out 1 rfl (hon 13 (by kernel_rfl))) (cs':=#[.slice none 0 0,.int .i64 0,.string (⟨#[]⟩:ByteArray),.int .i64 0]) CBa.out.symm)
    refine wp_store_row 27 _ _ rfl g20 (#[.slice G4 g4.length cg4,.int .i64 g5,.string g6_,.int .i64 g7]) (zfc e20) (zfc e67) 27 (#[.slice none 0 0,.int .i64 0,.string (⟨#[]⟩:ByteArray),.int .i64 0]) HI3.out.blk0 (by kernel_rfl) rfl qz12_ ?_
    have HI2:=am_ (Inv.fill (b 13) (HI3.out.put0 (#[.slice G4 g4.length cg4,.int .i64 g5,.string g6_,.int .i64 g7])) 1 rfl)
    refine hK.out _ _ ⟨G1,cg1,G4,cg4,g19,g20,#[.slice G4 g4.length cg4,.int .i64 g5,.string g6_,.int .i64 g7],m6_,m7_,m8_,m10_,m12_,m13_,m14_,(by rw [ha.out];exact zfb (v:=undef) rfl),fun h0_=>absurd ((zg8 b 16).symm.trans h0_) (by decide),fun _=>rfl,HI2.out,Q_X6_,Q_X7_,Q_X8_,Q_X10_,Q_X12_,Q_X13_,Q_X14_⟩
   refine zaw ?_ ?_
   ·
    rintro b a w' ⟨G1,cg1,G4,cg4,g19,g20,CB11,m6_,m7_,m8_,m10_,m12_,m13_,m14_,ha,Q_CBa,Q_CBb,Q_HI,Q_X6_,Q_X7_,Q_X8_,Q_X10_,Q_X12_,Q_X13_,Q_X14_⟩ hb_ hon hoff
    refine⟨_,rfl,fun K hK=>?_⟩
    have e68:a.tmps[68]?=some (.int .i64 g8):=by rw [ha];exact zbb (e:=(11,68,.int .i64 g8)) 8 rfl rfl (hon 11 (by kernel_rfl)) rfl
    replace ha:=am_ ha
    have CBb:=am_ (Q_CBb (hon 16 (by kernel_rfl)))
    have HI:=am_ Q_HI
    refine zbf (w1:=w') (v:=.int .i64 g8) (by rfl) rfl ?_ ?_
    ·
     go_simp
     (try simp only [i64_w])
     try rfl
    refine hK.out _ _ ⟨G1,cg1,G4,cg4,g19,g20,CB11,m6_,m7_,m8_,m10_,m12_,m13_,m14_,(by rw [ha.out];exact za5 12 hb_ rfl rfl rfl),fun h0_=>ab_ h0_ (hon 16 (by kernel_rfl)),Q_CBb,Q_HI,Q_X6_,Q_X7_,Q_X8_,Q_X10_,Q_X12_,Q_X13_,Q_X14_⟩
   exact zi0
  rintro b a w' hall ⟨G1,cg1,G4,cg4,g19,g20,CB11,m6_,m7_,m8_,m10_,m12_,m13_,m14_,ha,Q_CBa,Q_CBb,Q_HI,Q_X6_,Q_X7_,Q_X8_,Q_X10_,Q_X12_,Q_X13_,Q_X14_⟩
  clear CBa HI
  have hb1_:=hall 1 (by kernel_rfl)
  have hb2_:=hall 2 (by kernel_rfl)
  have hb5_:=hall 5 (by kernel_rfl)
  have hb6_:=hall 6 (by kernel_rfl)
  have hb7_:=hall 7 (by kernel_rfl)
  have hb8_:=hall 8 (by kernel_rfl)
  have hb9_:=hall 9 (by kernel_rfl)
  have hb10_:=hall 10 (by kernel_rfl)
  have hb11_:=hall 11 (by kernel_rfl)
  have hb12_:=hall 12 (by kernel_rfl)
  have hb13_:=hall 13 (by kernel_rfl)
  have hb14_:=hall 14 (by kernel_rfl)
  have hb15_:=hall 15 (by kernel_rfl)
  have hb16_:=hall 16 (by kernel_rfl)
  have hb17_:=hall 17 (by kernel_rfl)
  subst ha
  obtain rfl:=Q_X6_ hb6_
  obtain rfl:=Q_X7_ hb7_
  obtain rfl:=Q_X8_ hb8_
  obtain rfl:=Q_X10_ hb10_
  obtain rfl:=Q_X12_ hb12_
  obtain rfl:=Q_X13_ hb13_
  obtain rfl:=Q_X14_ hb14_
  simp only [zdz,hb1_,hb2_,hb5_,hb6_,hb7_,hb8_,hb9_,hb10_,hb11_,hb12_,hb13_,hb14_,hb15_,hb16_,hb17_,if_true,Act.put,List.setIfInBounds_toArray,List.set_cons_zero,List.set_cons_succ]
  clear Q_CBa
  have CBb:=am_ (Q_CBb hb16_)
  clear Q_CBb
  have hCB_:=CBb.out
  clear CBb
  subst hCB_
  have HI:=am_ Q_HI
  replace HI:=am_ (Inv.take HI.out 3 rfl hb6_)
  replace HI:=am_ (Inv.take HI.out 3 rfl hb6_)
  replace HI:=am_ (Inv.take HI.out 3 rfl hb13_)
  replace HI:=am_ (Inv.take HI.out 3 rfl hb12_)
  replace HI:zal (Inv w NoB w' [blk g19 34 #[.int .i64 g2,.int .i64 g3],blk g20 27 #[.slice G4 g4.length cg4,.int .i64 g5,.string g6_,.int .i64 g7],row k34 34 w.heap.size (.slice G1 g1.length cg1) g1 (fun k=>some k=(Value.ownBlock (.slice G1 g1.length cg1))),row k34 34 w.heap.size (.slice G4 g4.length cg4) g4 (fun k=>some k=(Value.ownBlock (.slice G4 g4.length cg4))),blk g17 27 #[.slice Q2 q0.length cq2,.int .i64 q1,.string q2,.int .i64 q3],row k34 34 w.heap.size (.slice Q2 q0.length cq2) q0 S3_,row (Kd.tag f2 (Kd.slice 34 k34)) 24 w.heap.size (.slice L2 L.length cl2) L.zipIdx S2_,blk g13 34 #[.int .i64 x2,.int .i64 x3],blk g14 27 #[.slice X4 x4.length cx4,.int .i64 x5,.string x6,.int .i64 x7],row k34 34 w.heap.size (.slice X1 x1.length cx1) x1 (fun k=>some k=(Value.ownBlock (.slice X1 x1.length cx1))),row k34 34 w.heap.size (.slice X4 x4.length cx4) x4 (fun k=>some k=(Value.ownBlock (.slice X4 x4.length cx4))),row (Kd.tag f1 (Kd.slice 34 k34)) 24 w.heap.size (.slice L1 L.length cl1) L.zipIdx S1_,blk g9 59 #[.slice A4 m0.length c4,.int .i64 m1,.string m2,.int .i64 m3],blk g6 56 #[.int .i64 d0,.int .i64 d1]] (fun w2=>Kd.C (Kd.slice 56 k56) w2 A2 l2.length l2∧Kd.C k56 w2 A4 m0.length m0)):=⟨Inv.ze1 (HI.out.subL (L':=[blk g19 34 (cond (b 15) (#[.int .i64 g2,.int .i64 g3]) (#[.int .i64 0,.int .i64 0])),blk g20 27 (#[.slice G4 g4.length cg4,.int .i64 g5,.string g6_,.int .i64 g7]),row k34 34 w.heap.size (.slice G1 g1.length cg1) g1 (fun k=>some k=(Value.ownBlock (.slice G1 g1.length cg1))),row k34 34 w.heap.size (.slice G4 g4.length cg4) g4 (fun k=>some k=(Value.ownBlock (.slice G4 g4.length cg4))),blk g17 27 #[.slice Q2 q0.length cq2,.int .i64 q1,.string q2,.int .i64 q3],row k34 34 w.heap.size (.slice Q2 q0.length cq2) q0 S3_,row (Kd.tag f2 (Kd.slice 34 k34)) 24 w.heap.size (.slice L2 L.length cl2) L.zipIdx S2_,blk g13 34 #[.int .i64 x2,.int .i64 x3],blk g14 27 #[.slice X4 x4.length cx4,.int .i64 x5,.string x6,.int .i64 x7],row k34 34 w.heap.size (.slice X1 x1.length cx1) x1 (fun k=>some k=(Value.ownBlock (.slice X1 x1.length cx1))),row k34 34 w.heap.size (.slice X4 x4.length cx4) x4 (fun k=>some k=(Value.ownBlock (.slice X4 x4.length cx4))),row (Kd.tag f1 (Kd.slice 34 k34)) 24 w.heap.size (.slice L1 L.length cl1) L.zipIdx S1_,blk g9 59 #[.slice A4 m0.length c4,.int .i64 m1,.string m2,.int .i64 m3],blk g6 56 #[.int .i64 d0,.int .i64 d1]]) qz34_) (by rw [hb15_];rfl)⟩
  clear Q_HI
  clear hall hb1_ hb2_ hb5_ hb6_ hb7_ hb8_ hb9_ hb10_ hb11_ hb12_ hb13_ hb14_ hb15_ hb16_ hb17_
  go_wp2_with (first|((go_at_call 23;(refine(zax.calls k G1 cg1 g1 X1 cx1 x1 true _ (Kd.R_reads' (rowR (HI.out.at_ (row k34 34 w.heap.size (.slice G1 g1.length cg1) g1 _) qz40_))).2.2 (Kd.R_reads' (rowR (HI.out.at_ (row k34 34 w.heap.size (.slice G1 g1.length cg1) g1 _) qz40_))).2.1 (Kd.R_reads' (rowR (HI.out.at_ (row k34 34 w.heap.size (.slice X1 x1.length cx1) x1 _) qz40_))).2.2 (Kd.R_reads' (rowR (HI.out.at_ (row k34 34 w.heap.size (.slice X1 x1.length cx1) x1 _) qz40_))).2.1 HQ1.out).mono ?_);rintro e w71 ⟨rfl,hb⟩;replace HI:=am_ (HI.out.grow hb);clear hb;have ha0:World.cell? _ ⟨g19,0,none⟩=some (.int .i64 g2):=(zaa (HI.out.at_ (blk g19 34 #[.int .i64 g2,.int .i64 g3]) qz40_) 0).trans rfl;have ha1:World.cell? _ ⟨g19,1,none⟩=some (.int .i64 g3):=(zaa (HI.out.at_ (blk g19 34 #[.int .i64 g2,.int .i64 g3]) qz40_) 1).trans rfl;have hab0:World.cell? _ ⟨g13,0,none⟩=some (.int .i64 x2):=(zaa (HI.out.at_ (blk g13 34 #[.int .i64 x2,.int .i64 x3]) qz40_) 0).trans rfl;have hab1:World.cell? _ ⟨g13,1,none⟩=some (.int .i64 x3):=(zaa (HI.out.at_ (blk g13 34 #[.int .i64 x2,.int .i64 x3]) qz40_) 1).trans rfl))|((go_at_call 31;(refine(zdn.calls g2 g3 x2 x3 true _ HQ2.out).mono ?_);rintro e w76 ⟨rfl,hb⟩;replace HI:=am_ (HI.out.grow hb);clear hb;have hb_0:World.cell? _ ⟨g20,0,none⟩=some (.slice G4 g4.length cg4):=(zaa (HI.out.at_ (blk g20 27 #[.slice G4 g4.length cg4,.int .i64 g5,.string g6_,.int .i64 g7]) qz40_) 0).trans rfl;have hb_1:World.cell? _ ⟨g20,1,none⟩=some (.int .i64 g5):=(zaa (HI.out.at_ (blk g20 27 #[.slice G4 g4.length cg4,.int .i64 g5,.string g6_,.int .i64 g7]) qz40_) 1).trans rfl;have hb_2:World.cell? _ ⟨g20,2,none⟩=some (.string g6_):=(zaa (HI.out.at_ (blk g20 27 #[.slice G4 g4.length cg4,.int .i64 g5,.string g6_,.int .i64 g7]) qz40_) 2).trans rfl;have hb_3:World.cell? _ ⟨g20,3,none⟩=some (.int .i64 g7):=(zaa (HI.out.at_ (blk g20 27 #[.slice G4 g4.length cg4,.int .i64 g5,.string g6_,.int .i64 g7]) qz40_) 3).trans rfl;have hb_b0:World.cell? _ ⟨g14,0,none⟩=some (.slice X4 x4.length cx4):=(zaa (HI.out.at_ (blk g14 27 #[.slice X4 x4.length cx4,.int .i64 x5,.string x6,.int .i64 x7]) qz40_) 0).trans rfl;have hb_b1:World.cell? _ ⟨g14,1,none⟩=some (.int .i64 x5):=(zaa (HI.out.at_ (blk g14 27 #[.slice X4 x4.length cx4,.int .i64 x5,.string x6,.int .i64 x7]) qz40_) 1).trans rfl;have hb_b2:World.cell? _ ⟨g14,2,none⟩=some (.string x6):=(zaa (HI.out.at_ (blk g14 27 #[.slice X4 x4.length cx4,.int .i64 x5,.string x6,.int .i64 x7]) qz40_) 2).trans rfl;have hb_b3:World.cell? _ ⟨g14,3,none⟩=some (.int .i64 x7):=(zaa (HI.out.at_ (blk g14 27 #[.slice X4 x4.length cx4,.int .i64 x5,.string x6,.int .i64 x7]) qz40_) 3).trans rfl))|((go_at_call 32;(refine(zc1.calls k G4 cg4 g4 g5 g6_ g7 X4 cx4 x4 x5 x6 x7 true _ (Kd.R_reads' (rowR (HI.out.at_ (row k34 34 w.heap.size (.slice G4 g4.length cg4) g4 _) qz40_))).2.2 (Kd.R_reads' (rowR (HI.out.at_ (row k34 34 w.heap.size (.slice G4 g4.length cg4) g4 _) qz40_))).2.1 (Kd.R_reads' (rowR (HI.out.at_ (row k34 34 w.heap.size (.slice X4 x4.length cx4) x4 _) qz40_))).2.2 (Kd.R_reads' (rowR (HI.out.at_ (row k34 34 w.heap.size (.slice X4 x4.length cx4) x4 _) qz40_))).2.1 HQ3.out).mono ?_);rintro e w82 ⟨rfl,hb⟩;replace HI:=am_ (HI.out.grow hb);clear hb))|((go_at_call 28;(refine(zbt.calls k A2 c2 l2 L _ HI.out.now.1 HC2.out HTL.out).mono ?_);rintro e w92 ⟨vl_,rfl,hS,hb⟩;obtain⟨L3,cl3,el_⟩:=Kd.zb0 (Kd.S_R hS);subst el_;obtain⟨f3,hR⟩:=hS;replace HI:=am_ (HI.out.zdj hb hR);clear hR hb))|(go_at_call 33;(refine(zbe.calls k L2 cl2 L L3 cl3 L true _ (tagC (rowR (HI.out.at_ (row (Kd.tag f2 (Kd.slice 34 k34)) 24 w.heap.size (.slice L2 L.length cl2) L.zipIdx _) qz40_))).1 (tagC (rowR (HI.out.at_ (row (Kd.tag f2 (Kd.slice 34 k34)) 24 w.heap.size (.slice L2 L.length cl2) L.zipIdx _) qz40_))).2 (tagC (rowR (HI.out.at_ (row (Kd.tag f3 (Kd.slice 34 k34)) 24 w.heap.size (.slice L3 L.length cl3) L.zipIdx _) qz40_))).1 (tagC (rowR (HI.out.at_ (row (Kd.tag f3 (Kd.slice 34 k34)) 24 w.heap.size (.slice L3 L.length cl3) L.zipIdx _) qz40_))).2 HQ4.out).mono ?_);rintro e w93 ⟨rfl,hb⟩;replace HI:=am_ (HI.out.grow hb);clear hb))
  refine zcb (n:=5) (S:=fun w'=>w'.cell? ⟨g17,0,none⟩=some (.slice Q2 q0.length cq2)∧w'.cell? ⟨g17,1,none⟩=some (.int .i64 q1)∧w'.cell? ⟨g17,2,none⟩=some (.string q2)∧w'.cell? ⟨g17,3,none⟩=some (.int .i64 q3)∧w'.cell? ⟨g9,0,none⟩=some (.slice A4 m0.length c4)∧w'.cell? ⟨g9,1,none⟩=some (.int .i64 m1)∧w'.cell? ⟨g9,2,none⟩=some (.string m2)∧w'.cell? ⟨g9,3,none⟩=some (.int .i64 m3)) (ds:=[]) (bs_ 5 0) (by kernel_rfl) rfl rfl ⟨(zaa (HI.out.drew.at_ (blk g17 27 #[.slice Q2 q0.length cq2,.int .i64 q1,.string q2,.int .i64 q3]) qz40_) 0).trans rfl,(zaa (HI.out.drew.at_ (blk g17 27 #[.slice Q2 q0.length cq2,.int .i64 q1,.string q2,.int .i64 q3]) qz40_) 1).trans rfl,(zaa (HI.out.drew.at_ (blk g17 27 #[.slice Q2 q0.length cq2,.int .i64 q1,.string q2,.int .i64 q3]) qz40_) 2).trans rfl,(zaa (HI.out.drew.at_ (blk g17 27 #[.slice Q2 q0.length cq2,.int .i64 q1,.string q2,.int .i64 q3]) qz40_) 3).trans rfl,(zaa (HI.out.drew.at_ (blk g9 59 #[.slice A4 m0.length c4,.int .i64 m1,.string m2,.int .i64 m3]) qz40_) 0).trans rfl,(zaa (HI.out.drew.at_ (blk g9 59 #[.slice A4 m0.length c4,.int .i64 m1,.string m2,.int .i64 m3]) qz40_) 1).trans rfl,(zaa (HI.out.drew.at_ (blk g9 59 #[.slice A4 m0.length c4,.int .i64 m1,.string m2,.int .i64 m3]) qz40_) 2).trans rfl,(zaa (HI.out.drew.at_ (blk g9 59 #[.slice A4 m0.length c4,.int .i64 m1,.string m2,.int .i64 m3]) qz40_) 3).trans rfl⟩ (fun hHeld=>?_)
  replace HI:=am_ (HI.out.drew)
  generalize World.drew _=wd0 at HI hHeld ⊢
  refine take_ (i:=0) (N:=some 95) (v:=?_) (a':=?_) (bs_ 5 1) rfl rfl (by kernel_rfl) (fun _ _ _ h=>h) (Or.inl ⟨(by rfl),?_⟩) hHeld ?_ ?_
  rotate_left
  ·
   rintro w' ⟨s_0,s_1,s_2,s_3,s_4,s_5,s_6,s_7⟩
   go_simp
   with_reducible rfl
  rotate_left
  ·
   exact ap_
  refine take_ (i:=1) (N:=some 96) (v:=?_) (a':=?_) (bs_ 5 3) rfl rfl (by kernel_rfl) (fun _ _ _ h=>h) (Or.inl ⟨(by rfl),?_⟩) hHeld ?_ ?_
  rotate_left
  ·
   rintro w' ⟨s_0,s_1,s_2,s_3,s_4,s_5,s_6,s_7⟩
   go_simp
   with_reducible rfl
  rotate_left
  ·
   exact ap_
  refine one_ (i:=2) (N:=some 97) (bs_ 5 7) rfl rfl (by kernel_rfl) (by decide) (fun K hK=>?_)
  refine goes_ Try.func29 (by kernel_rfl) rfl #[.agg #[.slice A4 m0.length c4,.int .i64 m1,.string m2,.int .i64 m3]] (by rfl) rfl rfl qz3_ ?_
  with_reducible refine(zdh.calls k A4 c4 m0 m1 m2 m3 q0 q1 q2 q3 _ HI.out.now.2 HC4.out HTS.out).mono ?_
  rintro e w97 ⟨vq_,rfl,hR,hb⟩
  obtain⟨Q3,cq3,eq_⟩:=Kd.zb0 hR
  subst eq_
  refine⟨_,rfl,?_⟩
  replace HI:=am_ (HI.out.zdj hb hR)
  clear hR hb
  refine hK.out _ _ ⟨(zaa (HI.out.at_ (blk g17 27 #[.slice Q2 q0.length cq2,.int .i64 q1,.string q2,.int .i64 q3]) qz40_) 0).trans rfl,(zaa (HI.out.at_ (blk g17 27 #[.slice Q2 q0.length cq2,.int .i64 q1,.string q2,.int .i64 q3]) qz40_) 1).trans rfl,(zaa (HI.out.at_ (blk g17 27 #[.slice Q2 q0.length cq2,.int .i64 q1,.string q2,.int .i64 q3]) qz40_) 2).trans rfl,(zaa (HI.out.at_ (blk g17 27 #[.slice Q2 q0.length cq2,.int .i64 q1,.string q2,.int .i64 q3]) qz40_) 3).trans rfl,(zaa (HI.out.at_ (blk g9 59 #[.slice A4 m0.length c4,.int .i64 m1,.string m2,.int .i64 m3]) qz40_) 0).trans rfl,(zaa (HI.out.at_ (blk g9 59 #[.slice A4 m0.length c4,.int .i64 m1,.string m2,.int .i64 m3]) qz40_) 1).trans rfl,(zaa (HI.out.at_ (blk g9 59 #[.slice A4 m0.length c4,.int .i64 m1,.string m2,.int .i64 m3]) qz40_) 2).trans rfl,(zaa (HI.out.at_ (blk g9 59 #[.slice A4 m0.length c4,.int .i64 m1,.string m2,.int .i64 m3]) qz40_) 3).trans rfl⟩ (fun hHeld=>?_)
  clear hK K
  refine norm_ (a':=?_) ?_ ?_
  rotate_left
  ·
   show Act.put _ (some 97) _=_
   exact ap_
  refine one_ (i:=3) (N:=some 98) (bs_ 5 15) rfl rfl (by kernel_rfl) (by decide) (fun K hK=>?_)
  refine goes_ Try.func32 (by kernel_rfl) rfl #[.agg #[.slice Q2 q0.length cq2,.int .i64 q1,.string q2,.int .i64 q3],.agg #[.slice Q3 q0.length cq3,.int .i64 q1,.string q2,.int .i64 q3]] (by rfl) rfl rfl qz3_ ?_
  with_reducible refine(zc1.calls k Q2 cq2 q0 q1 q2 q3 Q3 cq3 q0 q1 q2 q3 true _ (Kd.R_reads' (rowR (HI.out.at_ (row k34 34 w.heap.size (.slice Q2 q0.length cq2) q0 _) qz40_))).2.2 (Kd.R_reads' (rowR (HI.out.at_ (row k34 34 w.heap.size (.slice Q2 q0.length cq2) q0 _) qz40_))).2.1 (Kd.R_reads' (rowR (HI.out.at_ (row k34 34 w.heap.size (.slice Q3 q0.length cq3) q0 _) qz40_))).2.2 (Kd.R_reads' (rowR (HI.out.at_ (row k34 34 w.heap.size (.slice Q3 q0.length cq3) q0 _) qz40_))).2.1 HQ5.out).mono ?_
  rintro e w98 ⟨rfl,hb⟩
  refine⟨_,rfl,?_⟩
  replace HI:=am_ (HI.out.grow hb)
  clear hb
  refine hK.out _ _ ⟨(zaa (HI.out.at_ (blk g17 27 #[.slice Q2 q0.length cq2,.int .i64 q1,.string q2,.int .i64 q3]) qz40_) 0).trans rfl,(zaa (HI.out.at_ (blk g17 27 #[.slice Q2 q0.length cq2,.int .i64 q1,.string q2,.int .i64 q3]) qz40_) 1).trans rfl,(zaa (HI.out.at_ (blk g17 27 #[.slice Q2 q0.length cq2,.int .i64 q1,.string q2,.int .i64 q3]) qz40_) 2).trans rfl,(zaa (HI.out.at_ (blk g17 27 #[.slice Q2 q0.length cq2,.int .i64 q1,.string q2,.int .i64 q3]) qz40_) 3).trans rfl,(zaa (HI.out.at_ (blk g9 59 #[.slice A4 m0.length c4,.int .i64 m1,.string m2,.int .i64 m3]) qz40_) 0).trans rfl,(zaa (HI.out.at_ (blk g9 59 #[.slice A4 m0.length c4,.int .i64 m1,.string m2,.int .i64 m3]) qz40_) 1).trans rfl,(zaa (HI.out.at_ (blk g9 59 #[.slice A4 m0.length c4,.int .i64 m1,.string m2,.int .i64 m3]) qz40_) 2).trans rfl,(zaa (HI.out.at_ (blk g9 59 #[.slice A4 m0.length c4,.int .i64 m1,.string m2,.int .i64 m3]) qz40_) 3).trans rfl⟩ (fun hHeld=>?_)
  clear hK K
  refine norm_ (a':=?_) ?_ ?_
  rotate_left
  ·
   show Act.put _ (some 98) _=_
   exact ap_
  refine pu_ 4 99 (bs_ 5 31) ?_
  refine done_ (by kernel_rfl) ?_
  replace HI:zal (Inv w NoB _ [blk g19 34 #[.int .i64 g2,.int .i64 g3],blk g20 27 #[.slice G4 g4.length cg4,.int .i64 g5,.string g6_,.int .i64 g7],row k34 34 w.heap.size (.slice G1 g1.length cg1) g1 (fun k=>some k=(Value.ownBlock (.slice G1 g1.length cg1))),row k34 34 w.heap.size (.slice G4 g4.length cg4) g4 (fun k=>some k=(Value.ownBlock (.slice G4 g4.length cg4))),blk g17 27 #[.slice Q2 q0.length cq2,.int .i64 q1,.string q2,.int .i64 q3],row k34 34 w.heap.size (.slice Q2 q0.length cq2) q0 S3_,row (Kd.tag f2 (Kd.slice 34 k34)) 24 w.heap.size (.slice L2 L.length cl2) L.zipIdx S2_,blk g13 34 #[.int .i64 x2,.int .i64 x3],blk g14 27 #[.slice X4 x4.length cx4,.int .i64 x5,.string x6,.int .i64 x7],row k34 34 w.heap.size (.slice X1 x1.length cx1) x1 (fun k=>some k=(Value.ownBlock (.slice X1 x1.length cx1))),row k34 34 w.heap.size (.slice X4 x4.length cx4) x4 (fun k=>some k=(Value.ownBlock (.slice X4 x4.length cx4))),blk g9 59 #[.slice A4 m0.length c4,.int .i64 m1,.string m2,.int .i64 m3],blk g6 56 #[.int .i64 d0,.int .i64 d1]] (fun w2=>Kd.C (Kd.slice 56 k56) w2 A2 l2.length l2∧Kd.C k56 w2 A4 m0.length m0)):=⟨HI.out.subL qz34_⟩
  go_wp2_with (first|(go_at_call 34;(refine(zcd.calls k _ (.slice L2 L.length cl2) L 1 n1 w _ HI.out.below ⟨f2,rowR (HI.out.get 6 rfl)⟩ HM1.out).mono ?_);rintro e w102 ⟨rfl,hB2,hk⟩;replace HI:=am_ (Inv.lose (HI.out.front 6 rfl) (Agr.zmi hk HI.out.below hB2 (fun _ h=>h)));clear hB2 hk)|((with_reducible refine zad (N:=103) rfl ?_);go_must (refine wpList_load_row rfl 27 _ rfl g17 rfl 27 (#[.slice Q2 q0.length cq2,.int .i64 q1,.string q2,.int .i64 q3]) (0,0) _ (HI.out.at_ (blk g17 27 #[.slice Q2 q0.length cq2,.int .i64 q1,.string q2,.int .i64 q3]) qz40_) hu27 rfl (by first|exact zby _ _|kernel_rfl) ?_))|((go_at_call 35;(refine(zcy.calls k _ (.slice Q2 q0.length cq2) q0 q1 q2 q3 n1 n2 ql w _ HI.out.below (HI.out.get 5 rfl) HM2.out).mono ?_);rintro e w105 ⟨rfl,_,hB2,hk⟩;replace HI:=am_ (Inv.lose (HI.out.front 5 rfl) (Agr.zmi hk HI.out.below hB2 (fun _ h=>h)));clear hB2 hk))|((go_at_call 23;(refine(zax.calls k G1 cg1 g1 X1 cx1 x1 true _ (Kd.R_reads' (rowR (HI.out.at_ (row k34 34 w.heap.size (.slice G1 g1.length cg1) g1 _) qz40_))).2.2 (Kd.R_reads' (rowR (HI.out.at_ (row k34 34 w.heap.size (.slice G1 g1.length cg1) g1 _) qz40_))).2.1 (Kd.R_reads' (rowR (HI.out.at_ (row k34 34 w.heap.size (.slice X1 x1.length cx1) x1 _) qz40_))).2.2 (Kd.R_reads' (rowR (HI.out.at_ (row k34 34 w.heap.size (.slice X1 x1.length cx1) x1 _) qz40_))).2.1 HQ1.out).mono ?_);rintro e w71 ⟨rfl,hb⟩;replace HI:=am_ (HI.out.grow hb);clear hb;have ha0:World.cell? _ ⟨g19,0,none⟩=some (.int .i64 g2):=(zaa (HI.out.at_ (blk g19 34 #[.int .i64 g2,.int .i64 g3]) qz40_) 0).trans rfl;have ha1:World.cell? _ ⟨g19,1,none⟩=some (.int .i64 g3):=(zaa (HI.out.at_ (blk g19 34 #[.int .i64 g2,.int .i64 g3]) qz40_) 1).trans rfl;have hab0:World.cell? _ ⟨g13,0,none⟩=some (.int .i64 x2):=(zaa (HI.out.at_ (blk g13 34 #[.int .i64 x2,.int .i64 x3]) qz40_) 0).trans rfl;have hab1:World.cell? _ ⟨g13,1,none⟩=some (.int .i64 x3):=(zaa (HI.out.at_ (blk g13 34 #[.int .i64 x2,.int .i64 x3]) qz40_) 1).trans rfl))|((go_at_call 31;(refine(zdn.calls g2 g3 x2 x3 true _ HQ2.out).mono ?_);rintro e w76 ⟨rfl,hb⟩;replace HI:=am_ (HI.out.grow hb);clear hb;have hb_0:World.cell? _ ⟨g20,0,none⟩=some (.slice G4 g4.length cg4):=(zaa (HI.out.at_ (blk g20 27 #[.slice G4 g4.length cg4,.int .i64 g5,.string g6_,.int .i64 g7]) qz40_) 0).trans rfl;have hb_1:World.cell? _ ⟨g20,1,none⟩=some (.int .i64 g5):=(zaa (HI.out.at_ (blk g20 27 #[.slice G4 g4.length cg4,.int .i64 g5,.string g6_,.int .i64 g7]) qz40_) 1).trans rfl;have hb_2:World.cell? _ ⟨g20,2,none⟩=some (.string g6_):=(zaa (HI.out.at_ (blk g20 27 #[.slice G4 g4.length cg4,.int .i64 g5,.string g6_,.int .i64 g7]) qz40_) 2).trans rfl;have hb_3:World.cell? _ ⟨g20,3,none⟩=some (.int .i64 g7):=(zaa (HI.out.at_ (blk g20 27 #[.slice G4 g4.length cg4,.int .i64 g5,.string g6_,.int .i64 g7]) qz40_) 3).trans rfl;have hb_b0:World.cell? _ ⟨g14,0,none⟩=some (.slice X4 x4.length cx4):=(zaa (HI.out.at_ (blk g14 27 #[.slice X4 x4.length cx4,.int .i64 x5,.string x6,.int .i64 x7]) qz40_) 0).trans rfl;have hb_b1:World.cell? _ ⟨g14,1,none⟩=some (.int .i64 x5):=(zaa (HI.out.at_ (blk g14 27 #[.slice X4 x4.length cx4,.int .i64 x5,.string x6,.int .i64 x7]) qz40_) 1).trans rfl;have hb_b2:World.cell? _ ⟨g14,2,none⟩=some (.string x6):=(zaa (HI.out.at_ (blk g14 27 #[.slice X4 x4.length cx4,.int .i64 x5,.string x6,.int .i64 x7]) qz40_) 2).trans rfl;have hb_b3:World.cell? _ ⟨g14,3,none⟩=some (.int .i64 x7):=(zaa (HI.out.at_ (blk g14 27 #[.slice X4 x4.length cx4,.int .i64 x5,.string x6,.int .i64 x7]) qz40_) 3).trans rfl))|((go_at_call 32;(refine(zc1.calls k G4 cg4 g4 g5 g6_ g7 X4 cx4 x4 x5 x6 x7 true _ (Kd.R_reads' (rowR (HI.out.at_ (row k34 34 w.heap.size (.slice G4 g4.length cg4) g4 _) qz40_))).2.2 (Kd.R_reads' (rowR (HI.out.at_ (row k34 34 w.heap.size (.slice G4 g4.length cg4) g4 _) qz40_))).2.1 (Kd.R_reads' (rowR (HI.out.at_ (row k34 34 w.heap.size (.slice X4 x4.length cx4) x4 _) qz40_))).2.2 (Kd.R_reads' (rowR (HI.out.at_ (row k34 34 w.heap.size (.slice X4 x4.length cx4) x4 _) qz40_))).2.1 HQ3.out).mono ?_);rintro e w82 ⟨rfl,hb⟩;replace HI:=am_ (HI.out.grow hb);clear hb))|(go_at_call 36;(refine(zbh.calls k _ (.slice G1 g1.length cg1) g1 1 n3 gl w _ HI.out.below (HI.out.get 2 rfl) HM3.out).mono ?_);rintro e w133 ⟨rfl,hR,hB2,hk⟩;replace HI:=am_ (Inv.kept0 (HI.out.front 2 rfl) hB2 hk hR (fun _ h=>h));clear hR hB2 hk)|((with_reducible refine zad (N:=134) rfl ?_);go_must (refine wpList_load_row rfl 27 _ rfl g20 rfl 27 (#[.slice G4 g4.length cg4,.int .i64 g5,.string g6_,.int .i64 g7]) (0,0) _ (HI.out.at_ (blk g20 27 #[.slice G4 g4.length cg4,.int .i64 g5,.string g6_,.int .i64 g7]) qz40_) hu27 rfl (by first|exact zby _ _|kernel_rfl) ?_))|((go_at_call 35;(refine(zcy.calls k _ (.slice G4 g4.length cg4) g4 g5 g6_ g7 n3 n6 hl_ w _ HI.out.below (HI.out.get 3 rfl) HM4.out).mono ?_);rintro e w136 ⟨rfl,hR,hB2,hk⟩;replace HI:=am_ (Inv.kept0 (HI.out.front 3 rfl) hB2 hk hR (fun _ h=>h));clear hR hB2 hk))|(go_at_call 37;(refine(zjt k 1 n5 _ (rowR (HI.out.at_ (row k34 34 w.heap.size (.slice G1 g1.length cg1) gl _) qz40_)) HH1.out).mono ?_);rintro e w139 ⟨rfl,⟨n139,rfl⟩⟩;replace HI:=am_ (HI.out.drewN n139);generalize World.drewN _ n139=wn139 at HI ⊢)|((with_reducible refine zad (N:=142) rfl ?_);go_must (refine wpList_load_row rfl 27 _ rfl g20 rfl 27 (#[.slice G4 g4.length cg4,.int .i64 g5,.string g6_,.int .i64 g7]) (0,0) _ (HI.out.at_ (blk g20 27 #[.slice G4 g4.length cg4,.int .i64 g5,.string g6_,.int .i64 g7]) qz40_) hu27 rfl (by first|exact zby _ _|kernel_rfl) ?_))|(go_at_call 38;(refine(zh8 k g5 g6_ g7 n5 n6 _ (rowR (HI.out.at_ (row k34 34 w.heap.size (.slice G4 g4.length cg4) hl_ _) qz40_)) HH2.out).mono ?_);rintro e w144 ⟨rfl,hb⟩;replace HI:=am_ (HI.out.grow hb);clear hb))
  have HE_:∃ (S5_:Nat→Prop) (S4_:Nat→Prop),Inv w NoB _ [row k34 34 w.heap.size (.slice G4 g4.length cg4) hl_ S5_,row k34 34 w.heap.size (.slice G1 g1.length cg1) gl S4_,blk g19 34 #[.int .i64 g2,.int .i64 g3],blk g20 27 #[.slice G4 g4.length cg4,.int .i64 g5,.string g6_,.int .i64 g7],blk g17 27 #[.slice Q2 q0.length cq2,.int .i64 q1,.string q2,.int .i64 q3],blk g13 34 #[.int .i64 x2,.int .i64 x3],blk g14 27 #[.slice X4 x4.length cx4,.int .i64 x5,.string x6,.int .i64 x7],row k34 34 w.heap.size (.slice X1 x1.length cx1) x1 (fun k=>some k=(Value.ownBlock (.slice X1 x1.length cx1))),row k34 34 w.heap.size (.slice X4 x4.length cx4) x4 (fun k=>some k=(Value.ownBlock (.slice X4 x4.length cx4))),blk g9 59 #[.slice A4 m0.length c4,.int .i64 m1,.string m2,.int .i64 m3],blk g6 56 #[.int .i64 d0,.int .i64 d1]] (fun w2=>Kd.C (Kd.slice 56 k56) w2 A2 l2.length l2∧Kd.C k56 w2 A4 m0.length m0):=⟨_,_,HI.out⟩
  clear HI
  obtain⟨S5_,S4_,HI_⟩:=HE_
  have HI:=am_ HI_
  clear HI_
  refine zcb (n:=20) (S:=fun w'=>True) (ds:=[]) (bs_ 20 0) (by kernel_rfl) rfl rfl trivial (fun hHeld=>?_)
  refine zcr zao.tab35 zao.bits35 (fun HT_ HW_=>?_)
  have CBa:True:=trivial
  replace HI:=am_ (HI.out.drew)
  generalize World.drew _=wd35 at HI ⊢
  refine pt_ HT_.out 0 151 (bs_ 20 1) ?_
  refine pt_ HT_.out 3 154 (bs_ 20 9) ?_
  refine pt_ HT_.out 5 156 (bs_ 20 41) ?_
  refine zo7 [1,2,4,6,7,8,9,10,11,12,13,14,15,16,17,18,19] (fun a0_ b a w'=>∃ (L4:Option Addr) (cl4:Nat) (f4:Nat→Nat) (S6_:Nat→Prop) (Q4:Option Addr) (cq4:Nat) (S7_:Nat→Prop) (H1:Option Addr) (ch1:Nat) (H4:Option Addr) (ch4:Nat) (g26:Nat) (g27:Nat) (CB35:Array Value) (m4_:Value) (m7_:Value) (m8_:Value) (m9_:Value) (m10_:Value) (m12_:Value) (m14_:Value) (m15_:Value) (m16_:Value),a=zdz a0_ b [(1,152,.agg #[.int .i64 d0,.int .i64 d1]),(2,153,.agg #[.int .i64 c0,.int .i64 c1]),(4,155,m4_),(6,157,.agg #[.slice A4 m0.length c4,.int .i64 m1,.string m2,.int .i64 m3]),(7,158,m7_),(8,159,m8_),(9,150,m9_),(10,160,m10_),(11,161,.agg #[.int .i64 g2,.int .i64 g3]),(12,162,m12_),(13,163,.int .i64 g8),(14,26,m14_),(15,27,m15_),(16,25,m16_),(19,28,.int .i64 g8)]∧(b 18=false→CB35=#[.slice none 0 0,.int .i64 0,.string (⟨#[]⟩:ByteArray),.int .i64 0])∧(b 18=true→CB35=#[.slice H4 g4.length ch4,.int .i64 g5,.string g6_,.int .i64 g7])∧(Inv w NoB w' [gif (b 14) (blk g26 34 (cond (b 17) (#[.int .i64 g2,.int .i64 g3]) (#[.int .i64 0,.int .i64 0]))),gif (b 15) (blk g27 27 CB35),gif (b 8) (row k34 34 w.heap.size (.slice H1 g1.length ch1) g1 (fun k=>some k=(Value.ownBlock (.slice H1 g1.length ch1)))),gif (b 8) (row k34 34 w.heap.size (.slice H4 g4.length ch4) g4 (fun k=>some k=(Value.ownBlock (.slice H4 g4.length ch4)))),gif (b 4) (row (Kd.tag f4 (Kd.slice 34 k34)) 24 w.heap.size (.slice L4 L.length cl4) L.zipIdx S6_),gif (b 7) (row k34 34 w.heap.size (.slice Q4 q0.length cq4) q0 S7_),row k34 34 w.heap.size (.slice G4 g4.length cg4) hl_ S5_,row k34 34 w.heap.size (.slice G1 g1.length cg1) gl S4_,blk g19 34 #[.int .i64 g2,.int .i64 g3],blk g20 27 #[.slice G4 g4.length cg4,.int .i64 g5,.string g6_,.int .i64 g7],blk g17 27 #[.slice Q2 q0.length cq2,.int .i64 q1,.string q2,.int .i64 q3],blk g13 34 #[.int .i64 x2,.int .i64 x3],blk g14 27 #[.slice X4 x4.length cx4,.int .i64 x5,.string x6,.int .i64 x7],row k34 34 w.heap.size (.slice X1 x1.length cx1) x1 (fun k=>some k=(Value.ownBlock (.slice X1 x1.length cx1))),row k34 34 w.heap.size (.slice X4 x4.length cx4) x4 (fun k=>some k=(Value.ownBlock (.slice X4 x4.length cx4))),blk g9 59 #[.slice A4 m0.length c4,.int .i64 m1,.string m2,.int .i64 m3],blk g6 56 #[.int .i64 d0,.int .i64 d1]] (fun w2=>Kd.C (Kd.slice 56 k56) w2 A2 l2.length l2∧Kd.C k56 w2 A4 m0.length m0))∧(b 4=true→(m4_:Value)=.slice L4 L.length cl4)∧(b 7=true→(m7_:Value)=.agg #[.slice Q4 q0.length cq4,.int .i64 q1,.string q2,.int .i64 q3])∧(b 8=true→(m8_:Value)=.tuple #[.slice H1 g1.length ch1,.agg #[.int .i64 g2,.int .i64 g3],.agg #[.slice H4 g4.length ch4,.int .i64 g5,.string g6_,.int .i64 g7],.int .i64 g8])∧(b 9=true→(m9_:Value)=.tuple #[.slice H1 g1.length ch1,.agg #[.int .i64 g2,.int .i64 g3],.agg #[.slice H4 g4.length ch4,.int .i64 g5,.string g6_,.int .i64 g7],.int .i64 g8])∧(b 10=true→(m10_:Value)=.slice H1 g1.length ch1)∧(b 12=true→(m12_:Value)=.agg #[.slice H4 g4.length ch4,.int .i64 g5,.string g6_,.int .i64 g7])∧(b 14=true→(m14_:Value)=.pointer (some ⟨g26,0,none⟩))∧(b 15=true→(m15_:Value)=.pointer (some ⟨g27,0,none⟩))∧(b 16=true→(m16_:Value)=.slice H1 g1.length ch1)) HT_.out HW_.out (by kernel_rfl) (by kernel_rfl) ?_ ?_ ?_
  ·
   exact⟨none,0,fun _=>0,fun _=>False,none,0,fun _=>False,none,0,none,0,0,0,#[.slice none 0 0,.int .i64 0,.string (⟨#[]⟩:ByteArray),.int .i64 0],.bool false,.bool false,.bool false,.bool false,.bool false,.bool false,.bool false,.bool false,.bool false,by simp only [zdz,Bool.false_eq_true,if_false],fun _=>rfl,fun h_=>absurd h_ (by decide),Inv.off (Inv.off (Inv.off (Inv.off (Inv.off (Inv.off (HI.out)))))),fun h_=>absurd h_ (by decide),fun h_=>absurd h_ (by decide),fun h_=>absurd h_ (by decide),fun h_=>absurd h_ (by decide),fun h_=>absurd h_ (by decide),fun h_=>absurd h_ (by decide),fun h_=>absurd h_ (by decide),fun h_=>absurd h_ (by decide),fun h_=>absurd h_ (by decide)⟩
  ·
   skip
   clear CBa HI
   refine zaw ?_ ?_
   ·
    rintro b a w' ⟨L4,cl4,f4,S6_,Q4,cq4,S7_,H1,ch1,H4,ch4,g26,g27,CB35,m4_,m7_,m8_,m9_,m10_,m12_,m14_,m15_,m16_,ha,Q_CBa,Q_CBb,Q_HI,Q_X4_,Q_X7_,Q_X8_,Q_X9_,Q_X10_,Q_X12_,Q_X14_,Q_X15_,Q_X16_⟩ hb_ hon hoff
    refine⟨_,rfl,fun K hK=>?_⟩
    have e6:a.tmps[6]?=some (.pointer (some ⟨g6,0,none⟩)):=by rw [ha];exact(zcx rfl).trans rfl
    replace ha:=am_ ha
    have CBa:=am_ (Q_CBa (hoff 18 (by kernel_rfl)))
    have HI:=am_ Q_HI
    have y_0:w'.cell? ⟨g6,0,none⟩=some (.int .i64 d0):=(zaa (HI.out.at_ (blk g6 56 #[.int .i64 d0,.int .i64 d1]) qz40_) 0).trans rfl
    have y_1:w'.cell? ⟨g6,1,none⟩=some (.int .i64 d1):=(zaa (HI.out.at_ (blk g6 56 #[.int .i64 d0,.int .i64 d1]) qz40_) 1).trans rfl
    refine zbf (w1:=w') (v:=.agg #[.int .i64 d0,.int .i64 d1]) (by rfl) rfl ?_ ?_
    ·
     go_simp
     (try simp only [i64_w])
     try rfl
    refine hK.out _ _ ⟨L4,cl4,f4,S6_,Q4,cq4,S7_,H1,ch1,H4,ch4,g26,g27,CB35,m4_,m7_,m8_,m9_,m10_,m12_,m14_,m15_,m16_,(by rw [ha.out];exact za5 0 hb_ rfl rfl rfl),Q_CBa,fun h0_=>ab_ (hoff 18 (by kernel_rfl)) h0_,Q_HI,fun h0_=>ab_ (hoff 4 (by kernel_rfl)) h0_,fun h0_=>ab_ (hoff 7 (by kernel_rfl)) h0_,fun h0_=>ab_ (hoff 8 (by kernel_rfl)) h0_,fun h0_=>ab_ (hoff 9 (by kernel_rfl)) h0_,fun h0_=>ab_ (hoff 10 (by kernel_rfl)) h0_,fun h0_=>ab_ (hoff 12 (by kernel_rfl)) h0_,Q_X14_,Q_X15_,fun h0_=>ab_ (hoff 16 (by kernel_rfl)) h0_⟩
   refine zaw ?_ ?_
   ·
    rintro b a w' ⟨L4,cl4,f4,S6_,Q4,cq4,S7_,H1,ch1,H4,ch4,g26,g27,CB35,m4_,m7_,m8_,m9_,m10_,m12_,m14_,m15_,m16_,ha,Q_CBa,Q_CBb,Q_HI,Q_X4_,Q_X7_,Q_X8_,Q_X9_,Q_X10_,Q_X12_,Q_X14_,Q_X15_,Q_X16_⟩ hb_ hon hoff
    refine⟨_,rfl,fun K hK=>?_⟩
    have e152:a.tmps[152]?=some (.agg #[.int .i64 d0,.int .i64 d1]):=by rw [ha];exact zbb (e:=(1,152,.agg #[.int .i64 d0,.int .i64 d1])) 0 rfl rfl (hon 1 (by kernel_rfl)) rfl
    replace ha:=am_ ha
    have CBa:=am_ (Q_CBa (hoff 18 (by kernel_rfl)))
    have HI:=am_ Q_HI
    refine goes_ Try.func27 (by kernel_rfl) rfl #[.agg #[.int .i64 d0,.int .i64 d1]] (by rfl) rfl rfl (by first|(simp only [List.map_toArray,List.map_cons,List.map_nil,Act.eval,Array.getD_eq_getD_getElem?,Option.getD_some,e152];done)|(simp only [List.map_toArray,List.map_cons,List.map_nil,Act.eval,Array.getD_eq_getD_getElem?,Option.getD_some,e152];rfl)) ?_
    with_reducible refine(zea.calls d0 d1 c0 c1 _ HTE.out).mono ?_
    rintro e wt ⟨rfl,hb⟩
    refine⟨_,rfl,?_⟩
    have HI2:=am_ (HI.out.grow hb)
    refine hK.out _ _ ⟨L4,cl4,f4,S6_,Q4,cq4,S7_,H1,ch1,H4,ch4,g26,g27,CB35,m4_,m7_,m8_,m9_,m10_,m12_,m14_,m15_,m16_,(by rw [ha.out];exact za5 1 hb_ rfl rfl rfl),Q_CBa,fun h0_=>ab_ (hoff 18 (by kernel_rfl)) h0_,HI2.out,fun h0_=>ab_ (hoff 4 (by kernel_rfl)) h0_,fun h0_=>ab_ (hoff 7 (by kernel_rfl)) h0_,fun h0_=>ab_ (hoff 8 (by kernel_rfl)) h0_,fun h0_=>ab_ (hoff 9 (by kernel_rfl)) h0_,fun h0_=>ab_ (hoff 10 (by kernel_rfl)) h0_,fun h0_=>ab_ (hoff 12 (by kernel_rfl)) h0_,Q_X14_,Q_X15_,fun h0_=>ab_ (hoff 16 (by kernel_rfl)) h0_⟩
   refine zaw ?_ ?_
   ·
    rintro b a w' ⟨L4,cl4,f4,S6_,Q4,cq4,S7_,H1,ch1,H4,ch4,g26,g27,CB35,m4_,m7_,m8_,m9_,m10_,m12_,m14_,m15_,m16_,ha,Q_CBa,Q_CBb,Q_HI,Q_X4_,Q_X7_,Q_X8_,Q_X9_,Q_X10_,Q_X12_,Q_X14_,Q_X15_,Q_X16_⟩ hb_ hon hoff
    refine⟨_,rfl,fun K hK=>?_⟩
    have e154:a.tmps[154]?=some (.slice A2 l2.length c2):=by rw [ha];exact(zcx rfl).trans rfl
    replace ha:=am_ ha
    have CBa:=am_ (Q_CBa (hoff 18 (by kernel_rfl)))
    have HI:=am_ Q_HI
    refine goes_ Try.func28 (by kernel_rfl) rfl #[.slice A2 l2.length c2] (by rfl) rfl rfl (by first|(simp only [List.map_toArray,List.map_cons,List.map_nil,Act.eval,Array.getD_eq_getD_getElem?,Option.getD_some,e154];done)|(simp only [List.map_toArray,List.map_cons,List.map_nil,Act.eval,Array.getD_eq_getD_getElem?,Option.getD_some,e154];rfl)) ?_
    with_reducible refine(zbt.calls k A2 c2 l2 L _ HI.out.now.1 HC2.out HTL.out).mono ?_
    rintro e wt ⟨vl_,rfl,hS,hb⟩
    obtain⟨L_n,cl_n,el_⟩:=Kd.zb0 (Kd.S_R hS)
    subst el_
    obtain⟨f_n,hR⟩:=hS
    refine⟨_,rfl,?_⟩
    have HI2:=am_ (Inv.fill true (HI.out.zdj hb hR) 4 rfl)
    refine hK.out _ _ ⟨L_n,cl_n,f_n,(fun k=>w'.heap.size≤k∧k<wt.heap.size),Q4,cq4,S7_,H1,ch1,H4,ch4,g26,g27,CB35,(.slice L_n L.length cl_n),m7_,m8_,m9_,m10_,m12_,m14_,m15_,m16_,(by rw [ha.out];exact za5 2 hb_ rfl rfl rfl),Q_CBa,fun h0_=>ab_ (hoff 18 (by kernel_rfl)) h0_,HI2.out,fun _=>rfl,fun h0_=>ab_ (hoff 7 (by kernel_rfl)) h0_,fun h0_=>ab_ (hoff 8 (by kernel_rfl)) h0_,fun h0_=>ab_ (hoff 9 (by kernel_rfl)) h0_,fun h0_=>ab_ (hoff 10 (by kernel_rfl)) h0_,fun h0_=>ab_ (hoff 12 (by kernel_rfl)) h0_,Q_X14_,Q_X15_,fun h0_=>ab_ (hoff 16 (by kernel_rfl)) h0_⟩
   refine zaw ?_ ?_
   ·
    rintro b a w' ⟨L4,cl4,f4,S6_,Q4,cq4,S7_,H1,ch1,H4,ch4,g26,g27,CB35,m4_,m7_,m8_,m9_,m10_,m12_,m14_,m15_,m16_,ha,Q_CBa,Q_CBb,Q_HI,Q_X4_,Q_X7_,Q_X8_,Q_X9_,Q_X10_,Q_X12_,Q_X14_,Q_X15_,Q_X16_⟩ hb_ hon hoff
    refine⟨_,rfl,fun K hK=>?_⟩
    have e9:a.tmps[9]?=some (.pointer (some ⟨g9,0,none⟩)):=by rw [ha];exact(zcx rfl).trans rfl
    replace ha:=am_ ha
    have CBa:=am_ (Q_CBa (hoff 18 (by kernel_rfl)))
    have HI:=am_ Q_HI
    have y_0:w'.cell? ⟨g9,0,none⟩=some (.slice A4 m0.length c4):=(zaa (HI.out.at_ (blk g9 59 #[.slice A4 m0.length c4,.int .i64 m1,.string m2,.int .i64 m3]) qz40_) 0).trans rfl
    have y_1:w'.cell? ⟨g9,1,none⟩=some (.int .i64 m1):=(zaa (HI.out.at_ (blk g9 59 #[.slice A4 m0.length c4,.int .i64 m1,.string m2,.int .i64 m3]) qz40_) 1).trans rfl
    have y_2:w'.cell? ⟨g9,2,none⟩=some (.string m2):=(zaa (HI.out.at_ (blk g9 59 #[.slice A4 m0.length c4,.int .i64 m1,.string m2,.int .i64 m3]) qz40_) 2).trans rfl
    have y_3:w'.cell? ⟨g9,3,none⟩=some (.int .i64 m3):=(zaa (HI.out.at_ (blk g9 59 #[.slice A4 m0.length c4,.int .i64 m1,.string m2,.int .i64 m3]) qz40_) 3).trans rfl
    refine zbf (w1:=w') (v:=.agg #[.slice A4 m0.length c4,.int .i64 m1,.string m2,.int .i64 m3]) (by rfl) rfl ?_ ?_
    ·
     go_simp
     (try simp only [i64_w])
     try rfl
    refine hK.out _ _ ⟨L4,cl4,f4,S6_,Q4,cq4,S7_,H1,ch1,H4,ch4,g26,g27,CB35,m4_,m7_,m8_,m9_,m10_,m12_,m14_,m15_,m16_,(by rw [ha.out];exact za5 3 hb_ rfl rfl rfl),Q_CBa,fun h0_=>ab_ (hoff 18 (by kernel_rfl)) h0_,Q_HI,Q_X4_,fun h0_=>ab_ (hoff 7 (by kernel_rfl)) h0_,fun h0_=>ab_ (hoff 8 (by kernel_rfl)) h0_,fun h0_=>ab_ (hoff 9 (by kernel_rfl)) h0_,fun h0_=>ab_ (hoff 10 (by kernel_rfl)) h0_,fun h0_=>ab_ (hoff 12 (by kernel_rfl)) h0_,Q_X14_,Q_X15_,fun h0_=>ab_ (hoff 16 (by kernel_rfl)) h0_⟩
   refine zaw ?_ ?_
   ·
    rintro b a w' ⟨L4,cl4,f4,S6_,Q4,cq4,S7_,H1,ch1,H4,ch4,g26,g27,CB35,m4_,m7_,m8_,m9_,m10_,m12_,m14_,m15_,m16_,ha,Q_CBa,Q_CBb,Q_HI,Q_X4_,Q_X7_,Q_X8_,Q_X9_,Q_X10_,Q_X12_,Q_X14_,Q_X15_,Q_X16_⟩ hb_ hon hoff
    refine⟨_,rfl,fun K hK=>?_⟩
    have e157:a.tmps[157]?=some (.agg #[.slice A4 m0.length c4,.int .i64 m1,.string m2,.int .i64 m3]):=by rw [ha];exact zbb (e:=(6,157,.agg #[.slice A4 m0.length c4,.int .i64 m1,.string m2,.int .i64 m3])) 3 rfl rfl (hon 6 (by kernel_rfl)) rfl
    replace ha:=am_ ha
    have CBa:=am_ (Q_CBa (hoff 18 (by kernel_rfl)))
    have HI:=am_ Q_HI
    refine goes_ Try.func29 (by kernel_rfl) rfl #[.agg #[.slice A4 m0.length c4,.int .i64 m1,.string m2,.int .i64 m3]] (by rfl) rfl rfl (by first|(simp only [List.map_toArray,List.map_cons,List.map_nil,Act.eval,Array.getD_eq_getD_getElem?,Option.getD_some,e157];done)|(simp only [List.map_toArray,List.map_cons,List.map_nil,Act.eval,Array.getD_eq_getD_getElem?,Option.getD_some,e157];rfl)) ?_
    with_reducible refine(zdh.calls k A4 c4 m0 m1 m2 m3 q0 q1 q2 q3 _ HI.out.now.2 HC4.out HTS.out).mono ?_
    rintro e wt ⟨vq_,rfl,hR,hb⟩
    obtain⟨Q_n,cq_n,eq_⟩:=Kd.zb0 hR
    subst eq_
    refine⟨_,rfl,?_⟩
    have HI2:=am_ (Inv.fill (true) (HI.out.zdj hb hR) 5 rfl)
    refine hK.out _ _ ⟨L4,cl4,f4,S6_,Q_n,cq_n,(fun k=>w'.heap.size≤k∧k<wt.heap.size),H1,ch1,H4,ch4,g26,g27,CB35,m4_,(.agg #[.slice Q_n q0.length cq_n,.int .i64 q1,.string q2,.int .i64 q3]),m8_,m9_,m10_,m12_,m14_,m15_,m16_,(by rw [ha.out];exact za5 4 hb_ rfl rfl rfl),Q_CBa,fun h0_=>ab_ (hoff 18 (by kernel_rfl)) h0_,HI2.out,Q_X4_,fun _=>rfl,fun h0_=>ab_ (hoff 8 (by kernel_rfl)) h0_,fun h0_=>ab_ (hoff 9 (by kernel_rfl)) h0_,fun h0_=>ab_ (hoff 10 (by kernel_rfl)) h0_,fun h0_=>ab_ (hoff 12 (by kernel_rfl)) h0_,Q_X14_,Q_X15_,fun h0_=>ab_ (hoff 16 (by kernel_rfl)) h0_⟩
   refine zaw ?_ ?_
   ·
    rintro b a w' ⟨L4,cl4,f4,S6_,Q4,cq4,S7_,H1,ch1,H4,ch4,g26,g27,CB35,m4_,m7_,m8_,m9_,m10_,m12_,m14_,m15_,m16_,ha,Q_CBa,Q_CBb,Q_HI,Q_X4_,Q_X7_,Q_X8_,Q_X9_,Q_X10_,Q_X12_,Q_X14_,Q_X15_,Q_X16_⟩ hb_ hon hoff
    refine⟨_,rfl,fun K hK=>?_⟩
    have e151:a.tmps[151]?=some (.int .i64 kind):=by rw [ha];exact(zcx rfl).trans rfl
    have e153:a.tmps[153]?=some (.agg #[.int .i64 c0,.int .i64 c1]):=by rw [ha];exact zbb (e:=(2,153,.agg #[.int .i64 c0,.int .i64 c1])) 1 rfl rfl (hon 2 (by kernel_rfl)) rfl
    have e155:a.tmps[155]?=some (m4_):=by rw [ha];exact zbb (e:=(4,155,m4_)) 2 rfl rfl (hon 4 (by kernel_rfl)) rfl
    rw [Q_X4_ (hon 4 (by kernel_rfl))] at e155
    have e156:a.tmps[156]?=some (.int .i64 vars):=by rw [ha];exact(zcx rfl).trans rfl
    have e158:a.tmps[158]?=some (m7_):=by rw [ha];exact zbb (e:=(7,158,m7_)) 4 rfl rfl (hon 7 (by kernel_rfl)) rfl
    rw [Q_X7_ (hon 7 (by kernel_rfl))] at e158
    replace ha:=am_ ha
    have CBa:=am_ (Q_CBa (hoff 18 (by kernel_rfl)))
    have HI:=am_ Q_HI
    refine goes_ Try.func30 (by kernel_rfl) rfl #[.int .i64 kind,.agg #[.int .i64 c0,.int .i64 c1],.slice L4 L.length cl4,.int .i64 vars,.agg #[.slice Q4 q0.length cq4,.int .i64 q1,.string q2,.int .i64 q3]] (by rfl) rfl rfl (by first|(simp only [List.map_toArray,List.map_cons,List.map_nil,Act.eval,Array.getD_eq_getD_getElem?,Option.getD_some,e151,e153,e155,e156,e158];done)|(simp only [List.map_toArray,List.map_cons,List.map_nil,Act.eval,Array.getD_eq_getD_getElem?,Option.getD_some,e151,e153,e155,e156,e158];rfl)) ?_
    have hQ_:=Kd.R_reads' (rowR (gifA (HI.out.at_ (gif (b 7) (row k34 34 w.heap.size (.slice Q4 q0.length cq4) q0 S7_)) qz40_) (hon 7 (by kernel_rfl))))
    with_reducible refine(zbm.calls k kind c0 c1 L4 cl4 L vars Q4 cq4 q0 q1 q2 q3 g1 g2 g3 g4 g5 g6_ g7 g8 _ (tagC (rowR (gifA (HI.out.at_ (gif (b 4) (row (Kd.tag f4 (Kd.slice 34 k34)) 24 w.heap.size (.slice L4 L.length cl4) L.zipIdx S6_)) qz40_) (hon 4 (by kernel_rfl))))).1 (tagC (rowR (gifA (HI.out.at_ (gif (b 4) (row (Kd.tag f4 (Kd.slice 34 k34)) 24 w.heap.size (.slice L4 L.length cl4) L.zipIdx S6_)) qz40_) (hon 4 (by kernel_rfl))))).2 hQ_.2.2 hQ_.2.1 HIV.out).mono ?_
    rintro e wt ⟨v0_,v3_,rfl,hR0,hR3,hb⟩
    obtain⟨X_n,cx_n,ex_⟩:=Kd.zb0 hR0
    subst ex_
    obtain⟨Y_n,cy_n,ey_⟩:=Kd.zb0 hR3
    subst ey_
    refine⟨_,rfl,?_⟩
    have HI5:=am_ (Inv.zin (b3:=w.heap.size) rfl rfl HI.out.nil0 ((Agr.of_below hb).mono (fun _ h=>h.elim)) hR0 (Nat.le_refl _) HI.out.agr.size (Kd.zdk (Kd.zee hR3) HI.out.agr.size) (fun k hk=>.inr hk.2.1) (fun k hk=>hk.1))
    have HI2:=am_ (Inv.fill true (Inv.fill true HI5.out 3 rfl) 3 rfl)
    refine hK.out _ _ ⟨L4,cl4,f4,S6_,Q4,cq4,S7_,X_n,cx_n,Y_n,cy_n,g26,g27,CB35,m4_,m7_,(.tuple #[.slice X_n g1.length cx_n,.agg #[.int .i64 g2,.int .i64 g3],.agg #[.slice Y_n g4.length cy_n,.int .i64 g5,.string g6_,.int .i64 g7],.int .i64 g8]),m9_,m10_,m12_,m14_,m15_,m16_,(by rw [ha.out];exact za5 5 hb_ rfl rfl rfl),Q_CBa,fun h0_=>ab_ (hoff 18 (by kernel_rfl)) h0_,HI2.out,Q_X4_,Q_X7_,fun _=>rfl,fun h0_=>ab_ (hoff 9 (by kernel_rfl)) h0_,fun h0_=>ab_ (hoff 10 (by kernel_rfl)) h0_,fun h0_=>ab_ (hoff 12 (by kernel_rfl)) h0_,Q_X14_,Q_X15_,fun h0_=>ab_ (hoff 16 (by kernel_rfl)) h0_⟩
   refine zaw ?_ ?_
   ·
    rintro b a w' ⟨L4,cl4,f4,S6_,Q4,cq4,S7_,H1,ch1,H4,ch4,g26,g27,CB35,m4_,m7_,m8_,m9_,m10_,m12_,m14_,m15_,m16_,ha,Q_CBa,Q_CBb,Q_HI,Q_X4_,Q_X7_,Q_X8_,Q_X9_,Q_X10_,Q_X12_,Q_X14_,Q_X15_,Q_X16_⟩ hb_ hon hoff
    refine⟨_,rfl,fun K hK=>?_⟩
    have e159:a.tmps[159]?=some (m8_):=by rw [ha];exact zbb (e:=(8,159,m8_)) 5 rfl rfl (hon 8 (by kernel_rfl)) rfl
    rw [Q_X8_ (hon 8 (by kernel_rfl))] at e159
    replace ha:=am_ ha
    have CBa:=am_ (Q_CBa (hoff 18 (by kernel_rfl)))
    have HI:=am_ Q_HI
    refine zbf (w1:=w') (v:=.tuple #[.slice H1 g1.length ch1,.agg #[.int .i64 g2,.int .i64 g3],.agg #[.slice H4 g4.length ch4,.int .i64 g5,.string g6_,.int .i64 g7],.int .i64 g8]) (by rfl) rfl ?_ ?_
    ·
     go_simp
     (try simp only [i64_w])
     try rfl
    refine hK.out _ _ ⟨L4,cl4,f4,S6_,Q4,cq4,S7_,H1,ch1,H4,ch4,g26,g27,CB35,m4_,m7_,m8_,(.tuple #[.slice H1 g1.length ch1,.agg #[.int .i64 g2,.int .i64 g3],.agg #[.slice H4 g4.length ch4,.int .i64 g5,.string g6_,.int .i64 g7],.int .i64 g8]),m10_,m12_,m14_,m15_,m16_,(by rw [ha.out];exact za5 6 hb_ rfl rfl rfl),Q_CBa,fun h0_=>ab_ (hoff 18 (by kernel_rfl)) h0_,Q_HI,Q_X4_,Q_X7_,Q_X8_,fun _=>rfl,fun h0_=>ab_ (hoff 10 (by kernel_rfl)) h0_,fun h0_=>ab_ (hoff 12 (by kernel_rfl)) h0_,Q_X14_,Q_X15_,fun h0_=>ab_ (hoff 16 (by kernel_rfl)) h0_⟩
   refine zaw ?_ ?_
   ·
    rintro b a w' ⟨L4,cl4,f4,S6_,Q4,cq4,S7_,H1,ch1,H4,ch4,g26,g27,CB35,m4_,m7_,m8_,m9_,m10_,m12_,m14_,m15_,m16_,ha,Q_CBa,Q_CBb,Q_HI,Q_X4_,Q_X7_,Q_X8_,Q_X9_,Q_X10_,Q_X12_,Q_X14_,Q_X15_,Q_X16_⟩ hb_ hon hoff
    refine⟨_,rfl,fun K hK=>?_⟩
    have e150:a.tmps[150]?=some (m9_):=by rw [ha];exact zbb (e:=(9,150,m9_)) 6 rfl rfl (hon 9 (by kernel_rfl)) rfl
    rw [Q_X9_ (hon 9 (by kernel_rfl))] at e150
    replace ha:=am_ ha
    have CBa:=am_ (Q_CBa (hoff 18 (by kernel_rfl)))
    have HI:=am_ Q_HI
    refine zbf (w1:=w') (v:=.slice H1 g1.length ch1) (by rfl) rfl ?_ ?_
    ·
     go_simp
     (try simp only [i64_w])
     try rfl
    refine hK.out _ _ ⟨L4,cl4,f4,S6_,Q4,cq4,S7_,H1,ch1,H4,ch4,g26,g27,CB35,m4_,m7_,m8_,m9_,(.slice H1 g1.length ch1),m12_,m14_,m15_,m16_,(by rw [ha.out];exact za5 7 hb_ rfl rfl rfl),Q_CBa,fun h0_=>ab_ (hoff 18 (by kernel_rfl)) h0_,Q_HI,Q_X4_,Q_X7_,Q_X8_,Q_X9_,fun _=>rfl,Q_X12_,Q_X14_,Q_X15_,fun h0_=>ab_ (hoff 16 (by kernel_rfl)) h0_⟩
   refine zaw ?_ ?_
   ·
    rintro b a w' ⟨L4,cl4,f4,S6_,Q4,cq4,S7_,H1,ch1,H4,ch4,g26,g27,CB35,m4_,m7_,m8_,m9_,m10_,m12_,m14_,m15_,m16_,ha,Q_CBa,Q_CBb,Q_HI,Q_X4_,Q_X7_,Q_X8_,Q_X9_,Q_X10_,Q_X12_,Q_X14_,Q_X15_,Q_X16_⟩ hb_ hon hoff
    refine⟨_,rfl,fun K hK=>?_⟩
    have e150:a.tmps[150]?=some (m9_):=by rw [ha];exact zbb (e:=(9,150,m9_)) 6 rfl rfl (hon 9 (by kernel_rfl)) rfl
    rw [Q_X9_ (hon 9 (by kernel_rfl))] at e150
    replace ha:=am_ ha
    have CBa:=am_ (Q_CBa (hoff 18 (by kernel_rfl)))
    have HI:=am_ Q_HI
    refine zbf (w1:=w') (v:=.agg #[.int .i64 g2,.int .i64 g3]) (by rfl) rfl ?_ ?_
    ·
     go_simp
     (try simp only [i64_w])
     try rfl
    refine hK.out _ _ ⟨L4,cl4,f4,S6_,Q4,cq4,S7_,H1,ch1,H4,ch4,g26,g27,CB35,m4_,m7_,m8_,m9_,m10_,m12_,m14_,m15_,m16_,(by rw [ha.out];exact za5 8 hb_ rfl rfl rfl),Q_CBa,fun h0_=>ab_ (hoff 18 (by kernel_rfl)) h0_,Q_HI,Q_X4_,Q_X7_,Q_X8_,Q_X9_,Q_X10_,Q_X12_,Q_X14_,Q_X15_,Q_X16_⟩
   refine zaw ?_ ?_
   ·
    rintro b a w' ⟨L4,cl4,f4,S6_,Q4,cq4,S7_,H1,ch1,H4,ch4,g26,g27,CB35,m4_,m7_,m8_,m9_,m10_,m12_,m14_,m15_,m16_,ha,Q_CBa,Q_CBb,Q_HI,Q_X4_,Q_X7_,Q_X8_,Q_X9_,Q_X10_,Q_X12_,Q_X14_,Q_X15_,Q_X16_⟩ hb_ hon hoff
    refine⟨_,rfl,fun K hK=>?_⟩
    have e150:a.tmps[150]?=some (m9_):=by rw [ha];exact zbb (e:=(9,150,m9_)) 6 rfl rfl (hon 9 (by kernel_rfl)) rfl
    rw [Q_X9_ (hon 9 (by kernel_rfl))] at e150
    replace ha:=am_ ha
    have CBa:=am_ (Q_CBa (hoff 18 (by kernel_rfl)))
    have HI:=am_ Q_HI
    refine zbf (w1:=w') (v:=.agg #[.slice H4 g4.length ch4,.int .i64 g5,.string g6_,.int .i64 g7]) (by rfl) rfl ?_ ?_
    ·
     go_simp
     (try simp only [i64_w])
     try rfl
    refine hK.out _ _ ⟨L4,cl4,f4,S6_,Q4,cq4,S7_,H1,ch1,H4,ch4,g26,g27,CB35,m4_,m7_,m8_,m9_,m10_,(.agg #[.slice H4 g4.length ch4,.int .i64 g5,.string g6_,.int .i64 g7]),m14_,m15_,m16_,(by rw [ha.out];exact za5 9 hb_ rfl rfl rfl),Q_CBa,fun h0_=>ab_ (hoff 18 (by kernel_rfl)) h0_,Q_HI,Q_X4_,Q_X7_,Q_X8_,Q_X9_,Q_X10_,fun _=>rfl,Q_X14_,Q_X15_,Q_X16_⟩
   refine zaw ?_ ?_
   ·
    rintro b a w' ⟨L4,cl4,f4,S6_,Q4,cq4,S7_,H1,ch1,H4,ch4,g26,g27,CB35,m4_,m7_,m8_,m9_,m10_,m12_,m14_,m15_,m16_,ha,Q_CBa,Q_CBb,Q_HI,Q_X4_,Q_X7_,Q_X8_,Q_X9_,Q_X10_,Q_X12_,Q_X14_,Q_X15_,Q_X16_⟩ hb_ hon hoff
    refine⟨_,rfl,fun K hK=>?_⟩
    have e150:a.tmps[150]?=some (m9_):=by rw [ha];exact zbb (e:=(9,150,m9_)) 6 rfl rfl (hon 9 (by kernel_rfl)) rfl
    rw [Q_X9_ (hon 9 (by kernel_rfl))] at e150
    replace ha:=am_ ha
    have HI:=am_ Q_HI
    refine zbf (w1:=w') (v:=.int .i64 g8) (by rfl) rfl ?_ ?_
    ·
     go_simp
     (try simp only [i64_w])
     try rfl
    refine hK.out _ _ ⟨L4,cl4,f4,S6_,Q4,cq4,S7_,H1,ch1,H4,ch4,g26,g27,CB35,m4_,m7_,m8_,m9_,m10_,m12_,m14_,m15_,m16_,(by rw [ha.out];exact za5 10 hb_ rfl rfl rfl),Q_CBa,Q_CBb,Q_HI,Q_X4_,Q_X7_,Q_X8_,Q_X9_,Q_X10_,Q_X12_,Q_X14_,Q_X15_,Q_X16_⟩
   refine zaw ?_ ?_
   ·
    rintro b a w' ⟨L4,cl4,f4,S6_,Q4,cq4,S7_,H1,ch1,H4,ch4,g26,g27,CB35,m4_,m7_,m8_,m9_,m10_,m12_,m14_,m15_,m16_,ha,Q_CBa,Q_CBb,Q_HI,Q_X4_,Q_X7_,Q_X8_,Q_X9_,Q_X10_,Q_X12_,Q_X14_,Q_X15_,Q_X16_⟩ hb_ hon hoff
    refine⟨_,rfl,fun K hK=>?_⟩
    replace ha:=am_ ha
    have CBa:=am_ (Q_CBa (hoff 18 (by kernel_rfl)))
    have HI:=am_ Q_HI
    refine zbf (w1:=w'.alloc (.cells #[.int .i64 0,.int .i64 0] 34)) (v:=.pointer (some ⟨w'.heap.size,0,none⟩)) (by rfl) rfl ?_ ?_
    ·
     first|(go_simp;done)|(go_simp;rfl)
    have HI2:=am_ (Inv.fill true (Inv.ze1 (HI.out.zgm 34 (#[.int .i64 0,.int .i64 0])) (cs':=cond (b 17) (#[.int .i64 g2,.int .i64 g3]) (#[.int .i64 0,.int .i64 0])) (by rw [hoff 17 (by kernel_rfl)];rfl)) 0 rfl)
    refine hK.out _ _ ⟨L4,cl4,f4,S6_,Q4,cq4,S7_,H1,ch1,H4,ch4,w'.heap.size,g27,CB35,m4_,m7_,m8_,m9_,m10_,m12_,(.pointer (some ⟨w'.heap.size,0,none⟩)),m15_,m16_,(by rw [ha.out];exact za5 11 hb_ rfl rfl rfl),Q_CBa,fun h0_=>ab_ (hoff 18 (by kernel_rfl)) h0_,HI2.out,Q_X4_,Q_X7_,Q_X8_,Q_X9_,Q_X10_,Q_X12_,fun _=>rfl,Q_X15_,fun h0_=>ab_ (hoff 16 (by kernel_rfl)) h0_⟩
   refine zaw ?_ ?_
   ·
    rintro b a w' ⟨L4,cl4,f4,S6_,Q4,cq4,S7_,H1,ch1,H4,ch4,g26,g27,CB35,m4_,m7_,m8_,m9_,m10_,m12_,m14_,m15_,m16_,ha,Q_CBa,Q_CBb,Q_HI,Q_X4_,Q_X7_,Q_X8_,Q_X9_,Q_X10_,Q_X12_,Q_X14_,Q_X15_,Q_X16_⟩ hb_ hon hoff
    refine⟨_,rfl,fun K hK=>?_⟩
    replace ha:=am_ ha
    have CBa:=am_ (Q_CBa (hoff 18 (by kernel_rfl)))
    have HI:=am_ Q_HI
    refine zbf (w1:=w'.alloc (.cells #[.slice none 0 0,.int .i64 0,.string (⟨#[]⟩:ByteArray),.int .i64 0] 27)) (v:=.pointer (some ⟨w'.heap.size,0,none⟩)) (by rfl) rfl ?_ ?_
    ·
     first|(go_simp;done)|(go_simp;rfl)
    have HI2:=am_ (Inv.fill true (Inv.ze1 (HI.out.zgm 27 (#[.slice none 0 0,.int .i64 0,.string (⟨#[]⟩:ByteArray),.int .i64 0])) (cs':=CB35) CBa.out) 1 rfl)
    refine hK.out _ _ ⟨L4,cl4,f4,S6_,Q4,cq4,S7_,H1,ch1,H4,ch4,g26,w'.heap.size,CB35,m4_,m7_,m8_,m9_,m10_,m12_,m14_,(.pointer (some ⟨w'.heap.size,0,none⟩)),m16_,(by rw [ha.out];exact za5 12 hb_ rfl rfl rfl),Q_CBa,fun h0_=>ab_ (hoff 18 (by kernel_rfl)) h0_,HI2.out,Q_X4_,Q_X7_,Q_X8_,Q_X9_,Q_X10_,Q_X12_,Q_X14_,fun _=>rfl,fun h0_=>ab_ (hoff 16 (by kernel_rfl)) h0_⟩
   refine zaw ?_ ?_
   ·
    rintro b a w' ⟨L4,cl4,f4,S6_,Q4,cq4,S7_,H1,ch1,H4,ch4,g26,g27,CB35,m4_,m7_,m8_,m9_,m10_,m12_,m14_,m15_,m16_,ha,Q_CBa,Q_CBb,Q_HI,Q_X4_,Q_X7_,Q_X8_,Q_X9_,Q_X10_,Q_X12_,Q_X14_,Q_X15_,Q_X16_⟩ hb_ hon hoff
    refine⟨_,rfl,fun K hK=>?_⟩
    have e160:a.tmps[160]?=some (m10_):=by rw [ha];exact zbb (e:=(10,160,m10_)) 7 rfl rfl (hon 10 (by kernel_rfl)) rfl
    rw [Q_X10_ (hon 10 (by kernel_rfl))] at e160
    replace ha:=am_ ha
    have CBa:=am_ (Q_CBa (hoff 18 (by kernel_rfl)))
    have HI:=am_ Q_HI
    refine zbf (w1:=w') (v:=.slice H1 g1.length ch1) (by rfl) rfl ?_ ?_
    ·
     go_simp
     (try simp only [i64_w])
     try rfl
    refine hK.out _ _ ⟨L4,cl4,f4,S6_,Q4,cq4,S7_,H1,ch1,H4,ch4,g26,g27,CB35,m4_,m7_,m8_,m9_,m10_,m12_,m14_,m15_,(.slice H1 g1.length ch1),(by rw [ha.out];exact za5 13 hb_ rfl rfl rfl),Q_CBa,fun h0_=>ab_ (hoff 18 (by kernel_rfl)) h0_,Q_HI,Q_X4_,Q_X7_,Q_X8_,Q_X9_,Q_X10_,Q_X12_,Q_X14_,Q_X15_,fun _=>rfl⟩
   refine zaw ?_ ?_
   ·
    rintro b a w' ⟨L4,cl4,f4,S6_,Q4,cq4,S7_,H1,ch1,H4,ch4,g26,g27,CB35,m4_,m7_,m8_,m9_,m10_,m12_,m14_,m15_,m16_,ha,Q_CBa,Q_CBb,Q_HI,Q_X4_,Q_X7_,Q_X8_,Q_X9_,Q_X10_,Q_X12_,Q_X14_,Q_X15_,Q_X16_⟩ hb_ hon hoff
    refine⟨_,rfl,fun K hK=>?_⟩
    have e26:a.tmps[26]?=some (m14_):=by rw [ha];exact zbb (e:=(14,26,m14_)) 11 rfl rfl (hon 14 (by kernel_rfl)) rfl
    rw [Q_X14_ (hon 14 (by kernel_rfl))] at e26
    have e161:a.tmps[161]?=some (.agg #[.int .i64 g2,.int .i64 g3]):=by rw [ha];exact zbb (e:=(11,161,.agg #[.int .i64 g2,.int .i64 g3])) 8 rfl rfl (hon 11 (by kernel_rfl)) rfl
    replace ha:=am_ ha
    have CBa:=am_ (Q_CBa (hoff 18 (by kernel_rfl)))
    have HI:=am_ Q_HI
    rw [if_pos (by rfl)]
    have HI3:=am_ (Inv.ze1 (Inv.take HI.out 0 rfl (hon 14 (by kernel_rfl))) (cs':=#[.int .i64 0,.int .i64 0]) (by rw [hb_];rfl))
    refine wp_store_row 34 _ _ rfl g26 (#[.int .i64 g2,.int .i64 g3]) (zfc e26) (zfc e161) 34 (#[.int .i64 0,.int .i64 0]) HI3.out.blk0 (zby g2 g3) (zeo g2 g3) (zd8 g2 g3) ?_
    have HI2:=am_ (Inv.fill (b 14) (HI3.out.put0 (#[.int .i64 g2,.int .i64 g3])) 0 rfl)
    refine hK.out _ _ ⟨L4,cl4,f4,S6_,Q4,cq4,S7_,H1,ch1,H4,ch4,g26,g27,CB35,m4_,m7_,m8_,m9_,m10_,m12_,m14_,m15_,m16_,(by rw [ha.out];exact zfb (v:=undef) rfl),Q_CBa,fun h0_=>ab_ (hoff 18 (by kernel_rfl)) h0_,HI2.out,Q_X4_,Q_X7_,Q_X8_,Q_X9_,Q_X10_,Q_X12_,Q_X14_,Q_X15_,Q_X16_⟩
   refine zaw ?_ ?_
   ·
    rintro b a w' ⟨L4,cl4,f4,S6_,Q4,cq4,S7_,H1,ch1,H4,ch4,g26,g27,CB35,m4_,m7_,m8_,m9_,m10_,m12_,m14_,m15_,m16_,ha,Q_CBa,Q_CBb,Q_HI,Q_X4_,Q_X7_,Q_X8_,Q_X9_,Q_X10_,Q_X12_,Q_X14_,Q_X15_,Q_X16_⟩ hb_ hon hoff
    refine⟨_,rfl,fun K hK=>?_⟩
    have e27:a.tmps[27]?=some (m15_):=by rw [ha];exact zbb (e:=(15,27,m15_)) 12 rfl rfl (hon 15 (by kernel_rfl)) rfl
    rw [Q_X15_ (hon 15 (by kernel_rfl))] at e27
    have e162:a.tmps[162]?=some (m12_):=by rw [ha];exact zbb (e:=(12,162,m12_)) 9 rfl rfl (hon 12 (by kernel_rfl)) rfl
    rw [Q_X12_ (hon 12 (by kernel_rfl))] at e162
    replace ha:=am_ ha
    have CBa:=am_ (Q_CBa hb_)
    have HI:=am_ Q_HI
    rw [if_pos (by rfl)]
    have HI3:=am_ (Inv.ze1 (Inv.take HI.out 1 rfl (hon 15 (by kernel_rfl))) (cs':=#[.slice none 0 0,.int .i64 0,.string (⟨#[]⟩:ByteArray),.int .i64 0]) CBa.out.symm)
    refine wp_store_row 27 _ _ rfl g27 (#[.slice H4 g4.length ch4,.int .i64 g5,.string g6_,.int .i64 g7]) (zfc e27) (zfc e162) 27 (#[.slice none 0 0,.int .i64 0,.string (⟨#[]⟩:ByteArray),.int .i64 0]) HI3.out.blk0 (by kernel_rfl) rfl qz12_ ?_
    have HI2:=am_ (Inv.fill (b 15) (HI3.out.put0 (#[.slice H4 g4.length ch4,.int .i64 g5,.string g6_,.int .i64 g7])) 1 rfl)
    refine hK.out _ _ ⟨L4,cl4,f4,S6_,Q4,cq4,S7_,H1,ch1,H4,ch4,g26,g27,#[.slice H4 g4.length ch4,.int .i64 g5,.string g6_,.int .i64 g7],m4_,m7_,m8_,m9_,m10_,m12_,m14_,m15_,m16_,(by rw [ha.out];exact zfb (v:=undef) rfl),fun h0_=>absurd ((zg8 b 18).symm.trans h0_) (by decide),fun _=>rfl,HI2.out,Q_X4_,Q_X7_,Q_X8_,Q_X9_,Q_X10_,Q_X12_,Q_X14_,Q_X15_,Q_X16_⟩
   refine zaw ?_ ?_
   ·
    rintro b a w' ⟨L4,cl4,f4,S6_,Q4,cq4,S7_,H1,ch1,H4,ch4,g26,g27,CB35,m4_,m7_,m8_,m9_,m10_,m12_,m14_,m15_,m16_,ha,Q_CBa,Q_CBb,Q_HI,Q_X4_,Q_X7_,Q_X8_,Q_X9_,Q_X10_,Q_X12_,Q_X14_,Q_X15_,Q_X16_⟩ hb_ hon hoff
    refine⟨_,rfl,fun K hK=>?_⟩
    have e163:a.tmps[163]?=some (.int .i64 g8):=by rw [ha];exact zbb (e:=(13,163,.int .i64 g8)) 10 rfl rfl (hon 13 (by kernel_rfl)) rfl
    replace ha:=am_ ha
    have CBb:=am_ (Q_CBb (hon 18 (by kernel_rfl)))
    have HI:=am_ Q_HI
    refine zbf (w1:=w') (v:=.int .i64 g8) (by rfl) rfl ?_ ?_
    ·
     go_simp
     (try simp only [i64_w])
     try rfl
    refine hK.out _ _ ⟨L4,cl4,f4,S6_,Q4,cq4,S7_,H1,ch1,H4,ch4,g26,g27,CB35,m4_,m7_,m8_,m9_,m10_,m12_,m14_,m15_,m16_,(by rw [ha.out];exact za5 14 hb_ rfl rfl rfl),fun h0_=>ab_ h0_ (hon 18 (by kernel_rfl)),Q_CBb,Q_HI,Q_X4_,Q_X7_,Q_X8_,Q_X9_,Q_X10_,Q_X12_,Q_X14_,Q_X15_,Q_X16_⟩
   exact zi0
  rintro b a w' hall ⟨L4,cl4,f4,S6_,Q4,cq4,S7_,H1,ch1,H4,ch4,g26,g27,CB35,m4_,m7_,m8_,m9_,m10_,m12_,m14_,m15_,m16_,ha,Q_CBa,Q_CBb,Q_HI,Q_X4_,Q_X7_,Q_X8_,Q_X9_,Q_X10_,Q_X12_,Q_X14_,Q_X15_,Q_X16_⟩
  clear CBa HI
  have hb1_:=hall 1 (by kernel_rfl)
  have hb2_:=hall 2 (by kernel_rfl)
  have hb4_:=hall 4 (by kernel_rfl)
  have hb6_:=hall 6 (by kernel_rfl)
  have hb7_:=hall 7 (by kernel_rfl)
  have hb8_:=hall 8 (by kernel_rfl)
  have hb9_:=hall 9 (by kernel_rfl)
  have hb10_:=hall 10 (by kernel_rfl)
  have hb11_:=hall 11 (by kernel_rfl)
  have hb12_:=hall 12 (by kernel_rfl)
  have hb13_:=hall 13 (by kernel_rfl)
  have hb14_:=hall 14 (by kernel_rfl)
  have hb15_:=hall 15 (by kernel_rfl)
  have hb16_:=hall 16 (by kernel_rfl)
  have hb17_:=hall 17 (by kernel_rfl)
  have hb18_:=hall 18 (by kernel_rfl)
  have hb19_:=hall 19 (by kernel_rfl)
  subst ha
  obtain rfl:=Q_X4_ hb4_
  obtain rfl:=Q_X7_ hb7_
  obtain rfl:=Q_X8_ hb8_
  obtain rfl:=Q_X9_ hb9_
  obtain rfl:=Q_X10_ hb10_
  obtain rfl:=Q_X12_ hb12_
  obtain rfl:=Q_X14_ hb14_
  obtain rfl:=Q_X15_ hb15_
  obtain rfl:=Q_X16_ hb16_
  simp only [zdz,hb1_,hb2_,hb4_,hb6_,hb7_,hb8_,hb9_,hb10_,hb11_,hb12_,hb13_,hb14_,hb15_,hb16_,hb17_,hb18_,hb19_,if_true,Act.put,List.setIfInBounds_toArray,List.set_cons_zero,List.set_cons_succ]
  clear Q_CBa
  have CBb:=am_ (Q_CBb hb18_)
  clear Q_CBb
  have hCB_:=CBb.out
  clear CBb
  subst hCB_
  have HI:=am_ Q_HI
  replace HI:=am_ (Inv.take HI.out 5 rfl hb7_)
  replace HI:=am_ (Inv.take HI.out 5 rfl hb4_)
  replace HI:=am_ (Inv.take HI.out 5 rfl hb8_)
  replace HI:=am_ (Inv.take HI.out 5 rfl hb8_)
  replace HI:=am_ (Inv.take HI.out 5 rfl hb15_)
  replace HI:=am_ (Inv.take HI.out 5 rfl hb14_)
  replace HI:zal (Inv w NoB w' [blk g26 34 #[.int .i64 g2,.int .i64 g3],blk g27 27 #[.slice H4 g4.length ch4,.int .i64 g5,.string g6_,.int .i64 g7],row k34 34 w.heap.size (.slice H1 g1.length ch1) g1 (fun k=>some k=(Value.ownBlock (.slice H1 g1.length ch1))),row k34 34 w.heap.size (.slice H4 g4.length ch4) g4 (fun k=>some k=(Value.ownBlock (.slice H4 g4.length ch4))),row (Kd.tag f4 (Kd.slice 34 k34)) 24 w.heap.size (.slice L4 L.length cl4) L.zipIdx S6_,row k34 34 w.heap.size (.slice Q4 q0.length cq4) q0 S7_,row k34 34 w.heap.size (.slice G4 g4.length cg4) hl_ S5_,row k34 34 w.heap.size (.slice G1 g1.length cg1) gl S4_,blk g19 34 #[.int .i64 g2,.int .i64 g3],blk g20 27 #[.slice G4 g4.length cg4,.int .i64 g5,.string g6_,.int .i64 g7],blk g17 27 #[.slice Q2 q0.length cq2,.int .i64 q1,.string q2,.int .i64 q3],blk g13 34 #[.int .i64 x2,.int .i64 x3],blk g14 27 #[.slice X4 x4.length cx4,.int .i64 x5,.string x6,.int .i64 x7],row k34 34 w.heap.size (.slice X1 x1.length cx1) x1 (fun k=>some k=(Value.ownBlock (.slice X1 x1.length cx1))),row k34 34 w.heap.size (.slice X4 x4.length cx4) x4 (fun k=>some k=(Value.ownBlock (.slice X4 x4.length cx4))),blk g9 59 #[.slice A4 m0.length c4,.int .i64 m1,.string m2,.int .i64 m3],blk g6 56 #[.int .i64 d0,.int .i64 d1]] (fun w2=>Kd.C (Kd.slice 56 k56) w2 A2 l2.length l2∧Kd.C k56 w2 A4 m0.length m0)):=⟨Inv.ze1 (HI.out.subL (L':=[blk g26 34 (cond (b 17) (#[.int .i64 g2,.int .i64 g3]) (#[.int .i64 0,.int .i64 0])),blk g27 27 (#[.slice H4 g4.length ch4,.int .i64 g5,.string g6_,.int .i64 g7]),row k34 34 w.heap.size (.slice H1 g1.length ch1) g1 (fun k=>some k=(Value.ownBlock (.slice H1 g1.length ch1))),row k34 34 w.heap.size (.slice H4 g4.length ch4) g4 (fun k=>some k=(Value.ownBlock (.slice H4 g4.length ch4))),row (Kd.tag f4 (Kd.slice 34 k34)) 24 w.heap.size (.slice L4 L.length cl4) L.zipIdx S6_,row k34 34 w.heap.size (.slice Q4 q0.length cq4) q0 S7_,row k34 34 w.heap.size (.slice G4 g4.length cg4) hl_ S5_,row k34 34 w.heap.size (.slice G1 g1.length cg1) gl S4_,blk g19 34 #[.int .i64 g2,.int .i64 g3],blk g20 27 #[.slice G4 g4.length cg4,.int .i64 g5,.string g6_,.int .i64 g7],blk g17 27 #[.slice Q2 q0.length cq2,.int .i64 q1,.string q2,.int .i64 q3],blk g13 34 #[.int .i64 x2,.int .i64 x3],blk g14 27 #[.slice X4 x4.length cx4,.int .i64 x5,.string x6,.int .i64 x7],row k34 34 w.heap.size (.slice X1 x1.length cx1) x1 (fun k=>some k=(Value.ownBlock (.slice X1 x1.length cx1))),row k34 34 w.heap.size (.slice X4 x4.length cx4) x4 (fun k=>some k=(Value.ownBlock (.slice X4 x4.length cx4))),blk g9 59 #[.slice A4 m0.length c4,.int .i64 m1,.string m2,.int .i64 m3],blk g6 56 #[.int .i64 d0,.int .i64 d1]]) qz34_) (by rw [hb17_];rfl)⟩
  clear Q_HI
  clear hall hb1_ hb2_ hb4_ hb6_ hb7_ hb8_ hb9_ hb10_ hb11_ hb12_ hb13_ hb14_ hb15_ hb16_ hb17_ hb18_ hb19_
  go_wp2_with (first|((go_at_call 23;(refine(zax.calls k H1 ch1 g1 X1 cx1 x1 true _ (Kd.R_reads' (rowR (HI.out.at_ (row k34 34 w.heap.size (.slice H1 g1.length ch1) g1 _) qz40_))).2.2 (Kd.R_reads' (rowR (HI.out.at_ (row k34 34 w.heap.size (.slice H1 g1.length ch1) g1 _) qz40_))).2.1 (Kd.R_reads' (rowR (HI.out.at_ (row k34 34 w.heap.size (.slice X1 x1.length cx1) x1 _) qz40_))).2.2 (Kd.R_reads' (rowR (HI.out.at_ (row k34 34 w.heap.size (.slice X1 x1.length cx1) x1 _) qz40_))).2.1 HQ1.out).mono ?_);rintro e w166 ⟨rfl,hb⟩;replace HI:=am_ (HI.out.grow hb);clear hb;have hc0:World.cell? _ ⟨g26,0,none⟩=some (.int .i64 g2):=(zaa (HI.out.at_ (blk g26 34 #[.int .i64 g2,.int .i64 g3]) qz40_) 0).trans rfl;have hc1:World.cell? _ ⟨g26,1,none⟩=some (.int .i64 g3):=(zaa (HI.out.at_ (blk g26 34 #[.int .i64 g2,.int .i64 g3]) qz40_) 1).trans rfl;have hcb0:World.cell? _ ⟨g13,0,none⟩=some (.int .i64 x2):=(zaa (HI.out.at_ (blk g13 34 #[.int .i64 x2,.int .i64 x3]) qz40_) 0).trans rfl;have hcb1:World.cell? _ ⟨g13,1,none⟩=some (.int .i64 x3):=(zaa (HI.out.at_ (blk g13 34 #[.int .i64 x2,.int .i64 x3]) qz40_) 1).trans rfl))|((go_at_call 31;(refine(zdn.calls g2 g3 x2 x3 true _ HQ2.out).mono ?_);rintro e w171 ⟨rfl,hb⟩;replace HI:=am_ (HI.out.grow hb);clear hb;have hd_0:World.cell? _ ⟨g27,0,none⟩=some (.slice H4 g4.length ch4):=(zaa (HI.out.at_ (blk g27 27 #[.slice H4 g4.length ch4,.int .i64 g5,.string g6_,.int .i64 g7]) qz40_) 0).trans rfl;have hd_1:World.cell? _ ⟨g27,1,none⟩=some (.int .i64 g5):=(zaa (HI.out.at_ (blk g27 27 #[.slice H4 g4.length ch4,.int .i64 g5,.string g6_,.int .i64 g7]) qz40_) 1).trans rfl;have hd_2:World.cell? _ ⟨g27,2,none⟩=some (.string g6_):=(zaa (HI.out.at_ (blk g27 27 #[.slice H4 g4.length ch4,.int .i64 g5,.string g6_,.int .i64 g7]) qz40_) 2).trans rfl;have hd_3:World.cell? _ ⟨g27,3,none⟩=some (.int .i64 g7):=(zaa (HI.out.at_ (blk g27 27 #[.slice H4 g4.length ch4,.int .i64 g5,.string g6_,.int .i64 g7]) qz40_) 3).trans rfl;have hd_b0:World.cell? _ ⟨g14,0,none⟩=some (.slice X4 x4.length cx4):=(zaa (HI.out.at_ (blk g14 27 #[.slice X4 x4.length cx4,.int .i64 x5,.string x6,.int .i64 x7]) qz40_) 0).trans rfl;have hd_b1:World.cell? _ ⟨g14,1,none⟩=some (.int .i64 x5):=(zaa (HI.out.at_ (blk g14 27 #[.slice X4 x4.length cx4,.int .i64 x5,.string x6,.int .i64 x7]) qz40_) 1).trans rfl;have hd_b2:World.cell? _ ⟨g14,2,none⟩=some (.string x6):=(zaa (HI.out.at_ (blk g14 27 #[.slice X4 x4.length cx4,.int .i64 x5,.string x6,.int .i64 x7]) qz40_) 2).trans rfl;have hd_b3:World.cell? _ ⟨g14,3,none⟩=some (.int .i64 x7):=(zaa (HI.out.at_ (blk g14 27 #[.slice X4 x4.length cx4,.int .i64 x5,.string x6,.int .i64 x7]) qz40_) 3).trans rfl))|((go_at_call 32;(refine(zc1.calls k H4 ch4 g4 g5 g6_ g7 X4 cx4 x4 x5 x6 x7 true _ (Kd.R_reads' (rowR (HI.out.at_ (row k34 34 w.heap.size (.slice H4 g4.length ch4) g4 _) qz40_))).2.2 (Kd.R_reads' (rowR (HI.out.at_ (row k34 34 w.heap.size (.slice H4 g4.length ch4) g4 _) qz40_))).2.1 (Kd.R_reads' (rowR (HI.out.at_ (row k34 34 w.heap.size (.slice X4 x4.length cx4) x4 _) qz40_))).2.2 (Kd.R_reads' (rowR (HI.out.at_ (row k34 34 w.heap.size (.slice X4 x4.length cx4) x4 _) qz40_))).2.1 HQ3.out).mono ?_);rintro e w177 ⟨rfl,hb⟩;replace HI:=am_ (HI.out.grow hb);clear hb))|(go_at_call 37;(refine(zjt k 1 n5 _ (rowR (HI.out.at_ (row k34 34 w.heap.size (.slice G1 g1.length cg1) gl _) qz40_)) HH1.out).mono ?_);rintro e w139 ⟨rfl,⟨n139,rfl⟩⟩;replace HI:=am_ (HI.out.drewN n139);generalize World.drewN _ n139=wn139 at HI ⊢)|((with_reducible refine zad (N:=190) rfl ?_);go_must (refine wpList_load_row rfl 27 _ rfl g20 rfl 27 (#[.slice G4 g4.length cg4,.int .i64 g5,.string g6_,.int .i64 g7]) (0,0) _ (HI.out.at_ (blk g20 27 #[.slice G4 g4.length cg4,.int .i64 g5,.string g6_,.int .i64 g7]) qz40_) hu27 rfl (by first|exact zby _ _|kernel_rfl) ?_))|(go_at_call 38;(refine(zh8 k g5 g6_ g7 n5 n6 _ (rowR (HI.out.at_ (row k34 34 w.heap.size (.slice G4 g4.length cg4) hl_ _) qz40_)) HH2.out).mono ?_);rintro e w144 ⟨rfl,hb⟩;replace HI:=am_ (HI.out.grow hb);clear hb))
  go_ret
  exact⟨rfl,HI.out.below⟩
 ·
  rw [if_neg c64] at h;cases h
end Go.Proofs.Ytgookagndlfehaa.PT
end
