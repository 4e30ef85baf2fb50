/- Part 3 of the proof of FnExactSumVerify: what functions compute, shown step by step, and what that says (the claim's last text states the law). -/
import Derived.Test.YtgookagndlfehaaProg
import Derived.Test.YtgookagndlfehaaVMore
import Derived.Test.YtgookagndlfehaaVWords
import Derived.Test.YtgookagndlfehaaVLast
import Derived.Test.YtgookagndlfehaaVTab
import Derived.Test.YtgookagndlfehaaVFour
import Derived.Test.YtgookagndlfehaaVQPut
import Derived.Test.YtgookagndlfehaaVApart
import Derived.Test.YtgookagndlfehaaVArr
import Derived.Test.YtgookagndlfehaaVZeros
import Derived.Test.YtgookagndlfehaaVFoot
import Derived.Test.YtgookagndlfehaaVKept
import Derived.Test.YtgookagndlfehaaVShare
import Derived.Test.YtgookagndlfehaaVN
import Derived.Test.YtgookagndlfehaaVFootNe
import Derived.Test.YtgookagndlfehaaVAt
import Derived.Test.YtgookagndlfehaaVRepsOne
import Derived.Test.YtgookagndlfehaaVInv
import Derived.Test.YtgookagndlfehaaVInvWords
import Derived.Test.YtgookagndlfehaaVGuard
import Derived.Test.YtgookagndlfehaaVNEv
import Derived.Test.YtgookagndlfehaaRows
import Derived.JoinedOf
import Derived.WalkKit
import Derived.ProofKit
import Derived.Below
import Derived.Deep.Draws
import Derived.Deep.AppendLies
import Derived.Maps.AppendAt
import Derived.OwnWalk
import Derived.Laws.BytesArg
import Derived.Laws.MakeOwn
import Derived.Laws.OwnMore
import Derived.Deep.OwnRows
import Derived.Tactics
import Derived.Lib.ConvBytes
import Derived.Laws.Slices
import Derived.KernelRfl
import Derived.RowKit3
import Derived.Deep.LoopGhost
import Derived.Deep.QuietTactic
import Derived.BigQuiet
import Derived.WideLaws
import Derived.Deep.DeepCutAuto
import Derived.Deep.CutBlock
import Derived.Deep.RegionHeld3
import Derived.Laws.Rows
import Derived.Lib.AppendStr
import Derived.ArgAppend
import Derived.Laws.IdiomCopy
import Derived.OrdersHeld
import Derived.Laws.BitsLemmas
import Derived.RowKit
import Derived.Deep.DeepMust
import Derived.Laws.CopyOwn
import Derived.Lib.BufferMore
import Derived.Lib.SliceRun
import Derived.OpenShut
import Derived.ShutString
import Derived.ChangeOld
import Derived.SizedLaws
import Derived.Deep.Slices
import Derived.ChangeArms
import Derived.Shelf.Small.Bits
import Derived.Shelf.Strconv.Itoa0
import Derived.Laws.Bits64b
import Derived.Test.YtgookagndlfehaaZFnExactSumVerify2
set_option maxRecDepth 100000
set_option maxHeartbeats 8000000
section
namespace Go.Proofs.Ytgookagndlfehaa.PT
open Go.RowKit Go.Proofs.YtgookagndlfehaaW.PrintWords Go.Proofs.YtgookagndlfehaaW.PrintLast Go.Proofs.YtgookagndlfehaaW.PrintMore
attribute [local go_sem] zex zev zfa ze8 zec zed zeu zew   -- for this text's walks alone
set_option linter.unusedVariables false
set_option linter.unusedSimpArgs false
def zcf.f (a0_0:Int) (a0_1:Int) (a1_0:Int) (a1_1:Int):Option (Int × Int):=(za6.f a0_0 a1_0).bind fun t104=>((za6.f a0_1 a1_1).bind fun t105=>((zbv.f t104 (Int.tmod (wrap64 (3 * t105)) 2130706433)).bind fun t106=>((za6.f a0_0 a1_1).bind fun t107=>((za6.f a0_1 a1_0).bind fun t108=>((zbv.f t107 t108).bind fun t109=>(some (t106,t109)))))))
def zcf.T1:Bool × List (List Nat × List Nat):=(true,[([],[]),([0],[0]),([],[]),([2],[2]),([1,3],[1,3]),([],[]),([5],[5]),([],[]),([7],[7]),([6,8,4],[6,8]),([9],[9]),([10],[10]),([4,11,9],[4,11]),([],[]),([13],[13]),([],[]),([15],[15]),([14,16,12],[14,16]),([],[]),([18],[18]),([],[]),([20],[20]),([19,21,17],[19,21]),([17,22,22],[17,22]),([12,23],[12,23]),([24,23,0,1,2,3,4,5,6,7,8,9,10,11,12,13,14,15,16,17,18,19,20,21,22,23,24],[24])])
def zcf.B1:List Nat:=[0,1,0,4,15,0,32,0,128,511,1023,2047,4095,0,8192,0,32768,131071,0,262144,0,1048576,4194303,8388607,16777215,33554431]
theorem zcf.tab1:rtab .any (opsOf Try.f149 1)=zcf.T1:=by kernel_rfl
theorem zcf.bits1:zc8 zcf.T1.2 zcf.B1=true:=by kernel_rfl
theorem zcf.calls (a0_0:Int) (a0_1:Int) (a1_0:Int) (a1_1:Int) (r1:Int) (r2:Int) (w:World) (h:zcf.f a0_0 a0_1 a1_0 a1_1=some (r1,r2)) :
  Calls Try.prog 149 #[.agg #[.int .i64 a0_0,.int .i64 a0_1],.agg #[.int .i64 a1_0,.int .i64 a1_1]] w fun e w'=>e=.returned (.agg #[.int .i64 r1,.int .i64 r2])∧Below w.heap.size w w':=by
 have hu34:=Try.underlying34
 have HB:=am_ (Below.refl w.heap.size w)
 have H:((za6.f a0_0 a1_0).bind fun t104=>((za6.f a0_1 a1_1).bind fun t105=>((zbv.f t104 (Int.tmod (wrap64 (3 * t105)) 2130706433)).bind fun t106=>((za6.f a0_0 a1_1).bind fun t107=>((za6.f a0_1 a1_0).bind fun t108=>((zbv.f t107 t108).bind fun t109=>(some (t106,t109))))))))=some (r1,r2):=h
 clear h
 replace H:=Option.bind_eq_some_iff.mp H
 obtain⟨t104,A30,H⟩:=H
 replace H:((za6.f a0_1 a1_1).bind fun t105=>((zbv.f t104 (Int.tmod (wrap64 (3 * t105)) 2130706433)).bind fun t106=>((za6.f a0_0 a1_1).bind fun t107=>((za6.f a0_1 a1_0).bind fun t108=>((zbv.f t107 t108).bind fun t109=>(some (t106,t109)))))))=some (r1,r2):=H
 have A3:=am_ A30
 clear A30
 replace H:=Option.bind_eq_some_iff.mp H
 obtain⟨t105,A40,H⟩:=H
 replace H:((zbv.f t104 (Int.tmod (wrap64 (3 * t105)) 2130706433)).bind fun t106=>((za6.f a0_0 a1_1).bind fun t107=>((za6.f a0_1 a1_0).bind fun t108=>((zbv.f t107 t108).bind fun t109=>(some (t106,t109))))))=some (r1,r2):=H
 have A4:=am_ A40
 clear A40
 replace H:=Option.bind_eq_some_iff.mp H
 obtain⟨t106,A50,H⟩:=H
 replace H:((za6.f a0_0 a1_1).bind fun t107=>((za6.f a0_1 a1_0).bind fun t108=>((zbv.f t107 t108).bind fun t109=>(some (t106,t109)))))=some (r1,r2):=H
 have A5:=am_ A50
 clear A50
 replace H:=Option.bind_eq_some_iff.mp H
 obtain⟨t107,A60,H⟩:=H
 replace H:((za6.f a0_1 a1_0).bind fun t108=>((zbv.f t107 t108).bind fun t109=>(some (t106,t109))))=some (r1,r2):=H
 have A6:=am_ A60
 clear A60
 replace H:=Option.bind_eq_some_iff.mp H
 obtain⟨t108,A70,H⟩:=H
 replace H:((zbv.f t107 t108).bind fun t109=>(some (t106,t109)))=some (r1,r2):=H
 have A7:=am_ A70
 clear A70
 replace H:=Option.bind_eq_some_iff.mp H
 obtain⟨t109,A80,H⟩:=H
 replace H:(some (t106,t109))=some (r1,r2):=H
 have A8:=am_ A80
 clear A80
 simp only [Option.some.injEq,Prod.mk.injEq] at H
 obtain⟨rfl,rfl⟩:=H
 go_enter Try.func149,Try.ntmps149
 try go_wp2_with (first|((with_reducible refine zad (N:=2) rfl ?_);refine zae rfl (N:=2) rfl (cs:=#[.int .i64 a0_0,.int .i64 a0_1]) (t:=34) bx_ ?_;intro gb101 hg w9 hbox hb;replace BK101:=am_ (hbox);replace GW101:=am_ ((by rw [hg];exact(zac qz4_):w.heap.size≤gb101));replace GE101:=am_ ((by rw [hg];exact(zac qz4_):w.heap.size≤gb101));replace HB:=am_ (zaj qz4_ hb);clear hb hbox hg)|((with_reducible refine zad (N:=3) rfl ?_);refine zae rfl (N:=3) rfl (cs:=#[.int .i64 a1_0,.int .i64 a1_1]) (t:=34) bx_ ?_;intro gb102 hg w10 hbox hb;replace BK102:=am_ (hbox);replace GW102:=am_ ((by rw [hg];exact(zac qz14_):w.heap.size≤gb102));replace GE102:=am_ ((by rw [hg];exact(zac qz14_):w.heap.size≤gb102));replace HB:=am_ (zaj qz14_ hb);replace NB101_102:=am_ ((by rw [hg];exact Nat.ne_of_lt (zar (g:=gb101) (o:=.cells #[.int .i64 a0_0,.int .i64 a0_1] 34 (0,0)) qz13_):gb101≠gb102));replace NB102_101:=am_ ((by rw [hg];exact Nat.ne_of_gt (zar (g:=gb101) (o:=.cells #[.int .i64 a0_0,.int .i64 a0_1] 34 (0,0)) qz13_):gb102≠gb101));replace BK101:=am_ (zak (g:=gb101) (o:=.cells #[.int .i64 a0_0,.int .i64 a0_1] 34 (0,0)) qz13_ hb);clear hb hbox hg)|((with_reducible refine zad (N:=4) rfl ?_);refine zae rfl (N:=4) rfl (cs:=#[.int .i64 0,.int .i64 0]) (t:=34) bx_ ?_;intro gb103 hg w11 hbox hb;replace BK103:=am_ (hbox);replace GW103:=am_ ((by rw [hg];exact(zac qz16_):w.heap.size≤gb103));replace GE103:=am_ ((by rw [hg];exact(zac qz16_):w.heap.size≤gb103));replace HB:=am_ (zaj qz16_ hb);replace NB101_103:=am_ ((by rw [hg];exact Nat.ne_of_lt (zar (g:=gb101) (o:=.cells #[.int .i64 a0_0,.int .i64 a0_1] 34 (0,0)) qz13_):gb101≠gb103));replace NB103_101:=am_ ((by rw [hg];exact Nat.ne_of_gt (zar (g:=gb101) (o:=.cells #[.int .i64 a0_0,.int .i64 a0_1] 34 (0,0)) qz13_):gb103≠gb101));replace BK101:=am_ (zak (g:=gb101) (o:=.cells #[.int .i64 a0_0,.int .i64 a0_1] 34 (0,0)) qz13_ hb);replace NB102_103:=am_ ((by rw [hg];exact Nat.ne_of_lt (zar (g:=gb102) (o:=.cells #[.int .i64 a1_0,.int .i64 a1_1] 34 (0,0)) qz15_):gb102≠gb103));replace NB103_102:=am_ ((by rw [hg];exact Nat.ne_of_gt (zar (g:=gb102) (o:=.cells #[.int .i64 a1_0,.int .i64 a1_1] 34 (0,0)) qz15_):gb103≠gb102));replace BK102:=am_ (zak (g:=gb102) (o:=.cells #[.int .i64 a1_0,.int .i64 a1_1] 34 (0,0)) qz15_ hb);clear hb hbox hg))
 replace BK101:=am_ (zaf BK101.out)
 replace BK102:=am_ (zaf BK102.out)
 replace BK103:=am_ (zaf BK103.out)
 replace HB:=am_ (zat HB.out)
 refine zcb (n:=26) (S:=fun w'=>w'.cell? ⟨gb101,0,none⟩=some (.int .i64 a0_0)∧w'.cell? ⟨gb101,1,none⟩=some (.int .i64 a0_1)∧w'.cell? ⟨gb102,0,none⟩=some (.int .i64 a1_0)∧w'.cell? ⟨gb102,1,none⟩=some (.int .i64 a1_1)) (ds:=[]) (bs_ 26 0) (by kernel_rfl) rfl rfl ⟨(zaa BK101.out 0).trans rfl,(zaa BK101.out 1).trans rfl,(zaa BK102.out 0).trans rfl,(zaa BK102.out 1).trans rfl⟩ (fun hHeld=>?_);refine zcr zcf.tab1 zcf.bits1 (fun HT_ HW_=>?_)
 generalize w11.drew=w12 at BK101 BK102 BK103 HB hHeld ⊢
 refine pt_ HT_.out 0 5 (bs_ 26 1) ?_
 refine pt_ HT_.out 2 7 (bs_ 26 5) ?_
 refine pt_ HT_.out 5 10 (bs_ 26 37) ?_
 refine pt_ HT_.out 7 12 (bs_ 26 165) ?_
 refine pt_ HT_.out 13 18 (bs_ 26 8357) ?_
 refine pt_ HT_.out 15 20 (bs_ 26 41125) ?_
 refine pt_ HT_.out 18 23 (bs_ 26 303269) ?_
 refine pt_ HT_.out 20 25 (bs_ 26 1351845) ?_
 refine take_ (i:=1) (N:=some 6) (v:=?_) (a':=?_) (bs_ 26 1351847) rfl rfl (zba HT_.out HW_.out (by kernel_rfl)) (fun _ _ _ h=>h) (Or.inl ⟨(by rfl),?_⟩) hHeld ?_ ?_
 rotate_left
 ·
  rintro w' ⟨s0,s1,s2,s3⟩
  go_simp
  with_reducible rfl
 rotate_left
 ·
  exact ap_
 refine take_ (i:=3) (N:=some 8) (v:=?_) (a':=?_) (bs_ 26 1351855) rfl rfl (zba HT_.out HW_.out (by kernel_rfl)) (fun _ _ _ h=>h) (Or.inl ⟨(by rfl),?_⟩) hHeld ?_ ?_
 rotate_left
 ·
  rintro w' ⟨s0,s1,s2,s3⟩
  go_simp
  with_reducible rfl
 rotate_left
 ·
  exact ap_
 refine take_ (i:=6) (N:=some 11) (v:=?_) (a':=?_) (bs_ 26 1351919) rfl rfl (zba HT_.out HW_.out (by kernel_rfl)) (fun _ _ _ h=>h) (Or.inl ⟨(by rfl),?_⟩) hHeld ?_ ?_
 rotate_left
 ·
  rintro w' ⟨s0,s1,s2,s3⟩
  go_simp
  with_reducible rfl
 rotate_left
 ·
  exact ap_
 refine take_ (i:=8) (N:=some 13) (v:=?_) (a':=?_) (bs_ 26 1352175) rfl rfl (zba HT_.out HW_.out (by kernel_rfl)) (fun _ _ _ h=>h) (Or.inl ⟨(by rfl),?_⟩) hHeld ?_ ?_
 rotate_left
 ·
  rintro w' ⟨s0,s1,s2,s3⟩
  go_simp
  with_reducible rfl
 rotate_left
 ·
  exact ap_
 refine take_ (i:=14) (N:=some 19) (v:=?_) (a':=?_) (bs_ 26 1368559) rfl rfl (zba HT_.out HW_.out (by kernel_rfl)) (fun _ _ _ h=>h) (Or.inl ⟨(by rfl),?_⟩) hHeld ?_ ?_
 rotate_left
 ·
  rintro w' ⟨s0,s1,s2,s3⟩
  go_simp
  with_reducible rfl
 rotate_left
 ·
  exact ap_
 refine take_ (i:=16) (N:=some 21) (v:=?_) (a':=?_) (bs_ 26 1434095) rfl rfl (zba HT_.out HW_.out (by kernel_rfl)) (fun _ _ _ h=>h) (Or.inl ⟨(by rfl),?_⟩) hHeld ?_ ?_
 rotate_left
 ·
  rintro w' ⟨s0,s1,s2,s3⟩
  go_simp
  with_reducible rfl
 rotate_left
 ·
  exact ap_
 refine take_ (i:=19) (N:=some 24) (v:=?_) (a':=?_) (bs_ 26 1958383) rfl rfl (zba HT_.out HW_.out (by kernel_rfl)) (fun _ _ _ h=>h) (Or.inl ⟨(by rfl),?_⟩) hHeld ?_ ?_
 rotate_left
 ·
  rintro w' ⟨s0,s1,s2,s3⟩
  go_simp
  with_reducible rfl
 rotate_left
 ·
  exact ap_
 refine take_ (i:=21) (N:=some 26) (v:=?_) (a':=?_) (bs_ 26 4055535) rfl rfl (zba HT_.out HW_.out (by kernel_rfl)) (fun _ _ _ h=>h) (Or.inl ⟨(by rfl),?_⟩) hHeld ?_ ?_
 rotate_left
 ·
  rintro w' ⟨s0,s1,s2,s3⟩
  go_simp
  with_reducible rfl
 rotate_left
 ·
  exact ap_
 refine one_ (i:=4) (N:=some 9) (bs_ 26 4055551) rfl rfl (zbx HT_.out (by kernel_rfl)) (by decide) (fun K hK=>?_)
 refine goes_ Try.func151 (by kernel_rfl) rfl #[.int .i64 a0_0,.int .i64 a1_0] (by rfl) rfl rfl qz18_ ?_
 with_reducible refine(za6.calls a0_0 a1_0 t104 _ A3.out).mono ?_
 rintro e w' ⟨rfl,⟨nd,rfl⟩⟩
 refine⟨_,rfl,?_⟩
 refine hK.out _ _ ⟨(zaa BK101.out 0).trans rfl,(zaa BK101.out 1).trans rfl,(zaa BK102.out 0).trans rfl,(zaa BK102.out 1).trans rfl⟩ (fun hHeld=>?_)
 clear hK K
 refine norm_ (a':=?_) ?_ ?_
 rotate_left
 ·
  show Act.put _ (some 9) _=_
  exact ap_
 refine one_ (i:=9) (N:=some 14) (bs_ 26 4056063) rfl rfl (zbx HT_.out (by kernel_rfl)) (by decide) (fun K hK=>?_)
 refine goes_ Try.func151 (by kernel_rfl) rfl #[.int .i64 a0_1,.int .i64 a1_1] (by rfl) rfl rfl qz18_ ?_
 with_reducible refine(za6.calls a0_1 a1_1 t105 _ A4.out).mono ?_
 rintro e w' ⟨rfl,⟨nd,rfl⟩⟩
 refine⟨_,rfl,?_⟩
 refine hK.out _ _ ⟨(zaa BK101.out 0).trans rfl,(zaa BK101.out 1).trans rfl,(zaa BK102.out 0).trans rfl,(zaa BK102.out 1).trans rfl⟩ (fun hHeld=>?_)
 clear hK K
 refine norm_ (a':=?_) ?_ ?_
 rotate_left
 ·
  show Act.put _ (some 14) _=_
  exact ap_
 refine pt_ HT_.out 10 15 (bs_ 26 4057087) ?_
 refine pt_ HT_.out 11 16 (bs_ 26 4059135) ?_
 refine one_ (i:=12) (N:=some 17) (bs_ 26 4063231) rfl rfl (zbx HT_.out (by kernel_rfl)) (by decide) (fun K hK=>?_)
 refine goes_ Try.func146 (by kernel_rfl) rfl #[.int .i64 t104,.int .i64 (Int.tmod (wrap64 (3 * t105)) 2130706433)] (by rfl) rfl rfl qz18_ ?_
 with_reducible refine(zbv.calls t104 (Int.tmod (wrap64 (3 * t105)) 2130706433) t106 _ A5.out).mono ?_
 rintro e w' ⟨rfl,⟨nd,rfl⟩⟩
 refine⟨_,rfl,?_⟩
 refine hK.out _ _ ⟨(zaa BK101.out 0).trans rfl,(zaa BK101.out 1).trans rfl,(zaa BK102.out 0).trans rfl,(zaa BK102.out 1).trans rfl⟩ (fun hHeld=>?_)
 clear hK K
 refine norm_ (a':=?_) ?_ ?_
 rotate_left
 ·
  show Act.put _ (some 17) _=_
  exact ap_
 refine one_ (i:=17) (N:=some 22) (bs_ 26 4194303) rfl rfl (zbx HT_.out (by kernel_rfl)) (by decide) (fun K hK=>?_)
 refine goes_ Try.func151 (by kernel_rfl) rfl #[.int .i64 a0_0,.int .i64 a1_1] (by rfl) rfl rfl qz18_ ?_
 with_reducible refine(za6.calls a0_0 a1_1 t107 _ A6.out).mono ?_
 rintro e w' ⟨rfl,⟨nd,rfl⟩⟩
 refine⟨_,rfl,?_⟩
 refine hK.out _ _ ⟨(zaa BK101.out 0).trans rfl,(zaa BK101.out 1).trans rfl,(zaa BK102.out 0).trans rfl,(zaa BK102.out 1).trans rfl⟩ (fun hHeld=>?_)
 clear hK K
 refine norm_ (a':=?_) ?_ ?_
 rotate_left
 ·
  show Act.put _ (some 22) _=_
  exact ap_
 refine one_ (i:=22) (N:=some 27) (bs_ 26 8388607) rfl rfl (zbx HT_.out (by kernel_rfl)) (by decide) (fun K hK=>?_)
 refine goes_ Try.func151 (by kernel_rfl) rfl #[.int .i64 a0_1,.int .i64 a1_0] (by rfl) rfl rfl qz18_ ?_
 with_reducible refine(za6.calls a0_1 a1_0 t108 _ A7.out).mono ?_
 rintro e w' ⟨rfl,⟨nd,rfl⟩⟩
 refine⟨_,rfl,?_⟩
 refine hK.out _ _ ⟨(zaa BK101.out 0).trans rfl,(zaa BK101.out 1).trans rfl,(zaa BK102.out 0).trans rfl,(zaa BK102.out 1).trans rfl⟩ (fun hHeld=>?_)
 clear hK K
 refine norm_ (a':=?_) ?_ ?_
 rotate_left
 ·
  show Act.put _ (some 27) _=_
  exact ap_
 refine one_ (i:=23) (N:=some 28) (bs_ 26 16777215) rfl rfl (zbx HT_.out (by kernel_rfl)) (by decide) (fun K hK=>?_)
 refine goes_ Try.func146 (by kernel_rfl) rfl #[.int .i64 t107,.int .i64 t108] (by rfl) rfl rfl qz18_ ?_
 with_reducible refine(zbv.calls t107 t108 t109 _ A8.out).mono ?_
 rintro e w' ⟨rfl,⟨nd,rfl⟩⟩
 refine⟨_,rfl,?_⟩
 refine hK.out _ _ ⟨(zaa BK101.out 0).trans rfl,(zaa BK101.out 1).trans rfl,(zaa BK102.out 0).trans rfl,(zaa BK102.out 1).trans rfl⟩ (fun hHeld=>?_)
 clear hK K
 refine norm_ (a':=?_) ?_ ?_
 rotate_left
 ·
  show Act.put _ (some 28) _=_
  exact ap_
 refine pt_ HT_.out 24 29 (bs_ 26 33554431) ?_
 refine one_ (i:=25) (N:=none) (bs_ 26 67108863) rfl rfl (zbx HT_.out (by kernel_rfl)) (by decide) (fun K hK=>?_)
 have hs13:w12.cell? ⟨gb103,0,none⟩=some (.int .i64 0):=(zaa BK103.out 0).trans rfl
 have hfs13:=zab BK103.out 0
 have hns13_0:=NB101_103.out
 have hns13_1:=NB102_103.out
 have hms13_0:=NB103_101.out
 have hms13_1:=NB103_102.out
 have hs14:w12.cell? ⟨gb103,1,none⟩=some (.int .i64 0):=(zaa BK103.out 1).trans rfl
 have hfs14:=zab BK103.out 1
 have hns14_0:=NB101_103.out
 have hns14_1:=NB102_103.out
 have hms14_0:=NB103_101.out
 have hms14_1:=NB103_102.out
 refine skip_ (w1:=?_) (by rfl) rfl ?_ ?_
 rotate_left
 ·
  go_simp
  rfl
 refine hK.out _ _ ⟨((cell_far (p:=⟨gb103,_,none⟩) NB101_103.out _).trans (((cell_far (p:=⟨gb103,_,none⟩) NB101_103.out _).trans (hHeld.1)))),((cell_far (p:=⟨gb103,_,none⟩) NB101_103.out _).trans (((cell_far (p:=⟨gb103,_,none⟩) NB101_103.out _).trans (hHeld.2.1)))),((cell_far (p:=⟨gb103,_,none⟩) NB102_103.out _).trans (((cell_far (p:=⟨gb103,_,none⟩) NB102_103.out _).trans (hHeld.2.2.1)))),((cell_far (p:=⟨gb103,_,none⟩) NB102_103.out _).trans (((cell_far (p:=⟨gb103,_,none⟩) NB102_103.out _).trans (hHeld.2.2.2))))⟩ (fun hHeld=>?_)
 clear hK K
 refine done_ (zej HT_.out (by kernel_rfl)) ?_
 try go_wp2
 refine bodyPost_ret (results_cell_row rfl _ _ gb103 34 #[.int .i64 t106,.int .i64 t109] (0,0) _ rfl (by(with_reducible repeat(first|refine zah ?_ _|refine zaf ?_|refine zai ?_ _));refine za9 (cs:=#[.int .i64 t106,.int .i64 0]) ?_ 1 _ rfl;(with_reducible repeat(first|refine zah ?_ _|refine zaf ?_|refine zai ?_ _));refine za9 (cs:=#[.int .i64 0,.int .i64 0]) ?_ 0 _ rfl;(with_reducible repeat(first|refine zah ?_ _|refine zaf ?_|refine zai ?_ _));exact BK103.out) Try.underlying34 rfl (by kernel_rfl)) rfl ?_
 exact⟨qz8_,qz17_⟩
def ze4.f (a0:Int):Option (Int × Int):=some (a0,0)
theorem ze4.calls (a0:Int) (r1:Int) (r2:Int) (w:World) (h:ze4.f a0=some (r1,r2)) :
  Calls Try.prog 150 #[.int .i64 a0] w fun e w'=>e=.returned (.agg #[.int .i64 r1,.int .i64 r2])∧Below w.heap.size w w':=by
 have hu34:=Try.underlying34
 have HB:=am_ (Below.refl w.heap.size w)
 have H:(some (a0,0))=some (r1,r2):=h
 clear h
 simp only [Option.some.injEq,Prod.mk.injEq] at H
 obtain⟨rfl,rfl⟩:=H
 go_enter Try.func150,Try.ntmps150
 go_wp2_with (first|((with_reducible refine zad (N:=2) rfl ?_);refine zae rfl (N:=2) rfl (cs:=#[.int .i64 0,.int .i64 0]) (t:=34) bx_ ?_;intro gb101 hg w2 hbox hb;replace BK101:=am_ (hbox);replace GW101:=am_ ((by rw [hg];exact(zac qz4_):w.heap.size≤gb101));replace GE101:=am_ ((by rw [hg];exact(zac qz4_):w.heap.size≤gb101));replace HB:=am_ (zaj qz4_ hb);clear hb hbox hg;have hcz3_0:w2.cell? ⟨gb101,0,none⟩=some (.int .i64 0):=(zaa BK101.out 0).trans rfl;have hcz3_1:w2.cell? ⟨gb101,1,none⟩=some (.int .i64 0):=(zaa BK101.out 1).trans rfl;have hfz3_0:=zab BK101.out 0;have hfz3_1:=zab BK101.out 1))
 refine bodyPost_ret (results_cell_row rfl _ _ gb101 34 #[.int .i64 a0,.int .i64 0] (0,0) _ rfl (by(with_reducible repeat(first|refine zah ?_ _|refine zaf ?_|refine zai ?_ _));refine za9 (cs:=#[.int .i64 a0,.int .i64 0]) ?_ 1 _ rfl;(with_reducible repeat(first|refine zah ?_ _|refine zaf ?_|refine zai ?_ _));refine za9 (cs:=#[.int .i64 0,.int .i64 0]) ?_ 0 _ rfl;(with_reducible repeat(first|refine zah ?_ _|refine zaf ?_|refine zai ?_ _));exact BK101.out) Try.underlying34 rfl (by kernel_rfl)) rfl ?_
 exact⟨qz8_,qz14_⟩
def zci.l0:Nat→Int→Int→Int→Option (Int)
 | 0,_,_,_=>none
 | k + 1,x0,x1,x5=>if x1>0 then(if (Int.tmod x1 2)=1 then((za6.f x5 x0).bind fun t101=>((za6.f x0 x0).bind fun t102=>(zci.l0 k t102 (wrap64 (Int.tdiv x1 2)) t101))) else((za6.f x0 x0).bind fun t103=>(zci.l0 k t103 (wrap64 (Int.tdiv x1 2)) x5))) else(some x5)
def zci.f (k:Nat) (a0:Int) (a1:Int):Option (Int):=zci.l0 k a0 a1 1
theorem zci.calls (k:Nat) (a0:Int) (a1:Int) (r:Int) (w:World) (h:zci.f k a0 a1=some r) :
  Calls Try.prog 165 #[.int .i64 a0,.int .i64 a1] w fun e w'=>e=.returned (.int .i64 r)∧zbr w w':=by
 have H:(zci.l0 k a0 a1 1)=some r:=h
 clear h
 have H':=am_ H
 clear H
 go_enter Try.func165,Try.ntmps165
 go_wp2
 go_loopg [0,1,5] k (fun kq v0 v1 v5 w'=>∃ (x0_1:Int) (x1_1:Int) (x5_1:Int),v0=.int .i64 x0_1∧v1=.int .i64 x1_1∧v5=.int .i64 x5_1∧zal (zci.l0 kq x0_1 x1_1 x5_1=some r)∧zal (kq≤k)∧zbr w w')
 case atStart=>exact⟨(a0),(a1),(1),qz10_,qz10_,qz10_,H',⟨Nat.le_refl _⟩,by repeat(first|exact zbr.refl _|apply zbr.step)⟩
 case round=>
  clear H'
  try clear c1
  try clear p2
  obtain⟨x0_1,x1_1,x5_1,rfl,rfl,rfl,HA,HK1,⟨m1,rfl⟩⟩:=hrel
  cases gk with
  | zero=>exact absurd HA.out (by simp [zci.l0])
  | succ k1=>
   have H:=HA.out
   clear HA
   simp only [zci.l0] at H
   by_cases c3:x1_1>0
   ·
    rw [if_pos c3] at H
    have c3b0:decide (0<x1_1)=true:=decide_eq_true c3
    clear c3
    by_cases c4:(Int.tmod x1_1 2)=1
    ·
     rw [if_pos c4] at H
     have c4b0:((Int.tmod x1_1 2) == 1)=true:=beq_iff_eq.mpr c4
     have c4b1:((Int.tmod x1_1 2) != 1)=false:=bne_eq_false_iff_eq.mpr c4
     clear c4
     replace H:=Option.bind_eq_some_iff.mp H
     obtain⟨t101,A50,H⟩:=H
     replace H:((za6.f x0_1 x0_1).bind fun t102=>(zci.l0 k1 t102 (wrap64 (Int.tdiv x1_1 2)) t101))=some r:=H
     have A5:=am_ A50
     clear A50
     replace H:=Option.bind_eq_some_iff.mp H
     obtain⟨t102,A60,H⟩:=H
     replace H:(zci.l0 k1 t102 (wrap64 (Int.tdiv x1_1 2)) t101)=some r:=H
     have A6:=am_ A60
     clear A60
     have H':=am_ H
     clear H
     go_wp2_with (first|((with_reducible refine zaz (f:=151) rfl ?_);refine zc5 (some 13) rfl rfl Try.func151 (by kernel_rfl) rfl #[.int .i64 x5_1,.int .i64 x0_1] rfl qz18_ ?_;(with_reducible refine(za6.calls x5_1 x0_1 t101 _ A5.out).mono ?_);rintro e w' ⟨rfl,⟨nd,rfl⟩⟩;refine⟨_,rfl,?_⟩)|((with_reducible refine zaz (f:=151) rfl ?_);refine zc5 (some 16) rfl rfl Try.func151 (by kernel_rfl) rfl #[.int .i64 x0_1,.int .i64 x0_1] rfl qz18_ ?_;(with_reducible refine(za6.calls x0_1 x0_1 t102 _ A6.out).mono ?_);rintro e w' ⟨rfl,⟨nd,rfl⟩⟩;refine⟨_,rfl,?_⟩))
     go_roundg k1
     case measure=>have:=HK1.out;omega
     case rel=>exact⟨(t102),(wrap64 (Int.tdiv x1_1 2)),(t101),qz10_,qz10_,qz10_,H',⟨(by have:=HK1.out;omega)⟩,by repeat(first|exact zbr.refl _|apply zbr.step)⟩
    ·
     rw [if_neg c4] at H
     have c4b0:((Int.tmod x1_1 2) == 1)=false:=beq_eq_false_iff_ne.mpr c4
     have c4b1:((Int.tmod x1_1 2) != 1)=true:=bne_iff_ne.mpr c4
     replace H:=Option.bind_eq_some_iff.mp H
     obtain⟨t103,A70,H⟩:=H
     replace H:(zci.l0 k1 t103 (wrap64 (Int.tdiv x1_1 2)) x5_1)=some r:=H
     have A7:=am_ A70
     clear A70
     have H':=am_ H
     clear H
     go_wp2_with (first|((with_reducible refine zaz (f:=151) rfl ?_);refine zc5 (some 16) rfl rfl Try.func151 (by kernel_rfl) rfl #[.int .i64 x0_1,.int .i64 x0_1] rfl qz18_ ?_;(with_reducible refine(za6.calls x0_1 x0_1 t103 _ A7.out).mono ?_);rintro e w' ⟨rfl,⟨nd,rfl⟩⟩;refine⟨_,rfl,?_⟩))
     go_roundg k1
     case measure=>have:=HK1.out;omega
     case rel=>exact⟨(t103),(wrap64 (Int.tdiv x1_1 2)),(x5_1),qz10_,qz10_,qz10_,H',⟨(by have:=HK1.out;omega)⟩,by repeat(first|exact zbr.refl _|apply zbr.step)⟩
   ·
    rw [if_neg c3] at H
    have c3b0:decide (0<x1_1)=false:=decide_eq_false c3
    clear c3
    obtain rfl:=Option.some.inj H
    go_wp2
    go_ret
    exact⟨qz10_,qz2_⟩
def zd9.f (k:Nat) (a0:Int):Option (Int):=(zci.f k a0 2130706431).bind fun t101=>(some t101)
theorem zd9.calls (k:Nat) (a0:Int) (r:Int) (w:World) (h:zd9.f k a0=some r) :
  Calls Try.prog 153 #[.int .i64 a0] w fun e w'=>e=.returned (.int .i64 r)∧zbr w w':=by
 have H:((zci.f k a0 2130706431).bind fun t101=>(some t101))=some r:=h
 clear h
 replace H:=Option.bind_eq_some_iff.mp H
 obtain⟨t101,A20,H⟩:=H
 replace H:(some t101)=some r:=H
 have A2:=am_ A20
 clear A20
 obtain rfl:=Option.some.inj H
 go_enter Try.func153,Try.ntmps153
 go_wp2_with (first|((with_reducible refine zaz (f:=165) rfl ?_);refine zc5 (some 4) rfl rfl Try.func165 (by kernel_rfl) rfl #[.int .i64 a0,.int .i64 2130706431] rfl qz18_ ?_;(with_reducible refine(zci.calls k a0 2130706431 t101 _ A2.out).mono ?_);rintro e w' ⟨rfl,⟨nd,rfl⟩⟩;refine⟨_,rfl,?_⟩))
 go_ret
 exact⟨qz10_,qz2_⟩
mutual
def zas.l0:Nat→List (S34)→Int→Int→Int→Int→Int→Option (Int × Int)
 | 0,_,_,_,_,_,_=>none
 | k + 1,x0,x6,x102000,x102001,x104000,x104001=>if x6<(x0.length:Int) then(if 0≤x6 then(zas.l1 k x0 x6 1 0 x102000 x102001 x104000 x104001 ((zan x0 x6).f0) ((zan x0 x6).f1)) else(none)) else(some (x104000,x104001))
def zas.l1:Nat→List (S34)→Int→Int→Int→Int→Int→Int→Int→Int→Int→Option (Int × Int)
 | 0,_,_,_,_,_,_,_,_,_,_=>none
 | k + 1,x0,x6,x8,x9,x102000,x102001,x104000,x104001,x106000,x106001=>if x9<(x0.length:Int) then(if x9=x6 then(zas.l1 k x0 x6 x8 (wrap64 (x9 + 1)) x102000 x102001 x104000 x104001 x106000 x106001) else((ze4.f x9).bind fun bt106=>((zct.f x102000 x102001 bt106.1 bt106.2).bind fun bt108=>((zcf.f x106000 x106001 bt108.1 bt108.2).bind fun bt110=>((zcs.f x6 x9).bind fun t112=>((za6.f x8 t112).bind fun t113=>(zas.l1 k x0 x6 t113 (wrap64 (x9 + 1)) x102000 x102001 x104000 x104001 bt110.1 bt110.2))))))) else((zd9.f k x8).bind fun t114=>((ze4.f t114).bind fun bt115=>((zcf.f x106000 x106001 bt115.1 bt115.2).bind fun bt117=>((zb9.f x104000 x104001 bt117.1 bt117.2).bind fun bt119=>(zas.l0 k x0 (wrap64 (x6 + 1)) x102000 x102001 bt119.1 bt119.2)))))
end
def zas.f (k:Nat) (l0:List (S34)) (a1_0:Int) (a1_1:Int):Option (Int × Int):=zas.l0 k l0 0 a1_0 a1_1 0 0
def zas.T13:Bool × List (List Nat × List Nat):=(true,[([],[]),([],[]),([],[]),([2],[2]),([3,3],[3]),([1,4,4],[1,4]),([0,5,5],[0,5]),([6,6,0,1,2,3,4,5,6],[6])])
def zas.B13:List Nat:=[0,0,0,4,12,30,63,127]
theorem zas.tab13:rtab .any (opsOf Try.f119 13)=zas.T13:=by kernel_rfl
theorem zas.bits13:zc8 zas.T13.2 zas.B13=true:=by kernel_rfl
theorem zas.calls (k:Nat) (A0:Option Addr) (c0:Nat) (l0:List (S34)) (a1_0:Int) (a1_1:Int) (r1:Int) (r2:Int) (w:World) (hr0:Kd.C k34 w A0 l0.length l0) (hc0:l0.length≤c0) (h:zas.f k l0 a1_0 a1_1=some (r1,r2)) :
  Calls Try.prog 119 #[.slice A0 l0.length c0,.agg #[.int .i64 a1_0,.int .i64 a1_1]] w fun e w'=>e=.returned (.agg #[.int .i64 r1,.int .i64 r2])∧Below w.heap.size w w':=by
 have hu34:=Try.underlying34
 have HR0:=am_ hr0
 have HC0:=am_ hc0
 clear hr0 hc0
 have HB:=am_ (Below.refl w.heap.size w)
 have H:(zas.l0 k l0 0 a1_0 a1_1 0 0)=some (r1,r2):=h
 clear h
 have H':=am_ H
 clear H
 go_enter Try.func119,Try.ntmps119
 go_wp2_with (first|((with_reducible refine zad (N:=3) rfl ?_);refine zae rfl (N:=3) rfl (cs:=#[.int .i64 a1_0,.int .i64 a1_1]) (t:=34) bx_ ?_;intro gb101 hg w3 hbox hb;replace BK101:=am_ (hbox);replace GW101:=am_ ((by rw [hg];exact(zac qz4_):w.heap.size≤gb101));replace GE101:=am_ ((by rw [hg];exact(zac qz4_):w.heap.size≤gb101));replace HB:=am_ (zaj qz4_ hb);clear hb hbox hg)|((with_reducible refine zad (N:=4) rfl ?_);refine zae rfl (N:=4) rfl (cs:=#[.int .i64 0,.int .i64 0]) (t:=34) bx_ ?_;intro gb102 hg w4 hbox hb;replace BK102:=am_ (hbox);replace GW102:=am_ ((by rw [hg];exact(zac qz14_):w.heap.size≤gb102));replace GE102:=am_ ((by rw [hg];exact(zac qz14_):w.heap.size≤gb102));replace HB:=am_ (zaj qz14_ hb);replace NB101_102:=am_ ((by rw [hg];exact Nat.ne_of_lt (zar (g:=gb101) (o:=.cells #[.int .i64 a1_0,.int .i64 a1_1] 34 (0,0)) qz13_):gb101≠gb102));replace NB102_101:=am_ ((by rw [hg];exact Nat.ne_of_gt (zar (g:=gb101) (o:=.cells #[.int .i64 a1_0,.int .i64 a1_1] 34 (0,0)) qz13_):gb102≠gb101));replace BK101:=am_ (zak (g:=gb101) (o:=.cells #[.int .i64 a1_0,.int .i64 a1_1] 34 (0,0)) qz13_ hb);clear hb hbox hg)|((with_reducible refine zad (N:=5) rfl ?_);refine zae rfl (N:=5) rfl (cs:=#[.int .i64 0,.int .i64 0]) (t:=34) bx_ ?_;intro gb103 hg w5 hbox hb;replace BK103:=am_ (hbox);replace GW103:=am_ ((by rw [hg];exact(zac qz16_):w.heap.size≤gb103));replace GE103:=am_ ((by rw [hg];exact(zac qz16_):w.heap.size≤gb103));replace HB:=am_ (zaj qz16_ hb);replace NB101_103:=am_ ((by rw [hg];exact Nat.ne_of_lt (zar (g:=gb101) (o:=.cells #[.int .i64 a1_0,.int .i64 a1_1] 34 (0,0)) qz13_):gb101≠gb103));replace NB103_101:=am_ ((by rw [hg];exact Nat.ne_of_gt (zar (g:=gb101) (o:=.cells #[.int .i64 a1_0,.int .i64 a1_1] 34 (0,0)) qz13_):gb103≠gb101));replace BK101:=am_ (zak (g:=gb101) (o:=.cells #[.int .i64 a1_0,.int .i64 a1_1] 34 (0,0)) qz13_ hb);replace NB102_103:=am_ ((by rw [hg];exact Nat.ne_of_lt (zar (g:=gb102) (o:=.cells #[.int .i64 0,.int .i64 0] 34 (0,0)) qz15_):gb102≠gb103));replace NB103_102:=am_ ((by rw [hg];exact Nat.ne_of_gt (zar (g:=gb102) (o:=.cells #[.int .i64 0,.int .i64 0] 34 (0,0)) qz15_):gb103≠gb102));replace BK102:=am_ (zak (g:=gb102) (o:=.cells #[.int .i64 0,.int .i64 0] 34 (0,0)) qz15_ hb);clear hb hbox hg;have hnb6:=NB103_101.out;have hnc6:=NB101_103.out;have hnb7:=NB103_102.out;have hnc7:=NB102_103.out;have hcz8_0:w5.cell? ⟨gb103,0,none⟩=some (.int .i64 0):=(zaa BK103.out 0).trans rfl;have hcz8_1:w5.cell? ⟨gb103,1,none⟩=some (.int .i64 0):=(zaa BK103.out 1).trans rfl;have hfz8_0:=zab BK103.out 0;have hfz8_1:=zab BK103.out 1))
 go_loopg [6] k (fun kq v6 w'=>∃ (x6_1:Int) (x104000_1:Int) (x104001_1:Int),v6=.int .i64 x6_1∧zal (zas.l0 kq l0 x6_1 a1_0 a1_1 x104000_1 x104001_1=some (r1,r2))∧zal (kq≤k)∧zal (w'.heap[gb101]?=some (.cells #[.int .i64 a1_0,.int .i64 a1_1] 34 (0,0)))∧zal (w'.heap[gb102]?=some (.cells #[.int .i64 0,.int .i64 0] 34 (0,0)))∧zal (w'.heap[gb103]?=some (.cells #[.int .i64 x104000_1,.int .i64 x104001_1] 34 (0,0)))∧zal (Below w.heap.size w w'))
 case atStart=>exact⟨(0),(0),(0),qz10_,H',⟨Nat.le_refl _⟩,⟨qz26_⟩,⟨qz27_⟩,⟨(by(with_reducible repeat(first|refine zah ?_ _|refine zaf ?_|refine zai ?_ _));refine za9 (cs:=#[.int .i64 0,.int .i64 0]) ?_ 1 _ rfl;(with_reducible repeat(first|refine zah ?_ _|refine zaf ?_|refine zai ?_ _));refine za9 (cs:=#[.int .i64 0,.int .i64 0]) ?_ 0 _ rfl;(with_reducible repeat(first|refine zah ?_ _|refine zaf ?_|refine zai ?_ _));exact BK103.out)⟩,⟨qz17_⟩⟩
 case round=>
  clear H'
  try clear c1
  try clear p2
  try clear c6
  try clear c7
  try clear hcz8_0
  try clear hcz8_1
  try clear hfz8_0
  try clear hfz8_1
  obtain⟨x6_1,x104000_1,x104001_1,rfl,HA,HK1,BK101,BK102,BK103,HB⟩:=hrel
  cases gk with
  | zero=>exact absurd HA.out (by simp [zas.l0])
  | succ k1=>
   have H:=HA.out
   clear HA
   simp only [zas.l0] at H
   by_cases c9:x6_1<(l0.length:Int)
   ·
    rw [if_pos c9] at H
    have c9b0:decide (x6_1<(l0.length:Int))=true:=decide_eq_true c9
    clear c9
    by_cases c10:0≤x6_1
    ·
     rw [if_pos c10] at H
     have c10b0:decide (0≤x6_1)=true:=decide_eq_true c10
     clear c10
     have H':=am_ H
     clear H
     have p104:0≤(x6_1:Int):=of_decide_eq_true qz11_
     have q104:x6_1<(l0.length:Int):=of_decide_eq_true qz11_
     obtain⟨ad104,e104,hx104_0,hx104_1⟩:=zey HR0.out x6_1 p104 q104
     cases e104
     replace hx104_0:=(HB.out.cell (World.block_lt_of_cell? w _ hx104_0)).trans hx104_0
     replace hx104_1:=(HB.out.cell (World.block_lt_of_cell? w _ hx104_1)).trans hx104_1
     replace p104:=eq_true p104
     replace q104:=eq_true q104
     go_wp2_with (first|((with_reducible refine zad (N:=7) rfl ?_);refine zae rfl (N:=7) rfl (cs:=#[.int .i64 0,.int .i64 0]) (t:=34) bx_ ?_;intro gb105 hg w11 hbox hb;replace BK105:=am_ (hbox);replace GW105:=am_ ((by rw [hg];exact(zac qz17_):w.heap.size≤gb105));replace GE105:=am_ ((by rw [hg];exact(zac qz17_):w.heap.size≤gb105));replace HB:=am_ (zaj qz17_ hb);replace NB101_105:=am_ ((by rw [hg];exact Nat.ne_of_lt (zar (g:=gb101) (o:=.cells #[.int .i64 a1_0,.int .i64 a1_1] 34 (0,0)) qz13_):gb101≠gb105));replace NB105_101:=am_ ((by rw [hg];exact Nat.ne_of_gt (zar (g:=gb101) (o:=.cells #[.int .i64 a1_0,.int .i64 a1_1] 34 (0,0)) qz13_):gb105≠gb101));replace BK101:=am_ (zak (g:=gb101) (o:=.cells #[.int .i64 a1_0,.int .i64 a1_1] 34 (0,0)) qz13_ hb);replace NB102_105:=am_ ((by rw [hg];exact Nat.ne_of_lt (zar (g:=gb102) (o:=.cells #[.int .i64 0,.int .i64 0] 34 (0,0)) qz15_):gb102≠gb105));replace NB105_102:=am_ ((by rw [hg];exact Nat.ne_of_gt (zar (g:=gb102) (o:=.cells #[.int .i64 0,.int .i64 0] 34 (0,0)) qz15_):gb105≠gb102));replace BK102:=am_ (zak (g:=gb102) (o:=.cells #[.int .i64 0,.int .i64 0] 34 (0,0)) qz15_ hb);replace NB103_105:=am_ ((by rw [hg];exact Nat.ne_of_lt (zar (g:=gb103) (o:=.cells #[.int .i64 x104000_1,.int .i64 x104001_1] 34 (0,0)) qz19_):gb103≠gb105));replace NB105_103:=am_ ((by rw [hg];exact Nat.ne_of_gt (zar (g:=gb103) (o:=.cells #[.int .i64 x104000_1,.int .i64 x104001_1] 34 (0,0)) qz19_):gb105≠gb103));replace BK103:=am_ (zak (g:=gb103) (o:=.cells #[.int .i64 x104000_1,.int .i64 x104001_1] 34 (0,0)) qz19_ hb);clear hb hbox hg;have hnb12:=NB105_101.out;have hnc12:=NB101_105.out;have hnb13:=NB105_102.out;have hnc13:=NB102_105.out;have hnb14:=NB105_103.out;have hnc14:=NB103_105.out;have hcz15_0:w11.cell? ⟨gb105,0,none⟩=some (.int .i64 0):=(zaa BK105.out 0).trans rfl;have hcz15_1:w11.cell? ⟨gb105,1,none⟩=some (.int .i64 0):=(zaa BK105.out 1).trans rfl;have hfz15_0:=zab BK105.out 0;have hfz15_1:=zab BK105.out 1))
     go_loopg [8,9] k1 (fun kq v8 v9 w'=>∃ (x8_2:Int) (x9_2:Int) (x106000_2:Int) (x106001_2:Int),v8=.int .i64 x8_2∧v9=.int .i64 x9_2∧zal (zas.l1 kq l0 x6_1 x8_2 x9_2 a1_0 a1_1 x104000_1 x104001_1 x106000_2 x106001_2=some (r1,r2))∧zal (kq≤k1)∧zal (w'.heap[gb101]?=some (.cells #[.int .i64 a1_0,.int .i64 a1_1] 34 (0,0)))∧zal (w'.heap[gb102]?=some (.cells #[.int .i64 0,.int .i64 0] 34 (0,0)))∧zal (w'.heap[gb103]?=some (.cells #[.int .i64 x104000_1,.int .i64 x104001_1] 34 (0,0)))∧zal (w'.heap[gb105]?=some (.cells #[.int .i64 x106000_2,.int .i64 x106001_2] 34 (0,0)))∧zal (Below w.heap.size w w'))
     case atStart=>exact⟨(1),(0),((zan l0 x6_1).f0),((zan l0 x6_1).f1),qz10_,qz10_,H',⟨Nat.le_refl _⟩,⟨qz28_⟩,⟨qz29_⟩,⟨qz30_⟩,⟨(by(with_reducible repeat(first|refine zah ?_ _|refine zaf ?_|refine zai ?_ _));refine za9 (cs:=#[.int .i64 ((zan l0 x6_1).f0),.int .i64 0]) ?_ 1 _ rfl;(with_reducible repeat(first|refine zah ?_ _|refine zaf ?_|refine zai ?_ _));refine za9 (cs:=#[.int .i64 0,.int .i64 0]) ?_ 0 _ rfl;(with_reducible repeat(first|refine zah ?_ _|refine zaf ?_|refine zai ?_ _));exact BK105.out)⟩,⟨qz32_⟩⟩
     case round=>
      clear H'
      try clear c1
      try clear p1
      try clear q1
      try clear hx1
      try clear p2
      try clear c6
      try clear c7
      try clear c9
      try clear c9b0
      try clear c10
      try clear c10b0
      try clear p10
      try clear q10
      try clear hx10
      try clear c11
      try clear c12
      try clear c13
      try clear c14
      try clear hcz15_0
      try clear hcz15_1
      try clear hcz8_0
      try clear hcz8_1
      try clear hfz15_0
      try clear hfz15_1
      try clear hfz8_0
      try clear hfz8_1
      try clear hx104_0
      try clear hx104_1
      try clear p104
      try clear p2
      try clear q104
      obtain⟨x8_2,x9_2,x106000_2,x106001_2,rfl,rfl,HA,HK2,BK101,BK102,BK103,BK105,HB⟩:=hrel
      cases gk with
      | zero=>exact absurd HA.out (by simp [zas.l1])
      | succ k2=>
       have H:=HA.out
       clear HA
       simp only [zas.l1] at H
       by_cases c16:x9_2<(l0.length:Int)
       ·
        rw [if_pos c16] at H
        have c16b0:decide (x9_2<(l0.length:Int))=true:=decide_eq_true c16
        clear c16
        by_cases c17:x9_2=x6_1
        ·
         rw [if_pos c17] at H
         have c17b0:(x9_2 == x6_1)=true:=beq_iff_eq.mpr c17
         have c17b1:(x9_2 != x6_1)=false:=bne_eq_false_iff_eq.mpr c17
         clear c17
         have H':=am_ H
         clear H
         go_wp2
         go_roundg k2
         case measure=>have:=HK1.out;have:=HK2.out;omega
         case rel=>exact⟨(x8_2),(wrap64 (x9_2 + 1)),(x106000_2),(x106001_2),qz10_,qz10_,H',⟨(by have:=HK1.out;have:=HK2.out;omega)⟩,⟨qz13_⟩,⟨qz15_⟩,⟨qz19_⟩,⟨qz24_⟩,⟨qz32_⟩⟩
        ·
         rw [if_neg c17] at H
         have c17b0:(x9_2 == x6_1)=false:=beq_eq_false_iff_ne.mpr c17
         have c17b1:(x9_2 != x6_1)=true:=bne_iff_ne.mpr c17
         replace H:=Option.bind_eq_some_iff.mp H
         obtain⟨⟨t106,t107⟩,A180,H⟩:=H
         replace H:((zct.f a1_0 a1_1 t106 t107).bind fun bt108=>((zcf.f x106000_2 x106001_2 bt108.1 bt108.2).bind fun bt110=>((zcs.f x6_1 x9_2).bind fun t112=>((za6.f x8_2 t112).bind fun t113=>(zas.l1 k2 l0 x6_1 t113 (wrap64 (x9_2 + 1)) a1_0 a1_1 x104000_1 x104001_1 bt110.1 bt110.2)))))=some (r1,r2):=H
         have A18:=am_ A180
         clear A180
         replace H:=Option.bind_eq_some_iff.mp H
         obtain⟨⟨t108,t109⟩,A190,H⟩:=H
         replace H:((zcf.f x106000_2 x106001_2 t108 t109).bind fun bt110=>((zcs.f x6_1 x9_2).bind fun t112=>((za6.f x8_2 t112).bind fun t113=>(zas.l1 k2 l0 x6_1 t113 (wrap64 (x9_2 + 1)) a1_0 a1_1 x104000_1 x104001_1 bt110.1 bt110.2))))=some (r1,r2):=H
         have A19:=am_ A190
         clear A190
         replace H:=Option.bind_eq_some_iff.mp H
         obtain⟨⟨t110,t111⟩,A200,H⟩:=H
         replace H:((zcs.f x6_1 x9_2).bind fun t112=>((za6.f x8_2 t112).bind fun t113=>(zas.l1 k2 l0 x6_1 t113 (wrap64 (x9_2 + 1)) a1_0 a1_1 x104000_1 x104001_1 t110 t111)))=some (r1,r2):=H
         have A20:=am_ A200
         clear A200
         replace H:=Option.bind_eq_some_iff.mp H
         obtain⟨t112,A210,H⟩:=H
         replace H:((za6.f x8_2 t112).bind fun t113=>(zas.l1 k2 l0 x6_1 t113 (wrap64 (x9_2 + 1)) a1_0 a1_1 x104000_1 x104001_1 t110 t111))=some (r1,r2):=H
         have A21:=am_ A210
         clear A210
         replace H:=Option.bind_eq_some_iff.mp H
         obtain⟨t113,A220,H⟩:=H
         replace H:(zas.l1 k2 l0 x6_1 t113 (wrap64 (x9_2 + 1)) a1_0 a1_1 x104000_1 x104001_1 t110 t111)=some (r1,r2):=H
         have A22:=am_ A220
         clear A220
         have H':=am_ H
         clear H
         try go_wp2
         replace BK101:=am_ (zaf BK101.out)
         replace BK102:=am_ (zaf BK102.out)
         replace BK103:=am_ (zaf BK103.out)
         replace BK105:=am_ (zaf BK105.out)
         replace HB:=am_ (zat HB.out)
         refine zcb (n:=7) (S:=fun w'=>w'.cell? ⟨gb105,0,none⟩=some (.int .i64 x106000_2)∧w'.cell? ⟨gb105,1,none⟩=some (.int .i64 x106001_2)∧w'.cell? ⟨gb101,0,none⟩=some (.int .i64 a1_0)∧w'.cell? ⟨gb101,1,none⟩=some (.int .i64 a1_1)) (ds:=[6]) (bs_ 7 0) (by kernel_rfl) rfl rfl ⟨(zaa BK105.out 0).trans rfl,(zaa BK105.out 1).trans rfl,(zaa BK101.out 0).trans rfl,(zaa BK101.out 1).trans rfl⟩ (fun hHeld=>?_)
         generalize wr.drew=w23 at BK101 BK102 BK103 BK105 HB hHeld ⊢
         refine pu_ 2 32 (bs_ 7 4) ?_
         refine take_ (i:=0) (N:=some 30) (v:=?_) (a':=?_) (bs_ 7 5) rfl rfl (by kernel_rfl) (fun _ _ _ h=>h) (Or.inl ⟨(by rfl),?_⟩) hHeld ?_ ?_
         rotate_left
         ·
          rintro w' ⟨s0,s1,s2,s3⟩
          go_simp
          with_reducible rfl
         rotate_left
         ·
          exact ap_
         refine take_ (i:=1) (N:=some 31) (v:=?_) (a':=?_) (bs_ 7 7) rfl rfl (by kernel_rfl) (fun _ _ _ h=>h) (Or.inl ⟨(by rfl),?_⟩) hHeld ?_ ?_
         rotate_left
         ·
          rintro w' ⟨s0,s1,s2,s3⟩
          go_simp
          with_reducible rfl
         rotate_left
         ·
          exact ap_
         refine one_ (i:=3) (N:=some 33) (bs_ 7 15) rfl rfl (by kernel_rfl) (by decide) (fun K hK=>?_)
         refine goes_ Try.func150 (by kernel_rfl) rfl #[.int .i64 x9_2] (by rfl) rfl rfl qz18_ ?_
         with_reducible refine(ze4.calls x9_2 t106 t107 _ A18.out).mono ?_
         rintro e w24 ⟨rfl,hb⟩
         refine⟨_,rfl,?_⟩
         replace BK101:=am_ (zak (g:=gb101) (o:=.cells #[.int .i64 a1_0,.int .i64 a1_1] 34 (0,0)) qz13_ hb)
         replace BK102:=am_ (zak (g:=gb102) (o:=.cells #[.int .i64 0,.int .i64 0] 34 (0,0)) qz15_ hb)
         replace BK103:=am_ (zak (g:=gb103) (o:=.cells #[.int .i64 x104000_1,.int .i64 x104001_1] 34 (0,0)) qz19_ hb)
         replace BK105:=am_ (zak (g:=gb105) (o:=.cells #[.int .i64 x106000_2,.int .i64 x106001_2] 34 (0,0)) qz24_ hb)
         replace HB:=am_ (zaj qz32_ hb)
         (try clear hb)
         (try clear hb2)
         (try clear hk)
         (try clear hi)
         refine hK.out _ _ ⟨(zaa BK105.out 0).trans rfl,(zaa BK105.out 1).trans rfl,(zaa BK101.out 0).trans rfl,(zaa BK101.out 1).trans rfl⟩ (fun hHeld=>?_)
         clear hK K
         refine norm_ (a':=?_) ?_ ?_
         rotate_left
         ·
          show Act.put _ (some 33) _=_
          exact ap_
         refine one_ (i:=4) (N:=some 34) (bs_ 7 31) rfl rfl (by kernel_rfl) (by decide) (fun K hK=>?_)
         refine goes_ Try.func138 (by kernel_rfl) rfl #[.agg #[.int .i64 a1_0,.int .i64 a1_1],.agg #[.int .i64 t106,.int .i64 t107]] (by rfl) rfl rfl qz18_ ?_
         with_reducible refine(zct.calls a1_0 a1_1 t106 t107 t108 t109 _ A19.out).mono ?_
         rintro e w25 ⟨rfl,hb⟩
         refine⟨_,rfl,?_⟩
         replace BK101:=am_ (zak (g:=gb101) (o:=.cells #[.int .i64 a1_0,.int .i64 a1_1] 34 (0,0)) qz13_ hb)
         replace BK102:=am_ (zak (g:=gb102) (o:=.cells #[.int .i64 0,.int .i64 0] 34 (0,0)) qz15_ hb)
         replace BK103:=am_ (zak (g:=gb103) (o:=.cells #[.int .i64 x104000_1,.int .i64 x104001_1] 34 (0,0)) qz19_ hb)
         replace BK105:=am_ (zak (g:=gb105) (o:=.cells #[.int .i64 x106000_2,.int .i64 x106001_2] 34 (0,0)) qz24_ hb)
         replace HB:=am_ (zaj qz32_ hb)
         (try clear hb)
         (try clear hb2)
         (try clear hk)
         (try clear hi)
         refine hK.out _ _ ⟨(zaa BK105.out 0).trans rfl,(zaa BK105.out 1).trans rfl,(zaa BK101.out 0).trans rfl,(zaa BK101.out 1).trans rfl⟩ (fun hHeld=>?_)
         clear hK K
         refine norm_ (a':=?_) ?_ ?_
         rotate_left
         ·
          show Act.put _ (some 34) _=_
          exact ap_
         refine one_ (i:=5) (N:=some 35) (bs_ 7 63) rfl rfl (by kernel_rfl) (by decide) (fun K hK=>?_)
         refine goes_ Try.func149 (by kernel_rfl) rfl #[.agg #[.int .i64 x106000_2,.int .i64 x106001_2],.agg #[.int .i64 t108,.int .i64 t109]] (by rfl) rfl rfl qz18_ ?_
         with_reducible refine(zcf.calls x106000_2 x106001_2 t108 t109 t110 t111 _ A20.out).mono ?_
         rintro e w26 ⟨rfl,hb⟩
         refine⟨_,rfl,?_⟩
         replace BK101:=am_ (zak (g:=gb101) (o:=.cells #[.int .i64 a1_0,.int .i64 a1_1] 34 (0,0)) qz13_ hb)
         replace BK102:=am_ (zak (g:=gb102) (o:=.cells #[.int .i64 0,.int .i64 0] 34 (0,0)) qz15_ hb)
         replace BK103:=am_ (zak (g:=gb103) (o:=.cells #[.int .i64 x104000_1,.int .i64 x104001_1] 34 (0,0)) qz19_ hb)
         replace BK105:=am_ (zak (g:=gb105) (o:=.cells #[.int .i64 x106000_2,.int .i64 x106001_2] 34 (0,0)) qz24_ hb)
         replace HB:=am_ (zaj qz32_ hb)
         (try clear hb)
         (try clear hb2)
         (try clear hk)
         (try clear hi)
         refine hK.out _ _ ⟨(zaa BK105.out 0).trans rfl,(zaa BK105.out 1).trans rfl,(zaa BK101.out 0).trans rfl,(zaa BK101.out 1).trans rfl⟩ (fun hHeld=>?_)
         clear hK K
         refine norm_ (a':=?_) ?_ ?_
         rotate_left
         ·
          show Act.put _ (some 35) _=_
          exact ap_
         refine last_ (i:=6) (N:=none) (bs_ 7 127) rfl rfl (by kernel_rfl) (by decide) (fun K hK=>?_)
         have hs27:w26.cell? ⟨gb105,0,none⟩=some (.int .i64 x106000_2):=(zaa BK105.out 0).trans rfl
         have hfs27:=zab BK105.out 0
         have hns27_0:=NB101_105.out
         have hns27_1:=NB102_105.out
         have hns27_2:=NB103_105.out
         have hms27_0:=NB105_101.out
         have hms27_1:=NB105_102.out
         have hms27_2:=NB105_103.out
         have hs28:w26.cell? ⟨gb105,1,none⟩=some (.int .i64 x106001_2):=(zaa BK105.out 1).trans rfl
         have hfs28:=zab BK105.out 1
         have hns28_0:=NB101_105.out
         have hns28_1:=NB102_105.out
         have hns28_2:=NB103_105.out
         have hms28_0:=NB105_101.out
         have hms28_1:=NB105_102.out
         have hms28_2:=NB105_103.out
         refine skip_ (w1:=?_) (by rfl) rfl ?_ ?_
         rotate_left
         ·
          go_simp
          rfl
         refine hK.out _ _ ?_
         clear hK K
         refine done_ (by kernel_rfl) ?_
         try go_wp2_with (first|((with_reducible refine zaz (f:=152) rfl ?_);refine zc5 (some 39) rfl rfl Try.func152 (by kernel_rfl) rfl #[.int .i64 x6_1,.int .i64 x9_2] rfl qz18_ ?_;(with_reducible refine(zcs.calls x6_1 x9_2 t112 _ A21.out).mono ?_);rintro e w' ⟨rfl,⟨nd,rfl⟩⟩;refine⟨_,rfl,?_⟩)|((with_reducible refine zaz (f:=151) rfl ?_);refine zc5 (some 40) rfl rfl Try.func151 (by kernel_rfl) rfl #[.int .i64 x8_2,.int .i64 t112] rfl qz18_ ?_;(with_reducible refine(za6.calls x8_2 t112 t113 _ A22.out).mono ?_);rintro e w' ⟨rfl,⟨nd,rfl⟩⟩;refine⟨_,rfl,?_⟩))
         go_roundg k2
         case measure=>have:=HK1.out;have:=HK2.out;omega
         case rel=>exact⟨(t113),(wrap64 (x9_2 + 1)),(t110),(t111),qz10_,qz10_,H',⟨(by have:=HK1.out;have:=HK2.out;omega)⟩,⟨qz28_⟩,⟨qz29_⟩,⟨qz30_⟩,⟨(by(with_reducible repeat(first|refine zah ?_ _|refine zaf ?_|refine zai ?_ _));refine za9 (cs:=#[.int .i64 t110,.int .i64 x106001_2]) ?_ 1 _ rfl;(with_reducible repeat(first|refine zah ?_ _|refine zaf ?_|refine zai ?_ _));refine za9 (cs:=#[.int .i64 x106000_2,.int .i64 x106001_2]) ?_ 0 _ rfl;(with_reducible repeat(first|refine zah ?_ _|refine zaf ?_|refine zai ?_ _));exact BK105.out)⟩,⟨qz32_⟩⟩
       ·
        rw [if_neg c16] at H
        have c16b0:decide (x9_2<(l0.length:Int))=false:=decide_eq_false c16
        clear c16
        replace H:=Option.bind_eq_some_iff.mp H
        obtain⟨t114,A290,H⟩:=H
        replace H:((ze4.f t114).bind fun bt115=>((zcf.f x106000_2 x106001_2 bt115.1 bt115.2).bind fun bt117=>((zb9.f x104000_1 x104001_1 bt117.1 bt117.2).bind fun bt119=>(zas.l0 k2 l0 (wrap64 (x6_1 + 1)) a1_0 a1_1 bt119.1 bt119.2))))=some (r1,r2):=H
        have A29:=am_ A290
        clear A290
        replace H:=Option.bind_eq_some_iff.mp H
        obtain⟨⟨t115,t116⟩,A300,H⟩:=H
        replace H:((zcf.f x106000_2 x106001_2 t115 t116).bind fun bt117=>((zb9.f x104000_1 x104001_1 bt117.1 bt117.2).bind fun bt119=>(zas.l0 k2 l0 (wrap64 (x6_1 + 1)) a1_0 a1_1 bt119.1 bt119.2)))=some (r1,r2):=H
        have A30:=am_ A300
        clear A300
        replace H:=Option.bind_eq_some_iff.mp H
        obtain⟨⟨t117,t118⟩,A310,H⟩:=H
        replace H:((zb9.f x104000_1 x104001_1 t117 t118).bind fun bt119=>(zas.l0 k2 l0 (wrap64 (x6_1 + 1)) a1_0 a1_1 bt119.1 bt119.2))=some (r1,r2):=H
        have A31:=am_ A310
        clear A310
        replace H:=Option.bind_eq_some_iff.mp H
        obtain⟨⟨t119,t120⟩,A320,H⟩:=H
        replace H:(zas.l0 k2 l0 (wrap64 (x6_1 + 1)) a1_0 a1_1 t119 t120)=some (r1,r2):=H
        have A32:=am_ A320
        clear A320
        have H':=am_ H
        clear H
        try go_wp2
        replace BK101:=am_ (zaf BK101.out)
        replace BK102:=am_ (zaf BK102.out)
        replace BK103:=am_ (zaf BK103.out)
        replace BK105:=am_ (zaf BK105.out)
        replace HB:=am_ (zat HB.out)
        refine zcb (n:=8) (S:=fun w'=>w'.cell? ⟨gb103,0,none⟩=some (.int .i64 x104000_1)∧w'.cell? ⟨gb103,1,none⟩=some (.int .i64 x104001_1)∧w'.cell? ⟨gb105,0,none⟩=some (.int .i64 x106000_2)∧w'.cell? ⟨gb105,1,none⟩=some (.int .i64 x106001_2)) (ds:=[7]) (bs_ 8 0) (by kernel_rfl) rfl rfl ⟨(zaa BK103.out 0).trans rfl,(zaa BK103.out 1).trans rfl,(zaa BK105.out 0).trans rfl,(zaa BK105.out 1).trans rfl⟩ (fun hHeld=>?_);refine zcr zas.tab13 zas.bits13 (fun HT_ HW_=>?_)
        generalize wr.drew=w33 at BK101 BK102 BK103 BK105 HB hHeld ⊢
        refine pt_ HT_.out 2 43 (bs_ 8 4) ?_
        refine take_ (i:=0) (N:=some 41) (v:=?_) (a':=?_) (bs_ 8 5) rfl rfl (zba HT_.out HW_.out (by kernel_rfl)) (fun _ _ _ h=>h) (Or.inl ⟨(by rfl),?_⟩) hHeld ?_ ?_
        rotate_left
        ·
         rintro w' ⟨s0,s1,s2,s3⟩
         go_simp
         with_reducible rfl
        rotate_left
        ·
         exact ap_
        refine take_ (i:=1) (N:=some 42) (v:=?_) (a':=?_) (bs_ 8 7) rfl rfl (zba HT_.out HW_.out (by kernel_rfl)) (fun _ _ _ h=>h) (Or.inl ⟨(by rfl),?_⟩) hHeld ?_ ?_
        rotate_left
        ·
         rintro w' ⟨s0,s1,s2,s3⟩
         go_simp
         with_reducible rfl
        rotate_left
        ·
         exact ap_
        refine one_ (i:=3) (N:=some 44) (bs_ 8 15) rfl rfl (zbx HT_.out (by kernel_rfl)) (by decide) (fun K hK=>?_)
        refine goes_ Try.func153 (by kernel_rfl) rfl #[.int .i64 x8_2] (by rfl) rfl rfl qz18_ ?_
        with_reducible refine(zd9.calls k2 x8_2 t114 _ A29.out).mono ?_
        rintro e w' ⟨rfl,⟨nd,rfl⟩⟩
        refine⟨_,rfl,?_⟩
        refine hK.out _ _ ⟨(zaa BK103.out 0).trans rfl,(zaa BK103.out 1).trans rfl,(zaa BK105.out 0).trans rfl,(zaa BK105.out 1).trans rfl⟩ (fun hHeld=>?_)
        clear hK K
        refine norm_ (a':=?_) ?_ ?_
        rotate_left
        ·
         show Act.put _ (some 44) _=_
         exact ap_
        refine one_ (i:=4) (N:=some 45) (bs_ 8 31) rfl rfl (zbx HT_.out (by kernel_rfl)) (by decide) (fun K hK=>?_)
        refine goes_ Try.func150 (by kernel_rfl) rfl #[.int .i64 t114] (by rfl) rfl rfl qz18_ ?_
        with_reducible refine(ze4.calls t114 t115 t116 _ A30.out).mono ?_
        rintro e w34 ⟨rfl,hb⟩
        refine⟨_,rfl,?_⟩
        replace BK101:=am_ (zak (g:=gb101) (o:=.cells #[.int .i64 a1_0,.int .i64 a1_1] 34 (0,0)) qz13_ hb)
        replace BK102:=am_ (zak (g:=gb102) (o:=.cells #[.int .i64 0,.int .i64 0] 34 (0,0)) qz15_ hb)
        replace BK103:=am_ (zak (g:=gb103) (o:=.cells #[.int .i64 x104000_1,.int .i64 x104001_1] 34 (0,0)) qz19_ hb)
        replace BK105:=am_ (zak (g:=gb105) (o:=.cells #[.int .i64 x106000_2,.int .i64 x106001_2] 34 (0,0)) qz24_ hb)
        replace HB:=am_ (zaj qz32_ hb)
        (try clear hb)
        (try clear hb2)
        (try clear hk)
        (try clear hi)
        refine hK.out _ _ ⟨(zaa BK103.out 0).trans rfl,(zaa BK103.out 1).trans rfl,(zaa BK105.out 0).trans rfl,(zaa BK105.out 1).trans rfl⟩ (fun hHeld=>?_)
        clear hK K
        refine norm_ (a':=?_) ?_ ?_
        rotate_left
        ·
         show Act.put _ (some 45) _=_
         exact ap_
        refine one_ (i:=5) (N:=some 46) (bs_ 8 63) rfl rfl (zbx HT_.out (by kernel_rfl)) (by decide) (fun K hK=>?_)
        refine goes_ Try.func149 (by kernel_rfl) rfl #[.agg #[.int .i64 x106000_2,.int .i64 x106001_2],.agg #[.int .i64 t115,.int .i64 t116]] (by rfl) rfl rfl qz18_ ?_
        with_reducible refine(zcf.calls x106000_2 x106001_2 t115 t116 t117 t118 _ A31.out).mono ?_
        rintro e w35 ⟨rfl,hb⟩
        refine⟨_,rfl,?_⟩
        replace BK101:=am_ (zak (g:=gb101) (o:=.cells #[.int .i64 a1_0,.int .i64 a1_1] 34 (0,0)) qz13_ hb)
        replace BK102:=am_ (zak (g:=gb102) (o:=.cells #[.int .i64 0,.int .i64 0] 34 (0,0)) qz15_ hb)
        replace BK103:=am_ (zak (g:=gb103) (o:=.cells #[.int .i64 x104000_1,.int .i64 x104001_1] 34 (0,0)) qz19_ hb)
        replace BK105:=am_ (zak (g:=gb105) (o:=.cells #[.int .i64 x106000_2,.int .i64 x106001_2] 34 (0,0)) qz24_ hb)
        replace HB:=am_ (zaj qz32_ hb)
        (try clear hb)
        (try clear hb2)
        (try clear hk)
        (try clear hi)
        refine hK.out _ _ ⟨(zaa BK103.out 0).trans rfl,(zaa BK103.out 1).trans rfl,(zaa BK105.out 0).trans rfl,(zaa BK105.out 1).trans rfl⟩ (fun hHeld=>?_)
        clear hK K
        refine norm_ (a':=?_) ?_ ?_
        rotate_left
        ·
         show Act.put _ (some 46) _=_
         exact ap_
        refine one_ (i:=6) (N:=some 47) (bs_ 8 127) rfl rfl (zbx HT_.out (by kernel_rfl)) (by decide) (fun K hK=>?_)
        refine goes_ Try.func116 (by kernel_rfl) rfl #[.agg #[.int .i64 x104000_1,.int .i64 x104001_1],.agg #[.int .i64 t117,.int .i64 t118]] (by rfl) rfl rfl qz18_ ?_
        with_reducible refine(zb9.calls x104000_1 x104001_1 t117 t118 t119 t120 _ A32.out).mono ?_
        rintro e w36 ⟨rfl,hb⟩
        refine⟨_,rfl,?_⟩
        replace BK101:=am_ (zak (g:=gb101) (o:=.cells #[.int .i64 a1_0,.int .i64 a1_1] 34 (0,0)) qz13_ hb)
        replace BK102:=am_ (zak (g:=gb102) (o:=.cells #[.int .i64 0,.int .i64 0] 34 (0,0)) qz15_ hb)
        replace BK103:=am_ (zak (g:=gb103) (o:=.cells #[.int .i64 x104000_1,.int .i64 x104001_1] 34 (0,0)) qz19_ hb)
        replace BK105:=am_ (zak (g:=gb105) (o:=.cells #[.int .i64 x106000_2,.int .i64 x106001_2] 34 (0,0)) qz24_ hb)
        replace HB:=am_ (zaj qz32_ hb)
        (try clear hb)
        (try clear hb2)
        (try clear hk)
        (try clear hi)
        refine hK.out _ _ ⟨(zaa BK103.out 0).trans rfl,(zaa BK103.out 1).trans rfl,(zaa BK105.out 0).trans rfl,(zaa BK105.out 1).trans rfl⟩ (fun hHeld=>?_)
        clear hK K
        refine norm_ (a':=?_) ?_ ?_
        rotate_left
        ·
         show Act.put _ (some 47) _=_
         exact ap_
        refine last_ (i:=7) (N:=none) (bs_ 8 255) rfl rfl (zbx HT_.out (by kernel_rfl)) (by decide) (fun K hK=>?_)
        have hs37:w36.cell? ⟨gb103,0,none⟩=some (.int .i64 x104000_1):=(zaa BK103.out 0).trans rfl
        have hfs37:=zab BK103.out 0
        have hns37_0:=NB101_103.out
        have hns37_1:=NB102_103.out
        have hns37_3:=NB105_103.out
        have hms37_0:=NB103_101.out
        have hms37_1:=NB103_102.out
        have hms37_3:=NB103_105.out
        have hs38:w36.cell? ⟨gb103,1,none⟩=some (.int .i64 x104001_1):=(zaa BK103.out 1).trans rfl
        have hfs38:=zab BK103.out 1
        have hns38_0:=NB101_103.out
        have hns38_1:=NB102_103.out
        have hns38_3:=NB105_103.out
        have hms38_0:=NB103_101.out
        have hms38_1:=NB103_102.out
        have hms38_3:=NB103_105.out
        refine skip_ (w1:=?_) (by rfl) rfl ?_ ?_
        rotate_left
        ·
         go_simp
         rfl
        refine hK.out _ _ ?_
        clear hK K
        refine done_ (zej HT_.out (by kernel_rfl)) ?_
        try go_wp2
        go_roundg k2
        case measure=>have:=HK1.out;have:=HK2.out;omega
        case rel=>exact⟨(wrap64 (x6_1 + 1)),(t119),(t120),qz10_,H',⟨(by have:=HK1.out;have:=HK2.out;omega)⟩,⟨qz26_⟩,⟨qz27_⟩,⟨(by(with_reducible repeat(first|refine zah ?_ _|refine zaf ?_|refine zai ?_ _));refine za9 (cs:=#[.int .i64 t119,.int .i64 x104001_1]) ?_ 1 _ rfl;(with_reducible repeat(first|refine zah ?_ _|refine zaf ?_|refine zai ?_ _));refine za9 (cs:=#[.int .i64 x104000_1,.int .i64 x104001_1]) ?_ 0 _ rfl;(with_reducible repeat(first|refine zah ?_ _|refine zaf ?_|refine zai ?_ _));exact BK103.out)⟩,⟨qz32_⟩⟩
    ·
     rw [if_neg c10] at H
     exact absurd H (by simp)
   ·
    rw [if_neg c9] at H
    have c9b0:decide (x6_1<(l0.length:Int))=false:=decide_eq_false c9
    clear c9
    simp only [Option.some.injEq,Prod.mk.injEq] at H
    obtain⟨rfl,rfl⟩:=H
    have hnb39:=NB103_101.out
    have hnc39:=NB101_103.out
    have hnb40:=NB103_102.out
    have hnc40:=NB102_103.out
    have hcz41_0:wr.cell? ⟨gb103,0,none⟩=some (.int .i64 x104000_1):=(zaa BK103.out 0).trans rfl
    have hcz41_1:wr.cell? ⟨gb103,1,none⟩=some (.int .i64 x104001_1):=(zaa BK103.out 1).trans rfl
    have hfz41_0:=zab BK103.out 0
    have hfz41_1:=zab BK103.out 1
    have hnb42:=NB102_101.out
    have hnc42:=NB101_102.out
    have hcz43_0:wr.cell? ⟨gb102,0,none⟩=some (.int .i64 0):=(zaa BK102.out 0).trans rfl
    have hcz43_1:wr.cell? ⟨gb102,1,none⟩=some (.int .i64 0):=(zaa BK102.out 1).trans rfl
    have hfz43_0:=zab BK102.out 0
    have hfz43_1:=zab BK102.out 1
    go_wp2
    refine bodyPost_ret (results_cell_row rfl _ _ gb102 34 #[.int .i64 x104000_1,.int .i64 x104001_1] (0,0) _ rfl (by(with_reducible repeat(first|refine zah ?_ _|refine zaf ?_|refine zai ?_ _));refine za9 (cs:=#[.int .i64 x104000_1,.int .i64 0]) ?_ 1 _ rfl;(with_reducible repeat(first|refine zah ?_ _|refine zaf ?_|refine zai ?_ _));refine za9 (cs:=#[.int .i64 0,.int .i64 0]) ?_ 0 _ rfl;(with_reducible repeat(first|refine zah ?_ _|refine zaf ?_|refine zai ?_ _));exact BK102.out) Try.underlying34 rfl (by kernel_rfl)) rfl ?_
    exact⟨qz8_,qz17_⟩
end Go.Proofs.Ytgookagndlfehaa.PT
end
section
namespace Go.Proofs.Ytgookagndlfehaa.PT
open Go Go.RowKit Go.Proofs.YtgookagndlfehaaW.PrintWords Go.Proofs.YtgookagndlfehaaW.PrintLast Go.Proofs.YtgookagndlfehaaW.PrintMore
set_option linter.unusedVariables false
set_option linter.unusedSimpArgs false
theorem zf0 {α:Type}:∀ (l:List α) (i:Nat) (b:α),l[i]?=some b→l.Perm (b::l.eraseIdx i)
 | [],i,b,h=>by simp at h
 | x::l,0,b,h=>by
  obtain rfl:x=b:=by simpa using h
  exact List.Perm.refl _
 | x::l,i + 1,b,h=>((zf0 l i b (by simpa using h)).cons x).trans (List.Perm.swap _ _ _)
theorem Inv.newAt {w0 w:World} {P:Nat→Prop} {F:World→Prop} {L:List Grp} (h:Inv w0 P w L F) (i:Nat) {b:Grp} (hi:L[i]?=some b):∀ k,b.S k→w0.heap.size≤k∨P k:=fun k hk=>h.new b (List.mem_of_getElem? hi) k hk
theorem Inv.front {w0 w:World} {P:Nat→Prop} {F:World→Prop} {L:List Grp} (h:Inv w0 P w L F) (i:Nat) {b:Grp} (hi:L[i]?=some b):Inv w0 P w (b::L.eraseIdx i) F:=by
 exact h.perm (zf0 L i b hi)
theorem Inv.startR {α:Type} {d:Kd α} {e b:Nat} {w:World} {v:Value} {xs:List α} {ok:Nat→Prop} (hE:d.E=[]) (ho:d.R e w b ok v xs) (F:World→Prop) (hF:∀ w',Agr w w' (fun k=>some k=v.ownBlock)→F w') :
  Inv w (fun k=>some k=v.ownBlock) w [row d e b v xs (fun k=>some k=v.ownBlock)] F:=
 ⟨Agr.refl _ _,fun c hc k hk=>(by obtain rfl:=List.mem_singleton.1 hc;exact Kd.R_lt ho k hk.symm),fun c hc k hk=>(by obtain rfl:=List.mem_singleton.1 hc;exact .inr hk),
  fun c hc w' hw=>(by obtain rfl:=List.mem_singleton.1 hc;exact Kd.zft (Kd.zfo hE ho) (fun k hk _=>hw k hk)),List.pairwise_singleton _ _,fun w' hw=>hF w' (hw.mono (fun k hk=>by obtain⟨c,hc,hk2⟩:=hk;obtain rfl:=List.mem_singleton.1 hc;exact hk2))⟩
theorem Inv.keptP {α:Type} {d:Kd α} {e b:Nat} {w0 wb w w1:World} {P:Nat→Prop} {F:World→Prop} {L:List Grp} {v v1:Value} {xs ys:List α} {S ok:Nat→Prop} (h:Inv w0 P w (row d e b v xs S::L) F) (hb:Below wb.heap.size wb w) (hb':Below wb.heap.size wb w1) (hk:Kept w w1 S) (hR:d.R e w1 b ok v1 ys) (hok:∀ k,ok k→S k∨w.heap.size≤k) :
  Inv w0 P w1 (row d e b v1 ys (fun k=>(S k∨w.heap.size≤k)∧k<w1.heap.size)::L) F:=by
 have hR2:d.R e w1 b (fun k=>(S k∨w.heap.size≤k)∧k<w1.heap.size) v1 ys:=Kd.zbi (Kd.zee hR) (fun k hk=>⟨hok k hk.1,hk.2.2.1⟩)
 exact h.step ⟨hb'.os.trans hb.os.symm,hb'.tape.trans hb.tape.symm,hb'.output.trans hb.output.symm,hk.1,fun k hlt hn=>hk.2 k hlt hn⟩ _ (fun k hk=>hk) (fun w' hw=>Kd.zft hR2 (fun k hk _=>hw k hk))
theorem Inv.zpi {α:Type} {d:Kd α} {e b:Nat} {w0 w W:World} {P:Nat→Prop} {F:World→Prop} {L:List Grp} {v:Value} {xs:List α} {S:Nat→Prop} (h:Inv w0 P w (row d e b v xs S::L) F) (hk:Kept w W S):F { w with heap:=W.heap }:=
 h.facts _ ⟨rfl,rfl,rfl,hk.1,fun k hlt hn=>hk.2 k hlt (fun hs=>hn ⟨_,List.mem_cons_self,hs⟩)⟩
theorem Inv.zef {w0 wb w:World} {P:Nat→Prop} {F:World→Prop} {L:List Grp} (h:Inv w0 P w L F) (hb:Below wb.heap.size wb w0) (hP:∀ k,P k→wb.heap.size≤k):Below wb.heap.size wb w:=h.agr.onto hb hP
def vsp_ (k:Nat) (kind:Int):List (List S34)→Int→Int→List S34→Int→ByteArray→Int→List S34→Option (List S34 × Int × Int × Int × List S34 × Int × ByteArray × Int)
 | [],c0,c1,u0,u1,u2,u3,pt=>some (pt,c0,c1,0,u0,u1,u2,u3)
 | r::rs,c0,c1,u0,u1,u2,u3,pt=>(zds.f kind).bind fun d=>if (r.length:Int)=wrap64 (d + 1) then(if 1<r.length then((zb9.f (zan r 0).f0 (zan r 0).f1 (zan r 1).f0 (zan r 1).f1).bind fun p=>if p.1=c0∧p.2=c1 then((zer.f k u0 u1 u2 u3 r).bind fun a=>(za2.f k a.1 a.2.1 a.2.2.1 a.2.2.2).bind fun e=>(zas.f k r e.2.2.2.2.1 e.2.2.2.2.2).bind fun c=>if pt.length≤100000 then vsp_ k kind rs c.1 c.2 e.1 e.2.1 e.2.2.1 e.2.2.2.1 (pt++[⟨e.2.2.2.2.1,e.2.2.2.2.2⟩]) else none) else some ([],0,0,10,u0,u1,u2,u3)) else none) else some ([],0,0,18,u0,u1,u2,u3)
def zco.f (k:Nat) (kind c0 c1:Int) (l2:List (List S34)) (vars:Int) (u0:List S34) (u1:Int) (u2:ByteArray) (u3:Int):Option (List S34 × Int × Int × Int × List S34 × Int × ByteArray × Int):=
 if (l2.length:Int)=vars then vsp_ k kind l2 c0 c1 u0 u1 u2 u3 [] else some ([],0,0,18,u0,u1,u2,u3)
theorem zco.walk (k:Nat) (kind c0 c1:Int) (A2:Option Addr) (cap2:Nat) (l2:List (List S34)) (vars:Int) (PW_:Nat→Prop) (Au:Option Addr) (cu:Nat) (u0:List S34) (u1:Int) (u2:ByteArray) (u3:Int) (r1:List S34) (r2 r3 r4:Int) (r5:List S34) (r6:Int) (r7:ByteArray) (r8:Int) (wb w:World) (hB:Below wb.heap.size wb w) (hI:Inv w PW_ w [row k34 34 wb.heap.size (.slice Au u0.length cu) u0 PW_] (fun w2=>Kd.C (Kd.slice 34 k34) w2 A2 l2.length l2)) (hPW:∀ k,PW_ k→wb.heap.size≤k) (hL2:l2.length≤9223372036854775807) (h:zco.f k kind c0 c1 l2 vars u0 u1 u2 u3=some (r1,r2,r3,r4,r5,r6,r7,r8)) :
  Calls Try.prog 75 #[.int .i64 kind,.agg #[.int .i64 c0,.int .i64 c1],.slice A2 l2.length cap2,.int .i64 vars,.agg #[.slice Au u0.length cu,.int .i64 u1,.string u2,.int .i64 u3]] w fun e w'=>∃ v0_ v3_:Value,e=.returned (.tuple #[v0_,.agg #[.int .i64 r2,.int .i64 r3],.agg #[v3_,.int .i64 r6,.string r7,.int .i64 r8],.int .i64 r4])∧Kd.R k34 34 w' w.heap.size (fun k_=>some k_≠v3_.ownBlock) v0_ r1∧Kd.R k34 34 w' wb.heap.size (fun k_=>(PW_ k_∨w.heap.size≤k_)∧some k_≠v0_.ownBlock) v3_ r5∧Below wb.heap.size wb w'∧Kept w w' PW_:=by
 have hu34:=Try.underlying34
 have hu27:=Try.underlying27
 have HB:=am_ hB
 have HPW:=am_ hPW
 have HL2:=am_ hL2
 have HI:=am_ hI
 clear hB hPW hL2 hI
 unfold zco.f at h
 by_cases cv:(l2.length:Int)=vars
 ·
  subst cv
  rw [if_pos rfl] at h
  have HVS:=am_ h
  clear h
  go_enter Try.func75,Try.ntmps75
  go_wp2_with (first|((with_reducible refine zad (N:=6) rfl ?_);refine zae rfl (N:=6) rfl (cs:=#[.int .i64 c0,.int .i64 c1]) (t:=34) bx_ ?_;intro g6 hg w6_ hbox hb;replace HI:=am_ ((HI.out).box hg hbox hb);clear hb hbox hg)|((with_reducible refine zad (N:=9) rfl ?_);refine zae rfl (N:=9) rfl (cs:=#[.slice Au u0.length cu,.int .i64 u1,.string u2,.int .i64 u3]) (t:=27) bx_ ?_;intro g9 hg w9_ hbox hb;replace HI:=am_ ((HI.out).box hg hbox hb);clear hb hbox hg)|((with_reducible refine zad (N:=11) rfl ?_);refine zae rfl (N:=11) rfl (cs:=#[.int .i64 0,.int .i64 0]) (t:=34) bx_ ?_;intro g11 hg w11_ hbox hb;replace HI:=am_ ((HI.out).box hg hbox hb);clear hb hbox hg)|((with_reducible refine zad (N:=12) rfl ?_);refine zae rfl (N:=12) rfl (cs:=#[.slice none 0 0,.int .i64 0,.string (⟨#[]⟩:ByteArray),.int .i64 0]) (t:=27) bx_ ?_;intro g12 hg w12_ hbox hb;replace HI:=am_ ((HI.out).box hg hbox hb);clear hb hbox hg)|((with_reducible refine zad (N:=26) rfl ?_);refine Kd.R_lit k34 (w0:=_) _ 34 ?hg (N:=26) ?hd (xs:=([]:List S34)) (inner:=[]) (ok:=fun _=>True) (okp:=fun _=>True) ?hr ?hp (fun _ hk=>hk) trivial (Below.refl _ _) (Nat.le_refl _) (by simp) ?_;(case hd=>rfl);(case hg=>rfl);(case hr=>first|(go_simp;done)|(go_simp;rfl));(case hp=>exact(Reps.none _ _));intro v26 w26 hR hb hg hat;replace HI:=am_ ((HI.out).zdj hb hR);clear hR hb hg hat))
  obtain⟨A17,c17,e17⟩:=Kd.zb0 HI.out.row0
  subst e17
  have HI_:zal (Inv w PW_ _ [row k34 34 w.heap.size (.slice A17 0 c17) [] _,blk g9 27 #[.slice Au u0.length cu,.int .i64 u1,.string u2,.int .i64 u3],blk g12 27 #[.slice none 0 0,.int .i64 0,.string (⟨#[]⟩:ByteArray),.int .i64 0],blk g11 34 #[.int .i64 0,.int .i64 0],row k34 34 wb.heap.size (.slice Au u0.length cu) u0 _,blk g6 34 #[.int .i64 c0,.int .i64 c1]] (fun w2=>Kd.C (Kd.slice 34 k34) w2 A2 l2.length l2)):=⟨((((((HI.out.front 4 rfl).front 5 rfl).front 4 rfl).front 4 rfl).front 5 rfl).front 5 rfl)⟩
  clear HI
  have HI:=HI_
  clear HI_
  go_loopg [14,15] l2.length (fun kq v14 v15 w'=>∃ (j:Nat) (pt:List S34) (c0 c1:Int) (u0:List S34) (u1:Int) (u2:ByteArray) (u3:Int) (Au:Option Addr) (cu:Nat) (S:Nat→Prop) (Apt:Option Addr) (npt cpt:Nat) (Sp:Nat→Prop),v14=.slice Apt npt cpt∧v15=.int .i64 j∧zal (j + kq=l2.length)∧zal (vsp_ k kind (l2.drop j) c0 c1 u0 u1 u2 u3 pt=some (r1,r2,r3,r4,r5,r6,r7,r8))∧zal (Inv w PW_ w' [row k34 34 w.heap.size (.slice Apt npt cpt) pt Sp,blk g9 27 #[.slice Au u0.length cu,.int .i64 u1,.string u2,.int .i64 u3],blk g12 27 #[.slice none 0 0,.int .i64 0,.string (⟨#[]⟩:ByteArray),.int .i64 0],blk g11 34 #[.int .i64 0,.int .i64 0],row k34 34 wb.heap.size (.slice Au u0.length cu) u0 S,blk g6 34 #[.int .i64 c0,.int .i64 c1]] (fun w2=>Kd.C (Kd.slice 34 k34) w2 A2 l2.length l2)))
  case atStart=>exact⟨0,[],c0,c1,u0,u1,u2,u3,Au,cu,_,A17,_,c17,_,rfl,rfl,⟨(by omega)⟩,HVS,HI⟩
  case round=>
   clear HI HVS
   obtain⟨j,pt,c0,c1,u0,u1,u2,u3,Au,cu,S,Apt,npt,cpt,Sp,rfl,rfl,HJ,HVS,HI⟩:=hrel
   have hj:=HJ.out
   cases gk with
   | zero=>
    have h:=HVS.out
    rw [List.drop_eq_nil_of_le (by omega),vsp_] at h
    simp only [Option.some.injEq,Prod.mk.injEq] at h
    obtain⟨rfl,rfl,rfl,rfl,rfl,rfl,rfl,rfl⟩:=h
    have d1:decide ((j:Int)<(l2.length:Int))=false:=decide_eq_false (by omega)
    have d2:decide (j<l2.length)=false:=decide_eq_false (by omega)
    clear hj HJ HVS
    go_wp2
    refine zcb (n:=7) (S:=fun w'=>w'.cell? ⟨g9,0,none⟩=some (.slice Au u0.length cu)∧w'.cell? ⟨g9,1,none⟩=some (.int .i64 u1)∧w'.cell? ⟨g9,2,none⟩=some (.string u2)∧w'.cell? ⟨g9,3,none⟩=some (.int .i64 u3)∧w'.cell? ⟨g6,0,none⟩=some (.int .i64 c0)∧w'.cell? ⟨g6,1,none⟩=some (.int .i64 c1)) (ds:=[5]) (bs_ 7 0) (by kernel_rfl) rfl rfl ⟨(zaa ((HI.out.drew).get 1 rfl) 0).trans rfl,(zaa ((HI.out.drew).get 1 rfl) 1).trans rfl,(zaa ((HI.out.drew).get 1 rfl) 2).trans rfl,(zaa ((HI.out.drew).get 1 rfl) 3).trans rfl,(zaa ((HI.out.drew).get 5 rfl) 0).trans rfl,(zaa ((HI.out.drew).get 5 rfl) 1).trans rfl⟩ (fun hHeld=>?_)
    replace HI:=am_ (HI.out.drew)
    generalize World.drew _=wd0 at HI hHeld ⊢
    refine pu_ 0 73 (bs_ 7 1) ?_
    refine take_ (i:=1) (N:=some 74) (v:=?_) (a':=?_) (bs_ 7 3) rfl rfl (by kernel_rfl) (fun _ _ _ h=>h) (Or.inl ⟨(by rfl),?_⟩) hHeld ?_ ?_
    rotate_left
    ·
     rintro w' ⟨s_0,s_1,s_2,s_3,s_4,s_5⟩
     go_simp
     with_reducible rfl
    rotate_left
    ·
     exact ap_
    refine take_ (i:=2) (N:=some 75) (v:=?_) (a':=?_) (bs_ 7 7) rfl rfl (by kernel_rfl) (fun _ _ _ h=>h) (Or.inl ⟨(by rfl),?_⟩) hHeld ?_ ?_
    rotate_left
    ·
     rintro w' ⟨s_0,s_1,s_2,s_3,s_4,s_5⟩
     go_simp
     with_reducible rfl
    rotate_left
    ·
     exact ap_
    refine pu_ 3 10 (bs_ 7 15) ?_
    refine one_ (i:=4) (N:=none) (bs_ 7 31) rfl rfl (by kernel_rfl) (by decide) (fun K hK=>?_)
    rw [if_pos (by rfl)]
    refine wp_store_row 34 _ _ rfl g11 (#[.int .i64 c0,.int .i64 c1]) rfl qz0_ 34 (#[.int .i64 0,.int .i64 0]) (HI.out.get 3 rfl) (zby c0 c1) (zeo c0 c1) (zd8 c0 c1) ?_
    replace HI:zal (Inv w PW_ _ [blk g11 34 #[.int .i64 c0,.int .i64 c1],row k34 34 w.heap.size (.slice Apt npt cpt) pt Sp,blk g9 27 #[.slice Au u0.length cu,.int .i64 u1,.string u2,.int .i64 u3],blk g12 27 #[.slice none 0 0,.int .i64 0,.string (⟨#[]⟩:ByteArray),.int .i64 0],row k34 34 wb.heap.size (.slice Au u0.length cu) u0 S,blk g6 34 #[.int .i64 c0,.int .i64 c1]] _):=⟨(HI.out.front 3 rfl).put0 (#[.int .i64 c0,.int .i64 c1])⟩
    generalize World.setRow _ g11 (#[.int .i64 c0,.int .i64 c1])=wz4 at HI ⊢
    refine hK.out _ _ ⟨(zaa ((HI.out).get 2 rfl) 0).trans rfl,(zaa ((HI.out).get 2 rfl) 1).trans rfl,(zaa ((HI.out).get 2 rfl) 2).trans rfl,(zaa ((HI.out).get 2 rfl) 3).trans rfl,(zaa ((HI.out).get 5 rfl) 0).trans rfl,(zaa ((HI.out).get 5 rfl) 1).trans rfl⟩ (fun hHeld=>?_)
    clear hK K
    refine last_ (i:=5) (N:=none) (bs_ 7 63) rfl rfl (by kernel_rfl) (by decide) (fun K hK=>?_)
    rw [if_pos (by rfl)]
    refine wp_store_row 27 _ _ rfl g12 (#[.slice Au u0.length cu,.int .i64 u1,.string u2,.int .i64 u3]) rfl qz0_ 27 (#[.slice none 0 0,.int .i64 0,.string (⟨#[]⟩:ByteArray),.int .i64 0]) (HI.out.get 3 rfl) (by kernel_rfl) rfl qz12_ ?_
    replace HI:zal (Inv w PW_ _ [blk g12 27 #[.slice Au u0.length cu,.int .i64 u1,.string u2,.int .i64 u3],blk g11 34 #[.int .i64 c0,.int .i64 c1],row k34 34 w.heap.size (.slice Apt npt cpt) pt Sp,blk g9 27 #[.slice Au u0.length cu,.int .i64 u1,.string u2,.int .i64 u3],row k34 34 wb.heap.size (.slice Au u0.length cu) u0 S,blk g6 34 #[.int .i64 c0,.int .i64 c1]] _):=⟨(HI.out.front 3 rfl).put0 (#[.slice Au u0.length cu,.int .i64 u1,.string u2,.int .i64 u3])⟩
    generalize World.setRow _ g12 (#[.slice Au u0.length cu,.int .i64 u1,.string u2,.int .i64 u3])=wz5 at HI ⊢
    refine hK.out _ _ ?_
    clear hK K
    refine pu_ 6 13 (bs_ 7 127) ?_
    refine done_ (by kernel_rfl) ?_
    try go_wp2
    refine bodyPost_ret (zbp rfl _ _ g11 g12 34 27 #[.int .i64 c0,.int .i64 c1] #[.slice Au u0.length cu,.int .i64 u1,.string u2,.int .i64 u3] (0,0) (0,0) _ _ rfl (HI.out.get 1 rfl) hu34 rfl (by first|exact zby _ _|kernel_rfl) rfl (HI.out.get 0 rfl) hu27 rfl (by kernel_rfl)) rfl ?_
    have hp_:=HI.out.get 2 rfl
    have hs_:=HI.out.get 4 rfl
    have hd_:=HI.out.disj 2 4 (by decide) rfl rfl
    have hn_:=HI.out.newAt 4 rfl
    exact⟨_,_,rfl,Kd.zbi hp_ (fun k hk e=>hd_ k hk (hs_.1 k e.symm)),Kd.zbi hs_ (fun k hk=>⟨(hn_ k hk).symm,fun e=>hd_ k (hp_.1 k e.symm) hk⟩),HI.out.zef HB.out HPW.out,⟨HI.out.agr.size,HI.out.agr.block⟩⟩
   | succ k1=>
    have hjl:j<l2.length:=by omega
    have h:=HVS.out
    rw [zjz l2 j [] hjl,vsp_] at h
    clear HVS
    obtain⟨ad3,B,cB,eA,hBl,hrow⟩:=zmr (S:=InL _) (fun W' hW=>HI.out.facts W' hW) j hjl
    subst eA
    generalize hr_:l2.getD j []=r at h hBl hrow
    clear hr_
    have HI_:=am_ (HI.out.addF (fun w2=>w2.cell? (ad3.add j)=some (.slice B r.length cB)∧Kd.C k34 w2 B r.length r) hrow)
    clear HI hrow
    have HI:=HI_
    clear HI_
    have HBL:=am_ hBl
    have hx:=HI.out.now.1.1
    have d1:decide ((j:Int)<(l2.length:Int))=true:=decide_eq_true (by omega)
    have d2:decide (j<l2.length)=true:=decide_eq_true hjl
    have p6:=eq_true (show 0≤(j:Int) by omega)
    have q6:=eq_true (show (j:Int)<(l2.length:Int) by omega)
    have q6n:=eq_true hjl
    have HWJ:=am_ (show wrap64 ((j:Int) + 1)=((j + 1:Nat):Int) by have:=HL2.out;unfold wrap64;omega)
    have HJ2:=am_ (show j + 1 + k1=l2.length by omega)
    replace h:=Option.bind_eq_some_iff.1 h
    obtain⟨d,hdg,h⟩:=h
    have HDG:=am_ hdg
    clear hdg hBl hj HJ hjl
    by_cases ce1:(r.length:Int)=wrap64 (d + 1)
    ·
     rw [if_pos ce1] at h
     have f1:((r.length:Int) == wrap64 (d + 1))=true:=beq_iff_eq.mpr ce1
     have f2:((r.length:Int) != wrap64 (d + 1))=false:=bne_eq_false_iff_eq.mpr ce1
     clear ce1
     by_cases ce2:1<r.length
     ·
      rw [if_pos ce2] at h
      replace h:=Option.bind_eq_some_iff.1 h
      obtain⟨⟨p0,p1⟩,hpl,h⟩:=h
      obtain⟨ad,eB⟩:=znb HI.out.now.1.2 ce2
      subst eB
      have HX:=am_ (fun(W:World) (hC:Kd.C k34 W (some ad) r.length r)=>zkw hC ce2)
      have p7:=eq_true (show (0:Int)<(r.length:Int) by omega)
      have p8:=eq_true (show (1:Int)<(r.length:Int) by omega)
      have p7n:=eq_true (show 0<r.length by omega)
      have p8n:=eq_true ce2
      generalize zan r 0=x at HX hpl
      generalize zan r 1=y at HX hpl
      have HPL:=am_ hpl
      clear hpl ce2
      by_cases ce3:p0=c0∧p1=c1
      ·
       rw [if_pos (show (p0,p1).1=c0∧(p0,p1).2=c1 from ce3)] at h
       have f3:=eq_true ce3.1
       have f4:=eq_true ce3.2
       clear ce3
       replace h:=Option.bind_eq_some_iff.1 h
       obtain⟨⟨a0,a1,a2,a3⟩,hae,h⟩:=h
       replace h:=Option.bind_eq_some_iff.1 h
       obtain⟨⟨e0,e1,e2,e3,y0,y1⟩,hdw,h⟩:=h
       replace h:=Option.bind_eq_some_iff.1 h
       obtain⟨⟨z0,z1⟩,hli,h⟩:=h
       by_cases cpt_:pt.length≤100000
       ·
        rw [if_pos cpt_] at h
        have HAE:=am_ (show zer.f k u0 u1 u2 u3 r=some (a0,a1,a2,a3) from hae)
        have HDW:=am_ (show za2.f k a0 a1 a2 a3=some (e0,e1,e2,e3,y0,y1) from hdw)
        have HLI:=am_ (show zas.f k r y0 y1=some (z0,z1) from hli)
        have HVS:=am_ (show vsp_ k kind (l2.drop (j + 1)) z0 z1 e0 e1 e2 e3 (pt++([(⟨y0,y1⟩:S34)]:List S34))=some (r1,r2,r3,r4,r5,r6,r7,r8) from h)
        have HPT:=am_ cpt_
        clear hae hdw hli h cpt_
        go_wp2_with (first|(go_at_call 115;(refine(zds.calls kind d _ HDG.out).mono ?_);rintro e w39 ⟨rfl,⟨n39,rfl⟩⟩;replace HI:=am_ (HI.out.drewN n39);generalize World.drewN _ n39=wn39 at HI ⊢))
        clear hx
        refine zcb (n:=9) (S:=fun w'=>w'.cell? ad=some (.int .i64 x.f0)∧w'.cell? ⟨ad.block,ad.off + 1,none⟩=some (.int .i64 x.f1)∧w'.cell? ⟨ad.block,ad.off + 2,none⟩=some (.int .i64 y.f0)∧w'.cell? ⟨ad.block,ad.off + 2 + 1,none⟩=some (.int .i64 y.f1)∧w'.cell? ⟨g6,0,none⟩=some (.int .i64 c0)∧w'.cell? ⟨g6,1,none⟩=some (.int .i64 c1)) (ds:=[]) (bs_ 9 0) (by kernel_rfl) rfl rfl ⟨(HX.out _ ((HI.out.drew).now.1.2)).1,(HX.out _ ((HI.out.drew).now.1.2)).2.1,(HX.out _ ((HI.out.drew).now.1.2)).2.2.1,(HX.out _ ((HI.out.drew).now.1.2)).2.2.2,(zaa (((HI.out.drew)).get 5 rfl) 0).trans rfl,(zaa (((HI.out.drew)).get 5 rfl) 1).trans rfl⟩ (fun hHeld=>?_)
        replace HI:=am_ (HI.out.drew)
        generalize World.drew _=wd0 at HI hHeld ⊢
        refine pu_ 0 45 (bs_ 9 1) ?_
        refine pu_ 1 46 (bs_ 9 3) ?_
        refine take_ (i:=2) (N:=some 47) (v:=?_) (a':=?_) (bs_ 9 7) rfl rfl (by kernel_rfl) (fun _ _ _ h=>h) (Or.inl ⟨(by rfl),?_⟩) hHeld ?_ ?_
        rotate_left
        ·
         rintro w' ⟨s_0,s_1,s_2,s_3,s_4,s_5⟩
         go_simp
         with_reducible rfl
        rotate_left
        ·
         exact ap_
        refine pu_ 3 48 (bs_ 9 15) ?_
        refine pu_ 4 49 (bs_ 9 31) ?_
        refine take_ (i:=5) (N:=some 50) (v:=?_) (a':=?_) (bs_ 9 63) rfl rfl (by kernel_rfl) (fun _ _ _ h=>h) (Or.inl ⟨(by rfl),?_⟩) hHeld ?_ ?_
        rotate_left
        ·
         rintro w' ⟨s_0,s_1,s_2,s_3,s_4,s_5⟩
         go_simp
         with_reducible rfl
        rotate_left
        ·
         exact ap_
        refine take_ (i:=7) (N:=some 52) (v:=?_) (a':=?_) (bs_ 9 191) rfl rfl (by kernel_rfl) (fun _ _ _ h=>h) (Or.inl ⟨(by rfl),?_⟩) hHeld ?_ ?_
        rotate_left
        ·
         rintro w' ⟨s_0,s_1,s_2,s_3,s_4,s_5⟩
         go_simp
         with_reducible rfl
        rotate_left
        ·
         exact ap_
        refine one_ (i:=6) (N:=some 51) (bs_ 9 255) rfl rfl (by kernel_rfl) (by decide) (fun K hK=>?_)
        refine goes_ Try.func116 (by kernel_rfl) rfl #[.agg #[.int .i64 x.f0,.int .i64 x.f1],.agg #[.int .i64 y.f0,.int .i64 y.f1]] (by rfl) rfl rfl qz3_ ?_
        with_reducible refine(zb9.calls x.f0 x.f1 y.f0 y.f1 p0 p1 _ HPL.out).mono ?_
        rintro e w40 ⟨rfl,hb⟩
        refine⟨_,rfl,?_⟩
        replace HI:=am_ (HI.out.grow hb)
        clear hb
        refine hK.out _ _ ⟨(HX.out _ ((HI.out).now.1.2)).1,(HX.out _ ((HI.out).now.1.2)).2.1,(HX.out _ ((HI.out).now.1.2)).2.2.1,(HX.out _ ((HI.out).now.1.2)).2.2.2,(zaa (((HI.out)).get 5 rfl) 0).trans rfl,(zaa (((HI.out)).get 5 rfl) 1).trans rfl⟩ (fun hHeld=>?_)
        clear hK K
        refine norm_ (a':=?_) ?_ ?_
        rotate_left
        ·
         show Act.put _ (some 51) _=_
         exact ap_
        refine pu_ 8 53 (bs_ 9 511) ?_
        refine done_ (by kernel_rfl) ?_
        clear f3 f4
        go_wp2_with (first|((with_reducible refine zad (N:=57) rfl ?_);go_must (refine wpList_load_row rfl 27 _ rfl g9 rfl 27 (#[.slice Au u0.length cu,.int .i64 u1,.string u2,.int .i64 u3]) (0,0) _ ((HI.out.get 1 rfl)) hu27 rfl (by kernel_rfl) ?_))|(go_at_call 117;replace HI:zal (Inv w PW_ _ [row k34 34 wb.heap.size (.slice Au u0.length cu) u0 S,row k34 34 w.heap.size (.slice Apt npt cpt) pt Sp,blk g9 27 #[.slice Au u0.length cu,.int .i64 u1,.string u2,.int .i64 u3],blk g12 27 #[.slice none 0 0,.int .i64 0,.string (⟨#[]⟩:ByteArray),.int .i64 0],blk g11 34 #[.int .i64 0,.int .i64 0],blk g6 34 #[.int .i64 c0,.int .i64 c1]] _):=⟨HI.out.front 4 rfl⟩;(refine(zer.calls k S (.slice Au u0.length cu) u0 u1 u2 u3 (some ad) cB r a0 a1 a2 a3 wb _ (HI.out.zef HB.out HPW.out) HI.out.row0 (fun W_ hk=>(Inv.zpi HI.out hk).1.2) HBL.out HAE.out).mono ?_);rintro e w59 ⟨va,rfl,hR,hB2,hk⟩;obtain⟨Aa,ca,ea⟩:=Kd.zb0 hR;subst ea;replace HI:=am_ (Inv.keptP HI.out (HI.out.zef HB.out HPW.out) hB2 hk hR (fun _ h=>h));clear hR hB2 hk)|((with_reducible refine zaq (p:=9) (v:=(.tmp 59)) (t:=27) rfl ?_);go_must (refine wpList_store_row rfl 27 _ _ rfl g9 (#[.slice Aa a0.length ca,.int .i64 a1,.string a2,.int .i64 a3]) rfl qz0_ 27 (#[.slice Au u0.length cu,.int .i64 u1,.string u2,.int .i64 u3]) (HI.out.get 2 rfl) (by kernel_rfl) rfl qz12_ ?_;replace HI:zal (Inv w PW_ _ [blk g9 27 #[.slice Aa a0.length ca,.int .i64 a1,.string a2,.int .i64 a3],row k34 34 wb.heap.size (.slice Aa a0.length ca) a0 _,row k34 34 w.heap.size (.slice Apt npt cpt) pt Sp,blk g12 27 #[.slice none 0 0,.int .i64 0,.string (⟨#[]⟩:ByteArray),.int .i64 0],blk g11 34 #[.int .i64 0,.int .i64 0],blk g6 34 #[.int .i64 c0,.int .i64 c1]] _):=⟨(HI.out.front 2 rfl).put0 (#[.slice Aa a0.length ca,.int .i64 a1,.string a2,.int .i64 a3])⟩;generalize World.setRow _ g9 (#[.slice Aa a0.length ca,.int .i64 a1,.string a2,.int .i64 a3])=w60 at HI ⊢))|((with_reducible refine zad (N:=61) rfl ?_);go_must (refine wpList_load_row rfl 27 _ rfl g9 rfl 27 (#[.slice Aa a0.length ca,.int .i64 a1,.string a2,.int .i64 a3]) (0,0) _ (HI.out.blk0) hu27 rfl (by kernel_rfl) ?_))|(go_at_call 118;replace HI:zal (Inv w PW_ _ [row k34 34 wb.heap.size (.slice Aa a0.length ca) a0 _,blk g9 27 #[.slice Aa a0.length ca,.int .i64 a1,.string a2,.int .i64 a3],row k34 34 w.heap.size (.slice Apt npt cpt) pt Sp,blk g12 27 #[.slice none 0 0,.int .i64 0,.string (⟨#[]⟩:ByteArray),.int .i64 0],blk g11 34 #[.int .i64 0,.int .i64 0],blk g6 34 #[.int .i64 c0,.int .i64 c1]] _):=⟨HI.out.front 1 rfl⟩;(refine(za2.calls k _ (.slice Aa a0.length ca) a0 a1 a2 a3 e0 e1 e2 e3 y0 y1 wb _ (HI.out.zef HB.out HPW.out) HI.out.row0 HDW.out).mono ?_);rintro e w62 ⟨ve,rfl,hR,hB2,hk⟩;obtain⟨Ae,ce,ee⟩:=Kd.zb0 hR;subst ee;replace HI:=am_ (Inv.keptP HI.out (HI.out.zef HB.out HPW.out) hB2 hk hR (fun _ h=>h));clear hR hB2 hk)|((with_reducible refine zad (N:=17) rfl ?_);refine zae rfl (N:=17) rfl (cs:=#[.slice none 0 0,.int .i64 0,.string (⟨#[]⟩:ByteArray),.int .i64 0]) (t:=27) bx_ ?_;intro g17 hg w17_ hbox hb;replace HI:=am_ ((HI.out).box hg hbox hb);clear hb hbox hg)|((with_reducible refine zad (N:=18) rfl ?_);refine zae rfl (N:=18) rfl (cs:=#[.int .i64 0,.int .i64 0]) (t:=34) bx_ ?_;intro g18 hg w18_ hbox hb;replace HI:=am_ ((HI.out).box hg hbox hb);clear hb hbox hg)|((with_reducible refine zaq (p:=17) (v:=(.tmp 63)) (t:=27) rfl ?_);go_must (refine wpList_store_row rfl 27 _ _ rfl g17 (#[.slice Ae e0.length ce,.int .i64 e1,.string e2,.int .i64 e3]) rfl qz0_ 27 (#[.slice none 0 0,.int .i64 0,.string (⟨#[]⟩:ByteArray),.int .i64 0]) (HI.out.get 1 rfl) (by kernel_rfl) rfl qz12_ ?_;replace HI:zal (Inv w PW_ _ [blk g17 27 #[.slice Ae e0.length ce,.int .i64 e1,.string e2,.int .i64 e3],blk g18 34 #[.int .i64 0,.int .i64 0],row k34 34 wb.heap.size (.slice Ae e0.length ce) e0 _,blk g9 27 #[.slice Aa a0.length ca,.int .i64 a1,.string a2,.int .i64 a3],row k34 34 w.heap.size (.slice Apt npt cpt) pt Sp,blk g12 27 #[.slice none 0 0,.int .i64 0,.string (⟨#[]⟩:ByteArray),.int .i64 0],blk g11 34 #[.int .i64 0,.int .i64 0],blk g6 34 #[.int .i64 c0,.int .i64 c1]] _):=⟨(HI.out.front 1 rfl).put0 (#[.slice Ae e0.length ce,.int .i64 e1,.string e2,.int .i64 e3])⟩;generalize World.setRow _ g17 (#[.slice Ae e0.length ce,.int .i64 e1,.string e2,.int .i64 e3])=w63 at HI ⊢))|((with_reducible refine zaq (p:=18) (v:=(.tmp 64)) (t:=34) rfl ?_);go_must (refine wpList_store_row rfl 34 _ _ rfl g18 (#[.int .i64 y0,.int .i64 y1]) rfl qz0_ 34 (#[.int .i64 0,.int .i64 0]) (HI.out.get 1 rfl) (zby y0 y1) (zeo y0 y1) (zd8 y0 y1) ?_;replace HI:zal (Inv w PW_ _ [blk g18 34 #[.int .i64 y0,.int .i64 y1],blk g17 27 #[.slice Ae e0.length ce,.int .i64 e1,.string e2,.int .i64 e3],row k34 34 wb.heap.size (.slice Ae e0.length ce) e0 _,blk g9 27 #[.slice Aa a0.length ca,.int .i64 a1,.string a2,.int .i64 a3],row k34 34 w.heap.size (.slice Apt npt cpt) pt Sp,blk g12 27 #[.slice none 0 0,.int .i64 0,.string (⟨#[]⟩:ByteArray),.int .i64 0],blk g11 34 #[.int .i64 0,.int .i64 0],blk g6 34 #[.int .i64 c0,.int .i64 c1]] _):=⟨(HI.out.front 1 rfl).put0 (#[.int .i64 y0,.int .i64 y1])⟩;generalize World.setRow _ g18 (#[.int .i64 y0,.int .i64 y1])=w64 at HI ⊢))|((with_reducible refine zad (N:=65) rfl ?_);go_must (refine wpList_load_row rfl 27 _ rfl g17 rfl 27 (#[.slice Ae e0.length ce,.int .i64 e1,.string e2,.int .i64 e3]) (0,0) _ ((HI.out.get 1 rfl)) hu27 rfl (by kernel_rfl) ?_))|((with_reducible refine zaq (p:=9) (v:=(.tmp 65)) (t:=27) rfl ?_);go_must (refine wpList_store_row rfl 27 _ _ rfl g9 (#[.slice Ae e0.length ce,.int .i64 e1,.string e2,.int .i64 e3]) rfl qz0_ 27 (#[.slice Aa a0.length ca,.int .i64 a1,.string a2,.int .i64 a3]) (HI.out.get 3 rfl) (by kernel_rfl) rfl qz12_ ?_;replace HI:zal (Inv w PW_ _ [blk g9 27 #[.slice Ae e0.length ce,.int .i64 e1,.string e2,.int .i64 e3],blk g18 34 #[.int .i64 y0,.int .i64 y1],row k34 34 wb.heap.size (.slice Ae e0.length ce) e0 _,row k34 34 w.heap.size (.slice Apt npt cpt) pt Sp,blk g12 27 #[.slice none 0 0,.int .i64 0,.string (⟨#[]⟩:ByteArray),.int .i64 0],blk g11 34 #[.int .i64 0,.int .i64 0],blk g6 34 #[.int .i64 c0,.int .i64 c1]] _):=⟨((HI.out.front 3 rfl).put0 (#[.slice Ae e0.length ce,.int .i64 e1,.string e2,.int .i64 e3])).subL qz34_⟩;generalize World.setRow _ g9 (#[.slice Ae e0.length ce,.int .i64 e1,.string e2,.int .i64 e3])=w65 at HI ⊢))|((with_reducible refine zad (N:=67) rfl ?_);go_must (refine wpList_load_row rfl 34 _ rfl g18 rfl 34 (#[.int .i64 y0,.int .i64 y1]) (0,0) _ ((HI.out.get 1 rfl)) hu34 rfl (by kernel_rfl) ?_))|(go_at_call 119;(refine(zas.calls k (some ad) cB r y0 y1 z0 z1 _ HI.out.now.1.2 HBL.out HLI.out).mono ?_);rintro e w68 ⟨rfl,hb⟩;replace HI:=am_ (HI.out.grow hb);clear hb)|((with_reducible refine zaq (p:=6) (v:=(.tmp 68)) (t:=34) rfl ?_);go_must (refine wpList_store_row rfl 34 _ _ rfl g6 (#[.int .i64 z0,.int .i64 z1]) rfl qz0_ 34 (#[.int .i64 c0,.int .i64 c1]) (HI.out.get 6 rfl) (zby z0 z1) (zlm c0 c1 z0 z1) (zd8 z0 z1) ?_;replace HI:zal (Inv w PW_ _ [blk g6 34 #[.int .i64 z0,.int .i64 z1],blk g9 27 #[.slice Ae e0.length ce,.int .i64 e1,.string e2,.int .i64 e3],blk g18 34 #[.int .i64 y0,.int .i64 y1],row k34 34 wb.heap.size (.slice Ae e0.length ce) e0 _,row k34 34 w.heap.size (.slice Apt npt cpt) pt Sp,blk g12 27 #[.slice none 0 0,.int .i64 0,.string (⟨#[]⟩:ByteArray),.int .i64 0],blk g11 34 #[.int .i64 0,.int .i64 0]] _):=⟨(HI.out.front 6 rfl).put0 (#[.int .i64 z0,.int .i64 z1])⟩;generalize World.setRow _ g6 (#[.int .i64 z0,.int .i64 z1])=w69 at HI ⊢))|((with_reducible refine zad (N:=70) rfl ?_);go_must (refine wpList_load_row rfl 34 _ rfl g18 rfl 34 (#[.int .i64 y0,.int .i64 y1]) (0,0) _ ((HI.out.get 2 rfl)) hu34 rfl (by kernel_rfl) ?_))|((with_reducible refine zdc (b:=.append) (xs:=#[.tmp 69,.tmp 71]) rfl ?_);at_builtin;refine Kd.zgp k34 (w0:=_) w.heap.size rfl (.tmp 69) (.tmp 71) 24 34 (.agg #[(.int .i64 0),(.int .i64 0)]) 16 rfl Try.underlying24 zk5 rfl (by decide) (by omega) _ pt (⟨y0,y1⟩:S34) [.int .i64 y0,.int .i64 y1] _ (fun _=>False) rfl rfl ?aP (fun _ hk=>hk.elim) ?aF (Inv.row0W (HI.out.front 4 rfl)) (Below.refl _ _) HI.out.agr.size ?aL ?_;(case aP=>exact zhe _ _ _ (⟨y0,y1⟩:S34));(case aF=>exact(fun _ hk=>.inr hk));(case aL=>have:=HPT.out;omega);intro v72 w72 hR hb hg hat;obtain⟨A72,c72,e72⟩:=Kd.zb0 hR;rw [show (pt++([(⟨y0,y1⟩:S34)]:List S34)).length=pt.length + 1 by simp] at e72;subst e72;replace HI:zal (Inv w PW_ _ [row k34 34 w.heap.size (.slice A72 (pt.length + 1) c72) (pt++([(⟨y0,y1⟩:S34)]:List S34)) _,blk g6 34 #[.int .i64 z0,.int .i64 z1],blk g9 27 #[.slice Ae e0.length ce,.int .i64 e1,.string e2,.int .i64 e3],blk g18 34 #[.int .i64 y0,.int .i64 y1],row k34 34 wb.heap.size (.slice Ae e0.length ce) e0 _,blk g12 27 #[.slice none 0 0,.int .i64 0,.string (⟨#[]⟩:ByteArray),.int .i64 0],blk g11 34 #[.int .i64 0,.int .i64 0]] _):=⟨(HI.out.front 4 rfl).zpu hb hR (fun _ hk _=>hk) hg⟩;clear hR hb hg hat))
        go_roundg k1
        case measure=>omega
        case rel=>exact⟨j + 1,_,z0,z1,e0,e1,e2,e3,Ae,ce,_,A72,_,c72,_,rfl,by first|rfl|(rw [HWJ.out]),HJ2,HVS,⟨(Inv.subL ((((((HI.out.front 1 rfl).front 4 rfl).front 6 rfl).front 6 rfl).front 5 rfl).front 5 rfl) qz34_).weaken (fun _ h=>h.2)⟩⟩
       ·
        rw [if_neg cpt_] at h;cases h
      ·
       rw [if_neg (show ¬((p0,p1).1=c0∧(p0,p1).2=c1) from ce3)] at h
       simp only [Option.some.injEq,Prod.mk.injEq] at h
       obtain⟨rfl,rfl,rfl,rfl,rfl,rfl,rfl,rfl⟩:=h
       have f3:(p0=c0)=False∨((p0=c0)=True∧(p1=c1)=False):=by
        rcases Classical.em (p0=c0) with h0|h0
        ·
         exact .inr ⟨eq_true h0,eq_false (fun h1=>ce3 ⟨h0,h1⟩)⟩
        ·
         exact .inl (eq_false h0)
       clear ce3
       rcases f3 with f3|⟨f3,f4⟩
       ·
        go_wp2_with (first|(go_at_call 115;(refine(zds.calls kind d _ HDG.out).mono ?_);rintro e w39 ⟨rfl,⟨n39,rfl⟩⟩;replace HI:=am_ (HI.out.drewN n39);generalize World.drewN _ n39=wn39 at HI ⊢))
        clear hx
        refine zcb (n:=9) (S:=fun w'=>w'.cell? ad=some (.int .i64 x.f0)∧w'.cell? ⟨ad.block,ad.off + 1,none⟩=some (.int .i64 x.f1)∧w'.cell? ⟨ad.block,ad.off + 2,none⟩=some (.int .i64 y.f0)∧w'.cell? ⟨ad.block,ad.off + 2 + 1,none⟩=some (.int .i64 y.f1)∧w'.cell? ⟨g6,0,none⟩=some (.int .i64 c0)∧w'.cell? ⟨g6,1,none⟩=some (.int .i64 c1)) (ds:=[]) (bs_ 9 0) (by kernel_rfl) rfl rfl ⟨(HX.out _ ((HI.out.drew).now.1.2)).1,(HX.out _ ((HI.out.drew).now.1.2)).2.1,(HX.out _ ((HI.out.drew).now.1.2)).2.2.1,(HX.out _ ((HI.out.drew).now.1.2)).2.2.2,(zaa (((HI.out.drew)).get 5 rfl) 0).trans rfl,(zaa (((HI.out.drew)).get 5 rfl) 1).trans rfl⟩ (fun hHeld=>?_)
        replace HI:=am_ (HI.out.drew)
        generalize World.drew _=wd0 at HI hHeld ⊢
        refine pu_ 0 45 (bs_ 9 1) ?_
        refine pu_ 1 46 (bs_ 9 3) ?_
        refine take_ (i:=2) (N:=some 47) (v:=?_) (a':=?_) (bs_ 9 7) rfl rfl (by kernel_rfl) (fun _ _ _ h=>h) (Or.inl ⟨(by rfl),?_⟩) hHeld ?_ ?_
        rotate_left
        ·
         rintro w' ⟨s_0,s_1,s_2,s_3,s_4,s_5⟩
         go_simp
         with_reducible rfl
        rotate_left
        ·
         exact ap_
        refine pu_ 3 48 (bs_ 9 15) ?_
        refine pu_ 4 49 (bs_ 9 31) ?_
        refine take_ (i:=5) (N:=some 50) (v:=?_) (a':=?_) (bs_ 9 63) rfl rfl (by kernel_rfl) (fun _ _ _ h=>h) (Or.inl ⟨(by rfl),?_⟩) hHeld ?_ ?_
        rotate_left
        ·
         rintro w' ⟨s_0,s_1,s_2,s_3,s_4,s_5⟩
         go_simp
         with_reducible rfl
        rotate_left
        ·
         exact ap_
        refine take_ (i:=7) (N:=some 52) (v:=?_) (a':=?_) (bs_ 9 191) rfl rfl (by kernel_rfl) (fun _ _ _ h=>h) (Or.inl ⟨(by rfl),?_⟩) hHeld ?_ ?_
        rotate_left
        ·
         rintro w' ⟨s_0,s_1,s_2,s_3,s_4,s_5⟩
         go_simp
         with_reducible rfl
        rotate_left
        ·
         exact ap_
        refine one_ (i:=6) (N:=some 51) (bs_ 9 255) rfl rfl (by kernel_rfl) (by decide) (fun K hK=>?_)
        refine goes_ Try.func116 (by kernel_rfl) rfl #[.agg #[.int .i64 x.f0,.int .i64 x.f1],.agg #[.int .i64 y.f0,.int .i64 y.f1]] (by rfl) rfl rfl qz3_ ?_
        with_reducible refine(zb9.calls x.f0 x.f1 y.f0 y.f1 p0 p1 _ HPL.out).mono ?_
        rintro e w40 ⟨rfl,hb⟩
        refine⟨_,rfl,?_⟩
        replace HI:=am_ (HI.out.grow hb)
        clear hb
        refine hK.out _ _ ⟨(HX.out _ ((HI.out).now.1.2)).1,(HX.out _ ((HI.out).now.1.2)).2.1,(HX.out _ ((HI.out).now.1.2)).2.2.1,(HX.out _ ((HI.out).now.1.2)).2.2.2,(zaa (((HI.out)).get 5 rfl) 0).trans rfl,(zaa (((HI.out)).get 5 rfl) 1).trans rfl⟩ (fun hHeld=>?_)
        clear hK K
        refine norm_ (a':=?_) ?_ ?_
        rotate_left
        ·
         show Act.put _ (some 51) _=_
         exact ap_
        refine pu_ 8 53 (bs_ 9 511) ?_
        refine done_ (by kernel_rfl) ?_
        go_wp2
        replace HI:=am_ (HI.out.subL (L':=[blk g9 27 #[.slice Au u0.length cu,.int .i64 u1,.string u2,.int .i64 u3],blk g12 27 #[.slice none 0 0,.int .i64 0,.string (⟨#[]⟩:ByteArray),.int .i64 0],blk g11 34 #[.int .i64 0,.int .i64 0],row k34 34 wb.heap.size (.slice Au u0.length cu) u0 S]) qz34_)
        refine zcb (n:=7) (S:=fun w'=>w'.cell? ⟨g9,0,none⟩=some (.slice Au u0.length cu)∧w'.cell? ⟨g9,1,none⟩=some (.int .i64 u1)∧w'.cell? ⟨g9,2,none⟩=some (.string u2)∧w'.cell? ⟨g9,3,none⟩=some (.int .i64 u3)) (ds:=[5]) (bs_ 7 0) (by kernel_rfl) rfl rfl ⟨(zaa ((HI.out.drew).get 0 rfl) 0).trans rfl,(zaa ((HI.out.drew).get 0 rfl) 1).trans rfl,(zaa ((HI.out.drew).get 0 rfl) 2).trans rfl,(zaa ((HI.out.drew).get 0 rfl) 3).trans rfl⟩ (fun hHeld=>?_)
        replace HI:=am_ (HI.out.drew)
        generalize World.drew _=wd0 at HI hHeld ⊢
        refine pu_ 1 55 (bs_ 7 2) ?_
        refine take_ (i:=2) (N:=some 56) (v:=?_) (a':=?_) (bs_ 7 6) rfl rfl (by kernel_rfl) (fun _ _ _ h=>h) (Or.inl ⟨(by rfl),?_⟩) hHeld ?_ ?_
        rotate_left
        ·
         rintro w' ⟨s_0,s_1,s_2,s_3⟩
         go_simp
         with_reducible rfl
        rotate_left
        ·
         exact ap_
        refine one_ (i:=0) (N:=some 54) (bs_ 7 7) rfl rfl (by kernel_rfl) (by decide) (fun K hK=>?_)
        refine Kd.zfm k34 (w0:=_) _ 34 ?hg (N:=54) ?hd (xs:=([]:List S34)) (inner:=[]) (ok:=fun _=>True) (okp:=fun _=>True) ?hr ?hp (fun _ hk=>hk) trivial (Below.refl _ _) (Nat.le_refl _) (by simp) ?_
        (case hd=>rfl);(case hg=>rfl);(case hr=>first|(go_simp;done)|(go_simp;rfl));(case hp=>exact(Reps.none _ _))
        intro ve we hR hb hg hat
        replace HI:=am_ (HI.out.zdj hb hR)
        clear hR hb hg hat
        refine hK.out _ _ ⟨(zaa ((HI.out).get 1 rfl) 0).trans rfl,(zaa ((HI.out).get 1 rfl) 1).trans rfl,(zaa ((HI.out).get 1 rfl) 2).trans rfl,(zaa ((HI.out).get 1 rfl) 3).trans rfl⟩ (fun hHeld=>?_)
        clear hK K
        refine norm_ (a':=?_) ?_ ?_
        rotate_left
        ·
         show Act.put _ (some 54) _=_
         exact ap_
        refine pu_ 3 10 (bs_ 7 15) ?_
        refine one_ (i:=4) (N:=none) (bs_ 7 31) rfl rfl (by kernel_rfl) (by decide) (fun K hK=>?_)
        rw [if_pos (by rfl)]
        refine wp_store_row 34 _ _ rfl g11 (#[.int .i64 0,.int .i64 0]) rfl qz0_ 34 (#[.int .i64 0,.int .i64 0]) (HI.out.get 3 rfl) (by kernel_rfl) rfl qz12_ ?_
        replace HI:zal (Inv w PW_ _ [blk g11 34 #[.int .i64 0,.int .i64 0],row k34 34 w.heap.size ve [] _,blk g9 27 #[.slice Au u0.length cu,.int .i64 u1,.string u2,.int .i64 u3],blk g12 27 #[.slice none 0 0,.int .i64 0,.string (⟨#[]⟩:ByteArray),.int .i64 0],row k34 34 wb.heap.size (.slice Au u0.length cu) u0 S] _):=⟨(HI.out.front 3 rfl).put0 (#[.int .i64 0,.int .i64 0])⟩
        generalize World.setRow _ g11 (#[.int .i64 0,.int .i64 0])=wz4 at HI ⊢
        refine hK.out _ _ ⟨(zaa ((HI.out).get 2 rfl) 0).trans rfl,(zaa ((HI.out).get 2 rfl) 1).trans rfl,(zaa ((HI.out).get 2 rfl) 2).trans rfl,(zaa ((HI.out).get 2 rfl) 3).trans rfl⟩ (fun hHeld=>?_)
        clear hK K
        refine last_ (i:=5) (N:=none) (bs_ 7 63) rfl rfl (by kernel_rfl) (by decide) (fun K hK=>?_)
        rw [if_pos (by rfl)]
        refine wp_store_row 27 _ _ rfl g12 (#[.slice Au u0.length cu,.int .i64 u1,.string u2,.int .i64 u3]) rfl qz0_ 27 (#[.slice none 0 0,.int .i64 0,.string (⟨#[]⟩:ByteArray),.int .i64 0]) (HI.out.get 3 rfl) (by kernel_rfl) rfl qz12_ ?_
        replace HI:zal (Inv w PW_ _ [blk g12 27 #[.slice Au u0.length cu,.int .i64 u1,.string u2,.int .i64 u3],blk g11 34 #[.int .i64 0,.int .i64 0],row k34 34 w.heap.size ve [] _,blk g9 27 #[.slice Au u0.length cu,.int .i64 u1,.string u2,.int .i64 u3],row k34 34 wb.heap.size (.slice Au u0.length cu) u0 S] _):=⟨(HI.out.front 3 rfl).put0 (#[.slice Au u0.length cu,.int .i64 u1,.string u2,.int .i64 u3])⟩
        generalize World.setRow _ g12 (#[.slice Au u0.length cu,.int .i64 u1,.string u2,.int .i64 u3])=wz5 at HI ⊢
        refine hK.out _ _ ?_
        clear hK K
        refine pu_ 6 13 (bs_ 7 127) ?_
        refine done_ (by kernel_rfl) ?_
        try go_wp2
        refine bodyPost_ret (zbp rfl _ _ g11 g12 34 27 #[.int .i64 0,.int .i64 0] #[.slice Au u0.length cu,.int .i64 u1,.string u2,.int .i64 u3] (0,0) (0,0) _ _ rfl (HI.out.get 1 rfl) hu34 rfl (by first|exact zby _ _|kernel_rfl) rfl (HI.out.get 0 rfl) hu27 rfl (by kernel_rfl)) rfl ?_
        have hp_:=HI.out.get 2 rfl
        have hs_:=HI.out.get 4 rfl
        have hd_:=HI.out.disj 2 4 (by decide) rfl rfl
        have hn_:=HI.out.newAt 4 rfl
        exact⟨_,_,rfl,Kd.zbi hp_ (fun k hk e=>hd_ k hk (hs_.1 k e.symm)),Kd.zbi hs_ (fun k hk=>⟨(hn_ k hk).symm,fun e=>hd_ k (hp_.1 k e.symm) hk⟩),HI.out.zef HB.out HPW.out,⟨HI.out.agr.size,HI.out.agr.block⟩⟩
       ·
        go_wp2_with (first|(go_at_call 115;(refine(zds.calls kind d _ HDG.out).mono ?_);rintro e w39 ⟨rfl,⟨n39,rfl⟩⟩;replace HI:=am_ (HI.out.drewN n39);generalize World.drewN _ n39=wn39 at HI ⊢))
        clear hx
        refine zcb (n:=9) (S:=fun w'=>w'.cell? ad=some (.int .i64 x.f0)∧w'.cell? ⟨ad.block,ad.off + 1,none⟩=some (.int .i64 x.f1)∧w'.cell? ⟨ad.block,ad.off + 2,none⟩=some (.int .i64 y.f0)∧w'.cell? ⟨ad.block,ad.off + 2 + 1,none⟩=some (.int .i64 y.f1)∧w'.cell? ⟨g6,0,none⟩=some (.int .i64 c0)∧w'.cell? ⟨g6,1,none⟩=some (.int .i64 c1)) (ds:=[]) (bs_ 9 0) (by kernel_rfl) rfl rfl ⟨(HX.out _ ((HI.out.drew).now.1.2)).1,(HX.out _ ((HI.out.drew).now.1.2)).2.1,(HX.out _ ((HI.out.drew).now.1.2)).2.2.1,(HX.out _ ((HI.out.drew).now.1.2)).2.2.2,(zaa (((HI.out.drew)).get 5 rfl) 0).trans rfl,(zaa (((HI.out.drew)).get 5 rfl) 1).trans rfl⟩ (fun hHeld=>?_)
        replace HI:=am_ (HI.out.drew)
        generalize World.drew _=wd0 at HI hHeld ⊢
        refine pu_ 0 45 (bs_ 9 1) ?_
        refine pu_ 1 46 (bs_ 9 3) ?_
        refine take_ (i:=2) (N:=some 47) (v:=?_) (a':=?_) (bs_ 9 7) rfl rfl (by kernel_rfl) (fun _ _ _ h=>h) (Or.inl ⟨(by rfl),?_⟩) hHeld ?_ ?_
        rotate_left
        ·
         rintro w' ⟨s_0,s_1,s_2,s_3,s_4,s_5⟩
         go_simp
         with_reducible rfl
        rotate_left
        ·
         exact ap_
        refine pu_ 3 48 (bs_ 9 15) ?_
        refine pu_ 4 49 (bs_ 9 31) ?_
        refine take_ (i:=5) (N:=some 50) (v:=?_) (a':=?_) (bs_ 9 63) rfl rfl (by kernel_rfl) (fun _ _ _ h=>h) (Or.inl ⟨(by rfl),?_⟩) hHeld ?_ ?_
        rotate_left
        ·
         rintro w' ⟨s_0,s_1,s_2,s_3,s_4,s_5⟩
         go_simp
         with_reducible rfl
        rotate_left
        ·
         exact ap_
        refine take_ (i:=7) (N:=some 52) (v:=?_) (a':=?_) (bs_ 9 191) rfl rfl (by kernel_rfl) (fun _ _ _ h=>h) (Or.inl ⟨(by rfl),?_⟩) hHeld ?_ ?_
        rotate_left
        ·
         rintro w' ⟨s_0,s_1,s_2,s_3,s_4,s_5⟩
         go_simp
         with_reducible rfl
        rotate_left
        ·
         exact ap_
        refine one_ (i:=6) (N:=some 51) (bs_ 9 255) rfl rfl (by kernel_rfl) (by decide) (fun K hK=>?_)
        refine goes_ Try.func116 (by kernel_rfl) rfl #[.agg #[.int .i64 x.f0,.int .i64 x.f1],.agg #[.int .i64 y.f0,.int .i64 y.f1]] (by rfl) rfl rfl qz3_ ?_
        with_reducible refine(zb9.calls x.f0 x.f1 y.f0 y.f1 p0 p1 _ HPL.out).mono ?_
        rintro e w40 ⟨rfl,hb⟩
        refine⟨_,rfl,?_⟩
        replace HI:=am_ (HI.out.grow hb)
        clear hb
        refine hK.out _ _ ⟨(HX.out _ ((HI.out).now.1.2)).1,(HX.out _ ((HI.out).now.1.2)).2.1,(HX.out _ ((HI.out).now.1.2)).2.2.1,(HX.out _ ((HI.out).now.1.2)).2.2.2,(zaa (((HI.out)).get 5 rfl) 0).trans rfl,(zaa (((HI.out)).get 5 rfl) 1).trans rfl⟩ (fun hHeld=>?_)
        clear hK K
        refine norm_ (a':=?_) ?_ ?_
        rotate_left
        ·
         show Act.put _ (some 51) _=_
         exact ap_
        refine pu_ 8 53 (bs_ 9 511) ?_
        refine done_ (by kernel_rfl) ?_
        go_wp2
        replace HI:=am_ (HI.out.subL (L':=[blk g9 27 #[.slice Au u0.length cu,.int .i64 u1,.string u2,.int .i64 u3],blk g12 27 #[.slice none 0 0,.int .i64 0,.string (⟨#[]⟩:ByteArray),.int .i64 0],blk g11 34 #[.int .i64 0,.int .i64 0],row k34 34 wb.heap.size (.slice Au u0.length cu) u0 S]) qz34_)
        refine zcb (n:=7) (S:=fun w'=>w'.cell? ⟨g9,0,none⟩=some (.slice Au u0.length cu)∧w'.cell? ⟨g9,1,none⟩=some (.int .i64 u1)∧w'.cell? ⟨g9,2,none⟩=some (.string u2)∧w'.cell? ⟨g9,3,none⟩=some (.int .i64 u3)) (ds:=[5]) (bs_ 7 0) (by kernel_rfl) rfl rfl ⟨(zaa ((HI.out.drew).get 0 rfl) 0).trans rfl,(zaa ((HI.out.drew).get 0 rfl) 1).trans rfl,(zaa ((HI.out.drew).get 0 rfl) 2).trans rfl,(zaa ((HI.out.drew).get 0 rfl) 3).trans rfl⟩ (fun hHeld=>?_)
        replace HI:=am_ (HI.out.drew)
        generalize World.drew _=wd0 at HI hHeld ⊢
        refine pu_ 1 55 (bs_ 7 2) ?_
        refine take_ (i:=2) (N:=some 56) (v:=?_) (a':=?_) (bs_ 7 6) rfl rfl (by kernel_rfl) (fun _ _ _ h=>h) (Or.inl ⟨(by rfl),?_⟩) hHeld ?_ ?_
        rotate_left
        ·
         rintro w' ⟨s_0,s_1,s_2,s_3⟩
         go_simp
         with_reducible rfl
        rotate_left
        ·
         exact ap_
        refine one_ (i:=0) (N:=some 54) (bs_ 7 7) rfl rfl (by kernel_rfl) (by decide) (fun K hK=>?_)
        refine Kd.zfm k34 (w0:=_) _ 34 ?hg (N:=54) ?hd (xs:=([]:List S34)) (inner:=[]) (ok:=fun _=>True) (okp:=fun _=>True) ?hr ?hp (fun _ hk=>hk) trivial (Below.refl _ _) (Nat.le_refl _) (by simp) ?_
        (case hd=>rfl);(case hg=>rfl);(case hr=>first|(go_simp;done)|(go_simp;rfl));(case hp=>exact(Reps.none _ _))
        intro ve we hR hb hg hat
        replace HI:=am_ (HI.out.zdj hb hR)
        clear hR hb hg hat
        refine hK.out _ _ ⟨(zaa ((HI.out).get 1 rfl) 0).trans rfl,(zaa ((HI.out).get 1 rfl) 1).trans rfl,(zaa ((HI.out).get 1 rfl) 2).trans rfl,(zaa ((HI.out).get 1 rfl) 3).trans rfl⟩ (fun hHeld=>?_)
        clear hK K
        refine norm_ (a':=?_) ?_ ?_
        rotate_left
        ·
         show Act.put _ (some 54) _=_
         exact ap_
        refine pu_ 3 10 (bs_ 7 15) ?_
        refine one_ (i:=4) (N:=none) (bs_ 7 31) rfl rfl (by kernel_rfl) (by decide) (fun K hK=>?_)
        rw [if_pos (by rfl)]
        refine wp_store_row 34 _ _ rfl g11 (#[.int .i64 0,.int .i64 0]) rfl qz0_ 34 (#[.int .i64 0,.int .i64 0]) (HI.out.get 3 rfl) (by kernel_rfl) rfl qz12_ ?_
        replace HI:zal (Inv w PW_ _ [blk g11 34 #[.int .i64 0,.int .i64 0],row k34 34 w.heap.size ve [] _,blk g9 27 #[.slice Au u0.length cu,.int .i64 u1,.string u2,.int .i64 u3],blk g12 27 #[.slice none 0 0,.int .i64 0,.string (⟨#[]⟩:ByteArray),.int .i64 0],row k34 34 wb.heap.size (.slice Au u0.length cu) u0 S] _):=⟨(HI.out.front 3 rfl).put0 (#[.int .i64 0,.int .i64 0])⟩
        generalize World.setRow _ g11 (#[.int .i64 0,.int .i64 0])=wz4 at HI ⊢
        refine hK.out _ _ ⟨(zaa ((HI.out).get 2 rfl) 0).trans rfl,(zaa ((HI.out).get 2 rfl) 1).trans rfl,(zaa ((HI.out).get 2 rfl) 2).trans rfl,(zaa ((HI.out).get 2 rfl) 3).trans rfl⟩ (fun hHeld=>?_)
        clear hK K
        refine last_ (i:=5) (N:=none) (bs_ 7 63) rfl rfl (by kernel_rfl) (by decide) (fun K hK=>?_)
        rw [if_pos (by rfl)]
        refine wp_store_row 27 _ _ rfl g12 (#[.slice Au u0.length cu,.int .i64 u1,.string u2,.int .i64 u3]) rfl qz0_ 27 (#[.slice none 0 0,.int .i64 0,.string (⟨#[]⟩:ByteArray),.int .i64 0]) (HI.out.get 3 rfl) (by kernel_rfl) rfl qz12_ ?_
        replace HI:zal (Inv w PW_ _ [blk g12 27 #[.slice Au u0.length cu,.int .i64 u1,.string u2,.int .i64 u3],blk g11 34 #[.int .i64 0,.int .i64 0],row k34 34 w.heap.size ve [] _,blk g9 27 #[.slice Au u0.length cu,.int .i64 u1,.string u2,.int .i64 u3],row k34 34 wb.heap.size (.slice Au u0.length cu) u0 S] _):=⟨(HI.out.front 3 rfl).put0 (#[.slice Au u0.length cu,.int .i64 u1,.string u2,.int .i64 u3])⟩
        generalize World.setRow _ g12 (#[.slice Au u0.length cu,.int .i64 u1,.string u2,.int .i64 u3])=wz5 at HI ⊢
        refine hK.out _ _ ?_
        clear hK K
        refine pu_ 6 13 (bs_ 7 127) ?_
        refine done_ (by kernel_rfl) ?_
        try go_wp2
        refine bodyPost_ret (zbp rfl _ _ g11 g12 34 27 #[.int .i64 0,.int .i64 0] #[.slice Au u0.length cu,.int .i64 u1,.string u2,.int .i64 u3] (0,0) (0,0) _ _ rfl (HI.out.get 1 rfl) hu34 rfl (by first|exact zby _ _|kernel_rfl) rfl (HI.out.get 0 rfl) hu27 rfl (by kernel_rfl)) rfl ?_
        have hp_:=HI.out.get 2 rfl
        have hs_:=HI.out.get 4 rfl
        have hd_:=HI.out.disj 2 4 (by decide) rfl rfl
        have hn_:=HI.out.newAt 4 rfl
        exact⟨_,_,rfl,Kd.zbi hp_ (fun k hk e=>hd_ k hk (hs_.1 k e.symm)),Kd.zbi hs_ (fun k hk=>⟨(hn_ k hk).symm,fun e=>hd_ k (hp_.1 k e.symm) hk⟩),HI.out.zef HB.out HPW.out,⟨HI.out.agr.size,HI.out.agr.block⟩⟩
     ·
      rw [if_neg ce2] at h;cases h
    ·
     rw [if_neg ce1] at h
     simp only [Option.some.injEq,Prod.mk.injEq] at h
     obtain⟨rfl,rfl,rfl,rfl,rfl,rfl,rfl,rfl⟩:=h
     have f1:((r.length:Int) == wrap64 (d + 1))=false:=beq_eq_false_iff_ne.mpr ce1
     have f2:((r.length:Int) != wrap64 (d + 1))=true:=bne_iff_ne.mpr ce1
     clear ce1
     go_wp2_with (first|(go_at_call 115;(refine(zds.calls kind d _ HDG.out).mono ?_);rintro e w39 ⟨rfl,⟨n39,rfl⟩⟩;replace HI:=am_ (HI.out.drewN n39);generalize World.drewN _ n39=wn39 at HI ⊢))
     replace HI:=am_ (HI.out.subL (L':=[blk g9 27 #[.slice Au u0.length cu,.int .i64 u1,.string u2,.int .i64 u3],blk g12 27 #[.slice none 0 0,.int .i64 0,.string (⟨#[]⟩:ByteArray),.int .i64 0],blk g11 34 #[.int .i64 0,.int .i64 0],row k34 34 wb.heap.size (.slice Au u0.length cu) u0 S]) qz34_)
     refine zcb (n:=7) (S:=fun w'=>w'.cell? ⟨g9,0,none⟩=some (.slice Au u0.length cu)∧w'.cell? ⟨g9,1,none⟩=some (.int .i64 u1)∧w'.cell? ⟨g9,2,none⟩=some (.string u2)∧w'.cell? ⟨g9,3,none⟩=some (.int .i64 u3)) (ds:=[5]) (bs_ 7 0) (by kernel_rfl) rfl rfl ⟨(zaa ((HI.out.drew).get 0 rfl) 0).trans rfl,(zaa ((HI.out.drew).get 0 rfl) 1).trans rfl,(zaa ((HI.out.drew).get 0 rfl) 2).trans rfl,(zaa ((HI.out.drew).get 0 rfl) 3).trans rfl⟩ (fun hHeld=>?_)
     replace HI:=am_ (HI.out.drew)
     generalize World.drew _=wd0 at HI hHeld ⊢
     refine pu_ 1 43 (bs_ 7 2) ?_
     refine take_ (i:=2) (N:=some 44) (v:=?_) (a':=?_) (bs_ 7 6) rfl rfl (by kernel_rfl) (fun _ _ _ h=>h) (Or.inl ⟨(by rfl),?_⟩) hHeld ?_ ?_
     rotate_left
     ·
      rintro w' ⟨s_0,s_1,s_2,s_3⟩
      go_simp
      with_reducible rfl
     rotate_left
     ·
      exact ap_
     refine one_ (i:=0) (N:=some 42) (bs_ 7 7) rfl rfl (by kernel_rfl) (by decide) (fun K hK=>?_)
     refine Kd.zfm k34 (w0:=_) _ 34 ?hg (N:=42) ?hd (xs:=([]:List S34)) (inner:=[]) (ok:=fun _=>True) (okp:=fun _=>True) ?hr ?hp (fun _ hk=>hk) trivial (Below.refl _ _) (Nat.le_refl _) (by simp) ?_
     (case hd=>rfl);(case hg=>rfl);(case hr=>first|(go_simp;done)|(go_simp;rfl));(case hp=>exact(Reps.none _ _))
     intro ve we hR hb hg hat
     replace HI:=am_ (HI.out.zdj hb hR)
     clear hR hb hg hat
     refine hK.out _ _ ⟨(zaa ((HI.out).get 1 rfl) 0).trans rfl,(zaa ((HI.out).get 1 rfl) 1).trans rfl,(zaa ((HI.out).get 1 rfl) 2).trans rfl,(zaa ((HI.out).get 1 rfl) 3).trans rfl⟩ (fun hHeld=>?_)
     clear hK K
     refine norm_ (a':=?_) ?_ ?_
     rotate_left
     ·
      show Act.put _ (some 42) _=_
      exact ap_
     refine pu_ 3 10 (bs_ 7 15) ?_
     refine one_ (i:=4) (N:=none) (bs_ 7 31) rfl rfl (by kernel_rfl) (by decide) (fun K hK=>?_)
     rw [if_pos (by rfl)]
     refine wp_store_row 34 _ _ rfl g11 (#[.int .i64 0,.int .i64 0]) rfl qz0_ 34 (#[.int .i64 0,.int .i64 0]) (HI.out.get 3 rfl) (by kernel_rfl) rfl qz12_ ?_
     replace HI:zal (Inv w PW_ _ [blk g11 34 #[.int .i64 0,.int .i64 0],row k34 34 w.heap.size ve [] _,blk g9 27 #[.slice Au u0.length cu,.int .i64 u1,.string u2,.int .i64 u3],blk g12 27 #[.slice none 0 0,.int .i64 0,.string (⟨#[]⟩:ByteArray),.int .i64 0],row k34 34 wb.heap.size (.slice Au u0.length cu) u0 S] _):=⟨(HI.out.front 3 rfl).put0 (#[.int .i64 0,.int .i64 0])⟩
     generalize World.setRow _ g11 (#[.int .i64 0,.int .i64 0])=wz4 at HI ⊢
     refine hK.out _ _ ⟨(zaa ((HI.out).get 2 rfl) 0).trans rfl,(zaa ((HI.out).get 2 rfl) 1).trans rfl,(zaa ((HI.out).get 2 rfl) 2).trans rfl,(zaa ((HI.out).get 2 rfl) 3).trans rfl⟩ (fun hHeld=>?_)
     clear hK K
     refine last_ (i:=5) (N:=none) (bs_ 7 63) rfl rfl (by kernel_rfl) (by decide) (fun K hK=>?_)
     rw [if_pos (by rfl)]
     refine wp_store_row 27 _ _ rfl g12 (#[.slice Au u0.length cu,.int .i64 u1,.string u2,.int .i64 u3]) rfl qz0_ 27 (#[.slice none 0 0,.int .i64 0,.string (⟨#[]⟩:ByteArray),.int .i64 0]) (HI.out.get 3 rfl) (by kernel_rfl) rfl qz12_ ?_
     replace HI:zal (Inv w PW_ _ [blk g12 27 #[.slice Au u0.length cu,.int .i64 u1,.string u2,.int .i64 u3],blk g11 34 #[.int .i64 0,.int .i64 0],row k34 34 w.heap.size ve [] _,blk g9 27 #[.slice Au u0.length cu,.int .i64 u1,.string u2,.int .i64 u3],row k34 34 wb.heap.size (.slice Au u0.length cu) u0 S] _):=⟨(HI.out.front 3 rfl).put0 (#[.slice Au u0.length cu,.int .i64 u1,.string u2,.int .i64 u3])⟩
     generalize World.setRow _ g12 (#[.slice Au u0.length cu,.int .i64 u1,.string u2,.int .i64 u3])=wz5 at HI ⊢
     refine hK.out _ _ ?_
     clear hK K
     refine pu_ 6 13 (bs_ 7 127) ?_
     refine done_ (by kernel_rfl) ?_
     try go_wp2
     refine bodyPost_ret (zbp rfl _ _ g11 g12 34 27 #[.int .i64 0,.int .i64 0] #[.slice Au u0.length cu,.int .i64 u1,.string u2,.int .i64 u3] (0,0) (0,0) _ _ rfl (HI.out.get 1 rfl) hu34 rfl (by first|exact zby _ _|kernel_rfl) rfl (HI.out.get 0 rfl) hu27 rfl (by kernel_rfl)) rfl ?_
     have hp_:=HI.out.get 2 rfl
     have hs_:=HI.out.get 4 rfl
     have hd_:=HI.out.disj 2 4 (by decide) rfl rfl
     have hn_:=HI.out.newAt 4 rfl
     exact⟨_,_,rfl,Kd.zbi hp_ (fun k hk e=>hd_ k hk (hs_.1 k e.symm)),Kd.zbi hs_ (fun k hk=>⟨(hn_ k hk).symm,fun e=>hd_ k (hp_.1 k e.symm) hk⟩),HI.out.zef HB.out HPW.out,⟨HI.out.agr.size,HI.out.agr.block⟩⟩
 ·
  rw [if_neg cv] at h
  simp only [Option.some.injEq,Prod.mk.injEq] at h
  obtain⟨rfl,rfl,rfl,rfl,rfl,rfl,rfl,rfl⟩:=h
  have f1:((l2.length:Int) == vars)=false:=beq_eq_false_iff_ne.mpr cv
  have f2:((l2.length:Int) != vars)=true:=bne_iff_ne.mpr cv
  have f3:=eq_false cv
  clear cv
  go_enter Try.func75,Try.ntmps75
  go_wp2_with (first|((with_reducible refine zad (N:=6) rfl ?_);refine zae rfl (N:=6) rfl (cs:=#[.int .i64 c0,.int .i64 c1]) (t:=34) bx_ ?_;intro g6 hg w6_ hbox hb;replace HI:=am_ ((HI.out).box hg hbox hb);clear hb hbox hg)|((with_reducible refine zad (N:=9) rfl ?_);refine zae rfl (N:=9) rfl (cs:=#[.slice Au u0.length cu,.int .i64 u1,.string u2,.int .i64 u3]) (t:=27) bx_ ?_;intro g9 hg w9_ hbox hb;replace HI:=am_ ((HI.out).box hg hbox hb);clear hb hbox hg)|((with_reducible refine zad (N:=11) rfl ?_);refine zae rfl (N:=11) rfl (cs:=#[.int .i64 0,.int .i64 0]) (t:=34) bx_ ?_;intro g11 hg w11_ hbox hb;replace HI:=am_ ((HI.out).box hg hbox hb);clear hb hbox hg)|((with_reducible refine zad (N:=12) rfl ?_);refine zae rfl (N:=12) rfl (cs:=#[.slice none 0 0,.int .i64 0,.string (⟨#[]⟩:ByteArray),.int .i64 0]) (t:=27) bx_ ?_;intro g12 hg w12_ hbox hb;replace HI:=am_ ((HI.out).box hg hbox hb);clear hb hbox hg))
  replace HI:=am_ (HI.out.front 2 rfl)
  replace HI:=am_ (HI.out.subL (L':=[blk g9 27 #[.slice Au u0.length cu,.int .i64 u1,.string u2,.int .i64 u3],blk g12 27 #[.slice none 0 0,.int .i64 0,.string (⟨#[]⟩:ByteArray),.int .i64 0],blk g11 34 #[.int .i64 0,.int .i64 0],row k34 34 wb.heap.size (.slice Au u0.length cu) u0 PW_]) qz34_)
  refine zcb (n:=7) (S:=fun w'=>w'.cell? ⟨g9,0,none⟩=some (.slice Au u0.length cu)∧w'.cell? ⟨g9,1,none⟩=some (.int .i64 u1)∧w'.cell? ⟨g9,2,none⟩=some (.string u2)∧w'.cell? ⟨g9,3,none⟩=some (.int .i64 u3)) (ds:=[5]) (bs_ 7 0) (by kernel_rfl) rfl rfl ⟨(zaa ((HI.out.drew).get 0 rfl) 0).trans rfl,(zaa ((HI.out.drew).get 0 rfl) 1).trans rfl,(zaa ((HI.out.drew).get 0 rfl) 2).trans rfl,(zaa ((HI.out.drew).get 0 rfl) 3).trans rfl⟩ (fun hHeld=>?_)
  replace HI:=am_ (HI.out.drew)
  generalize World.drew _=wd0 at HI hHeld ⊢
  refine pu_ 1 24 (bs_ 7 2) ?_
  refine take_ (i:=2) (N:=some 25) (v:=?_) (a':=?_) (bs_ 7 6) rfl rfl (by kernel_rfl) (fun _ _ _ h=>h) (Or.inl ⟨(by rfl),?_⟩) hHeld ?_ ?_
  rotate_left
  ·
   rintro w' ⟨s_0,s_1,s_2,s_3⟩
   go_simp
   with_reducible rfl
  rotate_left
  ·
   exact ap_
  refine one_ (i:=0) (N:=some 23) (bs_ 7 7) rfl rfl (by kernel_rfl) (by decide) (fun K hK=>?_)
  refine Kd.zfm k34 (w0:=_) _ 34 ?hg (N:=23) ?hd (xs:=([]:List S34)) (inner:=[]) (ok:=fun _=>True) (okp:=fun _=>True) ?hr ?hp (fun _ hk=>hk) trivial (Below.refl _ _) (Nat.le_refl _) (by simp) ?_
  (case hd=>rfl);(case hg=>rfl);(case hr=>first|(go_simp;done)|(go_simp;rfl));(case hp=>exact(Reps.none _ _))
  intro ve we hR hb hg hat
  replace HI:=am_ (HI.out.zdj hb hR)
  clear hR hb hg hat
  refine hK.out _ _ ⟨(zaa ((HI.out).get 1 rfl) 0).trans rfl,(zaa ((HI.out).get 1 rfl) 1).trans rfl,(zaa ((HI.out).get 1 rfl) 2).trans rfl,(zaa ((HI.out).get 1 rfl) 3).trans rfl⟩ (fun hHeld=>?_)
  clear hK K
  refine norm_ (a':=?_) ?_ ?_
  rotate_left
  ·
   show Act.put _ (some 23) _=_
   exact ap_
  refine pu_ 3 10 (bs_ 7 15) ?_
  refine one_ (i:=4) (N:=none) (bs_ 7 31) rfl rfl (by kernel_rfl) (by decide) (fun K hK=>?_)
  rw [if_pos (by rfl)]
  refine wp_store_row 34 _ _ rfl g11 (#[.int .i64 0,.int .i64 0]) rfl qz0_ 34 (#[.int .i64 0,.int .i64 0]) (HI.out.get 3 rfl) (by kernel_rfl) rfl qz12_ ?_
  replace HI:zal (Inv w PW_ _ [blk g11 34 #[.int .i64 0,.int .i64 0],row k34 34 w.heap.size ve [] _,blk g9 27 #[.slice Au u0.length cu,.int .i64 u1,.string u2,.int .i64 u3],blk g12 27 #[.slice none 0 0,.int .i64 0,.string (⟨#[]⟩:ByteArray),.int .i64 0],row k34 34 wb.heap.size (.slice Au u0.length cu) u0 PW_] _):=⟨(HI.out.front 3 rfl).put0 (#[.int .i64 0,.int .i64 0])⟩
  generalize World.setRow _ g11 (#[.int .i64 0,.int .i64 0])=wz4 at HI ⊢
  refine hK.out _ _ ⟨(zaa ((HI.out).get 2 rfl) 0).trans rfl,(zaa ((HI.out).get 2 rfl) 1).trans rfl,(zaa ((HI.out).get 2 rfl) 2).trans rfl,(zaa ((HI.out).get 2 rfl) 3).trans rfl⟩ (fun hHeld=>?_)
  clear hK K
  refine last_ (i:=5) (N:=none) (bs_ 7 63) rfl rfl (by kernel_rfl) (by decide) (fun K hK=>?_)
  rw [if_pos (by rfl)]
  refine wp_store_row 27 _ _ rfl g12 (#[.slice Au u0.length cu,.int .i64 u1,.string u2,.int .i64 u3]) rfl qz0_ 27 (#[.slice none 0 0,.int .i64 0,.string (⟨#[]⟩:ByteArray),.int .i64 0]) (HI.out.get 3 rfl) (by kernel_rfl) rfl qz12_ ?_
  replace HI:zal (Inv w PW_ _ [blk g12 27 #[.slice Au u0.length cu,.int .i64 u1,.string u2,.int .i64 u3],blk g11 34 #[.int .i64 0,.int .i64 0],row k34 34 w.heap.size ve [] _,blk g9 27 #[.slice Au u0.length cu,.int .i64 u1,.string u2,.int .i64 u3],row k34 34 wb.heap.size (.slice Au u0.length cu) u0 PW_] _):=⟨(HI.out.front 3 rfl).put0 (#[.slice Au u0.length cu,.int .i64 u1,.string u2,.int .i64 u3])⟩
  generalize World.setRow _ g12 (#[.slice Au u0.length cu,.int .i64 u1,.string u2,.int .i64 u3])=wz5 at HI ⊢
  refine hK.out _ _ ?_
  clear hK K
  refine pu_ 6 13 (bs_ 7 127) ?_
  refine done_ (by kernel_rfl) ?_
  try go_wp2
  refine bodyPost_ret (zbp rfl _ _ g11 g12 34 27 #[.int .i64 0,.int .i64 0] #[.slice Au u0.length cu,.int .i64 u1,.string u2,.int .i64 u3] (0,0) (0,0) _ _ rfl (HI.out.get 1 rfl) hu34 rfl (by first|exact zby _ _|kernel_rfl) rfl (HI.out.get 0 rfl) hu27 rfl (by kernel_rfl)) rfl ?_
  have hp_:=HI.out.get 2 rfl
  have hs_:=HI.out.get 4 rfl
  have hd_:=HI.out.disj 2 4 (by decide) rfl rfl
  have hn_:=HI.out.newAt 4 rfl
  exact⟨_,_,rfl,Kd.zbi hp_ (fun k hk e=>hd_ k hk (hs_.1 k e.symm)),Kd.zbi hs_ (fun k hk=>⟨(hn_ k hk).symm,fun e=>hd_ k (hp_.1 k e.symm) hk⟩),HI.out.zef HB.out HPW.out,⟨HI.out.agr.size,HI.out.agr.block⟩⟩
theorem zco.calls (k:Nat) (kind c0 c1:Int) (A2:Option Addr) (cap2:Nat) (l2:List (List S34)) (vars:Int) (P0:Nat→Prop) (us:Value) (u0:List S34) (u1:Int) (u2:ByteArray) (u3:Int) (r1:List S34) (r2 r3 r4:Int) (r5:List S34) (r6:Int) (r7:ByteArray) (r8:Int) (wb w:World) (hB:Below wb.heap.size wb w) (ho:Kd.R k34 34 w wb.heap.size P0 us u0) (hr2:∀ W_,Agr w W_ (fun k=>some k=us.ownBlock)→Kd.C (Kd.slice 34 k34) W_ A2 l2.length l2) (h:zco.f k kind c0 c1 l2 vars u0 u1 u2 u3=some (r1,r2,r3,r4,r5,r6,r7,r8)) :
  Calls Try.prog 75 #[.int .i64 kind,.agg #[.int .i64 c0,.int .i64 c1],.slice A2 l2.length cap2,.int .i64 vars,.agg #[us,.int .i64 u1,.string u2,.int .i64 u3]] w fun e w'=>∃ v0_ v3_:Value,e=.returned (.tuple #[v0_,.agg #[.int .i64 r2,.int .i64 r3],.agg #[v3_,.int .i64 r6,.string r7,.int .i64 r8],.int .i64 r4])∧Kd.R k34 34 w' w.heap.size (fun k_=>some k_≠v3_.ownBlock) v0_ r1∧Kd.R k34 34 w' wb.heap.size (fun k_=>(some k_=us.ownBlock∨w.heap.size≤k_)∧some k_≠v0_.ownBlock) v3_ r5∧Below wb.heap.size wb w'∧Kept w w' (fun k=>some k=us.ownBlock):=by
 obtain⟨Au,cu,eu⟩:=Kd.zb0 ho
 subst eu
 exact zco.walk k kind c0 c1 A2 cap2 l2 vars _ Au cu u0 u1 u2 u3 r1 r2 r3 r4 r5 r6 r7 r8 wb w hB (Inv.startR (d:=k34) rfl ho (fun w2=>Kd.C (Kd.slice 34 k34) w2 A2 l2.length l2) hr2) (fun k hk=>Kd.zh6 ho k hk.symm) (hr2 w (Agr.refl _ _)).2.1 h
end Go.Proofs.Ytgookagndlfehaa.PT
end
section
/- Own parts of memory that hang on what has come up. -/
namespace Go.Proofs.Ytgookagndlfehaa.PT
open Go Go.RowKit Go.Proofs.YtgookagndlfehaaW.PrintWords Go.Proofs.YtgookagndlfehaaW.PrintLast Go.Proofs.YtgookagndlfehaaW.PrintMore
set_option linter.unusedVariables false
set_option linter.unusedSimpArgs false
def gif (c:Bool) (g:Grp):Grp:=⟨fun k=>c=true∧g.S k,fun w=>c=true→g.A w⟩
namespace Inv
variable {w0 w w1:World} {P:Nat→Prop} {L:List Grp} {F:World→Prop}
theorem head {b:Grp} (h:Inv w0 P w (b::L) F) (b':Grp) (hS:∀ k,b'.S k→b.S k) (hA:∀ w',(∀ k,b'.S k→w'.heap[k]?=w.heap[k]?)→b'.A w'):Inv w0 P w (b'::L) F:=
 h.step (Agr.refl _ _) b' (fun k hk=>⟨.inl (hS k hk),h.lt b List.mem_cons_self k (hS k hk)⟩) hA
theorem off (h:Inv w0 P w L F) {g:Grp}:Inv w0 P w (gif false g::L) F:=
 h.push (Below.refl _ _) _ (fun _ h=>by cases h.1) (fun _ _ h=>by cases h)
theorem ze1 {g:Nat} {t:TypeId} {cs cs':Array Value} (h:Inv w0 P w (blk g t cs::L) F) (e:cs'=cs):Inv w0 P w (blk g t cs'::L) F:=e ▸ h
theorem zm7 {L:List Grp} {i:Nat} {x:Grp} (y:Grp) (hx:L[i]?=some x):(L.set i y).Perm (y::L.eraseIdx i):=by
 have hl:=(List.getElem?_eq_some_iff.1 hx).1
 have h1:(L.set i y)[i]?=some y:=by simp [hl]
 have h2:=zf0 (L.set i y) i y h1
 rw [List.eraseIdx_set_eq] at h2
 exact h2
theorem fill (c:Bool) {g:Grp} (h:Inv w0 P w (g::L) F) (i:Nat) (hi:Nat.ble (i + 1) L.length=true):Inv w0 P w (L.set i (gif c g)) F:=by
 have hl:i<L.length:=Nat.le_of_ble_eq_true hi
 have hx:L[i]?=some L[i]:=List.getElem?_eq_getElem hl
 have h1:=h.perm ((zf0 L i L[i] hx).cons g)
 have h2:=h1.swap.drop
 have h3:=h2.head (gif c g) (fun k hk=>hk.2) (fun w' hw hc=>h2.own g List.mem_cons_self w' (fun k hk=>hw k ⟨hc,hk⟩))
 exact h3.perm (zm7 _ hx).symm
theorem take {c:Bool} {g:Grp} (h:Inv w0 P w L F) (i:Nat) (hx:L[i]?=some (gif c g)) (hc:c=true):Inv w0 P w (g::L.set i (gif false g)) F:=by
 subst hc
 have h1:=h.perm (zf0 L i _ hx)
 have h2:=h1.head g (fun k hk=>⟨rfl,hk⟩) (fun w' hw=>h1.own _ List.mem_cons_self w' (fun k hk=>hw k hk.2) rfl)
 exact(h2.off (g:=g)).perm ((List.Perm.swap _ _ _).trans ((zm7 _ hx).symm.cons g))
theorem at_ (h:Inv w0 P w L F) (b:Grp) (hb:b∈L):b.A w:=h.own b hb w (fun _ _=>rfl)
theorem ownOther {W:World} {T:Nat→Prop} {a:Grp} (h:Inv w0 P w (a::L) F) (ha:Agr w W T) (hT:∀ k,T k→a.S k) (b:Grp) (hb:b∈L):b.A W:=
 h.own b (List.mem_cons_of_mem _ hb) W (fun k hk=>ha.block k (h.lt b (List.mem_cons_of_mem _ hb) k hk) (fun ht=>(List.pairwise_cons.1 h.dis).1 b hb k (hT k ht) hk))
theorem zgm (h:Inv w0 P w L F) (t:TypeId) (cs:Array Value):Inv w0 P (w.alloc (.cells cs t)) (blk w.heap.size t cs::L) F:=h.box rfl (show (w.heap.push (.cells cs t))[w.heap.size]?=_ from Array.getElem?_push_size) (za0 (Below.refl _ _) _)
theorem nil0 (h:Inv w0 P w L F):Inv w0 P w (⟨fun _=>False,fun _=>True⟩::L) F:=h.push (Below.refl _ _) _ (fun _ h=>h.elim) (fun _ _=>trivial)
theorem lose {b:Grp} (h:Inv w0 P w (b::L) F) (hA:Agr w w1 b.S):Inv w0 P w1 L F:=(h.step hA ⟨fun _=>False,fun _=>True⟩ (fun _ h=>h.elim) (fun _ _=>trivial)).drop
theorem rowAt {α:Type} {d:Kd α} {e b:Nat} {v:Value} {xs:List α} {S:Nat→Prop} (h:Inv w0 P w L F) (hb:row d e b v xs S∈L):d.R e w b S v xs:=h.at_ _ hb
end Inv
theorem Agr.zmi {w0 w w1:World} {S T:Nat→Prop} (hk:Kept w w1 S) (hb:Below w0.heap.size w0 w) (hb':Below w0.heap.size w0 w1) (hT:∀ k,S k→T k):Agr w w1 T:=
 ⟨hb'.os.trans hb.os.symm,hb'.tape.trans hb.tape.symm,hb'.output.trans hb.output.symm,hk.1,fun k hlt hn=>hk.2 k hlt (fun hs=>hn (hT k hs))⟩
def zb2.f (a0:Int) (a1:Int) (a2:Int):Option (Bool):=if a1≤a0 then(some (decide (a0≤a2))) else(some false)
theorem zb2.calls (a0:Int) (a1:Int) (a2:Int) (r:Bool) (w:World) (h:zb2.f a0 a1 a2=some r) :
  Calls Try.prog 61 #[.int .i64 a0,.int .i64 a1,.int .i64 a2] w fun e w'=>e=.returned (.bool r)∧zbr w w':=by
 have H:(if a1≤a0 then(some (decide (a0≤a2))) else(some false))=some r:=h
 clear h
 by_cases c4:a1≤a0
 ·
  rw [if_pos c4] at H
  have c4b0:decide (a1≤a0)=true:=decide_eq_true c4
  clear c4
  obtain rfl:=Option.some.inj H
  go_enter Try.func61,Try.ntmps61
  go_wp2
  go_ret
  exact⟨qz10_,qz2_⟩
 ·
  rw [if_neg c4] at H
  have c4b0:decide (a1≤a0)=false:=decide_eq_false c4
  clear c4
  obtain rfl:=Option.some.inj H
  go_enter Try.func61,Try.ntmps61
  go_wp2
  go_ret
  exact⟨qz10_,qz2_⟩
def zc4.f (a0:Int):Option (Bool):=(zb2.f a0 0 2130706432).bind fun t101=>(some t101)
theorem zc4.calls (a0:Int) (r:Bool) (w:World) (h:zc4.f a0=some r) :
  Calls Try.prog 114 #[.int .i64 a0] w fun e w'=>e=.returned (.bool r)∧zbr w w':=by
 have H:((zb2.f a0 0 2130706432).bind fun t101=>(some t101))=some r:=h
 clear h
 replace H:=Option.bind_eq_some_iff.mp H
 obtain⟨t101,A20,H⟩:=H
 replace H:(some t101)=some r:=H
 have A2:=am_ A20
 clear A20
 obtain rfl:=Option.some.inj H
 go_enter Try.func114,Try.ntmps114
 go_wp2_with (first|((with_reducible refine zaz (f:=61) rfl ?_);refine zc5 (some 4) rfl rfl Try.func61 (by kernel_rfl) rfl #[.int .i64 a0,.int .i64 0,.int .i64 2130706432] rfl qz18_ ?_;(with_reducible refine(zb2.calls a0 0 2130706432 t101 _ A2.out).mono ?_);rintro e w' ⟨rfl,⟨nd,rfl⟩⟩;refine⟨_,rfl,?_⟩))
 go_ret
 exact⟨qz10_,qz2_⟩
def zdd.f (a0_0:Int) (a0_1:Int):Option (Bool):=(zc4.f a0_0).bind fun t102=>(if t102=true then((zc4.f a0_1).bind fun t103=>(some t103)) else(some false))
theorem zdd.calls (a0_0:Int) (a0_1:Int) (r:Bool) (w:World) (h:zdd.f a0_0 a0_1=some r) :
  Calls Try.prog 71 #[.agg #[.int .i64 a0_0,.int .i64 a0_1]] w fun e w'=>e=.returned (.bool r)∧Below w.heap.size w w':=by
 have hu34:=Try.underlying34
 have HB:=am_ (Below.refl w.heap.size w)
 have H:((zc4.f a0_0).bind fun t102=>(if t102=true then((zc4.f a0_1).bind fun t103=>(some t103)) else(some false)))=some r:=h
 clear h
 replace H:=Option.bind_eq_some_iff.mp H
 obtain⟨t102,A20,H⟩:=H
 replace H:(if t102=true then((zc4.f a0_1).bind fun t103=>(some t103)) else(some false))=some r:=H
 have A2:=am_ A20
 clear A20
 by_cases c3:t102=true
 ·
  subst c3
  have H1:((zc4.f a0_1).bind fun t103=>(some t103))=some r:=by rw [if_pos rfl] at H;exact H
  clear H
  have H:=H1
  clear H1
  replace H:=Option.bind_eq_some_iff.mp H
  obtain⟨t103,A40,H⟩:=H
  replace H:(some t103)=some r:=H
  have A4:=am_ A40
  clear A40
  obtain rfl:=Option.some.inj H
  go_enter Try.func71,Try.ntmps71
  go_wp2_with (first|((with_reducible refine zad (N:=1) rfl ?_);refine zae rfl (N:=1) rfl (cs:=#[.int .i64 a0_0,.int .i64 a0_1]) (t:=34) bx_ ?_;intro gb101 hg w5 hbox hb;replace BK101:=am_ (hbox);replace GW101:=am_ ((by rw [hg];exact(zac qz4_):w.heap.size≤gb101));replace GE101:=am_ ((by rw [hg];exact(zac qz4_):w.heap.size≤gb101));replace HB:=am_ (zaj qz4_ hb);clear hb hbox hg;have hcz6_0:w5.cell? ⟨gb101,0,none⟩=some (.int .i64 a0_0):=(zaa BK101.out 0).trans rfl;have hcz6_1:w5.cell? ⟨gb101,1,none⟩=some (.int .i64 a0_1):=(zaa BK101.out 1).trans rfl;have hfz6_0:=zab BK101.out 0;have hfz6_1:=zab BK101.out 1)|((with_reducible refine zaz (f:=114) rfl ?_);refine zc5 (some 5) rfl rfl Try.func114 (by kernel_rfl) rfl #[.int .i64 a0_0] rfl qz18_ ?_;(with_reducible refine(zc4.calls a0_0 true _ A2.out).mono ?_);rintro e w' ⟨rfl,⟨nd,rfl⟩⟩;refine⟨_,rfl,?_⟩)|(go_at_call 114;(with_reducible refine(zc4.calls a0_1 t103 _ A4.out).mono ?_);rintro e w' ⟨rfl,⟨nd,rfl⟩⟩))
  go_ret
  exact⟨qz8_,qz14_⟩
 ·
  replace c3:=Bool.eq_false_iff.mpr c3
  subst c3
  have H1:(some false)=some r:=by rw [if_neg (show ¬(false=true) by decide)] at H;exact H
  clear H
  have H:=H1
  clear H1
  obtain rfl:=Option.some.inj H
  go_enter Try.func71,Try.ntmps71
  go_wp2_with (first|((with_reducible refine zad (N:=1) rfl ?_);refine zae rfl (N:=1) rfl (cs:=#[.int .i64 a0_0,.int .i64 a0_1]) (t:=34) bx_ ?_;intro gb101 hg w7 hbox hb;replace BK101:=am_ (hbox);replace GW101:=am_ ((by rw [hg];exact(zac qz4_):w.heap.size≤gb101));replace GE101:=am_ ((by rw [hg];exact(zac qz4_):w.heap.size≤gb101));replace HB:=am_ (zaj qz4_ hb);clear hb hbox hg;have hcz8_0:w7.cell? ⟨gb101,0,none⟩=some (.int .i64 a0_0):=(zaa BK101.out 0).trans rfl;have hcz8_1:w7.cell? ⟨gb101,1,none⟩=some (.int .i64 a0_1):=(zaa BK101.out 1).trans rfl;have hfz8_0:=zab BK101.out 0;have hfz8_1:=zab BK101.out 1)|((with_reducible refine zaz (f:=114) rfl ?_);refine zc5 (some 5) rfl rfl Try.func114 (by kernel_rfl) rfl #[.int .i64 a0_0] rfl qz18_ ?_;(with_reducible refine(zc4.calls a0_0 false _ A2.out).mono ?_);rintro e w' ⟨rfl,⟨nd,rfl⟩⟩;refine⟨_,rfl,?_⟩))
  go_ret
  exact⟨qz8_,qz14_⟩
def zbl.l0:Nat→List (S34)→Int→Option (Bool)
 | 0,_,_=>none
 | k + 1,x0,x3=>if x3<(x0.length:Int) then(if 0≤x3 then((zdd.f ((zan x0 x3).f0) ((zan x0 x3).f1)).bind fun t102=>(if t102=true then(zbl.l0 k x0 (wrap64 (x3 + 1))) else(some false))) else(none)) else(some true)
def zbl.f (k:Nat) (l0:List (S34)):Option (Bool):=zbl.l0 k l0 0
theorem zbl.calls (k:Nat) (A0:Option Addr) (c0:Nat) (l0:List (S34)) (r:Bool) (w:World) (hr0:Kd.C k34 w A0 l0.length l0) (hc0:l0.length≤c0) (h:zbl.f k l0=some r) :
  Calls Try.prog 102 #[.slice A0 l0.length c0] w fun e w'=>e=.returned (.bool r)∧Below w.heap.size w w':=by
 have hu34:=Try.underlying34
 have HR0:=am_ hr0
 have HC0:=am_ hc0
 clear hr0 hc0
 have HB:=am_ (Below.refl w.heap.size w)
 have H:(zbl.l0 k l0 0)=some r:=h
 clear h
 have H':=am_ H
 clear H
 go_enter Try.func102,Try.ntmps102
 go_wp2
 go_loopg [3] k (fun kq v3 w'=>∃ (x3_1:Int),v3=.int .i64 x3_1∧zal (zbl.l0 kq l0 x3_1=some r)∧zal (kq≤k)∧zal (Below w.heap.size w w'))
 case atStart=>exact⟨(0),qz10_,H',⟨Nat.le_refl _⟩,⟨qz4_⟩⟩
 case round=>
  clear H'
  try clear c1
  obtain⟨x3_1,rfl,HA,HK1,HB⟩:=hrel
  cases gk with
  | zero=>exact absurd HA.out (by simp [zbl.l0])
  | succ k1=>
   have H:=HA.out
   clear HA
   simp only [zbl.l0] at H
   by_cases c2:x3_1<(l0.length:Int)
   ·
    rw [if_pos c2] at H
    have c2b0:decide (x3_1<(l0.length:Int))=true:=decide_eq_true c2
    clear c2
    by_cases c3:0≤x3_1
    ·
     rw [if_pos c3] at H
     have c3b0:decide (0≤x3_1)=true:=decide_eq_true c3
     clear c3
     replace H:=Option.bind_eq_some_iff.mp H
     obtain⟨t102,A40,H⟩:=H
     replace H:(if t102=true then(zbl.l0 k1 l0 (wrap64 (x3_1 + 1))) else(some false))=some r:=H
     have A4:=am_ A40
     clear A40
     by_cases c5:t102=true
     ·
      subst c5
      have H1:(zbl.l0 k1 l0 (wrap64 (x3_1 + 1)))=some r:=by rw [if_pos rfl] at H;exact H
      clear H
      have H:=H1
      clear H1
      have H':=am_ H
      clear H
      have p101:0≤(x3_1:Int):=of_decide_eq_true qz11_
      have q101:x3_1<(l0.length:Int):=of_decide_eq_true qz11_
      obtain⟨ad101,e101,hx101_0,hx101_1⟩:=zey HR0.out x3_1 p101 q101
      cases e101
      replace hx101_0:=(HB.out.cell (World.block_lt_of_cell? w _ hx101_0)).trans hx101_0
      replace hx101_1:=(HB.out.cell (World.block_lt_of_cell? w _ hx101_1)).trans hx101_1
      replace p101:=eq_true p101
      replace q101:=eq_true q101
      go_wp2_with (first|((with_reducible refine zaz (f:=71) rfl ?_);refine zc5 (some 14) rfl rfl Try.func71 (by kernel_rfl) rfl #[.agg #[.int .i64 ((zan l0 x3_1).f0),.int .i64 ((zan l0 x3_1).f1)]] rfl qz18_ ?_;(with_reducible refine(zdd.calls ((zan l0 x3_1).f0) ((zan l0 x3_1).f1) true _ A4.out).mono ?_);rintro e w6 ⟨rfl,hb⟩;refine⟨_,rfl,?_⟩;replace HB:=am_ (zaj qz4_ hb);(try clear hb);(try clear hb2);(try clear hk);(try clear hi)))
      go_roundg k1
      case measure=>have:=HK1.out;omega
      case rel=>exact⟨(wrap64 (x3_1 + 1)),qz10_,H',⟨(by have:=HK1.out;omega)⟩,⟨qz4_⟩⟩
     ·
      replace c5:=Bool.eq_false_iff.mpr c5
      subst c5
      have H1:(some false)=some r:=by rw [if_neg (show ¬(false=true) by decide)] at H;exact H
      clear H
      have H:=H1
      clear H1
      obtain rfl:=Option.some.inj H
      have p101:0≤(x3_1:Int):=of_decide_eq_true qz11_
      have q101:x3_1<(l0.length:Int):=of_decide_eq_true qz11_
      obtain⟨ad101,e101,hx101_0,hx101_1⟩:=zey HR0.out x3_1 p101 q101
      cases e101
      replace hx101_0:=(HB.out.cell (World.block_lt_of_cell? w _ hx101_0)).trans hx101_0
      replace hx101_1:=(HB.out.cell (World.block_lt_of_cell? w _ hx101_1)).trans hx101_1
      replace p101:=eq_true p101
      replace q101:=eq_true q101
      go_wp2_with (first|((with_reducible refine zaz (f:=71) rfl ?_);refine zc5 (some 14) rfl rfl Try.func71 (by kernel_rfl) rfl #[.agg #[.int .i64 ((zan l0 x3_1).f0),.int .i64 ((zan l0 x3_1).f1)]] rfl qz18_ ?_;(with_reducible refine(zdd.calls ((zan l0 x3_1).f0) ((zan l0 x3_1).f1) false _ A4.out).mono ?_);rintro e w7 ⟨rfl,hb⟩;refine⟨_,rfl,?_⟩;replace HB:=am_ (zaj qz4_ hb);(try clear hb);(try clear hb2);(try clear hk);(try clear hi)))
      go_ret
      exact⟨qz8_,qz4_⟩
    ·
     rw [if_neg c3] at H
     exact absurd H (by simp)
   ·
    rw [if_neg c2] at H
    have c2b0:decide (x3_1<(l0.length:Int))=false:=decide_eq_false c2
    clear c2
    obtain rfl:=Option.some.inj H
    go_wp2
    go_ret
    exact⟨qz8_,qz4_⟩
def za8.l0:Nat→List (List (S34))→Int→Option (Int)
 | 0,_,_=>none
 | k + 1,x0,x3=>if x3<(x0.length:Int) then(if 0≤x3 then(if ((zd0 x0 x3).length:Int)>8 then(some 1) else((zbl.f k (zd0 x0 x3)).bind fun t103=>(if t103=true then(za8.l0 k x0 (wrap64 (x3 + 1))) else(some 1)))) else(none)) else(some 0)
def za8.f (k:Nat) (l0:List (List (S34))):Option (Int):=if (l0.length:Int)>4096 then(some 2) else(za8.l0 k l0 0)
theorem za8.calls (k:Nat) (A0:Option Addr) (c0:Nat) (l0:List (List (S34))) (r:Int) (w:World) (hr0:Kd.C (Kd.slice 34 k34) w A0 l0.length l0) (hc0:l0.length≤c0) (h:za8.f k l0=some r) :
  Calls Try.prog 70 #[.slice A0 l0.length c0] w fun e w'=>e=.returned (.int .i64 r)∧Below w.heap.size w w':=by
 have HR0:=am_ hr0
 have HC0:=am_ hc0
 clear hr0 hc0
 have HB:=am_ (Below.refl w.heap.size w)
 have H:(if (l0.length:Int)>4096 then(some 2) else(za8.l0 k l0 0))=some r:=h
 clear h
 by_cases c2:(l0.length:Int)>4096
 ·
  rw [if_pos c2] at H
  have c2b0:decide (4096<(l0.length:Int))=true:=decide_eq_true c2
  have c2b1:decide (4096<l0.length)=true:=decide_eq_true (by omega)
  clear c2
  obtain rfl:=Option.some.inj H
  go_enter Try.func70,Try.ntmps70
  go_wp2
  go_ret
  exact⟨qz8_,qz4_⟩
 ·
  rw [if_neg c2] at H
  have c2b0:decide (4096<(l0.length:Int))=false:=decide_eq_false c2
  have c2b1:decide (4096<l0.length)=false:=decide_eq_false (by omega)
  clear c2
  have H':=am_ H
  clear H
  go_enter Try.func70,Try.ntmps70
  go_wp2
  go_loopg [3] k (fun kq v3 w'=>∃ (x3_1:Int),v3=.int .i64 x3_1∧zal (za8.l0 kq l0 x3_1=some r)∧zal (kq≤k)∧zal (Below w.heap.size w w'))
  case atStart=>exact⟨(0),qz10_,H',⟨Nat.le_refl _⟩,⟨qz4_⟩⟩
  case round=>
   clear H'
   try clear c2
   try clear c2b0
   try clear c2b1
   try clear p2
   obtain⟨x3_1,rfl,HA,HK1,HB⟩:=hrel
   cases gk with
   | zero=>exact absurd HA.out (by simp [za8.l0])
   | succ k1=>
    have H:=HA.out
    clear HA
    simp only [za8.l0] at H
    by_cases c3:x3_1<(l0.length:Int)
    ·
     rw [if_pos c3] at H
     have c3b0:decide (x3_1<(l0.length:Int))=true:=decide_eq_true c3
     clear c3
     by_cases c4:0≤x3_1
     ·
      rw [if_pos c4] at H
      have c4b0:decide (0≤x3_1)=true:=decide_eq_true c4
      clear c4
      by_cases c5:((zd0 l0 x3_1).length:Int)>8
      ·
       rw [if_pos c5] at H
       have c5b0:decide (8<((zd0 l0 x3_1).length:Int))=true:=decide_eq_true c5
       have c5b1:decide (8<(zd0 l0 x3_1).length)=true:=decide_eq_true (by omega)
       clear c5
       obtain rfl:=Option.some.inj H
       have p101:0≤(x3_1:Int):=of_decide_eq_true qz11_
       have q101:x3_1<(l0.length:Int):=of_decide_eq_true qz11_
       obtain⟨ad101,A101_0,c101_0,e101,hx101_0,hl101_0,hi101_0⟩:=zhj HR0.out x3_1 p101 q101
       cases e101
       replace hx101_0:=(HB.out.cell (World.block_lt_of_cell? w _ hx101_0)).trans hx101_0
       have HR101_0:=am_ hi101_0
       have HC101_0:=am_ hl101_0
       clear hi101_0 hl101_0
       replace p101:=eq_true p101
       replace q101:=eq_true q101
       go_wp2
       go_ret
       exact⟨qz8_,qz4_⟩
      ·
       rw [if_neg c5] at H
       have c5b0:decide (8<((zd0 l0 x3_1).length:Int))=false:=decide_eq_false c5
       have c5b1:decide (8<(zd0 l0 x3_1).length)=false:=decide_eq_false (by omega)
       clear c5
       replace H:=Option.bind_eq_some_iff.mp H
       obtain⟨t103,A60,H⟩:=H
       replace H:(if t103=true then(za8.l0 k1 l0 (wrap64 (x3_1 + 1))) else(some 1))=some r:=H
       have A6:=am_ A60
       clear A60
       by_cases c7:t103=true
       ·
        subst c7
        have H1:(za8.l0 k1 l0 (wrap64 (x3_1 + 1)))=some r:=by rw [if_pos rfl] at H;exact H
        clear H
        have H:=H1
        clear H1
        have H':=am_ H
        clear H
        have p101:0≤(x3_1:Int):=of_decide_eq_true qz11_
        have q101:x3_1<(l0.length:Int):=of_decide_eq_true qz11_
        obtain⟨ad101,A101_0,c101_0,e101,hx101_0,hl101_0,hi101_0⟩:=zhj HR0.out x3_1 p101 q101
        cases e101
        replace hx101_0:=(HB.out.cell (World.block_lt_of_cell? w _ hx101_0)).trans hx101_0
        have HR101_0:=am_ hi101_0
        have HC101_0:=am_ hl101_0
        clear hi101_0 hl101_0
        replace p101:=eq_true p101
        replace q101:=eq_true q101
        have p102:0≤(x3_1:Int):=of_decide_eq_true qz11_
        have q102:x3_1<(l0.length:Int):=of_decide_eq_true qz11_
        obtain⟨ad102,A102_0,c102_0,e102,hx102_0,hl102_0,hi102_0⟩:=zhj HR0.out x3_1 p102 q102
        obtain rfl:ad101=ad102:=(by injection e102)
        replace hx102_0:=(HB.out.cell (World.block_lt_of_cell? w _ hx102_0)).trans hx102_0
        have HR102_0:=am_ hi102_0
        have HC102_0:=am_ hl102_0
        clear hi102_0 hl102_0
        replace p102:=eq_true p102
        replace q102:=eq_true q102
        have ea_:=Option.some.inj (hx101_0.symm.trans hx102_0)
        injection ea_ with ea_ en_ ec_
        subst ea_
        subst ec_
        clear en_
        go_wp2_with (first|(go_at_call 102;(with_reducible refine(zbl.calls k1 _ _ (zd0 l0 x3_1) true _ ?side1 ?side2 A6.out).mono ?_);(case side1=>exact qc_ (Kd.zbs HR102_0.out HB.out));(case side2=>exact HC102_0.out);rintro e w8 ⟨rfl,hb⟩;replace HB:=am_ (zaj qz4_ hb);(try clear hb);(try clear hb2);(try clear hk);(try clear hi)))
        go_roundg k1
        case measure=>have:=HK1.out;omega
        case rel=>exact⟨(wrap64 (x3_1 + 1)),qz10_,H',⟨(by have:=HK1.out;omega)⟩,⟨qz4_⟩⟩
       ·
        replace c7:=Bool.eq_false_iff.mpr c7
        subst c7
        have H1:(some 1)=some r:=by rw [if_neg (show ¬(false=true) by decide)] at H;exact H
        clear H
        have H:=H1
        clear H1
        obtain rfl:=Option.some.inj H
        have p101:0≤(x3_1:Int):=of_decide_eq_true qz11_
        have q101:x3_1<(l0.length:Int):=of_decide_eq_true qz11_
        obtain⟨ad101,A101_0,c101_0,e101,hx101_0,hl101_0,hi101_0⟩:=zhj HR0.out x3_1 p101 q101
        cases e101
        replace hx101_0:=(HB.out.cell (World.block_lt_of_cell? w _ hx101_0)).trans hx101_0
        have HR101_0:=am_ hi101_0
        have HC101_0:=am_ hl101_0
        clear hi101_0 hl101_0
        replace p101:=eq_true p101
        replace q101:=eq_true q101
        have p102:0≤(x3_1:Int):=of_decide_eq_true qz11_
        have q102:x3_1<(l0.length:Int):=of_decide_eq_true qz11_
        obtain⟨ad102,A102_0,c102_0,e102,hx102_0,hl102_0,hi102_0⟩:=zhj HR0.out x3_1 p102 q102
        obtain rfl:ad101=ad102:=(by injection e102)
        replace hx102_0:=(HB.out.cell (World.block_lt_of_cell? w _ hx102_0)).trans hx102_0
        have HR102_0:=am_ hi102_0
        have HC102_0:=am_ hl102_0
        clear hi102_0 hl102_0
        replace p102:=eq_true p102
        replace q102:=eq_true q102
        have ea_:=Option.some.inj (hx101_0.symm.trans hx102_0)
        injection ea_ with ea_ en_ ec_
        subst ea_
        subst ec_
        clear en_
        go_wp2_with (first|(go_at_call 102;(with_reducible refine(zbl.calls k1 _ _ (zd0 l0 x3_1) false _ ?side1 ?side2 A6.out).mono ?_);(case side1=>exact qc_ (Kd.zbs HR102_0.out HB.out));(case side2=>exact HC102_0.out);rintro e w9 ⟨rfl,hb⟩;replace HB:=am_ (zaj qz4_ hb);(try clear hb);(try clear hb2);(try clear hk);(try clear hi)))
        go_ret
        exact⟨qz8_,qz4_⟩
     ·
      rw [if_neg c4] at H
      exact absurd H (by simp)
    ·
     rw [if_neg c3] at H
     have c3b0:decide (x3_1<(l0.length:Int))=false:=decide_eq_false c3
     clear c3
     obtain rfl:=Option.some.inj H
     go_wp2
     go_ret
     exact⟨qz8_,qz4_⟩
def zdb.f (k:Nat) (l0_0:List (S34)) (a0_1:Int) (a0_2:ByteArray) (a0_3:Int):Option (Bool):=if (l0_0.length:Int)≤64 then((zbl.f k l0_0).bind fun t102=>(if t102=true then((zb2.f a0_1 0 1000000).bind fun t103=>(if t103=true then(if (a0_2.size:Int)=32 then((zb2.f a0_3 0 1000000).bind fun t104=>(some t104)) else(some false)) else(some false))) else(some false))) else(some false)
theorem zdb.calls (k:Nat) (A0_0:Option Addr) (c0_0:Nat) (l0_0:List (S34)) (a0_1:Int) (a0_2:ByteArray) (a0_3:Int) (r:Bool) (w:World) (hr0_0:Kd.C k34 w A0_0 l0_0.length l0_0) (hc0_0:l0_0.length≤c0_0) (h:zdb.f k l0_0 a0_1 a0_2 a0_3=some r) :
  Calls Try.prog 72 #[.agg #[.slice A0_0 l0_0.length c0_0,.int .i64 a0_1,.string a0_2,.int .i64 a0_3]] w fun e w'=>e=.returned (.bool r)∧Below w.heap.size w w':=by
 have hu27:=Try.underlying27
 have HR0_0:=am_ hr0_0
 have HC0_0:=am_ hc0_0
 clear hr0_0 hc0_0
 have HB:=am_ (Below.refl w.heap.size w)
 have H:(if (l0_0.length:Int)≤64 then((zbl.f k l0_0).bind fun t102=>(if t102=true then((zb2.f a0_1 0 1000000).bind fun t103=>(if t103=true then(if (a0_2.size:Int)=32 then((zb2.f a0_3 0 1000000).bind fun t104=>(some t104)) else(some false)) else(some false))) else(some false))) else(some false))=some r:=h
 clear h
 by_cases c2:(l0_0.length:Int)≤64
 ·
  rw [if_pos c2] at H
  have c2b0:decide ((l0_0.length:Int)≤64)=true:=decide_eq_true c2
  have c2b1:decide (l0_0.length≤64)=true:=decide_eq_true (by omega)
  clear c2
  replace H:=Option.bind_eq_some_iff.mp H
  obtain⟨t102,A30,H⟩:=H
  replace H:(if t102=true then((zb2.f a0_1 0 1000000).bind fun t103=>(if t103=true then(if (a0_2.size:Int)=32 then((zb2.f a0_3 0 1000000).bind fun t104=>(some t104)) else(some false)) else(some false))) else(some false))=some r:=H
  have A3:=am_ A30
  clear A30
  by_cases c4:t102=true
  ·
   subst c4
   have H1:((zb2.f a0_1 0 1000000).bind fun t103=>(if t103=true then(if (a0_2.size:Int)=32 then((zb2.f a0_3 0 1000000).bind fun t104=>(some t104)) else(some false)) else(some false)))=some r:=by rw [if_pos rfl] at H;exact H
   clear H
   have H:=H1
   clear H1
   replace H:=Option.bind_eq_some_iff.mp H
   obtain⟨t103,A50,H⟩:=H
   replace H:(if t103=true then(if (a0_2.size:Int)=32 then((zb2.f a0_3 0 1000000).bind fun t104=>(some t104)) else(some false)) else(some false))=some r:=H
   have A5:=am_ A50
   clear A50
   by_cases c6:t103=true
   ·
    subst c6
    have H1:(if (a0_2.size:Int)=32 then((zb2.f a0_3 0 1000000).bind fun t104=>(some t104)) else(some false))=some r:=by rw [if_pos rfl] at H;exact H
    clear H
    have H:=H1
    clear H1
    by_cases c7:(a0_2.size:Int)=32
    ·
     rw [if_pos c7] at H
     have c7b0:((a0_2.size:Int) == 32)=true:=beq_iff_eq.mpr c7
     have c7b1:((a0_2.size:Int) != 32)=false:=bne_eq_false_iff_eq.mpr c7
     clear c7
     replace H:=Option.bind_eq_some_iff.mp H
     obtain⟨t104,A80,H⟩:=H
     replace H:(some t104)=some r:=H
     have A8:=am_ A80
     clear A80
     obtain rfl:=Option.some.inj H
     go_enter Try.func72,Try.ntmps72
     go_wp2_with (first|((with_reducible refine zad (N:=1) rfl ?_);(try(refine zf2 (by rfl) ?_;dsimp only));refine zae rfl (N:=1) rfl (cs:=#[.slice A0_0 l0_0.length c0_0,.int .i64 a0_1,.string a0_2,.int .i64 a0_3]) (t:=27) bx_ ?_;intro gb101 hg w9 hbox hb;replace BK101:=am_ (hbox);replace GW101:=am_ ((by rw [hg];exact(zac qz4_):w.heap.size≤gb101));replace GE101:=am_ ((by rw [hg];exact(zac qz4_):w.heap.size≤gb101));replace HB:=am_ (zaj qz4_ hb);clear hb hbox hg;have hcz10_0:w9.cell? ⟨gb101,0,none⟩=some (.slice A0_0 l0_0.length c0_0):=(zaa BK101.out 0).trans rfl;have hcz10_1:w9.cell? ⟨gb101,1,none⟩=some (.int .i64 a0_1):=(zaa BK101.out 1).trans rfl;have hcz10_2:w9.cell? ⟨gb101,2,none⟩=some (.string a0_2):=(zaa BK101.out 2).trans rfl;have hcz10_3:w9.cell? ⟨gb101,3,none⟩=some (.int .i64 a0_3):=(zaa BK101.out 3).trans rfl;have hfz10_0:=zab BK101.out 0;have hfz10_1:=zab BK101.out 1;have hfz10_2:=zab BK101.out 2;have hfz10_3:=zab BK101.out 3)|(go_at_call 102;(with_reducible refine(zbl.calls k _ _ l0_0 true _ ?side1 ?side2 A3.out).mono ?_);(case side1=>exact qc_ (Kd.zbs HR0_0.out HB.out));(case side2=>exact HC0_0.out);rintro e w11 ⟨rfl,hb⟩;replace BK101:=am_ (zak (g:=gb101) (o:=.cells #[.slice A0_0 l0_0.length c0_0,.int .i64 a0_1,.string a0_2,.int .i64 a0_3] 27 (0,0)) qz13_ hb);replace HB:=am_ (zaj qz14_ hb);(try clear hb);(try clear hb2);(try clear hk);(try clear hi);have hcz12_0:w11.cell? ⟨gb101,0,none⟩=some (.slice A0_0 l0_0.length c0_0):=(zaa BK101.out 0).trans rfl;have hcz12_1:w11.cell? ⟨gb101,1,none⟩=some (.int .i64 a0_1):=(zaa BK101.out 1).trans rfl;have hcz12_2:w11.cell? ⟨gb101,2,none⟩=some (.string a0_2):=(zaa BK101.out 2).trans rfl;have hcz12_3:w11.cell? ⟨gb101,3,none⟩=some (.int .i64 a0_3):=(zaa BK101.out 3).trans rfl;have hfz12_0:=zab BK101.out 0;have hfz12_1:=zab BK101.out 1;have hfz12_2:=zab BK101.out 2;have hfz12_3:=zab BK101.out 3)|(go_at_call 61;(with_reducible refine(zb2.calls a0_1 0 1000000 true _ A5.out).mono ?_);rintro e w' ⟨rfl,⟨nd,rfl⟩⟩)|(go_at_call 61;(with_reducible refine(zb2.calls a0_3 0 1000000 t104 _ A8.out).mono ?_);rintro e w' ⟨rfl,⟨nd,rfl⟩⟩))
     go_ret
     exact⟨qz8_,qz14_⟩
    ·
     rw [if_neg c7] at H
     have c7b0:((a0_2.size:Int) == 32)=false:=beq_eq_false_iff_ne.mpr c7
     have c7b1:((a0_2.size:Int) != 32)=true:=bne_iff_ne.mpr c7
     obtain rfl:=Option.some.inj H
     go_enter Try.func72,Try.ntmps72
     go_wp2_with (first|((with_reducible refine zad (N:=1) rfl ?_);(try(refine zf2 (by rfl) ?_;dsimp only));refine zae rfl (N:=1) rfl (cs:=#[.slice A0_0 l0_0.length c0_0,.int .i64 a0_1,.string a0_2,.int .i64 a0_3]) (t:=27) bx_ ?_;intro gb101 hg w13 hbox hb;replace BK101:=am_ (hbox);replace GW101:=am_ ((by rw [hg];exact(zac qz4_):w.heap.size≤gb101));replace GE101:=am_ ((by rw [hg];exact(zac qz4_):w.heap.size≤gb101));replace HB:=am_ (zaj qz4_ hb);clear hb hbox hg;have hcz14_0:w13.cell? ⟨gb101,0,none⟩=some (.slice A0_0 l0_0.length c0_0):=(zaa BK101.out 0).trans rfl;have hcz14_1:w13.cell? ⟨gb101,1,none⟩=some (.int .i64 a0_1):=(zaa BK101.out 1).trans rfl;have hcz14_2:w13.cell? ⟨gb101,2,none⟩=some (.string a0_2):=(zaa BK101.out 2).trans rfl;have hcz14_3:w13.cell? ⟨gb101,3,none⟩=some (.int .i64 a0_3):=(zaa BK101.out 3).trans rfl;have hfz14_0:=zab BK101.out 0;have hfz14_1:=zab BK101.out 1;have hfz14_2:=zab BK101.out 2;have hfz14_3:=zab BK101.out 3)|(go_at_call 102;(with_reducible refine(zbl.calls k _ _ l0_0 true _ ?side1 ?side2 A3.out).mono ?_);(case side1=>exact qc_ (Kd.zbs HR0_0.out HB.out));(case side2=>exact HC0_0.out);rintro e w15 ⟨rfl,hb⟩;replace BK101:=am_ (zak (g:=gb101) (o:=.cells #[.slice A0_0 l0_0.length c0_0,.int .i64 a0_1,.string a0_2,.int .i64 a0_3] 27 (0,0)) qz13_ hb);replace HB:=am_ (zaj qz14_ hb);(try clear hb);(try clear hb2);(try clear hk);(try clear hi);have hcz16_0:w15.cell? ⟨gb101,0,none⟩=some (.slice A0_0 l0_0.length c0_0):=(zaa BK101.out 0).trans rfl;have hcz16_1:w15.cell? ⟨gb101,1,none⟩=some (.int .i64 a0_1):=(zaa BK101.out 1).trans rfl;have hcz16_2:w15.cell? ⟨gb101,2,none⟩=some (.string a0_2):=(zaa BK101.out 2).trans rfl;have hcz16_3:w15.cell? ⟨gb101,3,none⟩=some (.int .i64 a0_3):=(zaa BK101.out 3).trans rfl;have hfz16_0:=zab BK101.out 0;have hfz16_1:=zab BK101.out 1;have hfz16_2:=zab BK101.out 2;have hfz16_3:=zab BK101.out 3)|(go_at_call 61;(with_reducible refine(zb2.calls a0_1 0 1000000 true _ A5.out).mono ?_);rintro e w' ⟨rfl,⟨nd,rfl⟩⟩))
     go_ret
     exact⟨qz8_,qz14_⟩
   ·
    replace c6:=Bool.eq_false_iff.mpr c6
    subst c6
    have H1:(some false)=some r:=by rw [if_neg (show ¬(false=true) by decide)] at H;exact H
    clear H
    have H:=H1
    clear H1
    obtain rfl:=Option.some.inj H
    go_enter Try.func72,Try.ntmps72
    go_wp2_with (first|((with_reducible refine zad (N:=1) rfl ?_);(try(refine zf2 (by rfl) ?_;dsimp only));refine zae rfl (N:=1) rfl (cs:=#[.slice A0_0 l0_0.length c0_0,.int .i64 a0_1,.string a0_2,.int .i64 a0_3]) (t:=27) bx_ ?_;intro gb101 hg w17 hbox hb;replace BK101:=am_ (hbox);replace GW101:=am_ ((by rw [hg];exact(zac qz4_):w.heap.size≤gb101));replace GE101:=am_ ((by rw [hg];exact(zac qz4_):w.heap.size≤gb101));replace HB:=am_ (zaj qz4_ hb);clear hb hbox hg;have hcz18_0:w17.cell? ⟨gb101,0,none⟩=some (.slice A0_0 l0_0.length c0_0):=(zaa BK101.out 0).trans rfl;have hcz18_1:w17.cell? ⟨gb101,1,none⟩=some (.int .i64 a0_1):=(zaa BK101.out 1).trans rfl;have hcz18_2:w17.cell? ⟨gb101,2,none⟩=some (.string a0_2):=(zaa BK101.out 2).trans rfl;have hcz18_3:w17.cell? ⟨gb101,3,none⟩=some (.int .i64 a0_3):=(zaa BK101.out 3).trans rfl;have hfz18_0:=zab BK101.out 0;have hfz18_1:=zab BK101.out 1;have hfz18_2:=zab BK101.out 2;have hfz18_3:=zab BK101.out 3)|(go_at_call 102;(with_reducible refine(zbl.calls k _ _ l0_0 true _ ?side1 ?side2 A3.out).mono ?_);(case side1=>exact qc_ (Kd.zbs HR0_0.out HB.out));(case side2=>exact HC0_0.out);rintro e w19 ⟨rfl,hb⟩;replace BK101:=am_ (zak (g:=gb101) (o:=.cells #[.slice A0_0 l0_0.length c0_0,.int .i64 a0_1,.string a0_2,.int .i64 a0_3] 27 (0,0)) qz13_ hb);replace HB:=am_ (zaj qz14_ hb);(try clear hb);(try clear hb2);(try clear hk);(try clear hi);have hcz20_0:w19.cell? ⟨gb101,0,none⟩=some (.slice A0_0 l0_0.length c0_0):=(zaa BK101.out 0).trans rfl;have hcz20_1:w19.cell? ⟨gb101,1,none⟩=some (.int .i64 a0_1):=(zaa BK101.out 1).trans rfl;have hcz20_2:w19.cell? ⟨gb101,2,none⟩=some (.string a0_2):=(zaa BK101.out 2).trans rfl;have hcz20_3:w19.cell? ⟨gb101,3,none⟩=some (.int .i64 a0_3):=(zaa BK101.out 3).trans rfl;have hfz20_0:=zab BK101.out 0;have hfz20_1:=zab BK101.out 1;have hfz20_2:=zab BK101.out 2;have hfz20_3:=zab BK101.out 3)|(go_at_call 61;(with_reducible refine(zb2.calls a0_1 0 1000000 false _ A5.out).mono ?_);rintro e w' ⟨rfl,⟨nd,rfl⟩⟩))
    go_ret
    exact⟨qz8_,qz14_⟩
  ·
   replace c4:=Bool.eq_false_iff.mpr c4
   subst c4
   have H1:(some false)=some r:=by rw [if_neg (show ¬(false=true) by decide)] at H;exact H
   clear H
   have H:=H1
   clear H1
   obtain rfl:=Option.some.inj H
   go_enter Try.func72,Try.ntmps72
   go_wp2_with (first|((with_reducible refine zad (N:=1) rfl ?_);(try(refine zf2 (by rfl) ?_;dsimp only));refine zae rfl (N:=1) rfl (cs:=#[.slice A0_0 l0_0.length c0_0,.int .i64 a0_1,.string a0_2,.int .i64 a0_3]) (t:=27) bx_ ?_;intro gb101 hg w21 hbox hb;replace BK101:=am_ (hbox);replace GW101:=am_ ((by rw [hg];exact(zac qz4_):w.heap.size≤gb101));replace GE101:=am_ ((by rw [hg];exact(zac qz4_):w.heap.size≤gb101));replace HB:=am_ (zaj qz4_ hb);clear hb hbox hg;have hcz22_0:w21.cell? ⟨gb101,0,none⟩=some (.slice A0_0 l0_0.length c0_0):=(zaa BK101.out 0).trans rfl;have hcz22_1:w21.cell? ⟨gb101,1,none⟩=some (.int .i64 a0_1):=(zaa BK101.out 1).trans rfl;have hcz22_2:w21.cell? ⟨gb101,2,none⟩=some (.string a0_2):=(zaa BK101.out 2).trans rfl;have hcz22_3:w21.cell? ⟨gb101,3,none⟩=some (.int .i64 a0_3):=(zaa BK101.out 3).trans rfl;have hfz22_0:=zab BK101.out 0;have hfz22_1:=zab BK101.out 1;have hfz22_2:=zab BK101.out 2;have hfz22_3:=zab BK101.out 3)|(go_at_call 102;(with_reducible refine(zbl.calls k _ _ l0_0 false _ ?side1 ?side2 A3.out).mono ?_);(case side1=>exact qc_ (Kd.zbs HR0_0.out HB.out));(case side2=>exact HC0_0.out);rintro e w23 ⟨rfl,hb⟩;replace BK101:=am_ (zak (g:=gb101) (o:=.cells #[.slice A0_0 l0_0.length c0_0,.int .i64 a0_1,.string a0_2,.int .i64 a0_3] 27 (0,0)) qz13_ hb);replace HB:=am_ (zaj qz14_ hb);(try clear hb);(try clear hb2);(try clear hk);(try clear hi)))
   go_ret
   exact⟨qz8_,qz14_⟩
 ·
  rw [if_neg c2] at H
  have c2b0:decide ((l0_0.length:Int)≤64)=false:=decide_eq_false c2
  have c2b1:decide (l0_0.length≤64)=false:=decide_eq_false (by omega)
  clear c2
  obtain rfl:=Option.some.inj H
  go_enter Try.func72,Try.ntmps72
  go_wp2_with (first|((with_reducible refine zad (N:=1) rfl ?_);(try(refine zf2 (by rfl) ?_;dsimp only));refine zae rfl (N:=1) rfl (cs:=#[.slice A0_0 l0_0.length c0_0,.int .i64 a0_1,.string a0_2,.int .i64 a0_3]) (t:=27) bx_ ?_;intro gb101 hg w24 hbox hb;replace BK101:=am_ (hbox);replace GW101:=am_ ((by rw [hg];exact(zac qz4_):w.heap.size≤gb101));replace GE101:=am_ ((by rw [hg];exact(zac qz4_):w.heap.size≤gb101));replace HB:=am_ (zaj qz4_ hb);clear hb hbox hg;have hcz25_0:w24.cell? ⟨gb101,0,none⟩=some (.slice A0_0 l0_0.length c0_0):=(zaa BK101.out 0).trans rfl;have hcz25_1:w24.cell? ⟨gb101,1,none⟩=some (.int .i64 a0_1):=(zaa BK101.out 1).trans rfl;have hcz25_2:w24.cell? ⟨gb101,2,none⟩=some (.string a0_2):=(zaa BK101.out 2).trans rfl;have hcz25_3:w24.cell? ⟨gb101,3,none⟩=some (.int .i64 a0_3):=(zaa BK101.out 3).trans rfl;have hfz25_0:=zab BK101.out 0;have hfz25_1:=zab BK101.out 1;have hfz25_2:=zab BK101.out 2;have hfz25_3:=zab BK101.out 3))
  go_ret
  exact⟨qz8_,qz14_⟩
def zdi.f (a0:Int):Option (Bool):=if a0=1 then(some true) else(some (a0 == 2))
theorem zdi.calls (a0:Int) (r:Bool) (w:World) (h:zdi.f a0=some r) :
  Calls Try.prog 73 #[.int .i64 a0] w fun e w'=>e=.returned (.bool r)∧zbr w w':=by
 have H:(if a0=1 then(some true) else(some (a0 == 2)))=some r:=h
 clear h
 by_cases c2:a0=1
 ·
  rw [if_pos c2] at H
  have c2b0:(a0 == 1)=true:=beq_iff_eq.mpr c2
  have c2b1:(a0 != 1)=false:=bne_eq_false_iff_eq.mpr c2
  clear c2
  obtain rfl:=Option.some.inj H
  go_enter Try.func73,Try.ntmps73
  go_wp2
  go_ret
  exact⟨qz10_,qz2_⟩
 ·
  rw [if_neg c2] at H
  have c2b0:(a0 == 1)=false:=beq_eq_false_iff_ne.mpr c2
  have c2b1:(a0 != 1)=true:=bne_iff_ne.mpr c2
  obtain rfl:=Option.some.inj H
  go_enter Try.func73,Try.ntmps73
  go_wp2
  go_ret
  exact⟨qz10_,qz2_⟩
def zdy.f (l0_0:List (S34)) (a0_1:Int) (a0_2:ByteArray) (a0_3:Int) (a1:Int):Option (Bool):=if a0_1>(wrap64 (1000000 - a1)) then(some true) else(some (decide (a0_3>(wrap64 (1000000 - a1)))))
theorem zdy.calls (A0_0:Option Addr) (c0_0:Nat) (l0_0:List (S34)) (a0_1:Int) (a0_2:ByteArray) (a0_3:Int) (a1:Int) (r:Bool) (w:World) (hr0_0:Kd.C k34 w A0_0 l0_0.length l0_0) (hc0_0:l0_0.length≤c0_0) (h:zdy.f l0_0 a0_1 a0_2 a0_3 a1=some r) :
  Calls Try.prog 74 #[.agg #[.slice A0_0 l0_0.length c0_0,.int .i64 a0_1,.string a0_2,.int .i64 a0_3],.int .i64 a1] w fun e w'=>e=.returned (.bool r)∧Below w.heap.size w w':=by
 have hu27:=Try.underlying27
 have HR0_0:=am_ hr0_0
 have HC0_0:=am_ hc0_0
 clear hr0_0 hc0_0
 have HB:=am_ (Below.refl w.heap.size w)
 have H:(if a0_1>(wrap64 (1000000 - a1)) then(some true) else(some (decide (a0_3>(wrap64 (1000000 - a1))))))=some r:=h
 clear h
 by_cases c3:a0_1>(wrap64 (1000000 - a1))
 ·
  rw [if_pos c3] at H
  have c3b0:decide ((wrap64 (1000000 - a1))<a0_1)=true:=decide_eq_true c3
  clear c3
  obtain rfl:=Option.some.inj H
  go_enter Try.func74,Try.ntmps74
  go_wp2_with (first|((with_reducible refine zad (N:=2) rfl ?_);refine zae rfl (N:=2) rfl (cs:=#[.slice A0_0 l0_0.length c0_0,.int .i64 a0_1,.string a0_2,.int .i64 a0_3]) (t:=27) bx_ ?_;intro gb101 hg w4 hbox hb;replace BK101:=am_ (hbox);replace GW101:=am_ ((by rw [hg];exact(zac qz4_):w.heap.size≤gb101));replace GE101:=am_ ((by rw [hg];exact(zac qz4_):w.heap.size≤gb101));replace HB:=am_ (zaj qz4_ hb);clear hb hbox hg;have hcz5_0:w4.cell? ⟨gb101,0,none⟩=some (.slice A0_0 l0_0.length c0_0):=(zaa BK101.out 0).trans rfl;have hcz5_1:w4.cell? ⟨gb101,1,none⟩=some (.int .i64 a0_1):=(zaa BK101.out 1).trans rfl;have hcz5_2:w4.cell? ⟨gb101,2,none⟩=some (.string a0_2):=(zaa BK101.out 2).trans rfl;have hcz5_3:w4.cell? ⟨gb101,3,none⟩=some (.int .i64 a0_3):=(zaa BK101.out 3).trans rfl;have hfz5_0:=zab BK101.out 0;have hfz5_1:=zab BK101.out 1;have hfz5_2:=zab BK101.out 2;have hfz5_3:=zab BK101.out 3))
  go_ret
  exact⟨qz8_,qz14_⟩
 ·
  rw [if_neg c3] at H
  have c3b0:decide ((wrap64 (1000000 - a1))<a0_1)=false:=decide_eq_false c3
  clear c3
  obtain rfl:=Option.some.inj H
  go_enter Try.func74,Try.ntmps74
  go_wp2_with (first|((with_reducible refine zad (N:=2) rfl ?_);refine zae rfl (N:=2) rfl (cs:=#[.slice A0_0 l0_0.length c0_0,.int .i64 a0_1,.string a0_2,.int .i64 a0_3]) (t:=27) bx_ ?_;intro gb101 hg w6 hbox hb;replace BK101:=am_ (hbox);replace GW101:=am_ ((by rw [hg];exact(zac qz4_):w.heap.size≤gb101));replace GE101:=am_ ((by rw [hg];exact(zac qz4_):w.heap.size≤gb101));replace HB:=am_ (zaj qz4_ hb);clear hb hbox hg;have hcz7_0:w6.cell? ⟨gb101,0,none⟩=some (.slice A0_0 l0_0.length c0_0):=(zaa BK101.out 0).trans rfl;have hcz7_1:w6.cell? ⟨gb101,1,none⟩=some (.int .i64 a0_1):=(zaa BK101.out 1).trans rfl;have hcz7_2:w6.cell? ⟨gb101,2,none⟩=some (.string a0_2):=(zaa BK101.out 2).trans rfl;have hcz7_3:w6.cell? ⟨gb101,3,none⟩=some (.int .i64 a0_3):=(zaa BK101.out 3).trans rfl;have hfz7_0:=zab BK101.out 0;have hfz7_1:=zab BK101.out 1;have hfz7_2:=zab BK101.out 2;have hfz7_3:=zab BK101.out 3))
  go_ret
  exact⟨qz8_,qz14_⟩
end Go.Proofs.Ytgookagndlfehaa.PT
end
section
namespace Go.Proofs.Ytgookagndlfehaa.PT
open Go.RowKit Go.Proofs.YtgookagndlfehaaW.PrintWords Go.Proofs.YtgookagndlfehaaW.PrintLast Go.Proofs.YtgookagndlfehaaW.PrintMore
attribute [local go_sem] zex zev zfa ze8 zec zed zeu zew   -- for this text's walks alone
set_option linter.unusedVariables false
set_option linter.unusedSimpArgs false
def ze9.f (l0_0:List (S34)) (a0_1:Int) (a0_2:ByteArray) (a0_3:Int):Option ((List (S34)) × Int × ByteArray × Int):=(some (([]:List (S34)):List (S34))).bind fun y103=>(if y103.length + l0_0.length<8796093022208 then(some ((y103++l0_0),a0_1,a0_2,a0_3)) else(none))
theorem ze9.calls (A0_0:Option Addr) (c0_0:Nat) (l0_0:List (S34)) (a0_1:Int) (a0_2:ByteArray) (a0_3:Int) (r1:List (S34)) (r2:Int) (r3:ByteArray) (r4:Int) (w:World) (hr0_0:Kd.C k34 w A0_0 l0_0.length l0_0) (hc0_0:l0_0.length≤c0_0) (h:ze9.f l0_0 a0_1 a0_2 a0_3=some (r1,r2,r3,r4)) :
  Calls Try.prog 76 #[.agg #[.slice A0_0 l0_0.length c0_0,.int .i64 a0_1,.string a0_2,.int .i64 a0_3]] w fun e w'=>∃ v0_:Value,e=.returned (.agg #[v0_,.int .i64 r2,.string r3,.int .i64 r4])∧Kd.R k34 34 w' w.heap.size (fun _=>True) v0_ r1∧Below w.heap.size w w':=by
 have hu27:=Try.underlying27
 have HR0_0:=am_ hr0_0
 have HC0_0:=am_ hc0_0
 clear hr0_0 hc0_0
 have HB:=am_ (Below.refl w.heap.size w)
 have H:((some (([]:List (S34)):List (S34))).bind fun y103=>(if y103.length + l0_0.length<8796093022208 then(some ((y103++l0_0),a0_1,a0_2,a0_3)) else(none)))=some (r1,r2,r3,r4):=h
 clear h
 obtain⟨y103,hy103⟩:∃ y_:List (S34),y_=(([]:List (S34))):=⟨_,rfl⟩
 replace H:(if y103.length + l0_0.length<8796093022208 then(some ((y103++l0_0),a0_1,a0_2,a0_3)) else(none))=some (r1,r2,r3,r4):=by first|(rw [hy103];with_reducible exact H)|(have H2_:=(Option.bind_some _ _).symm.trans H;rw [hy103];with_reducible exact H2_)|(have H2_:=(Option.bind_some _ _).symm.trans H;with_reducible exact H2_)|with_reducible exact H|(rw [hy103];exact H)|exact H
 have Ny103:=am_ hy103
 clear hy103
 by_cases c2:y103.length + l0_0.length<8796093022208
 ·
  rw [if_pos c2] at H
  have LMc2:=am_ c2
  clear c2
  obtain⟨y106,hy106⟩:∃ y_:List (S34),y_=(y103++l0_0):=⟨_,rfl⟩
  replace H:(some (y106,a0_1,a0_2,a0_3))=some (r1,r2,r3,r4):=by first|(rw [hy106];with_reducible exact H)|(have H2_:=(Option.bind_some _ _).symm.trans H;rw [hy106];with_reducible exact H2_)|(have H2_:=(Option.bind_some _ _).symm.trans H;with_reducible exact H2_)|with_reducible exact H|(rw [hy106];exact H)|exact H
  have Ny106:=am_ hy106
  clear hy106
  simp only [Option.some.injEq,Prod.mk.injEq] at H
  obtain⟨rfl,rfl,rfl,rfl⟩:=H
  go_enter Try.func76,Try.ntmps76
  go_wp2_with (first|((with_reducible refine zad (N:=1) rfl ?_);refine zae rfl (N:=1) rfl (cs:=#[.slice A0_0 l0_0.length c0_0,.int .i64 a0_1,.string a0_2,.int .i64 a0_3]) (t:=27) bx_ ?_;intro gb101 hg w3 hbox hb;replace BK101:=am_ (hbox);replace GW101:=am_ ((by rw [hg];exact(zac qz4_):w.heap.size≤gb101));replace GE101:=am_ ((by rw [hg];exact(zac qz4_):w.heap.size≤gb101));replace HB:=am_ (zaj qz4_ hb);clear hb hbox hg)|((with_reducible refine zad (N:=2) rfl ?_);refine zae rfl (N:=2) rfl (cs:=#[.slice none 0 0,.int .i64 0,.string (⟨#[]⟩:ByteArray),.int .i64 0]) (t:=27) bx_ ?_;intro gb102 hg w4 hbox hb;replace BK102:=am_ (hbox);replace GW102:=am_ ((by rw [hg];exact(zac qz14_):w.heap.size≤gb102));replace GE102:=am_ ((by rw [hg];exact(zac qz14_):w.heap.size≤gb102));replace HB:=am_ (zaj qz14_ hb);replace NB101_102:=am_ ((by rw [hg];exact Nat.ne_of_lt (zar (g:=gb101) (o:=.cells #[.slice A0_0 l0_0.length c0_0,.int .i64 a0_1,.string a0_2,.int .i64 a0_3] 27 (0,0)) qz13_):gb101≠gb102));replace NB102_101:=am_ ((by rw [hg];exact Nat.ne_of_gt (zar (g:=gb101) (o:=.cells #[.slice A0_0 l0_0.length c0_0,.int .i64 a0_1,.string a0_2,.int .i64 a0_3] 27 (0,0)) qz13_):gb102≠gb101));replace BK101:=am_ (zak (g:=gb101) (o:=.cells #[.slice A0_0 l0_0.length c0_0,.int .i64 a0_1,.string a0_2,.int .i64 a0_3] 27 (0,0)) qz13_ hb);clear hb hbox hg)|((with_reducible refine zad (N:=3) rfl ?_);refine Kd.R_lit k34 _ 34 ?hg (N:=3) ?hd (xs:=([]:List (S34))) (inner:=[]) (ok:=fun _=>True) (okp:=fun _=>True) ?hr ?hp (fun _ hk=>hk) trivial (Below.refl _ _) (Nat.le_refl _) (by simp) ?_;(case hd=>rfl);(case hg=>rfl);(case hr=>first|(go_simp;done)|(go_simp;rfl));(case hp=>exact(Reps.none _ _));intro v104 w5 ho6 hb hg_ hnew_;clear hg_ hnew_;(first|rw [←Ny103.out] at ho6|(simp only [Int.reduceToNat] at ho6;rw [←Ny103.out] at ho6));replace HO105:=am_ (Kd.zdk ho6 (zac qz16_));replace BK101:=am_ (zak (g:=gb101) (o:=.cells #[.slice A0_0 l0_0.length c0_0,.int .i64 a0_1,.string a0_2,.int .i64 a0_3] 27 (0,0)) qz13_ hb);replace BK102:=am_ (zak (g:=gb102) (o:=.cells #[.slice none 0 0,.int .i64 0,.string (⟨#[]⟩:ByteArray),.int .i64 0] 27 (0,0)) qz15_ hb);replace HB:=am_ (zaj qz16_ hb);clear hb ho6;have hnb7:=NB101_102.out;have hnc7:=NB102_101.out;have hcz8_0:w5.cell? ⟨gb101,0,none⟩=some (.slice A0_0 l0_0.length c0_0):=(zaa BK101.out 0).trans rfl;have hcz8_1:w5.cell? ⟨gb101,1,none⟩=some (.int .i64 a0_1):=(zaa BK101.out 1).trans rfl;have hcz8_2:w5.cell? ⟨gb101,2,none⟩=some (.string a0_2):=(zaa BK101.out 2).trans rfl;have hcz8_3:w5.cell? ⟨gb101,3,none⟩=some (.int .i64 a0_3):=(zaa BK101.out 3).trans rfl;have hfz8_0:=zab BK101.out 0;have hfz8_1:=zab BK101.out 1;have hfz8_2:=zab BK101.out 2;have hfz8_3:=zab BK101.out 3)|((with_reducible refine zdc (b:=.append) (xs:=#[.tmp 3,.tmp 5]) rfl ?_);at_builtin;refine Kd.zfh k34 (w0:=w) w.heap.size rfl (.tmp 3) (.tmp 5) 24 34 (.agg #[(.int .i64 0),(.int .i64 0)]) 16 rfl Try.underlying24 zk5 rfl (by decide) (by omega) v104 y103 l0_0 _ _ _ (fun _=>True) (fun _=>False) rfl rfl ?aO ?aR (fun _ _ h=>h) (fun _ h=>h.elim) ?aF ?aB ?aS ?aL ?_;(case aR=>exact qc_ (Kd.zbs HR0_0.out HB.out));(case aB=>exact qz16_);(case aF=>exact(fun _ _=>trivial));(case aO=>exact(by(with_reducible repeat(first|apply Kd.zb3|apply Kd.zb4|apply Kd.zch));exact HO105.out));(case aS=>exact(zac qz16_));(case aL=>have:=LMc2.out;omega);intro v107 w9 ho hb hg hat;rw [←Ny106.out] at ho;replace BK101:=am_ (zi8 (g:=gb101) (o:=.cells #[.slice A0_0 l0_0.length c0_0,.int .i64 a0_1,.string a0_2,.int .i64 a0_3] 27 (0,0)) qz13_ hg (Kd.R_ne HO105.out BK101.out (by decide)));replace BK102:=am_ (zi8 (g:=gb102) (o:=.cells #[.slice none 0 0,.int .i64 0,.string (⟨#[]⟩:ByteArray),.int .i64 0] 27 (0,0)) qz15_ hg (Kd.R_ne HO105.out BK102.out (by decide)));replace HB:=am_ (hb);replace HO108:=am_ (ho);clear HO105;clear ho hb hg hat;obtain⟨Ao10,co10,eo10⟩:=Kd.zb0 HO108.out;subst eo10;have hcz11_0:w9.cell? ⟨gb101,0,none⟩=some (.slice A0_0 l0_0.length c0_0):=(zaa BK101.out 0).trans rfl;have hcz11_1:w9.cell? ⟨gb101,1,none⟩=some (.int .i64 a0_1):=(zaa BK101.out 1).trans rfl;have hcz11_2:w9.cell? ⟨gb101,2,none⟩=some (.string a0_2):=(zaa BK101.out 2).trans rfl;have hcz11_3:w9.cell? ⟨gb101,3,none⟩=some (.int .i64 a0_3):=(zaa BK101.out 3).trans rfl;have hfz11_0:=zab BK101.out 0;have hfz11_1:=zab BK101.out 1;have hfz11_2:=zab BK101.out 2;have hfz11_3:=zab BK101.out 3;have hcz12_0:w9.cell? ⟨gb102,0,none⟩=some (.slice none 0 0):=(zaa BK102.out 0).trans rfl;have hcz12_1:w9.cell? ⟨gb102,1,none⟩=some (.int .i64 0):=(zaa BK102.out 1).trans rfl;have hcz12_2:w9.cell? ⟨gb102,2,none⟩=some (.string (⟨#[]⟩:ByteArray)):=(zaa BK102.out 2).trans rfl;have hcz12_3:w9.cell? ⟨gb102,3,none⟩=some (.int .i64 0):=(zaa BK102.out 3).trans rfl;have hfz12_0:=zab BK102.out 0;have hfz12_1:=zab BK102.out 1;have hfz12_2:=zab BK102.out 2;have hfz12_3:=zab BK102.out 3))
  refine bodyPost_ret (results_cell_row rfl _ _ gb102 27 #[.slice Ao10 y106.length co10,.int .i64 a0_1,.string a0_2,.int .i64 a0_3] (0,0) _ rfl (by(with_reducible repeat(first|refine zah ?_ _|refine zaf ?_|refine zai ?_ _));refine za9 (cs:=#[.slice Ao10 y106.length co10,.int .i64 a0_1,.string a0_2,.int .i64 0]) ?_ 3 _ rfl;(with_reducible repeat(first|refine zah ?_ _|refine zaf ?_|refine zai ?_ _));refine za9 (cs:=#[.slice Ao10 y106.length co10,.int .i64 a0_1,.string (⟨#[]⟩:ByteArray),.int .i64 0]) ?_ 2 _ rfl;(with_reducible repeat(first|refine zah ?_ _|refine zaf ?_|refine zai ?_ _));refine za9 (cs:=#[.slice Ao10 y106.length co10,.int .i64 0,.string (⟨#[]⟩:ByteArray),.int .i64 0]) ?_ 1 _ rfl;(with_reducible repeat(first|refine zah ?_ _|refine zaf ?_|refine zai ?_ _));refine za9 (cs:=#[.slice none 0 0,.int .i64 0,.string (⟨#[]⟩:ByteArray),.int .i64 0]) ?_ 0 _ rfl;(with_reducible repeat(first|refine zah ?_ _|refine zaf ?_|refine zai ?_ _));refine zbc ?_ NB102_101.out _;(with_reducible repeat(first|refine zah ?_ _|refine zaf ?_|refine zai ?_ _));exact BK102.out) Try.underlying27 rfl (by kernel_rfl)) rfl ?_
  exact⟨_,by first|rfl|(simp [zc3,zc2] <;> rfl)|(simp [*,zc3,zc2] <;> rfl),by(with_reducible repeat(first|apply Kd.zb3|apply Kd.zb4|apply Kd.zch));exact Kd.zbi (Kd.R_far (p:=⟨gb102,3,none⟩) (Kd.R_far (p:=⟨gb102,2,none⟩) (Kd.R_far (p:=⟨gb102,1,none⟩) (Kd.R_far (p:=⟨gb102,0,none⟩) (Kd.R_far (p:=⟨gb101,0,none⟩) (Kd.zep (Kd.zep HO108.out BK101.out (by decide)) BK102.out (by decide)) (fun _ hk=>hk.1.2) (.slice Ao10 y106.length co10)) (fun _ hk=>hk.2) (.slice Ao10 y106.length co10)) (fun _ hk=>hk.2) (.int .i64 a0_1)) (fun _ hk=>hk.2) (.string a0_2)) (fun _ hk=>hk.2) (.int .i64 a0_3)) (fun _ hk=>trivial),by repeat(first|(with_reducible first|exact HB.out|apply za0|apply zay|apply zat|refine za4 ?_ GE101.out|refine za4 ?_ GE102.out)|exact HB.out)⟩
 ·
  rw [if_neg c2] at H
  exact absurd H (by simp)
end Go.Proofs.Ytgookagndlfehaa.PT
end
section
namespace Go.Proofs.Ytgookagndlfehaa.PT
open Go Go.RowKit Go.Proofs.YtgookagndlfehaaW.PrintWords Go.Proofs.YtgookagndlfehaaW.PrintLast Go.Proofs.YtgookagndlfehaaW.PrintMore
set_option linter.unusedVariables false
set_option linter.unusedSimpArgs false
theorem Inv.two {w0 w w1:World} {P:Nat→Prop} {F:World→Prop} {L:List Grp} {a b c:Grp} (h:Inv w0 P w (c::L) F) (hA:Agr w w1 c.S) (ha:∀ k,a.S k→(c.S k∨w.heap.size≤k)∧k<w1.heap.size) (hb:∀ k,b.S k→(c.S k∨w.heap.size≤k)∧k<w1.heap.size) (hab:∀ k,a.S k→¬b.S k)
  (hao:∀ w',(∀ k,a.S k→w'.heap[k]?=w1.heap[k]?)→a.A w') (hbo:∀ w',(∀ k,b.S k→w'.heap[k]?=w1.heap[k]?)→b.A w'):Inv w0 P w1 (a::b::L) F:=by
 have h1:=h.step hA ⟨fun k=>a.S k∨b.S k,fun _=>True⟩ (fun k hk=>hk.elim (ha k) (hb k)) (fun _ _=>trivial)
 have hd:=List.pairwise_cons.1 h1.dis
 refine⟨h1.agr,fun x hx k hk=>?_,fun x hx k hk=>?_,fun x hx w' hw=>?_,List.Pairwise.cons (fun x hx k hk hk2=>?_) (List.Pairwise.cons (fun x hx k hk hk2=>hd.1 x hx k (.inr hk) hk2) hd.2),fun w' hw=>h1.facts w' (hw.mono ?_)⟩
 ·
  rcases List.mem_cons.1 hx with rfl|hx
  ·
   exact h1.lt _ List.mem_cons_self k (.inl hk)
  ·
   rcases List.mem_cons.1 hx with rfl|hx
   ·
    exact h1.lt _ List.mem_cons_self k (.inr hk)
   ·
    exact h1.lt x (List.mem_cons_of_mem _ hx) k hk
 ·
  rcases List.mem_cons.1 hx with rfl|hx
  ·
   exact h1.new _ List.mem_cons_self k (.inl hk)
  ·
   rcases List.mem_cons.1 hx with rfl|hx
   ·
    exact h1.new _ List.mem_cons_self k (.inr hk)
   ·
    exact h1.new x (List.mem_cons_of_mem _ hx) k hk
 ·
  rcases List.mem_cons.1 hx with rfl|hx
  ·
   exact hao w' hw
  ·
   rcases List.mem_cons.1 hx with rfl|hx
   ·
    exact hbo w' hw
   ·
    exact h1.own x (List.mem_cons_of_mem _ hx) w' hw
 ·
  rcases List.mem_cons.1 hx with rfl|hx
  ·
   exact hab k hk hk2
  ·
   exact hd.1 x hx k (.inl hk) hk2
 ·
  rintro k ⟨x,hx,hk⟩
  rcases List.mem_cons.1 hx with rfl|hx
  ·
   exact⟨_,List.mem_cons_self,.inl hk⟩
  ·
   rcases List.mem_cons.1 hx with rfl|hx
   ·
    exact⟨_,List.mem_cons_self,.inr hk⟩
   ·
    exact⟨x,List.mem_cons_of_mem _ hx,hk⟩
theorem Inv.zin {α β:Type} {d:Kd α} {d2:Kd β} {e e2 b b2 b3:Nat} {w0 w w1:World} {P:Nat→Prop} {F:World→Prop} {L:List Grp} {c:Grp} {vp v1:Value} {ps:List β} {ys:List α} {okp oks:Nat→Prop} (hE:d.E=[]) (hE2:d2.E=[]) (h:Inv w0 P w (c::L) F) (hA:Agr w w1 c.S)
  (hRp:d2.R e2 w1 b2 okp vp ps) (hb2:w.heap.size≤b2) (hb3:b3≤b2) (hRs:d.R e w1 b oks v1 ys) (hoks:∀ k,oks k→c.S k∨w.heap.size≤k) (hne:∀ k,oks k→some k≠vp.ownBlock) :
  Inv w0 P w1 (row d2 e2 b3 vp ps (fun k=>some k=vp.ownBlock)::row d e b v1 ys (fun k=>some k=v1.ownBlock)::L) F:=
 h.two hA (fun k hk=>⟨.inr (Nat.le_trans hb2 (Kd.zh6 hRp k hk.symm)),Kd.R_lt hRp k hk.symm⟩) (fun k hk=>⟨hoks k (hRs.1 k hk.symm),Kd.R_lt hRs k hk.symm⟩) (fun k hk hk2=>hne k (hRs.1 k hk2.symm) hk)
  (fun w' hw=>Kd.zft (Kd.zdk (Kd.zfo hE2 hRp) hb3) (fun k hk _=>hw k hk)) (fun w' hw=>Kd.zft (Kd.zfo hE hRs) (fun k hk _=>hw k hk))
def zbq.f (k:Nat) (kind c0 c1:Int) (l2:List (List S34)) (vars:Int) (u0:List S34) (u1:Int) (u2:ByteArray) (u3:Int):Option (List S34 × Int × Int × List S34 × Int × ByteArray × Int × Int):=
 if (l2.length:Int)>4096 then some ([],0,0,[],0,(⟨#[]⟩:ByteArray),0,2) else(za8.f k l2).bind fun t=>if t=0 then((zdd.f c0 c1).bind fun b1=>if b1=false then some ([],0,0,[],0,(⟨#[]⟩:ByteArray),0,1) else(zdb.f k u0 u1 u2 u3).bind fun b2=>if b2=false then some ([],0,0,[],0,(⟨#[]⟩:ByteArray),0,1) else
 (zdi.f kind).bind fun b3=>if b3=false then some ([],0,0,[],0,(⟨#[]⟩:ByteArray),0,4) else(zb2.f vars 0 6).bind fun b4=>if b4=false then some ([],0,0,[],0,(⟨#[]⟩:ByteArray),0,4) else(zdy.f u0 u1 u2 u3 6).bind fun b5=>if b5=false then
  ((zco.f k kind c0 c1 l2 vars u0 u1 u2 u3).bind fun v=>if v.2.2.2.1=0 then((ze9.f v.2.2.2.2.1 v.2.2.2.2.2.1 v.2.2.2.2.2.2.1 v.2.2.2.2.2.2.2).bind fun o=>some (v.1,v.2.1,v.2.2.1,o.1,o.2.1,o.2.2.1,o.2.2.2,0)) else some ([],0,0,[],0,(⟨#[]⟩:ByteArray),0,v.2.2.2.1)) else some ([],0,0,[],0,(⟨#[]⟩:ByteArray),0,6)) else some ([],0,0,[],0,(⟨#[]⟩:ByteArray),0,t)
theorem zbq.calls (k:Nat) (kind c0 c1:Int) (A2:Option Addr) (cap2:Nat) (l2:List (List S34)) (vars:Int) (P0:Nat→Prop) (us:Value) (u0:List S34) (u1:Int) (u2:ByteArray) (u3:Int) (r1:List S34) (r2 r3:Int) (r4:List S34) (r5:Int) (r6:ByteArray) (r7 r8:Int) (wb w:World) (hB:Below wb.heap.size wb w) (ho:Kd.R k34 34 w wb.heap.size P0 us u0) (hr2:∀ W_,Agr w W_ (fun k=>some k=us.ownBlock)→Kd.C (Kd.slice 34 k34) W_ A2 l2.length l2) (hc2:l2.length≤cap2) (h:zbq.f k kind c0 c1 l2 vars u0 u1 u2 u3=some (r1,r2,r3,r4,r5,r6,r7,r8)) :
  Calls Try.prog 26 #[.int .i64 kind,.agg #[.int .i64 c0,.int .i64 c1],.slice A2 l2.length cap2,.int .i64 vars,.agg #[us,.int .i64 u1,.string u2,.int .i64 u3]] w fun e w'=>∃ v0_ v3_:Value,e=.returned (.tuple #[v0_,.agg #[.int .i64 r2,.int .i64 r3],.agg #[v3_,.int .i64 r5,.string r6,.int .i64 r7],.int .i64 r8])∧Kd.R k34 34 w' w.heap.size (fun k_=>some k_≠v3_.ownBlock) v0_ r1∧Kd.R k34 34 w' w.heap.size (fun k_=>some k_≠v0_.ownBlock) v3_ r4∧Below wb.heap.size wb w'∧Kept w w' (fun k=>some k=us.ownBlock):=by
 have hu34:=Try.underlying34
 have hu27:=Try.underlying27
 have HC2:=am_ hc2
 obtain⟨Au,cu,eu⟩:=Kd.zb0 ho
 subst eu
 have HB:=am_ hB
 have HPW:=am_ (show ∀ k,some k=(Value.slice Au u0.length cu).ownBlock→wb.heap.size≤k from fun k hk=>Kd.zh6 ho k hk.symm)
 have HPE:=am_ (fun(k:Nat) (hk:some k=(Value.slice Au u0.length cu).ownBlock)=>hk)
 have HI:=am_ (Inv.startR (d:=k34) rfl ho (fun w2=>Kd.C (Kd.slice 34 k34) w2 A2 l2.length l2) hr2)
 clear hB ho hr2 hc2
 unfold zbq.f at h
 by_cases cx4:(l2.length:Int)>4096
 ·
  rw [if_pos cx4] at h
  have f0:decide ((l2.length:Int)>4096)=true:=decide_eq_true cx4
  have f0b:decide (4096<(l2.length:Int))=true:=decide_eq_true cx4
  have f0c:decide (4096<l2.length)=true:=decide_eq_true (by omega)
  clear cx4
  simp only [Option.some.injEq,Prod.mk.injEq] at h
  obtain⟨rfl,rfl,rfl,rfl,rfl,rfl,rfl,rfl⟩:=h
  go_enter Try.func26,Try.ntmps26
  go_wp2_with (first|((with_reducible refine zad (N:=6) rfl ?_);refine zae rfl (N:=6) rfl (cs:=#[.int .i64 c0,.int .i64 c1]) (t:=34) bx_ ?_;intro g6 hg w6_ hbox hb;replace HI:=am_ ((HI.out).box hg hbox hb);clear hb hbox hg)|((with_reducible refine zad (N:=9) rfl ?_);refine zae rfl (N:=9) rfl (cs:=#[.slice Au u0.length cu,.int .i64 u1,.string u2,.int .i64 u3]) (t:=27) bx_ ?_;intro g9 hg w9_ hbox hb;replace HI:=am_ ((HI.out).box hg hbox hb);clear hb hbox hg)|((with_reducible refine zad (N:=11) rfl ?_);refine zae rfl (N:=11) rfl (cs:=#[.int .i64 0,.int .i64 0]) (t:=34) bx_ ?_;intro g11 hg w11_ hbox hb;replace HI:=am_ ((HI.out).box hg hbox hb);clear hb hbox hg)|((with_reducible refine zad (N:=12) rfl ?_);refine zae rfl (N:=12) rfl (cs:=#[.slice none 0 0,.int .i64 0,.string (⟨#[]⟩:ByteArray),.int .i64 0]) (t:=27) bx_ ?_;intro g12 hg w12_ hbox hb;replace HI:=am_ ((HI.out).box hg hbox hb);clear hb hbox hg)|((with_reducible refine zad (N:=21) rfl ?_);refine Kd.R_lit k34 (w0:=_) _ 34 ?hg (N:=21) ?hd (xs:=([]:List S34)) (inner:=[]) (ok:=fun _=>True) (okp:=fun _=>True) ?hr ?hp (fun _ hk=>hk) trivial (Below.refl _ _) (Nat.le_refl _) (by simp) ?_;(case hd=>rfl);(case hg=>rfl);(case hr=>first|(go_simp;done)|(go_simp;rfl));(case hp=>exact(Reps.none _ _));intro ve we hR hb hg hat;replace HI:=am_ ((HI.out).zdj hb hR);clear hR hb hg hat)|((with_reducible refine zaq (p:=11) (v:=(.tmp 22)) (t:=34) rfl ?_);go_must (refine wpList_store_row rfl 34 _ _ rfl g11 (#[.int .i64 0,.int .i64 0]) rfl qz0_ 34 (#[.int .i64 0,.int .i64 0]) (HI.out.get 2 rfl) (by kernel_rfl) rfl qz12_ ?_;replace HI:=am_ ((HI.out.front 2 rfl).put0 (#[.int .i64 0,.int .i64 0]));generalize World.setRow _ g11 (#[.int .i64 0,.int .i64 0])=wf at HI ⊢))|((with_reducible refine zaq (p:=12) (v:=(.tmp 23)) (t:=27) rfl ?_);go_must (refine wpList_store_row rfl 27 _ _ rfl g12 (#[.slice none 0 0,.int .i64 0,.string (⟨#[]⟩:ByteArray),.int .i64 0]) rfl qz0_ 27 (#[.slice none 0 0,.int .i64 0,.string (⟨#[]⟩:ByteArray),.int .i64 0]) (HI.out.get 2 rfl) (by kernel_rfl) rfl qz12_ ?_;replace HI:=am_ ((HI.out.front 2 rfl).put0 (#[.slice none 0 0,.int .i64 0,.string (⟨#[]⟩:ByteArray),.int .i64 0]));generalize World.setRow _ g12 (#[.slice none 0 0,.int .i64 0,.string (⟨#[]⟩:ByteArray),.int .i64 0])=wg at HI ⊢)))
  refine bodyPost_ret (zbp rfl _ _ g11 g12 34 27 #[.int .i64 0,.int .i64 0] #[.slice none 0 0,.int .i64 0,.string (⟨#[]⟩:ByteArray),.int .i64 0] (0,0) (0,0) _ _ rfl (HI.out.get 1 rfl) hu34 rfl (by kernel_rfl) rfl (HI.out.get 0 rfl) hu27 rfl (by kernel_rfl)) rfl ?_
  exact⟨_,_,rfl,Kd.zbi (HI.out.get 2 rfl) (fun k hk e=>by simp [Value.ownBlock] at e),Kd.R_nil _ _ _ _ _,HI.out.zef HB.out HPW.out,⟨HI.out.agr.size,HI.out.agr.block⟩⟩
 ·
  rw [if_neg cx4] at h
  have f0:decide ((l2.length:Int)>4096)=false:=decide_eq_false cx4
  have f0b:decide (4096<(l2.length:Int))=false:=decide_eq_false cx4
  have f0c:decide (4096<l2.length)=false:=decide_eq_false (by omega)
  clear cx4
  replace h:=Option.bind_eq_some_iff.1 h
  obtain⟨t,hrn_,h⟩:=h
  have HRN:=am_ hrn_
  clear hrn_
  by_cases ct:t=0
  ·
   rw [if_pos ct] at h
   subst ct
   replace h:=Option.bind_eq_some_iff.1 h
   obtain⟨b1,hex_,h⟩:=h
   have HEX:=am_ hex_
   clear hex_
   cases b1 with
   | false=>
    rw [if_pos rfl] at h
    simp only [Option.some.injEq,Prod.mk.injEq] at h
    obtain⟨rfl,rfl,rfl,rfl,rfl,rfl,rfl,rfl⟩:=h
    go_enter Try.func26,Try.ntmps26
    go_wp2_with (first|((with_reducible refine zad (N:=6) rfl ?_);refine zae rfl (N:=6) rfl (cs:=#[.int .i64 c0,.int .i64 c1]) (t:=34) bx_ ?_;intro g6 hg w6_ hbox hb;replace HI:=am_ ((HI.out).box hg hbox hb);clear hb hbox hg)|((with_reducible refine zad (N:=9) rfl ?_);refine zae rfl (N:=9) rfl (cs:=#[.slice Au u0.length cu,.int .i64 u1,.string u2,.int .i64 u3]) (t:=27) bx_ ?_;intro g9 hg w9_ hbox hb;replace HI:=am_ ((HI.out).box hg hbox hb);clear hb hbox hg)|((with_reducible refine zad (N:=11) rfl ?_);refine zae rfl (N:=11) rfl (cs:=#[.int .i64 0,.int .i64 0]) (t:=34) bx_ ?_;intro g11 hg w11_ hbox hb;replace HI:=am_ ((HI.out).box hg hbox hb);clear hb hbox hg)|((with_reducible refine zad (N:=12) rfl ?_);refine zae rfl (N:=12) rfl (cs:=#[.slice none 0 0,.int .i64 0,.string (⟨#[]⟩:ByteArray),.int .i64 0]) (t:=27) bx_ ?_;intro g12 hg w12_ hbox hb;replace HI:=am_ ((HI.out).box hg hbox hb);clear hb hbox hg)|(go_at_call 70;(refine(za8.calls k A2 cap2 l2 _ _ HI.out.now HC2.out HRN.out).mono ?_);rintro e w25 ⟨rfl,hb⟩;replace HI:=am_ (HI.out.grow hb);clear hb;have h60:World.cell? _ ⟨g6,0,none⟩=some (.int .i64 c0):=(zaa (HI.out.get 3 rfl) 0).trans rfl;have h61:World.cell? _ ⟨g6,1,none⟩=some (.int .i64 c1):=(zaa (HI.out.get 3 rfl) 1).trans rfl)|(go_at_call 71;(refine(zdd.calls c0 c1 _ _ HEX.out).mono ?_);rintro e w30 ⟨rfl,hb⟩;replace HI:=am_ (HI.out.grow hb);clear hb;have h90:World.cell? _ ⟨g9,0,none⟩=some (.slice Au u0.length cu):=(zaa (HI.out.get 2 rfl) 0).trans rfl;have h91:World.cell? _ ⟨g9,1,none⟩=some (.int .i64 u1):=(zaa (HI.out.get 2 rfl) 1).trans rfl;have h92:World.cell? _ ⟨g9,2,none⟩=some (.string u2):=(zaa (HI.out.get 2 rfl) 2).trans rfl;have h93:World.cell? _ ⟨g9,3,none⟩=some (.int .i64 u3):=(zaa (HI.out.get 2 rfl) 3).trans rfl)|((with_reducible refine zad (N:=58) rfl ?_);refine Kd.R_lit k34 (w0:=_) _ 34 ?hg (N:=58) ?hd (xs:=([]:List S34)) (inner:=[]) (ok:=fun _=>True) (okp:=fun _=>True) ?hr ?hp (fun _ hk=>hk) trivial (Below.refl _ _) (Nat.le_refl _) (by simp) ?_;(case hd=>rfl);(case hg=>rfl);(case hr=>first|(go_simp;done)|(go_simp;rfl));(case hp=>exact(Reps.none _ _));intro ve we hR hb hg hat;replace HI:=am_ ((HI.out).zdj hb hR);clear hR hb hg hat)|((with_reducible refine zaq (p:=11) (v:=(.tmp 59)) (t:=34) rfl ?_);go_must (refine wpList_store_row rfl 34 _ _ rfl g11 (#[.int .i64 0,.int .i64 0]) rfl qz0_ 34 (#[.int .i64 0,.int .i64 0]) (HI.out.get 2 rfl) (by kernel_rfl) rfl qz12_ ?_;replace HI:=am_ ((HI.out.front 2 rfl).put0 (#[.int .i64 0,.int .i64 0]));generalize World.setRow _ g11 (#[.int .i64 0,.int .i64 0])=wf at HI ⊢))|((with_reducible refine zaq (p:=12) (v:=(.tmp 60)) (t:=27) rfl ?_);go_must (refine wpList_store_row rfl 27 _ _ rfl g12 (#[.slice none 0 0,.int .i64 0,.string (⟨#[]⟩:ByteArray),.int .i64 0]) rfl qz0_ 27 (#[.slice none 0 0,.int .i64 0,.string (⟨#[]⟩:ByteArray),.int .i64 0]) (HI.out.get 2 rfl) (by kernel_rfl) rfl qz12_ ?_;replace HI:=am_ ((HI.out.front 2 rfl).put0 (#[.slice none 0 0,.int .i64 0,.string (⟨#[]⟩:ByteArray),.int .i64 0]));generalize World.setRow _ g12 (#[.slice none 0 0,.int .i64 0,.string (⟨#[]⟩:ByteArray),.int .i64 0])=wg at HI ⊢)))
    refine bodyPost_ret (zbp rfl _ _ g11 g12 34 27 #[.int .i64 0,.int .i64 0] #[.slice none 0 0,.int .i64 0,.string (⟨#[]⟩:ByteArray),.int .i64 0] (0,0) (0,0) _ _ rfl (HI.out.get 1 rfl) hu34 rfl (by kernel_rfl) rfl (HI.out.get 0 rfl) hu27 rfl (by kernel_rfl)) rfl ?_
    exact⟨_,_,rfl,Kd.zbi (HI.out.get 2 rfl) (fun k hk e=>by simp [Value.ownBlock] at e),Kd.R_nil _ _ _ _ _,HI.out.zef HB.out HPW.out,⟨HI.out.agr.size,HI.out.agr.block⟩⟩
   | true=>
    rw [if_neg (by decide)] at h
    replace h:=Option.bind_eq_some_iff.1 h
    obtain⟨b2,hso_,h⟩:=h
    have HSO:=am_ hso_
    clear hso_
    cases b2 with
    | false=>
     rw [if_pos rfl] at h
     simp only [Option.some.injEq,Prod.mk.injEq] at h
     obtain⟨rfl,rfl,rfl,rfl,rfl,rfl,rfl,rfl⟩:=h
     go_enter Try.func26,Try.ntmps26
     go_wp2_with (first|((with_reducible refine zad (N:=6) rfl ?_);refine zae rfl (N:=6) rfl (cs:=#[.int .i64 c0,.int .i64 c1]) (t:=34) bx_ ?_;intro g6 hg w6_ hbox hb;replace HI:=am_ ((HI.out).box hg hbox hb);clear hb hbox hg)|((with_reducible refine zad (N:=9) rfl ?_);refine zae rfl (N:=9) rfl (cs:=#[.slice Au u0.length cu,.int .i64 u1,.string u2,.int .i64 u3]) (t:=27) bx_ ?_;intro g9 hg w9_ hbox hb;replace HI:=am_ ((HI.out).box hg hbox hb);clear hb hbox hg)|((with_reducible refine zad (N:=11) rfl ?_);refine zae rfl (N:=11) rfl (cs:=#[.int .i64 0,.int .i64 0]) (t:=34) bx_ ?_;intro g11 hg w11_ hbox hb;replace HI:=am_ ((HI.out).box hg hbox hb);clear hb hbox hg)|((with_reducible refine zad (N:=12) rfl ?_);refine zae rfl (N:=12) rfl (cs:=#[.slice none 0 0,.int .i64 0,.string (⟨#[]⟩:ByteArray),.int .i64 0]) (t:=27) bx_ ?_;intro g12 hg w12_ hbox hb;replace HI:=am_ ((HI.out).box hg hbox hb);clear hb hbox hg)|(go_at_call 70;(refine(za8.calls k A2 cap2 l2 _ _ HI.out.now HC2.out HRN.out).mono ?_);rintro e w25 ⟨rfl,hb⟩;replace HI:=am_ (HI.out.grow hb);clear hb;have h60:World.cell? _ ⟨g6,0,none⟩=some (.int .i64 c0):=(zaa (HI.out.get 3 rfl) 0).trans rfl;have h61:World.cell? _ ⟨g6,1,none⟩=some (.int .i64 c1):=(zaa (HI.out.get 3 rfl) 1).trans rfl)|(go_at_call 71;(refine(zdd.calls c0 c1 _ _ HEX.out).mono ?_);rintro e w30 ⟨rfl,hb⟩;replace HI:=am_ (HI.out.grow hb);clear hb;have h90:World.cell? _ ⟨g9,0,none⟩=some (.slice Au u0.length cu):=(zaa (HI.out.get 2 rfl) 0).trans rfl;have h91:World.cell? _ ⟨g9,1,none⟩=some (.int .i64 u1):=(zaa (HI.out.get 2 rfl) 1).trans rfl;have h92:World.cell? _ ⟨g9,2,none⟩=some (.string u2):=(zaa (HI.out.get 2 rfl) 2).trans rfl;have h93:World.cell? _ ⟨g9,3,none⟩=some (.int .i64 u3):=(zaa (HI.out.get 2 rfl) 3).trans rfl)|(go_at_call 72;(refine(zdb.calls k Au cu u0 u1 u2 u3 _ _ (Kd.R_reads' (HI.out.get 4 rfl)).2.2 (Kd.R_reads' (HI.out.get 4 rfl)).2.1 HSO.out).mono ?_);rintro e w34 ⟨rfl,hb⟩;replace HI:=am_ (HI.out.grow hb);clear hb)|((with_reducible refine zad (N:=58) rfl ?_);refine Kd.R_lit k34 (w0:=_) _ 34 ?hg (N:=58) ?hd (xs:=([]:List S34)) (inner:=[]) (ok:=fun _=>True) (okp:=fun _=>True) ?hr ?hp (fun _ hk=>hk) trivial (Below.refl _ _) (Nat.le_refl _) (by simp) ?_;(case hd=>rfl);(case hg=>rfl);(case hr=>first|(go_simp;done)|(go_simp;rfl));(case hp=>exact(Reps.none _ _));intro ve we hR hb hg hat;replace HI:=am_ ((HI.out).zdj hb hR);clear hR hb hg hat)|((with_reducible refine zaq (p:=11) (v:=(.tmp 59)) (t:=34) rfl ?_);go_must (refine wpList_store_row rfl 34 _ _ rfl g11 (#[.int .i64 0,.int .i64 0]) rfl qz0_ 34 (#[.int .i64 0,.int .i64 0]) (HI.out.get 2 rfl) (by kernel_rfl) rfl qz12_ ?_;replace HI:=am_ ((HI.out.front 2 rfl).put0 (#[.int .i64 0,.int .i64 0]));generalize World.setRow _ g11 (#[.int .i64 0,.int .i64 0])=wf at HI ⊢))|((with_reducible refine zaq (p:=12) (v:=(.tmp 60)) (t:=27) rfl ?_);go_must (refine wpList_store_row rfl 27 _ _ rfl g12 (#[.slice none 0 0,.int .i64 0,.string (⟨#[]⟩:ByteArray),.int .i64 0]) rfl qz0_ 27 (#[.slice none 0 0,.int .i64 0,.string (⟨#[]⟩:ByteArray),.int .i64 0]) (HI.out.get 2 rfl) (by kernel_rfl) rfl qz12_ ?_;replace HI:=am_ ((HI.out.front 2 rfl).put0 (#[.slice none 0 0,.int .i64 0,.string (⟨#[]⟩:ByteArray),.int .i64 0]));generalize World.setRow _ g12 (#[.slice none 0 0,.int .i64 0,.string (⟨#[]⟩:ByteArray),.int .i64 0])=wg at HI ⊢)))
     refine bodyPost_ret (zbp rfl _ _ g11 g12 34 27 #[.int .i64 0,.int .i64 0] #[.slice none 0 0,.int .i64 0,.string (⟨#[]⟩:ByteArray),.int .i64 0] (0,0) (0,0) _ _ rfl (HI.out.get 1 rfl) hu34 rfl (by kernel_rfl) rfl (HI.out.get 0 rfl) hu27 rfl (by kernel_rfl)) rfl ?_
     exact⟨_,_,rfl,Kd.zbi (HI.out.get 2 rfl) (fun k hk e=>by simp [Value.ownBlock] at e),Kd.R_nil _ _ _ _ _,HI.out.zef HB.out HPW.out,⟨HI.out.agr.size,HI.out.agr.block⟩⟩
    | true=>
     rw [if_neg (by decide)] at h
     replace h:=Option.bind_eq_some_iff.1 h
     obtain⟨b3,hkn_,h⟩:=h
     have HKN:=am_ hkn_
     clear hkn_
     cases b3 with
     | false=>
      rw [if_pos rfl] at h
      simp only [Option.some.injEq,Prod.mk.injEq] at h
      obtain⟨rfl,rfl,rfl,rfl,rfl,rfl,rfl,rfl⟩:=h
      go_enter Try.func26,Try.ntmps26
      go_wp2_with (first|((with_reducible refine zad (N:=6) rfl ?_);refine zae rfl (N:=6) rfl (cs:=#[.int .i64 c0,.int .i64 c1]) (t:=34) bx_ ?_;intro g6 hg w6_ hbox hb;replace HI:=am_ ((HI.out).box hg hbox hb);clear hb hbox hg)|((with_reducible refine zad (N:=9) rfl ?_);refine zae rfl (N:=9) rfl (cs:=#[.slice Au u0.length cu,.int .i64 u1,.string u2,.int .i64 u3]) (t:=27) bx_ ?_;intro g9 hg w9_ hbox hb;replace HI:=am_ ((HI.out).box hg hbox hb);clear hb hbox hg)|((with_reducible refine zad (N:=11) rfl ?_);refine zae rfl (N:=11) rfl (cs:=#[.int .i64 0,.int .i64 0]) (t:=34) bx_ ?_;intro g11 hg w11_ hbox hb;replace HI:=am_ ((HI.out).box hg hbox hb);clear hb hbox hg)|((with_reducible refine zad (N:=12) rfl ?_);refine zae rfl (N:=12) rfl (cs:=#[.slice none 0 0,.int .i64 0,.string (⟨#[]⟩:ByteArray),.int .i64 0]) (t:=27) bx_ ?_;intro g12 hg w12_ hbox hb;replace HI:=am_ ((HI.out).box hg hbox hb);clear hb hbox hg)|(go_at_call 70;(refine(za8.calls k A2 cap2 l2 _ _ HI.out.now HC2.out HRN.out).mono ?_);rintro e w25 ⟨rfl,hb⟩;replace HI:=am_ (HI.out.grow hb);clear hb;have h60:World.cell? _ ⟨g6,0,none⟩=some (.int .i64 c0):=(zaa (HI.out.get 3 rfl) 0).trans rfl;have h61:World.cell? _ ⟨g6,1,none⟩=some (.int .i64 c1):=(zaa (HI.out.get 3 rfl) 1).trans rfl)|(go_at_call 71;(refine(zdd.calls c0 c1 _ _ HEX.out).mono ?_);rintro e w30 ⟨rfl,hb⟩;replace HI:=am_ (HI.out.grow hb);clear hb;have h90:World.cell? _ ⟨g9,0,none⟩=some (.slice Au u0.length cu):=(zaa (HI.out.get 2 rfl) 0).trans rfl;have h91:World.cell? _ ⟨g9,1,none⟩=some (.int .i64 u1):=(zaa (HI.out.get 2 rfl) 1).trans rfl;have h92:World.cell? _ ⟨g9,2,none⟩=some (.string u2):=(zaa (HI.out.get 2 rfl) 2).trans rfl;have h93:World.cell? _ ⟨g9,3,none⟩=some (.int .i64 u3):=(zaa (HI.out.get 2 rfl) 3).trans rfl)|(go_at_call 72;(refine(zdb.calls k Au cu u0 u1 u2 u3 _ _ (Kd.R_reads' (HI.out.get 4 rfl)).2.2 (Kd.R_reads' (HI.out.get 4 rfl)).2.1 HSO.out).mono ?_);rintro e w34 ⟨rfl,hb⟩;replace HI:=am_ (HI.out.grow hb);clear hb)|(go_at_call 73;(refine(zdi.calls kind _ _ HKN.out).mono ?_);rintro e w42 ⟨rfl,⟨n42,rfl⟩⟩;replace HI:=am_ (HI.out.drewN n42);generalize World.drewN _ n42=wn42 at HI ⊢)|((with_reducible refine zad (N:=58) rfl ?_);refine Kd.R_lit k34 (w0:=_) _ 34 ?hg (N:=58) ?hd (xs:=([]:List S34)) (inner:=[]) (ok:=fun _=>True) (okp:=fun _=>True) ?hr ?hp (fun _ hk=>hk) trivial (Below.refl _ _) (Nat.le_refl _) (by simp) ?_;(case hd=>rfl);(case hg=>rfl);(case hr=>first|(go_simp;done)|(go_simp;rfl));(case hp=>exact(Reps.none _ _));intro ve we hR hb hg hat;replace HI:=am_ ((HI.out).zdj hb hR);clear hR hb hg hat)|((with_reducible refine zaq (p:=11) (v:=(.tmp 59)) (t:=34) rfl ?_);go_must (refine wpList_store_row rfl 34 _ _ rfl g11 (#[.int .i64 0,.int .i64 0]) rfl qz0_ 34 (#[.int .i64 0,.int .i64 0]) (HI.out.get 2 rfl) (by kernel_rfl) rfl qz12_ ?_;replace HI:=am_ ((HI.out.front 2 rfl).put0 (#[.int .i64 0,.int .i64 0]));generalize World.setRow _ g11 (#[.int .i64 0,.int .i64 0])=wf at HI ⊢))|((with_reducible refine zaq (p:=12) (v:=(.tmp 60)) (t:=27) rfl ?_);go_must (refine wpList_store_row rfl 27 _ _ rfl g12 (#[.slice none 0 0,.int .i64 0,.string (⟨#[]⟩:ByteArray),.int .i64 0]) rfl qz0_ 27 (#[.slice none 0 0,.int .i64 0,.string (⟨#[]⟩:ByteArray),.int .i64 0]) (HI.out.get 2 rfl) (by kernel_rfl) rfl qz12_ ?_;replace HI:=am_ ((HI.out.front 2 rfl).put0 (#[.slice none 0 0,.int .i64 0,.string (⟨#[]⟩:ByteArray),.int .i64 0]));generalize World.setRow _ g12 (#[.slice none 0 0,.int .i64 0,.string (⟨#[]⟩:ByteArray),.int .i64 0])=wg at HI ⊢)))
      refine bodyPost_ret (zbp rfl _ _ g11 g12 34 27 #[.int .i64 0,.int .i64 0] #[.slice none 0 0,.int .i64 0,.string (⟨#[]⟩:ByteArray),.int .i64 0] (0,0) (0,0) _ _ rfl (HI.out.get 1 rfl) hu34 rfl (by kernel_rfl) rfl (HI.out.get 0 rfl) hu27 rfl (by kernel_rfl)) rfl ?_
      exact⟨_,_,rfl,Kd.zbi (HI.out.get 2 rfl) (fun k hk e=>by simp [Value.ownBlock] at e),Kd.R_nil _ _ _ _ _,HI.out.zef HB.out HPW.out,⟨HI.out.agr.size,HI.out.agr.block⟩⟩
     | true=>
      rw [if_neg (by decide)] at h
      replace h:=Option.bind_eq_some_iff.1 h
      obtain⟨b4,hin_,h⟩:=h
      have HIN:=am_ hin_
      clear hin_
      cases b4 with
      | false=>
       rw [if_pos rfl] at h
       simp only [Option.some.injEq,Prod.mk.injEq] at h
       obtain⟨rfl,rfl,rfl,rfl,rfl,rfl,rfl,rfl⟩:=h
       go_enter Try.func26,Try.ntmps26
       go_wp2_with (first|((with_reducible refine zad (N:=6) rfl ?_);refine zae rfl (N:=6) rfl (cs:=#[.int .i64 c0,.int .i64 c1]) (t:=34) bx_ ?_;intro g6 hg w6_ hbox hb;replace HI:=am_ ((HI.out).box hg hbox hb);clear hb hbox hg)|((with_reducible refine zad (N:=9) rfl ?_);refine zae rfl (N:=9) rfl (cs:=#[.slice Au u0.length cu,.int .i64 u1,.string u2,.int .i64 u3]) (t:=27) bx_ ?_;intro g9 hg w9_ hbox hb;replace HI:=am_ ((HI.out).box hg hbox hb);clear hb hbox hg)|((with_reducible refine zad (N:=11) rfl ?_);refine zae rfl (N:=11) rfl (cs:=#[.int .i64 0,.int .i64 0]) (t:=34) bx_ ?_;intro g11 hg w11_ hbox hb;replace HI:=am_ ((HI.out).box hg hbox hb);clear hb hbox hg)|((with_reducible refine zad (N:=12) rfl ?_);refine zae rfl (N:=12) rfl (cs:=#[.slice none 0 0,.int .i64 0,.string (⟨#[]⟩:ByteArray),.int .i64 0]) (t:=27) bx_ ?_;intro g12 hg w12_ hbox hb;replace HI:=am_ ((HI.out).box hg hbox hb);clear hb hbox hg)|(go_at_call 70;(refine(za8.calls k A2 cap2 l2 _ _ HI.out.now HC2.out HRN.out).mono ?_);rintro e w25 ⟨rfl,hb⟩;replace HI:=am_ (HI.out.grow hb);clear hb;have h60:World.cell? _ ⟨g6,0,none⟩=some (.int .i64 c0):=(zaa (HI.out.get 3 rfl) 0).trans rfl;have h61:World.cell? _ ⟨g6,1,none⟩=some (.int .i64 c1):=(zaa (HI.out.get 3 rfl) 1).trans rfl)|(go_at_call 71;(refine(zdd.calls c0 c1 _ _ HEX.out).mono ?_);rintro e w30 ⟨rfl,hb⟩;replace HI:=am_ (HI.out.grow hb);clear hb;have h90:World.cell? _ ⟨g9,0,none⟩=some (.slice Au u0.length cu):=(zaa (HI.out.get 2 rfl) 0).trans rfl;have h91:World.cell? _ ⟨g9,1,none⟩=some (.int .i64 u1):=(zaa (HI.out.get 2 rfl) 1).trans rfl;have h92:World.cell? _ ⟨g9,2,none⟩=some (.string u2):=(zaa (HI.out.get 2 rfl) 2).trans rfl;have h93:World.cell? _ ⟨g9,3,none⟩=some (.int .i64 u3):=(zaa (HI.out.get 2 rfl) 3).trans rfl)|(go_at_call 72;(refine(zdb.calls k Au cu u0 u1 u2 u3 _ _ (Kd.R_reads' (HI.out.get 4 rfl)).2.2 (Kd.R_reads' (HI.out.get 4 rfl)).2.1 HSO.out).mono ?_);rintro e w34 ⟨rfl,hb⟩;replace HI:=am_ (HI.out.grow hb);clear hb)|(go_at_call 73;(refine(zdi.calls kind _ _ HKN.out).mono ?_);rintro e w42 ⟨rfl,⟨n42,rfl⟩⟩;replace HI:=am_ (HI.out.drewN n42);generalize World.drewN _ n42=wn42 at HI ⊢)|(go_at_call 61;(refine(zb2.calls vars 0 6 _ _ HIN.out).mono ?_);rintro e w46 ⟨rfl,⟨n46,rfl⟩⟩;replace HI:=am_ (HI.out.drewN n46);generalize World.drewN _ n46=wn46 at HI ⊢;have hk0:World.cell? _ ⟨g9,0,none⟩=some (.slice Au u0.length cu):=(zaa (HI.out.get 2 rfl) 0).trans rfl;have hk1:World.cell? _ ⟨g9,1,none⟩=some (.int .i64 u1):=(zaa (HI.out.get 2 rfl) 1).trans rfl;have hk2:World.cell? _ ⟨g9,2,none⟩=some (.string u2):=(zaa (HI.out.get 2 rfl) 2).trans rfl;have hk3:World.cell? _ ⟨g9,3,none⟩=some (.int .i64 u3):=(zaa (HI.out.get 2 rfl) 3).trans rfl)|((with_reducible refine zad (N:=58) rfl ?_);refine Kd.R_lit k34 (w0:=_) _ 34 ?hg (N:=58) ?hd (xs:=([]:List S34)) (inner:=[]) (ok:=fun _=>True) (okp:=fun _=>True) ?hr ?hp (fun _ hk=>hk) trivial (Below.refl _ _) (Nat.le_refl _) (by simp) ?_;(case hd=>rfl);(case hg=>rfl);(case hr=>first|(go_simp;done)|(go_simp;rfl));(case hp=>exact(Reps.none _ _));intro ve we hR hb hg hat;replace HI:=am_ ((HI.out).zdj hb hR);clear hR hb hg hat)|((with_reducible refine zaq (p:=11) (v:=(.tmp 59)) (t:=34) rfl ?_);go_must (refine wpList_store_row rfl 34 _ _ rfl g11 (#[.int .i64 0,.int .i64 0]) rfl qz0_ 34 (#[.int .i64 0,.int .i64 0]) (HI.out.get 2 rfl) (by kernel_rfl) rfl qz12_ ?_;replace HI:=am_ ((HI.out.front 2 rfl).put0 (#[.int .i64 0,.int .i64 0]));generalize World.setRow _ g11 (#[.int .i64 0,.int .i64 0])=wf at HI ⊢))|((with_reducible refine zaq (p:=12) (v:=(.tmp 60)) (t:=27) rfl ?_);go_must (refine wpList_store_row rfl 27 _ _ rfl g12 (#[.slice none 0 0,.int .i64 0,.string (⟨#[]⟩:ByteArray),.int .i64 0]) rfl qz0_ 27 (#[.slice none 0 0,.int .i64 0,.string (⟨#[]⟩:ByteArray),.int .i64 0]) (HI.out.get 2 rfl) (by kernel_rfl) rfl qz12_ ?_;replace HI:=am_ ((HI.out.front 2 rfl).put0 (#[.slice none 0 0,.int .i64 0,.string (⟨#[]⟩:ByteArray),.int .i64 0]));generalize World.setRow _ g12 (#[.slice none 0 0,.int .i64 0,.string (⟨#[]⟩:ByteArray),.int .i64 0])=wg at HI ⊢)))
       refine bodyPost_ret (zbp rfl _ _ g11 g12 34 27 #[.int .i64 0,.int .i64 0] #[.slice none 0 0,.int .i64 0,.string (⟨#[]⟩:ByteArray),.int .i64 0] (0,0) (0,0) _ _ rfl (HI.out.get 1 rfl) hu34 rfl (by kernel_rfl) rfl (HI.out.get 0 rfl) hu27 rfl (by kernel_rfl)) rfl ?_
       exact⟨_,_,rfl,Kd.zbi (HI.out.get 2 rfl) (fun k hk e=>by simp [Value.ownBlock] at e),Kd.R_nil _ _ _ _ _,HI.out.zef HB.out HPW.out,⟨HI.out.agr.size,HI.out.agr.block⟩⟩
      | true=>
       rw [if_neg (by decide)] at h
       replace h:=Option.bind_eq_some_iff.1 h
       obtain⟨b5,hsp_,h⟩:=h
       have HSP:=am_ hsp_
       clear hsp_
       cases b5 with
       | false=>
        rw [if_pos rfl] at h
        replace h:=Option.bind_eq_some_iff.1 h
        obtain⟨⟨v1,v2,v3,vc,s0,s1,s2,s3⟩,hvf_,h⟩:=h
        have HVF:=am_ (show zco.f k kind c0 c1 l2 vars u0 u1 u2 u3=some (v1,v2,v3,vc,s0,s1,s2,s3) from hvf_)
        clear hvf_
        by_cases cv:vc=0
        ·
         rw [if_pos (show (v1,v2,v3,vc,s0,s1,s2,s3).2.2.2.1=0 from cv)] at h
         subst cv
         replace h:=Option.bind_eq_some_iff.1 h
         obtain⟨⟨o0,o1,o2,o3⟩,how_,h⟩:=h
         have HOW:=am_ (show ze9.f s0 s1 s2 s3=some (o0,o1,o2,o3) from how_)
         clear how_
         simp only [Option.some.injEq,Prod.mk.injEq] at h
         obtain⟨rfl,rfl,rfl,rfl,rfl,rfl,rfl,rfl⟩:=h
         go_enter Try.func26,Try.ntmps26
         go_wp2_with (first|((with_reducible refine zad (N:=6) rfl ?_);refine zae rfl (N:=6) rfl (cs:=#[.int .i64 c0,.int .i64 c1]) (t:=34) bx_ ?_;intro g6 hg w6_ hbox hb;replace HI:=am_ ((HI.out).box hg hbox hb);clear hb hbox hg)|((with_reducible refine zad (N:=9) rfl ?_);refine zae rfl (N:=9) rfl (cs:=#[.slice Au u0.length cu,.int .i64 u1,.string u2,.int .i64 u3]) (t:=27) bx_ ?_;intro g9 hg w9_ hbox hb;replace HI:=am_ ((HI.out).box hg hbox hb);clear hb hbox hg)|((with_reducible refine zad (N:=11) rfl ?_);refine zae rfl (N:=11) rfl (cs:=#[.int .i64 0,.int .i64 0]) (t:=34) bx_ ?_;intro g11 hg w11_ hbox hb;replace HI:=am_ ((HI.out).box hg hbox hb);clear hb hbox hg)|((with_reducible refine zad (N:=12) rfl ?_);refine zae rfl (N:=12) rfl (cs:=#[.slice none 0 0,.int .i64 0,.string (⟨#[]⟩:ByteArray),.int .i64 0]) (t:=27) bx_ ?_;intro g12 hg w12_ hbox hb;replace HI:=am_ ((HI.out).box hg hbox hb);clear hb hbox hg)|(go_at_call 70;(refine(za8.calls k A2 cap2 l2 _ _ HI.out.now HC2.out HRN.out).mono ?_);rintro e w25 ⟨rfl,hb⟩;replace HI:=am_ (HI.out.grow hb);clear hb;have h60:World.cell? _ ⟨g6,0,none⟩=some (.int .i64 c0):=(zaa (HI.out.get 3 rfl) 0).trans rfl;have h61:World.cell? _ ⟨g6,1,none⟩=some (.int .i64 c1):=(zaa (HI.out.get 3 rfl) 1).trans rfl)|(go_at_call 71;(refine(zdd.calls c0 c1 _ _ HEX.out).mono ?_);rintro e w30 ⟨rfl,hb⟩;replace HI:=am_ (HI.out.grow hb);clear hb;have h90:World.cell? _ ⟨g9,0,none⟩=some (.slice Au u0.length cu):=(zaa (HI.out.get 2 rfl) 0).trans rfl;have h91:World.cell? _ ⟨g9,1,none⟩=some (.int .i64 u1):=(zaa (HI.out.get 2 rfl) 1).trans rfl;have h92:World.cell? _ ⟨g9,2,none⟩=some (.string u2):=(zaa (HI.out.get 2 rfl) 2).trans rfl;have h93:World.cell? _ ⟨g9,3,none⟩=some (.int .i64 u3):=(zaa (HI.out.get 2 rfl) 3).trans rfl)|(go_at_call 72;(refine(zdb.calls k Au cu u0 u1 u2 u3 _ _ (Kd.R_reads' (HI.out.get 4 rfl)).2.2 (Kd.R_reads' (HI.out.get 4 rfl)).2.1 HSO.out).mono ?_);rintro e w34 ⟨rfl,hb⟩;replace HI:=am_ (HI.out.grow hb);clear hb)|(go_at_call 73;(refine(zdi.calls kind _ _ HKN.out).mono ?_);rintro e w42 ⟨rfl,⟨n42,rfl⟩⟩;replace HI:=am_ (HI.out.drewN n42);generalize World.drewN _ n42=wn42 at HI ⊢)|(go_at_call 61;(refine(zb2.calls vars 0 6 _ _ HIN.out).mono ?_);rintro e w46 ⟨rfl,⟨n46,rfl⟩⟩;replace HI:=am_ (HI.out.drewN n46);generalize World.drewN _ n46=wn46 at HI ⊢;have hk0:World.cell? _ ⟨g9,0,none⟩=some (.slice Au u0.length cu):=(zaa (HI.out.get 2 rfl) 0).trans rfl;have hk1:World.cell? _ ⟨g9,1,none⟩=some (.int .i64 u1):=(zaa (HI.out.get 2 rfl) 1).trans rfl;have hk2:World.cell? _ ⟨g9,2,none⟩=some (.string u2):=(zaa (HI.out.get 2 rfl) 2).trans rfl;have hk3:World.cell? _ ⟨g9,3,none⟩=some (.int .i64 u3):=(zaa (HI.out.get 2 rfl) 3).trans rfl)|(go_at_call 74;(refine(zdy.calls Au cu u0 u1 u2 u3 6 _ _ (Kd.R_reads' (HI.out.get 4 rfl)).2.2 (Kd.R_reads' (HI.out.get 4 rfl)).2.1 HSP.out).mono ?_);rintro e w54 ⟨rfl,hb⟩;replace HI:=am_ (HI.out.grow hb);clear hb)|((with_reducible refine zad (N:=64) rfl ?_);go_must (refine wpList_load_row rfl 34 _ rfl g6 rfl 34 (#[.int .i64 c0,.int .i64 c1]) (0,0) _ ((HI.out.get 3 rfl)) hu34 rfl (by kernel_rfl) ?_))|((with_reducible refine zad (N:=67) rfl ?_);go_must (refine wpList_load_row rfl 27 _ rfl g9 rfl 27 (#[.slice Au u0.length cu,.int .i64 u1,.string u2,.int .i64 u3]) (0,0) _ ((HI.out.get 2 rfl)) hu27 rfl (by kernel_rfl) ?_))|(go_at_call 75;(refine(zco.calls k kind c0 c1 A2 cap2 l2 vars _ (.slice Au u0.length cu) u0 u1 u2 u3 v1 v2 v3 0 s0 s1 s2 s3 wb _ (HI.out.zef HB.out HPW.out) (HI.out.get 4 rfl) (fun W_ ha=>HI.out.facts W_ (ha.mono (fun k hk=>⟨_,List.mem_of_getElem? (i:=4) rfl,HPE.out k hk⟩))) HVF.out).mono ?_);rintro e w68 ⟨vp,vs,rfl,hRp,hRs,hB2,hk⟩;obtain⟨As,cs,es⟩:=Kd.zb0 hRs;subst es;replace HI:=am_ (Inv.zin (b3:=w.heap.size) rfl rfl (HI.out.front 4 rfl) ⟨hB2.os.trans (HI.out.zef HB.out HPW.out).os.symm,hB2.tape.trans (HI.out.zef HB.out HPW.out).tape.symm,hB2.output.trans (HI.out.zef HB.out HPW.out).output.symm,hk.1,fun k hlt hn=>hk.2 k hlt (fun hs=>hn (HPE.out k hs))⟩ hRp (Nat.le_refl _) HI.out.agr.size hRs (fun k hk=>hk.1.imp (HPE.out k) id) (fun k hk=>hk.2));clear hRp hRs hB2 hk)|((with_reducible refine zad (N:=16) rfl ?_);refine zae rfl (N:=16) rfl (cs:=#[.int .i64 0,.int .i64 0]) (t:=34) bx_ ?_;intro g16 hg w16_ hbox hb;replace HI:=am_ ((HI.out).box hg hbox hb);clear hb hbox hg)|((with_reducible refine zad (N:=17) rfl ?_);refine zae rfl (N:=17) rfl (cs:=#[.slice none 0 0,.int .i64 0,.string (⟨#[]⟩:ByteArray),.int .i64 0]) (t:=27) bx_ ?_;intro g17 hg w17_ hbox hb;replace HI:=am_ ((HI.out).box hg hbox hb);clear hb hbox hg)|((with_reducible refine zaq (p:=16) (v:=(.tmp 70)) (t:=34) rfl ?_);go_must (refine wpList_store_row rfl 34 _ _ rfl g16 (#[.int .i64 v2,.int .i64 v3]) rfl qz0_ 34 (#[.int .i64 0,.int .i64 0]) (HI.out.get 1 rfl) (zby v2 v3) (zeo v2 v3) (zd8 v2 v3) ?_;replace HI:=am_ ((HI.out.front 1 rfl).put0 (#[.int .i64 v2,.int .i64 v3]));generalize World.setRow _ g16 (#[.int .i64 v2,.int .i64 v3])=w70 at HI ⊢))|((with_reducible refine zaq (p:=17) (v:=(.tmp 71)) (t:=27) rfl ?_);go_must (refine wpList_store_row rfl 27 _ _ rfl g17 (#[.slice As s0.length cs,.int .i64 s1,.string s2,.int .i64 s3]) rfl qz0_ 27 (#[.slice none 0 0,.int .i64 0,.string (⟨#[]⟩:ByteArray),.int .i64 0]) (HI.out.get 1 rfl) (by kernel_rfl) rfl qz12_ ?_;replace HI:=am_ ((HI.out.front 1 rfl).put0 (#[.slice As s0.length cs,.int .i64 s1,.string s2,.int .i64 s3]));generalize World.setRow _ g17 (#[.slice As s0.length cs,.int .i64 s1,.string s2,.int .i64 s3])=w71 at HI ⊢)))
         refine zcb (n:=8) (S:=fun w'=>w'.cell? ⟨g16,0,none⟩=some (.int .i64 v2)∧w'.cell? ⟨g16,1,none⟩=some (.int .i64 v3)∧w'.cell? ⟨g17,0,none⟩=some (.slice As s0.length cs)∧w'.cell? ⟨g17,1,none⟩=some (.int .i64 s1)∧w'.cell? ⟨g17,2,none⟩=some (.string s2)∧w'.cell? ⟨g17,3,none⟩=some (.int .i64 s3)) (ds:=[6]) (bs_ 8 0) (by kernel_rfl) rfl rfl ⟨(zaa ((HI.out.drew).get 1 rfl) 0).trans rfl,(zaa ((HI.out.drew).get 1 rfl) 1).trans rfl,(zaa ((HI.out.drew).get 0 rfl) 0).trans rfl,(zaa ((HI.out.drew).get 0 rfl) 1).trans rfl,(zaa ((HI.out.drew).get 0 rfl) 2).trans rfl,(zaa ((HI.out.drew).get 0 rfl) 3).trans rfl⟩ (fun hHeld=>?_)
         replace HI:=am_ (HI.out.drew)
         generalize World.drew _=wd0 at HI hHeld ⊢
         refine pu_ 0 79 (bs_ 8 1) ?_
         refine take_ (i:=1) (N:=some 80) (v:=?_) (a':=?_) (bs_ 8 3) rfl rfl (by kernel_rfl) (fun _ _ _ h=>h) (Or.inl ⟨(by rfl),?_⟩) hHeld ?_ ?_
         rotate_left
         ·
          rintro w' ⟨s_0,s_1,s_2,s_3,s_4,s_5⟩
          go_simp
          with_reducible rfl
         rotate_left
         ·
          exact ap_
         refine take_ (i:=2) (N:=some 81) (v:=?_) (a':=?_) (bs_ 8 7) rfl rfl (by kernel_rfl) (fun _ _ _ h=>h) (Or.inl ⟨(by rfl),?_⟩) hHeld ?_ ?_
         rotate_left
         ·
          rintro w' ⟨s_0,s_1,s_2,s_3,s_4,s_5⟩
          go_simp
          with_reducible rfl
         rotate_left
         ·
          exact ap_
         refine one_ (i:=3) (N:=some 82) (bs_ 8 15) rfl rfl (by kernel_rfl) (by decide) (fun K hK=>?_)
         refine goes_ Try.func76 (by kernel_rfl) rfl #[.agg #[.slice As s0.length cs,.int .i64 s1,.string s2,.int .i64 s3]] (by rfl) rfl rfl qz3_ ?_
         with_reducible refine(ze9.calls As cs s0 s1 s2 s3 o0 o1 o2 o3 _ (Kd.R_reads' (HI.out.get 3 rfl)).2.2 (Kd.R_reads' (HI.out.get 3 rfl)).2.1 HOW.out).mono ?_
         rintro e w82 ⟨vo,rfl,hR,hb⟩
         obtain⟨Ao,co,eo⟩:=Kd.zb0 hR
         subst eo
         refine⟨_,rfl,?_⟩
         replace HI:=am_ (HI.out.zdj hb hR)
         clear hR hb
         refine hK.out _ _ ⟨(zaa ((HI.out).get 2 rfl) 0).trans rfl,(zaa ((HI.out).get 2 rfl) 1).trans rfl,(zaa ((HI.out).get 1 rfl) 0).trans rfl,(zaa ((HI.out).get 1 rfl) 1).trans rfl,(zaa ((HI.out).get 1 rfl) 2).trans rfl,(zaa ((HI.out).get 1 rfl) 3).trans rfl⟩ (fun hHeld=>?_)
         clear hK K
         refine norm_ (a':=?_) ?_ ?_
         rotate_left
         ·
          show Act.put _ (some 82) _=_
          exact ap_
         refine pu_ 4 10 (bs_ 8 31) ?_
         refine one_ (i:=5) (N:=none) (bs_ 8 63) rfl rfl (by kernel_rfl) (by decide) (fun K hK=>?_)
         rw [if_pos (by rfl)]
         refine wp_store_row 34 _ _ rfl g11 (#[.int .i64 v2,.int .i64 v3]) rfl qz0_ 34 (#[.int .i64 0,.int .i64 0]) (HI.out.get 6 rfl) (zby v2 v3) (zeo v2 v3) (zd8 v2 v3) ?_
         replace HI:=am_ ((HI.out.front 6 rfl).put0 (#[.int .i64 v2,.int .i64 v3]))
         generalize World.setRow _ g11 (#[.int .i64 v2,.int .i64 v3])=wz5 at HI ⊢
         refine hK.out _ _ ⟨(zaa ((HI.out).get 3 rfl) 0).trans rfl,(zaa ((HI.out).get 3 rfl) 1).trans rfl,(zaa ((HI.out).get 2 rfl) 0).trans rfl,(zaa ((HI.out).get 2 rfl) 1).trans rfl,(zaa ((HI.out).get 2 rfl) 2).trans rfl,(zaa ((HI.out).get 2 rfl) 3).trans rfl⟩ (fun hHeld=>?_)
         clear hK K
         refine last_ (i:=6) (N:=none) (bs_ 8 127) rfl rfl (by kernel_rfl) (by decide) (fun K hK=>?_)
         rw [if_pos (by rfl)]
         refine wp_store_row 27 _ _ rfl g12 (#[.slice Ao o0.length co,.int .i64 o1,.string o2,.int .i64 o3]) rfl qz0_ 27 (#[.slice none 0 0,.int .i64 0,.string (⟨#[]⟩:ByteArray),.int .i64 0]) (HI.out.get 6 rfl) (by kernel_rfl) rfl qz12_ ?_
         replace HI:=am_ ((HI.out.front 6 rfl).put0 (#[.slice Ao o0.length co,.int .i64 o1,.string o2,.int .i64 o3]))
         generalize World.setRow _ g12 (#[.slice Ao o0.length co,.int .i64 o1,.string o2,.int .i64 o3])=wz6 at HI ⊢
         refine hK.out _ _ ?_
         clear hK K
         refine pu_ 7 13 (bs_ 8 255) ?_
         refine done_ (by kernel_rfl) ?_
         try go_wp2
         refine bodyPost_ret (zbp rfl _ _ g11 g12 34 27 #[.int .i64 v2,.int .i64 v3] #[.slice Ao o0.length co,.int .i64 o1,.string o2,.int .i64 o3] (0,0) (0,0) _ _ rfl (HI.out.get 1 rfl) hu34 rfl (zby v2 v3) rfl (HI.out.get 0 rfl) hu27 rfl (by kernel_rfl)) rfl ?_
         have hp_:=HI.out.get 5 rfl
         have hs_:=HI.out.get 2 rfl
         have hd_:=HI.out.disj 2 5 (by decide) rfl rfl
         exact⟨vp,_,rfl,Kd.zbi hp_ (fun k hk e=>hd_ k (hs_.1 k e.symm) hk),Kd.zbi hs_ (fun k hk e=>hd_ k hk (hp_.1 k e.symm)),HI.out.zef HB.out HPW.out,⟨HI.out.agr.size,HI.out.agr.block⟩⟩
        ·
         rw [if_neg (show ¬(v1,v2,v3,vc,s0,s1,s2,s3).2.2.2.1=0 from cv)] at h
         simp only [Option.some.injEq,Prod.mk.injEq] at h
         obtain⟨rfl,rfl,rfl,rfl,rfl,rfl,rfl,rfl⟩:=h
         have f5:=eq_false (cv)
         have f6:(vc == 0)=false:=beq_eq_false_iff_ne.mpr cv
         have f7:(vc != 0)=true:=bne_iff_ne.mpr cv
         clear cv
         go_enter Try.func26,Try.ntmps26
         go_wp2_with (first|((with_reducible refine zad (N:=6) rfl ?_);refine zae rfl (N:=6) rfl (cs:=#[.int .i64 c0,.int .i64 c1]) (t:=34) bx_ ?_;intro g6 hg w6_ hbox hb;replace HI:=am_ ((HI.out).box hg hbox hb);clear hb hbox hg)|((with_reducible refine zad (N:=9) rfl ?_);refine zae rfl (N:=9) rfl (cs:=#[.slice Au u0.length cu,.int .i64 u1,.string u2,.int .i64 u3]) (t:=27) bx_ ?_;intro g9 hg w9_ hbox hb;replace HI:=am_ ((HI.out).box hg hbox hb);clear hb hbox hg)|((with_reducible refine zad (N:=11) rfl ?_);refine zae rfl (N:=11) rfl (cs:=#[.int .i64 0,.int .i64 0]) (t:=34) bx_ ?_;intro g11 hg w11_ hbox hb;replace HI:=am_ ((HI.out).box hg hbox hb);clear hb hbox hg)|((with_reducible refine zad (N:=12) rfl ?_);refine zae rfl (N:=12) rfl (cs:=#[.slice none 0 0,.int .i64 0,.string (⟨#[]⟩:ByteArray),.int .i64 0]) (t:=27) bx_ ?_;intro g12 hg w12_ hbox hb;replace HI:=am_ ((HI.out).box hg hbox hb);clear hb hbox hg)|(go_at_call 70;(refine(za8.calls k A2 cap2 l2 _ _ HI.out.now HC2.out HRN.out).mono ?_);rintro e w25 ⟨rfl,hb⟩;replace HI:=am_ (HI.out.grow hb);clear hb;have h60:World.cell? _ ⟨g6,0,none⟩=some (.int .i64 c0):=(zaa (HI.out.get 3 rfl) 0).trans rfl;have h61:World.cell? _ ⟨g6,1,none⟩=some (.int .i64 c1):=(zaa (HI.out.get 3 rfl) 1).trans rfl)|(go_at_call 71;(refine(zdd.calls c0 c1 _ _ HEX.out).mono ?_);rintro e w30 ⟨rfl,hb⟩;replace HI:=am_ (HI.out.grow hb);clear hb;have h90:World.cell? _ ⟨g9,0,none⟩=some (.slice Au u0.length cu):=(zaa (HI.out.get 2 rfl) 0).trans rfl;have h91:World.cell? _ ⟨g9,1,none⟩=some (.int .i64 u1):=(zaa (HI.out.get 2 rfl) 1).trans rfl;have h92:World.cell? _ ⟨g9,2,none⟩=some (.string u2):=(zaa (HI.out.get 2 rfl) 2).trans rfl;have h93:World.cell? _ ⟨g9,3,none⟩=some (.int .i64 u3):=(zaa (HI.out.get 2 rfl) 3).trans rfl)|(go_at_call 72;(refine(zdb.calls k Au cu u0 u1 u2 u3 _ _ (Kd.R_reads' (HI.out.get 4 rfl)).2.2 (Kd.R_reads' (HI.out.get 4 rfl)).2.1 HSO.out).mono ?_);rintro e w34 ⟨rfl,hb⟩;replace HI:=am_ (HI.out.grow hb);clear hb)|(go_at_call 73;(refine(zdi.calls kind _ _ HKN.out).mono ?_);rintro e w42 ⟨rfl,⟨n42,rfl⟩⟩;replace HI:=am_ (HI.out.drewN n42);generalize World.drewN _ n42=wn42 at HI ⊢)|(go_at_call 61;(refine(zb2.calls vars 0 6 _ _ HIN.out).mono ?_);rintro e w46 ⟨rfl,⟨n46,rfl⟩⟩;replace HI:=am_ (HI.out.drewN n46);generalize World.drewN _ n46=wn46 at HI ⊢;have hk0:World.cell? _ ⟨g9,0,none⟩=some (.slice Au u0.length cu):=(zaa (HI.out.get 2 rfl) 0).trans rfl;have hk1:World.cell? _ ⟨g9,1,none⟩=some (.int .i64 u1):=(zaa (HI.out.get 2 rfl) 1).trans rfl;have hk2:World.cell? _ ⟨g9,2,none⟩=some (.string u2):=(zaa (HI.out.get 2 rfl) 2).trans rfl;have hk3:World.cell? _ ⟨g9,3,none⟩=some (.int .i64 u3):=(zaa (HI.out.get 2 rfl) 3).trans rfl)|(go_at_call 74;(refine(zdy.calls Au cu u0 u1 u2 u3 6 _ _ (Kd.R_reads' (HI.out.get 4 rfl)).2.2 (Kd.R_reads' (HI.out.get 4 rfl)).2.1 HSP.out).mono ?_);rintro e w54 ⟨rfl,hb⟩;replace HI:=am_ (HI.out.grow hb);clear hb)|((with_reducible refine zad (N:=64) rfl ?_);go_must (refine wpList_load_row rfl 34 _ rfl g6 rfl 34 (#[.int .i64 c0,.int .i64 c1]) (0,0) _ ((HI.out.get 3 rfl)) hu34 rfl (by kernel_rfl) ?_))|((with_reducible refine zad (N:=67) rfl ?_);go_must (refine wpList_load_row rfl 27 _ rfl g9 rfl 27 (#[.slice Au u0.length cu,.int .i64 u1,.string u2,.int .i64 u3]) (0,0) _ ((HI.out.get 2 rfl)) hu27 rfl (by kernel_rfl) ?_))|(go_at_call 75;(refine(zco.calls k kind c0 c1 A2 cap2 l2 vars _ (.slice Au u0.length cu) u0 u1 u2 u3 v1 v2 v3 vc s0 s1 s2 s3 wb _ (HI.out.zef HB.out HPW.out) (HI.out.get 4 rfl) (fun W_ ha=>HI.out.facts W_ (ha.mono (fun k hk=>⟨_,List.mem_of_getElem? (i:=4) rfl,HPE.out k hk⟩))) HVF.out).mono ?_);rintro e w68 ⟨vp,vs,rfl,hRp,hRs,hB2,hk⟩;obtain⟨As,cs,es⟩:=Kd.zb0 hRs;subst es;replace HI:=am_ (Inv.zin (b3:=w.heap.size) rfl rfl (HI.out.front 4 rfl) ⟨hB2.os.trans (HI.out.zef HB.out HPW.out).os.symm,hB2.tape.trans (HI.out.zef HB.out HPW.out).tape.symm,hB2.output.trans (HI.out.zef HB.out HPW.out).output.symm,hk.1,fun k hlt hn=>hk.2 k hlt (fun hs=>hn (HPE.out k hs))⟩ hRp (Nat.le_refl _) HI.out.agr.size hRs (fun k hk=>hk.1.imp (HPE.out k) id) (fun k hk=>hk.2));clear hRp hRs hB2 hk)|((with_reducible refine zad (N:=16) rfl ?_);refine zae rfl (N:=16) rfl (cs:=#[.int .i64 0,.int .i64 0]) (t:=34) bx_ ?_;intro g16 hg w16_ hbox hb;replace HI:=am_ ((HI.out).box hg hbox hb);clear hb hbox hg)|((with_reducible refine zad (N:=17) rfl ?_);refine zae rfl (N:=17) rfl (cs:=#[.slice none 0 0,.int .i64 0,.string (⟨#[]⟩:ByteArray),.int .i64 0]) (t:=27) bx_ ?_;intro g17 hg w17_ hbox hb;replace HI:=am_ ((HI.out).box hg hbox hb);clear hb hbox hg)|((with_reducible refine zaq (p:=16) (v:=(.tmp 70)) (t:=34) rfl ?_);go_must (refine wpList_store_row rfl 34 _ _ rfl g16 (#[.int .i64 v2,.int .i64 v3]) rfl qz0_ 34 (#[.int .i64 0,.int .i64 0]) (HI.out.get 1 rfl) (zby v2 v3) (zeo v2 v3) (zd8 v2 v3) ?_;replace HI:=am_ ((HI.out.front 1 rfl).put0 (#[.int .i64 v2,.int .i64 v3]));generalize World.setRow _ g16 (#[.int .i64 v2,.int .i64 v3])=w70 at HI ⊢))|((with_reducible refine zaq (p:=17) (v:=(.tmp 71)) (t:=27) rfl ?_);go_must (refine wpList_store_row rfl 27 _ _ rfl g17 (#[.slice As s0.length cs,.int .i64 s1,.string s2,.int .i64 s3]) rfl qz0_ 27 (#[.slice none 0 0,.int .i64 0,.string (⟨#[]⟩:ByteArray),.int .i64 0]) (HI.out.get 1 rfl) (by kernel_rfl) rfl qz12_ ?_;replace HI:=am_ ((HI.out.front 1 rfl).put0 (#[.slice As s0.length cs,.int .i64 s1,.string s2,.int .i64 s3]));generalize World.setRow _ g17 (#[.slice As s0.length cs,.int .i64 s1,.string s2,.int .i64 s3])=w71 at HI ⊢))|((with_reducible refine zad (N:=75) rfl ?_);refine Kd.R_lit k34 (w0:=_) _ 34 ?hg (N:=75) ?hd (xs:=([]:List S34)) (inner:=[]) (ok:=fun _=>True) (okp:=fun _=>True) ?hr ?hp (fun _ hk=>hk) trivial (Below.refl _ _) (Nat.le_refl _) (by simp) ?_;(case hd=>rfl);(case hg=>rfl);(case hr=>first|(go_simp;done)|(go_simp;rfl));(case hp=>exact(Reps.none _ _));intro ve we hR hb hg hat;replace HI:=am_ ((HI.out).zdj hb hR);clear hR hb hg hat)|((with_reducible refine zaq (p:=11) (v:=(.tmp 76)) (t:=34) rfl ?_);go_must (refine wpList_store_row rfl 34 _ _ rfl g11 (#[.int .i64 0,.int .i64 0]) rfl qz0_ 34 (#[.int .i64 0,.int .i64 0]) (HI.out.get 6 rfl) (by kernel_rfl) rfl qz12_ ?_;replace HI:=am_ ((HI.out.front 6 rfl).put0 (#[.int .i64 0,.int .i64 0]));generalize World.setRow _ g11 (#[.int .i64 0,.int .i64 0])=wf at HI ⊢))|((with_reducible refine zaq (p:=12) (v:=(.tmp 77)) (t:=27) rfl ?_);go_must (refine wpList_store_row rfl 27 _ _ rfl g12 (#[.slice none 0 0,.int .i64 0,.string (⟨#[]⟩:ByteArray),.int .i64 0]) rfl qz0_ 27 (#[.slice none 0 0,.int .i64 0,.string (⟨#[]⟩:ByteArray),.int .i64 0]) (HI.out.get 6 rfl) (by kernel_rfl) rfl qz12_ ?_;replace HI:=am_ ((HI.out.front 6 rfl).put0 (#[.slice none 0 0,.int .i64 0,.string (⟨#[]⟩:ByteArray),.int .i64 0]));generalize World.setRow _ g12 (#[.slice none 0 0,.int .i64 0,.string (⟨#[]⟩:ByteArray),.int .i64 0])=wg at HI ⊢)))
         refine bodyPost_ret (zbp rfl _ _ g11 g12 34 27 #[.int .i64 0,.int .i64 0] #[.slice none 0 0,.int .i64 0,.string (⟨#[]⟩:ByteArray),.int .i64 0] (0,0) (0,0) _ _ rfl (HI.out.get 1 rfl) hu34 rfl (by kernel_rfl) rfl (HI.out.get 0 rfl) hu27 rfl (by kernel_rfl)) rfl ?_
         exact⟨_,_,rfl,Kd.zbi (HI.out.get 2 rfl) (fun k hk e=>by simp [Value.ownBlock] at e),Kd.R_nil _ _ _ _ _,HI.out.zef HB.out HPW.out,⟨HI.out.agr.size,HI.out.agr.block⟩⟩
       | true=>
        rw [if_neg (by decide)] at h
        simp only [Option.some.injEq,Prod.mk.injEq] at h
        obtain⟨rfl,rfl,rfl,rfl,rfl,rfl,rfl,rfl⟩:=h
        go_enter Try.func26,Try.ntmps26
        go_wp2_with (first|((with_reducible refine zad (N:=6) rfl ?_);refine zae rfl (N:=6) rfl (cs:=#[.int .i64 c0,.int .i64 c1]) (t:=34) bx_ ?_;intro g6 hg w6_ hbox hb;replace HI:=am_ ((HI.out).box hg hbox hb);clear hb hbox hg)|((with_reducible refine zad (N:=9) rfl ?_);refine zae rfl (N:=9) rfl (cs:=#[.slice Au u0.length cu,.int .i64 u1,.string u2,.int .i64 u3]) (t:=27) bx_ ?_;intro g9 hg w9_ hbox hb;replace HI:=am_ ((HI.out).box hg hbox hb);clear hb hbox hg)|((with_reducible refine zad (N:=11) rfl ?_);refine zae rfl (N:=11) rfl (cs:=#[.int .i64 0,.int .i64 0]) (t:=34) bx_ ?_;intro g11 hg w11_ hbox hb;replace HI:=am_ ((HI.out).box hg hbox hb);clear hb hbox hg)|((with_reducible refine zad (N:=12) rfl ?_);refine zae rfl (N:=12) rfl (cs:=#[.slice none 0 0,.int .i64 0,.string (⟨#[]⟩:ByteArray),.int .i64 0]) (t:=27) bx_ ?_;intro g12 hg w12_ hbox hb;replace HI:=am_ ((HI.out).box hg hbox hb);clear hb hbox hg)|(go_at_call 70;(refine(za8.calls k A2 cap2 l2 _ _ HI.out.now HC2.out HRN.out).mono ?_);rintro e w25 ⟨rfl,hb⟩;replace HI:=am_ (HI.out.grow hb);clear hb;have h60:World.cell? _ ⟨g6,0,none⟩=some (.int .i64 c0):=(zaa (HI.out.get 3 rfl) 0).trans rfl;have h61:World.cell? _ ⟨g6,1,none⟩=some (.int .i64 c1):=(zaa (HI.out.get 3 rfl) 1).trans rfl)|(go_at_call 71;(refine(zdd.calls c0 c1 _ _ HEX.out).mono ?_);rintro e w30 ⟨rfl,hb⟩;replace HI:=am_ (HI.out.grow hb);clear hb;have h90:World.cell? _ ⟨g9,0,none⟩=some (.slice Au u0.length cu):=(zaa (HI.out.get 2 rfl) 0).trans rfl;have h91:World.cell? _ ⟨g9,1,none⟩=some (.int .i64 u1):=(zaa (HI.out.get 2 rfl) 1).trans rfl;have h92:World.cell? _ ⟨g9,2,none⟩=some (.string u2):=(zaa (HI.out.get 2 rfl) 2).trans rfl;have h93:World.cell? _ ⟨g9,3,none⟩=some (.int .i64 u3):=(zaa (HI.out.get 2 rfl) 3).trans rfl)|(go_at_call 72;(refine(zdb.calls k Au cu u0 u1 u2 u3 _ _ (Kd.R_reads' (HI.out.get 4 rfl)).2.2 (Kd.R_reads' (HI.out.get 4 rfl)).2.1 HSO.out).mono ?_);rintro e w34 ⟨rfl,hb⟩;replace HI:=am_ (HI.out.grow hb);clear hb)|(go_at_call 73;(refine(zdi.calls kind _ _ HKN.out).mono ?_);rintro e w42 ⟨rfl,⟨n42,rfl⟩⟩;replace HI:=am_ (HI.out.drewN n42);generalize World.drewN _ n42=wn42 at HI ⊢)|(go_at_call 61;(refine(zb2.calls vars 0 6 _ _ HIN.out).mono ?_);rintro e w46 ⟨rfl,⟨n46,rfl⟩⟩;replace HI:=am_ (HI.out.drewN n46);generalize World.drewN _ n46=wn46 at HI ⊢;have hk0:World.cell? _ ⟨g9,0,none⟩=some (.slice Au u0.length cu):=(zaa (HI.out.get 2 rfl) 0).trans rfl;have hk1:World.cell? _ ⟨g9,1,none⟩=some (.int .i64 u1):=(zaa (HI.out.get 2 rfl) 1).trans rfl;have hk2:World.cell? _ ⟨g9,2,none⟩=some (.string u2):=(zaa (HI.out.get 2 rfl) 2).trans rfl;have hk3:World.cell? _ ⟨g9,3,none⟩=some (.int .i64 u3):=(zaa (HI.out.get 2 rfl) 3).trans rfl)|(go_at_call 74;(refine(zdy.calls Au cu u0 u1 u2 u3 6 _ _ (Kd.R_reads' (HI.out.get 4 rfl)).2.2 (Kd.R_reads' (HI.out.get 4 rfl)).2.1 HSP.out).mono ?_);rintro e w54 ⟨rfl,hb⟩;replace HI:=am_ (HI.out.grow hb);clear hb)|((with_reducible refine zad (N:=58) rfl ?_);refine Kd.R_lit k34 (w0:=_) _ 34 ?hg (N:=58) ?hd (xs:=([]:List S34)) (inner:=[]) (ok:=fun _=>True) (okp:=fun _=>True) ?hr ?hp (fun _ hk=>hk) trivial (Below.refl _ _) (Nat.le_refl _) (by simp) ?_;(case hd=>rfl);(case hg=>rfl);(case hr=>first|(go_simp;done)|(go_simp;rfl));(case hp=>exact(Reps.none _ _));intro ve we hR hb hg hat;replace HI:=am_ ((HI.out).zdj hb hR);clear hR hb hg hat)|((with_reducible refine zaq (p:=11) (v:=(.tmp 59)) (t:=34) rfl ?_);go_must (refine wpList_store_row rfl 34 _ _ rfl g11 (#[.int .i64 0,.int .i64 0]) rfl qz0_ 34 (#[.int .i64 0,.int .i64 0]) (HI.out.get 2 rfl) (by kernel_rfl) rfl qz12_ ?_;replace HI:=am_ ((HI.out.front 2 rfl).put0 (#[.int .i64 0,.int .i64 0]));generalize World.setRow _ g11 (#[.int .i64 0,.int .i64 0])=wf at HI ⊢))|((with_reducible refine zaq (p:=12) (v:=(.tmp 60)) (t:=27) rfl ?_);go_must (refine wpList_store_row rfl 27 _ _ rfl g12 (#[.slice none 0 0,.int .i64 0,.string (⟨#[]⟩:ByteArray),.int .i64 0]) rfl qz0_ 27 (#[.slice none 0 0,.int .i64 0,.string (⟨#[]⟩:ByteArray),.int .i64 0]) (HI.out.get 2 rfl) (by kernel_rfl) rfl qz12_ ?_;replace HI:=am_ ((HI.out.front 2 rfl).put0 (#[.slice none 0 0,.int .i64 0,.string (⟨#[]⟩:ByteArray),.int .i64 0]));generalize World.setRow _ g12 (#[.slice none 0 0,.int .i64 0,.string (⟨#[]⟩:ByteArray),.int .i64 0])=wg at HI ⊢)))
        refine bodyPost_ret (zbp rfl _ _ g11 g12 34 27 #[.int .i64 0,.int .i64 0] #[.slice none 0 0,.int .i64 0,.string (⟨#[]⟩:ByteArray),.int .i64 0] (0,0) (0,0) _ _ rfl (HI.out.get 1 rfl) hu34 rfl (by kernel_rfl) rfl (HI.out.get 0 rfl) hu27 rfl (by kernel_rfl)) rfl ?_
        exact⟨_,_,rfl,Kd.zbi (HI.out.get 2 rfl) (fun k hk e=>by simp [Value.ownBlock] at e),Kd.R_nil _ _ _ _ _,HI.out.zef HB.out HPW.out,⟨HI.out.agr.size,HI.out.agr.block⟩⟩
  ·
   rw [if_neg ct] at h
   have f1:=eq_false (ct)
   have f1b:(t == 0)=false:=beq_eq_false_iff_ne.mpr ct
   have f1c:(t != 0)=true:=bne_iff_ne.mpr ct
   clear ct
   simp only [Option.some.injEq,Prod.mk.injEq] at h
   obtain⟨rfl,rfl,rfl,rfl,rfl,rfl,rfl,rfl⟩:=h
   go_enter Try.func26,Try.ntmps26
   go_wp2_with (first|((with_reducible refine zad (N:=6) rfl ?_);refine zae rfl (N:=6) rfl (cs:=#[.int .i64 c0,.int .i64 c1]) (t:=34) bx_ ?_;intro g6 hg w6_ hbox hb;replace HI:=am_ ((HI.out).box hg hbox hb);clear hb hbox hg)|((with_reducible refine zad (N:=9) rfl ?_);refine zae rfl (N:=9) rfl (cs:=#[.slice Au u0.length cu,.int .i64 u1,.string u2,.int .i64 u3]) (t:=27) bx_ ?_;intro g9 hg w9_ hbox hb;replace HI:=am_ ((HI.out).box hg hbox hb);clear hb hbox hg)|((with_reducible refine zad (N:=11) rfl ?_);refine zae rfl (N:=11) rfl (cs:=#[.int .i64 0,.int .i64 0]) (t:=34) bx_ ?_;intro g11 hg w11_ hbox hb;replace HI:=am_ ((HI.out).box hg hbox hb);clear hb hbox hg)|((with_reducible refine zad (N:=12) rfl ?_);refine zae rfl (N:=12) rfl (cs:=#[.slice none 0 0,.int .i64 0,.string (⟨#[]⟩:ByteArray),.int .i64 0]) (t:=27) bx_ ?_;intro g12 hg w12_ hbox hb;replace HI:=am_ ((HI.out).box hg hbox hb);clear hb hbox hg)|(go_at_call 70;(refine(za8.calls k A2 cap2 l2 _ _ HI.out.now HC2.out HRN.out).mono ?_);rintro e w25 ⟨rfl,hb⟩;replace HI:=am_ (HI.out.grow hb);clear hb;have h60:World.cell? _ ⟨g6,0,none⟩=some (.int .i64 c0):=(zaa (HI.out.get 3 rfl) 0).trans rfl;have h61:World.cell? _ ⟨g6,1,none⟩=some (.int .i64 c1):=(zaa (HI.out.get 3 rfl) 1).trans rfl)|((with_reducible refine zad (N:=58) rfl ?_);refine Kd.R_lit k34 (w0:=_) _ 34 ?hg (N:=58) ?hd (xs:=([]:List S34)) (inner:=[]) (ok:=fun _=>True) (okp:=fun _=>True) ?hr ?hp (fun _ hk=>hk) trivial (Below.refl _ _) (Nat.le_refl _) (by simp) ?_;(case hd=>rfl);(case hg=>rfl);(case hr=>first|(go_simp;done)|(go_simp;rfl));(case hp=>exact(Reps.none _ _));intro ve we hR hb hg hat;replace HI:=am_ ((HI.out).zdj hb hR);clear hR hb hg hat)|((with_reducible refine zaq (p:=11) (v:=(.tmp 59)) (t:=34) rfl ?_);go_must (refine wpList_store_row rfl 34 _ _ rfl g11 (#[.int .i64 0,.int .i64 0]) rfl qz0_ 34 (#[.int .i64 0,.int .i64 0]) (HI.out.get 2 rfl) (by kernel_rfl) rfl qz12_ ?_;replace HI:=am_ ((HI.out.front 2 rfl).put0 (#[.int .i64 0,.int .i64 0]));generalize World.setRow _ g11 (#[.int .i64 0,.int .i64 0])=wf at HI ⊢))|((with_reducible refine zaq (p:=12) (v:=(.tmp 60)) (t:=27) rfl ?_);go_must (refine wpList_store_row rfl 27 _ _ rfl g12 (#[.slice none 0 0,.int .i64 0,.string (⟨#[]⟩:ByteArray),.int .i64 0]) rfl qz0_ 27 (#[.slice none 0 0,.int .i64 0,.string (⟨#[]⟩:ByteArray),.int .i64 0]) (HI.out.get 2 rfl) (by kernel_rfl) rfl qz12_ ?_;replace HI:=am_ ((HI.out.front 2 rfl).put0 (#[.slice none 0 0,.int .i64 0,.string (⟨#[]⟩:ByteArray),.int .i64 0]));generalize World.setRow _ g12 (#[.slice none 0 0,.int .i64 0,.string (⟨#[]⟩:ByteArray),.int .i64 0])=wg at HI ⊢)))
   refine bodyPost_ret (zbp rfl _ _ g11 g12 34 27 #[.int .i64 0,.int .i64 0] #[.slice none 0 0,.int .i64 0,.string (⟨#[]⟩:ByteArray),.int .i64 0] (0,0) (0,0) _ _ rfl (HI.out.get 1 rfl) hu34 rfl (by kernel_rfl) rfl (HI.out.get 0 rfl) hu27 rfl (by kernel_rfl)) rfl ?_
   exact⟨_,_,rfl,Kd.zbi (HI.out.get 2 rfl) (fun k hk e=>by simp [Value.ownBlock] at e),Kd.R_nil _ _ _ _ _,HI.out.zef HB.out HPW.out,⟨HI.out.agr.size,HI.out.agr.block⟩⟩
def zcw.f (a0:Int):Option (Bool):=(zcn.f a0 0 2130706432).bind fun t101=>(some t101)
theorem zcw.calls (a0:Int) (r:Bool) (w:World) (h:zcw.f a0=some r) :
  Calls Try.prog 86 #[.int .i64 a0] w fun e w'=>e=.returned (.bool r)∧zbr w w':=by
 have H:((zcn.f a0 0 2130706432).bind fun t101=>(some t101))=some r:=h
 clear h
 replace H:=Option.bind_eq_some_iff.mp H
 obtain⟨t101,A20,H⟩:=H
 replace H:(some t101)=some r:=H
 have A2:=am_ A20
 clear A20
 obtain rfl:=Option.some.inj H
 go_enter Try.func86,Try.ntmps86
 go_wp2_with (first|((with_reducible refine zaz (f:=44) rfl ?_);refine zc5 (some 4) rfl rfl Try.func44 (by kernel_rfl) rfl #[.int .i64 a0,.int .i64 0,.int .i64 2130706432] rfl qz18_ ?_;(with_reducible refine(zcn.calls a0 0 2130706432 t101 _ A2.out).mono ?_);rintro e w' ⟨rfl,⟨nd,rfl⟩⟩;refine⟨_,rfl,?_⟩))
 go_ret
 exact⟨qz10_,qz2_⟩
def zcl.f (a0_0:Int) (a0_1:Int):Option (Bool):=(zcw.f a0_0).bind fun t102=>(if t102=true then((zcw.f a0_1).bind fun t103=>(some t103)) else(some false))
theorem zcl.calls (a0_0:Int) (a0_1:Int) (r:Bool) (w:World) (h:zcl.f a0_0 a0_1=some r) :
  Calls Try.prog 43 #[.agg #[.int .i64 a0_0,.int .i64 a0_1]] w fun e w'=>e=.returned (.bool r)∧Below w.heap.size w w':=by
 have hu34:=Try.underlying34
 have HB:=am_ (Below.refl w.heap.size w)
 have H:((zcw.f a0_0).bind fun t102=>(if t102=true then((zcw.f a0_1).bind fun t103=>(some t103)) else(some false)))=some r:=h
 clear h
 replace H:=Option.bind_eq_some_iff.mp H
 obtain⟨t102,A20,H⟩:=H
 replace H:(if t102=true then((zcw.f a0_1).bind fun t103=>(some t103)) else(some false))=some r:=H
 have A2:=am_ A20
 clear A20
 by_cases c3:t102=true
 ·
  subst c3
  have H1:((zcw.f a0_1).bind fun t103=>(some t103))=some r:=by rw [if_pos rfl] at H;exact H
  clear H
  have H:=H1
  clear H1
  replace H:=Option.bind_eq_some_iff.mp H
  obtain⟨t103,A40,H⟩:=H
  replace H:(some t103)=some r:=H
  have A4:=am_ A40
  clear A40
  obtain rfl:=Option.some.inj H
  go_enter Try.func43,Try.ntmps43
  go_wp2_with (first|((with_reducible refine zad (N:=1) rfl ?_);refine zae rfl (N:=1) rfl (cs:=#[.int .i64 a0_0,.int .i64 a0_1]) (t:=34) bx_ ?_;intro gb101 hg w5 hbox hb;replace BK101:=am_ (hbox);replace GW101:=am_ ((by rw [hg];exact(zac qz4_):w.heap.size≤gb101));replace GE101:=am_ ((by rw [hg];exact(zac qz4_):w.heap.size≤gb101));replace HB:=am_ (zaj qz4_ hb);clear hb hbox hg;have hcz6_0:w5.cell? ⟨gb101,0,none⟩=some (.int .i64 a0_0):=(zaa BK101.out 0).trans rfl;have hcz6_1:w5.cell? ⟨gb101,1,none⟩=some (.int .i64 a0_1):=(zaa BK101.out 1).trans rfl;have hfz6_0:=zab BK101.out 0;have hfz6_1:=zab BK101.out 1)|((with_reducible refine zaz (f:=86) rfl ?_);refine zc5 (some 5) rfl rfl Try.func86 (by kernel_rfl) rfl #[.int .i64 a0_0] rfl qz18_ ?_;(with_reducible refine(zcw.calls a0_0 true _ A2.out).mono ?_);rintro e w' ⟨rfl,⟨nd,rfl⟩⟩;refine⟨_,rfl,?_⟩)|(go_at_call 86;(with_reducible refine(zcw.calls a0_1 t103 _ A4.out).mono ?_);rintro e w' ⟨rfl,⟨nd,rfl⟩⟩))
  go_ret
  exact⟨qz8_,qz14_⟩
 ·
  replace c3:=Bool.eq_false_iff.mpr c3
  subst c3
  have H1:(some false)=some r:=by rw [if_neg (show ¬(false=true) by decide)] at H;exact H
  clear H
  have H:=H1
  clear H1
  obtain rfl:=Option.some.inj H
  go_enter Try.func43,Try.ntmps43
  go_wp2_with (first|((with_reducible refine zad (N:=1) rfl ?_);refine zae rfl (N:=1) rfl (cs:=#[.int .i64 a0_0,.int .i64 a0_1]) (t:=34) bx_ ?_;intro gb101 hg w7 hbox hb;replace BK101:=am_ (hbox);replace GW101:=am_ ((by rw [hg];exact(zac qz4_):w.heap.size≤gb101));replace GE101:=am_ ((by rw [hg];exact(zac qz4_):w.heap.size≤gb101));replace HB:=am_ (zaj qz4_ hb);clear hb hbox hg;have hcz8_0:w7.cell? ⟨gb101,0,none⟩=some (.int .i64 a0_0):=(zaa BK101.out 0).trans rfl;have hcz8_1:w7.cell? ⟨gb101,1,none⟩=some (.int .i64 a0_1):=(zaa BK101.out 1).trans rfl;have hfz8_0:=zab BK101.out 0;have hfz8_1:=zab BK101.out 1)|((with_reducible refine zaz (f:=86) rfl ?_);refine zc5 (some 5) rfl rfl Try.func86 (by kernel_rfl) rfl #[.int .i64 a0_0] rfl qz18_ ?_;(with_reducible refine(zcw.calls a0_0 false _ A2.out).mono ?_);rintro e w' ⟨rfl,⟨nd,rfl⟩⟩;refine⟨_,rfl,?_⟩))
  go_ret
  exact⟨qz8_,qz14_⟩
def zam.p (x:S34):Bool:=(zcl.f (x).f0 (x).f1).getD false
theorem zam.zn7 (x:S34):zcl.f (x).f0 (x).f1=some (zam.p x):=by
 unfold zam.p
 have:∃ b,zcl.f (x).f0 (x).f1=some b:=by
  simp only [zcl.f,zcw.f,zcn.f]
  repeat' (first|exact⟨_,rfl⟩|(split <;> try exact⟨_,rfl⟩)|(simp only [Option.bind_some]))
 obtain⟨b,hb⟩:=this
 rw [hb];rfl
theorem zam.clo (x:S34) (r:Bool) (hr:zcl.f (x).f0 (x).f1=some r) (g:Nat) (w:World) (hg:w.cell? ⟨g,0,none⟩=some (.func (.func 43) #[] #[])) :
  Calls Try.prog 85 #[.agg #[.int .i64 ((x).f0),.int .i64 ((x).f1)],.pointer (some ⟨g,0,none⟩)] w fun e w'=>e=.returned (.bool (!r))∧Below w.heap.size w w':=by
 have hlt:g<w.heap.size:=World.block_lt_of_cell? w _ hg
 have HB:=am_ (Below.refl w.heap.size w)
 go_enter Try.func85,Try.ntmps85
 go_wp2_with (go_at_call 43;(refine(zcl.calls (x).f0 (x).f1 r _ hr).mono ?_);rintro e w' ⟨rfl,hb⟩)
 go_ret
 exact⟨(by first|rfl|simp),(by repeat(first|(with_reducible first|exact HB.out|apply za0|apply zay|apply zat)|exact HB.out|refine zaj ?_ hb))⟩
def zam.Idx (l:List (S34)) (w:World) (e:Ending) (w':World):Prop:=∃ j:Int,e=.returned (.int .i64 j)∧(decide (0≤j)=!(l.all zam.p))∧Below w.heap.size w w'
theorem zam.zkm (l:List (S34)) (k:Nat) (hk:k<l.length) (h:(l.take k).all zam.p=true) (h2:zam.p (l.getD k z34)=true):(l.take (k + 1)).all zam.p=true:=by
 rw [List.take_succ_eq_append_getElem hk,List.all_append,h]
 simp [List.getD_eq_getElem?_getD,hk] at h2
 simp [h2]
theorem zam.zl6 (l:List (S34)) (k:Nat) (hk:k<l.length) (h2:zam.p (l.getD k z34)=false):l.all zam.p=false:=by
 rw [List.all_eq_false]
 simp [List.getD_eq_getElem?_getD,hk] at h2
 exact⟨l[k],List.getElem_mem hk,(by simp [h2])⟩
theorem zam.idx (A0:Option Addr) (c0:Nat) (l0:List (S34)) (g:Nat) (w:World) (hr0:Kd.C k34 w A0 l0.length l0) (hc0:l0.length≤c0) (hm:l0.length≤9223372036854775807) (hg:w.cell? ⟨g,0,none⟩=some (.func (.func 43) #[] #[])) :
  Calls Try.prog 127 #[.slice A0 l0.length c0,.func (.func 85) #[] #[.pointer (some ⟨g,0,none⟩)]] w (zam.Idx l0 w):=by
 have HR0:=am_ hr0
 have HC0:=am_ hc0
 have HG:=am_ hg
 clear hr0 hc0 hg
 have HB:=am_ (Below.refl w.heap.size w)
 go_enter Try.func127,Try.ntmps127
 go_wp2
 go_loopg [8] l0.length (fun kq v8 w'=>∃ k:Nat,k + kq=l0.length∧v8=.int .i64 k∧zal ((l0.take k).all zam.p=true)∧zal (Below w.heap.size w w'))
 case atStart=>exact⟨0,by omega,by first|rfl|simp,⟨rfl⟩,⟨qz4_⟩⟩
 case round=>
  obtain⟨k,hk,rfl,HA,HB⟩:=hrel
  cases gk with
  | zero=>
   have hge:decide ((k:Int)<(l0.length:Int))=false:=decide_eq_false (by omega)
   have hge2:decide (k<l0.length)=false:=decide_eq_false (by omega)
   have hkk:l0.take k=l0:=List.take_of_length_le (by omega)
   have HA2:=am_ (hkk ▸ HA.out)
   clear HA hkk
   go_wp2
   go_ret
   refine⟨-1,rfl,?_,qz4_⟩
   rw [HA2.out]
   rfl
  | succ k1=>
   have hlt:decide ((k:Int)<(l0.length:Int))=true:=decide_eq_true (by omega)
   have hlt2:decide (k<l0.length)=true:=decide_eq_true (by omega)
   have p_:0≤(k:Int):=by omega
   have q_:(k:Int)<(l0.length:Int):=by omega
   obtain⟨ad,e_,hx_0,hx_1⟩:=zey HR0.out k p_ q_
   cases e_
   replace hx_0:=(HB.out.cell (World.block_lt_of_cell? w _ hx_0)).trans hx_0
   replace hx_1:=(HB.out.cell (World.block_lt_of_cell? w _ hx_1)).trans hx_1
   simp only [Int.toNat_natCast] at hx_0 hx_1
   have hgc:=am_ ((HB.out.cell (World.block_lt_of_cell? w _ HG.out)).trans HG.out)
   have hkl:k<l0.length:=by omega
   have hrd:(zan l0 (k:Int))=l0.getD k z34:=rfl
   by_cases hp:zam.p (zan l0 (k:Int))=true
   ·
    have hs:=am_ ((zam.zn7 (zan l0 (k:Int))).trans (congrArg some hp))
    have HA2:=am_ (zam.zkm l0 k hkl HA.out (hrd ▸ hp))
    clear hp HA hrd
    go_wp2_with (go_at_call 85;(refine(zam.clo (zan l0 (k:Int)) true hs.out g _ hgc.out).mono ?_);rintro e w' ⟨rfl,hb⟩;replace HB:=am_ (zaj qz4_ hb);clear hb)
    go_roundg k1
    case measure=>omega
    case rel=>exact⟨k + 1,by omega,by first|rfl|go_num,HA2,⟨qz4_⟩⟩
   ·
    replace hp:=Bool.eq_false_iff.mpr hp
    have hs:=am_ ((zam.zn7 (zan l0 (k:Int))).trans (congrArg some hp))
    have HA2:=am_ (zam.zl6 l0 k hkl (hrd ▸ hp))
    clear hp HA hrd
    go_wp2_with (go_at_call 85;(refine(zam.clo (zan l0 (k:Int)) false hs.out g _ hgc.out).mono ?_);rintro e w' ⟨rfl,hb⟩;replace HB:=am_ (zaj qz4_ hb);clear hb)
    go_ret
    exact⟨(k:Int),rfl,(by rw [HA2.out];simp),qz4_⟩
theorem zam.con (A0:Option Addr) (c0:Nat) (l0:List (S34)) (g:Nat) (w:World) (hr0:Kd.C k34 w A0 l0.length l0) (hc0:l0.length≤c0) (hm:l0.length≤9223372036854775807) (hg:w.cell? ⟨g,0,none⟩=some (.func (.func 43) #[] #[])) :
  Calls Try.prog 84 #[.slice A0 l0.length c0,.func (.func 85) #[] #[.pointer (some ⟨g,0,none⟩)]] w fun e w'=>e=.returned (.bool (!(l0.all zam.p)))∧Below w.heap.size w w':=by
 have HR0:=am_ hr0
 have HC0:=am_ hc0
 have HG:=am_ hg
 clear hr0 hc0 hg
 go_enter Try.func84,Try.ntmps84
 go_wp2_with (go_at_call 127;(refine(zam.idx A0 c0 l0 g _ HR0.out HC0.out hm HG.out).mono ?_);rintro e w' ⟨j,rfl,hj,hb⟩;have HJ:=am_ hj;clear hj)
 go_ret
 exact⟨(by rw [←HJ.out];rfl),(by repeat(first|exact hb|exact Below.refl _ _|apply za0|apply zay|apply zat))⟩
def zam.f (l1:List (S34)):Option (Bool):=some (l1.all zam.p)
theorem zam.calls (A1:Option Addr) (c1:Nat) (l1:List (S34)) (r:Bool) (w:World) (hr1:Kd.C k34 w A1 l1.length l1) (hc1:l1.length≤c1) (h:zam.f l1=some r) :
  Calls Try.prog 42 #[(Value.func (.func 43) #[] #[]),.slice A1 l1.length c1] w fun e w'=>e=.returned (.bool r)∧Below w.heap.size w w':=by
 unfold zam.f at h
 have hm:l1.length≤9223372036854775807:=hr1.2.1
 ·
  obtain rfl:=Option.some.inj h
  have HR1:=am_ hr1
  have HC1:=am_ hc1
  clear hr1 hc1 h
  have HB:=am_ (Below.refl w.heap.size w)
  go_enter Try.func42,Try.ntmps42
  go_wp2_with (go_at_call 84;(refine(zam.con A1 c1 l1 w.heap.size _ (Kd.zbs HR1.out qz4_) HC1.out hm (by first|rfl|simp)).mono ?_);rintro e w' ⟨rfl,hb⟩;replace HB:=am_ (zaj qz4_ hb);clear hb)
  go_ret
  exact⟨(by first|rfl|simp),qz4_⟩
end Go.Proofs.Ytgookagndlfehaa.PT
end
section
namespace Go.Proofs.Ytgookagndlfehaa.PT
open Go Go.RowKit Go.Proofs.YtgookagndlfehaaW.PrintWords Go.Proofs.YtgookagndlfehaaW.PrintLast Go.Proofs.YtgookagndlfehaaW.PrintMore
set_option linter.unusedVariables false
set_option linter.unusedSimpArgs false
def okR (x:List S34):Bool:=decide ((x.length:Int)≤8) && x.all zam.p
theorem okR.clo (A:Option Addr) (c:Nat) (x:List S34) (w:World) (hr:Kd.C k34 w A x.length x) (hc:x.length≤c) :
  Calls Try.prog 78 #[.slice A x.length c] w fun e w'=>e=.returned (.bool (!(okR x)))∧Below w.heap.size w w':=by
 have HR:=am_ hr
 have HC:=am_ hc
 clear hr hc
 have HB:=am_ (Below.refl w.heap.size w)
 by_cases h:(x.length:Int)>8
 ·
  have b0:decide ((x.length:Int)>8)=true:=decide_eq_true h
  have b1:decide (8<(x.length:Int))=true:=decide_eq_true h
  have b2:decide (8<x.length)=true:=decide_eq_true (by omega)
  have hp:okR x=false:=by unfold okR;rw [decide_eq_false (show ¬(x.length:Int)≤8 by omega),Bool.false_and]
  rw [hp]
  clear h hp
  go_enter Try.func78,Try.ntmps78
  go_wp2
  go_ret
  exact⟨(by first|rfl|simp),qz4_⟩
 ·
  have b0:decide ((x.length:Int)>8)=false:=decide_eq_false h
  have b1:decide (8<(x.length:Int))=false:=decide_eq_false h
  have b2:decide (8<x.length)=false:=decide_eq_false (by omega)
  have hp:okR x=x.all zam.p:=by unfold okR;rw [decide_eq_true (show (x.length:Int)≤8 by omega),Bool.true_and]
  rw [hp]
  clear h hp
  go_enter Try.func78,Try.ntmps78
  go_wp2_with (go_at_call 42;(refine(zam.calls A c x _ _ (by repeat(first|exact(Kd.zbs HR.out HB.out)|(with_reducible refine Kd.zg2 ?_ _)|(with_reducible refine Kd.zhw ?_ _)|(with_reducible refine Kd.zjc ?_))) HC.out rfl).mono ?_);rintro e w' ⟨rfl,hb⟩;replace HB:=am_ (zaj qz4_ hb);clear hb)
  go_ret
  exact⟨(by first|rfl|simp),qz4_⟩
theorem okR.zkm (l:List (List S34)) (k:Nat) (hk:k<l.length) (h:(l.take k).all okR=true) (h2:okR (l.getD k [])=true):(l.take (k + 1)).all okR=true:=by
 rw [List.take_succ_eq_append_getElem hk,List.all_append,h]
 simp [List.getD_eq_getElem?_getD,hk] at h2
 simp [h2]
theorem okR.zl6 (l:List (List S34)) (k:Nat) (hk:k<l.length) (h2:okR (l.getD k [])=false):l.all okR=false:=by
 rw [List.all_eq_false]
 simp [List.getD_eq_getElem?_getD,hk] at h2
 exact⟨l[k],List.getElem_mem hk,(by simp [h2])⟩
theorem at_row {w:World} {A:Option Addr} {n:Nat} {xs:List (List S34)} (h:Kd.C (Kd.slice 34 k34) w A n xs) (k:Nat) (hk:k<n):∃ ad A0 c0,A=some ad∧w.cell? (ad.add k)=some (.slice A0 (xs.getD k []).length c0)∧(xs.getD k []).length≤c0∧Kd.C k34 w A0 (xs.getD k []).length (xs.getD k []):=by
 obtain⟨ad,c,e,_,hK,hc0⟩:=Kd.C_get h ([]:List S34) (k:Int) (by omega) (by omega)
 have hc:∀ j u,c[j]?=some u→w.cell? (ad.add ((k:Int).toNat * 1 + j))=some u:=hc0
 rw [Int.toNat_natCast] at hc hK
 obtain⟨B,cc,rfl,hl,hC⟩:=hK
 exact⟨ad,B,cc,e,(by have:=hc 0 _ rfl;simpa using this),hl,hC⟩
theorem okR.idx (A0:Option Addr) (c0:Nat) (l0:List (List S34)) (w:World) (hr0:Kd.C (Kd.slice 34 k34) w A0 l0.length l0) (hm:l0.length≤9223372036854775807) :
  Calls Try.prog 120 #[.slice A0 l0.length c0,.func (.func 78) #[] #[]] w fun e w'=>∃ j:Int,e=.returned (.int .i64 j)∧(decide (0≤j)=!(l0.all okR))∧Below w.heap.size w w':=by
 have HR0:=am_ hr0
 clear hr0
 have HB:=am_ (Below.refl w.heap.size w)
 go_enter Try.func120,Try.ntmps120
 go_wp2
 go_loopg [8] l0.length (fun kq v8 w'=>∃ k:Nat,k + kq=l0.length∧v8=.int .i64 k∧zal ((l0.take k).all okR=true)∧zal (Below w.heap.size w w'))
 case atStart=>exact⟨0,by omega,by first|rfl|simp,⟨rfl⟩,⟨qz4_⟩⟩
 case round=>
  obtain⟨k,hk,rfl,HA,HB⟩:=hrel
  cases gk with
  | zero=>
   have hge:decide ((k:Int)<(l0.length:Int))=false:=decide_eq_false (by omega)
   have hge2:decide (k<l0.length)=false:=decide_eq_false (by omega)
   have hkk:l0.take k=l0:=List.take_of_length_le (by omega)
   have HA2:=am_ (hkk ▸ HA.out)
   clear HA hkk
   go_wp2
   go_ret
   refine⟨-1,rfl,?_,qz4_⟩
   rw [HA2.out]
   rfl
  | succ k1=>
   have hkl:k<l0.length:=by omega
   have hlt:decide ((k:Int)<(l0.length:Int))=true:=decide_eq_true (by omega)
   have hlt2:decide (k<l0.length)=true:=decide_eq_true hkl
   have p_:0≤(k:Int):=by omega
   have q_:(k:Int)<(l0.length:Int):=by omega
   obtain⟨ad,Ai,ci,e_,hx,hl,hi⟩:=at_row HR0.out k hkl
   cases e_
   replace hx:=(HB.out.cell (World.block_lt_of_cell? w _ hx)).trans hx
   have HI:=am_ (Kd.zbs hi HB.out)
   clear hi
   by_cases hp:okR (l0.getD k [])=true
   ·
    have hs:=am_ hp
    have HA2:=am_ (okR.zkm l0 k hkl HA.out hp)
    clear hp HA
    generalize l0.getD k []=rr at hx hl HI hs
    go_wp2_with (go_at_call 78;(refine(okR.clo _ _ rr _ (by repeat(first|exact HI.out|(with_reducible refine Kd.zg2 ?_ _)|(with_reducible refine Kd.zhw ?_ _)|(with_reducible refine Kd.zjc ?_))) hl).mono ?_);rw [hs.out];rintro e w' ⟨rfl,hb⟩;replace HB:=am_ (zaj qz4_ hb);clear hb)
    go_roundg k1
    case measure=>omega
    case rel=>exact⟨k + 1,by omega,by first|rfl|go_num,HA2,⟨qz4_⟩⟩
   ·
    replace hp:=Bool.eq_false_iff.mpr hp
    have hs:=am_ hp
    have HA2:=am_ (okR.zl6 l0 k hkl hp)
    clear hp HA
    generalize l0.getD k []=rr at hx hl HI hs
    go_wp2_with (go_at_call 78;(refine(okR.clo _ _ rr _ (by repeat(first|exact HI.out|(with_reducible refine Kd.zg2 ?_ _)|(with_reducible refine Kd.zhw ?_ _)|(with_reducible refine Kd.zjc ?_))) hl).mono ?_);rw [hs.out];rintro e w' ⟨rfl,hb⟩;replace HB:=am_ (zaj qz4_ hb);clear hb)
    go_ret
    exact⟨(k:Int),rfl,(by rw [HA2.out];simp),qz4_⟩
theorem okR.con (A0:Option Addr) (c0:Nat) (l0:List (List S34)) (w:World) (hr0:Kd.C (Kd.slice 34 k34) w A0 l0.length l0) :
  Calls Try.prog 77 #[.slice A0 l0.length c0,.func (.func 78) #[] #[]] w fun e w'=>e=.returned (.bool (!(l0.all okR)))∧Below w.heap.size w w':=by
 have hm:l0.length≤9223372036854775807:=hr0.2.1
 have HR0:=am_ hr0
 clear hr0
 go_enter Try.func77,Try.ntmps77
 go_wp2_with (go_at_call 120;(refine(okR.idx A0 c0 l0 _ (by repeat(first|exact HR0.out|(with_reducible refine Kd.zg2 ?_ _)|(with_reducible refine Kd.zhw ?_ _)|(with_reducible refine Kd.zjc ?_))) hm).mono ?_);rintro e w' ⟨j,rfl,hj,hb⟩;have HJ:=am_ hj;clear hj)
 go_ret
 exact⟨(by rw [←HJ.out];rfl),(by repeat(first|exact hb|exact Below.refl _ _|apply za0|apply zay|apply zat))⟩
def zd7.f (a0:ByteArray):Option (Bool):=some ((a0.size:Int) == 32)
theorem zd7.calls (a0:ByteArray) (r:Bool) (w:World) (h:zd7.f a0=some r) :
  Calls Try.prog 47 #[.string a0] w fun e w'=>e=.returned (.bool r)∧zbr w w':=by
 have H:(some ((a0.size:Int) == 32))=some r:=h
 clear h
 obtain rfl:=Option.some.inj H
 go_enter Try.func47,Try.ntmps47
 go_wp2
 go_ret
 exact⟨qz10_,qz2_⟩
def zcq.f (l0_0:List (S34)) (a0_1:Int) (a0_2:ByteArray) (a0_3:Int):Option (Bool):=if (l0_0.length:Int)≤64 then((zam.f l0_0).bind fun t102=>(if t102=true then((zd7.f a0_2).bind fun t103=>(if t103=true then((zcn.f a0_1 0 1000000).bind fun t104=>(if t104=true then((zcn.f a0_3 0 1000000).bind fun t105=>(some t105)) else(some false))) else(some false))) else(some false))) else(some false)
theorem zcq.calls (A0_0:Option Addr) (c0_0:Nat) (l0_0:List (S34)) (a0_1:Int) (a0_2:ByteArray) (a0_3:Int) (r:Bool) (w:World) (hr0_0:Kd.C k34 w A0_0 l0_0.length l0_0) (hc0_0:l0_0.length≤c0_0) (h:zcq.f l0_0 a0_1 a0_2 a0_3=some r) :
  Calls Try.prog 11 #[.agg #[.slice A0_0 l0_0.length c0_0,.int .i64 a0_1,.string a0_2,.int .i64 a0_3]] w fun e w'=>e=.returned (.bool r)∧Below w.heap.size w w':=by
 have hu27:=Try.underlying27
 have HR0_0:=am_ hr0_0
 have HC0_0:=am_ hc0_0
 clear hr0_0 hc0_0
 have HB:=am_ (Below.refl w.heap.size w)
 have H:(if (l0_0.length:Int)≤64 then((zam.f l0_0).bind fun t102=>(if t102=true then((zd7.f a0_2).bind fun t103=>(if t103=true then((zcn.f a0_1 0 1000000).bind fun t104=>(if t104=true then((zcn.f a0_3 0 1000000).bind fun t105=>(some t105)) else(some false))) else(some false))) else(some false))) else(some false))=some r:=h
 clear h
 by_cases c2:(l0_0.length:Int)≤64
 ·
  rw [if_pos c2] at H
  have c2b0:decide ((l0_0.length:Int)≤64)=true:=decide_eq_true c2
  have c2b1:decide (l0_0.length≤64)=true:=decide_eq_true (by omega)
  clear c2
  replace H:=Option.bind_eq_some_iff.mp H
  obtain⟨t102,A30,H⟩:=H
  replace H:(if t102=true then((zd7.f a0_2).bind fun t103=>(if t103=true then((zcn.f a0_1 0 1000000).bind fun t104=>(if t104=true then((zcn.f a0_3 0 1000000).bind fun t105=>(some t105)) else(some false))) else(some false))) else(some false))=some r:=H
  have A3:=am_ A30
  clear A30
  by_cases c4:t102=true
  ·
   subst c4
   have H1:((zd7.f a0_2).bind fun t103=>(if t103=true then((zcn.f a0_1 0 1000000).bind fun t104=>(if t104=true then((zcn.f a0_3 0 1000000).bind fun t105=>(some t105)) else(some false))) else(some false)))=some r:=by rw [if_pos rfl] at H;exact H
   clear H
   have H:=H1
   clear H1
   replace H:=Option.bind_eq_some_iff.mp H
   obtain⟨t103,A50,H⟩:=H
   replace H:(if t103=true then((zcn.f a0_1 0 1000000).bind fun t104=>(if t104=true then((zcn.f a0_3 0 1000000).bind fun t105=>(some t105)) else(some false))) else(some false))=some r:=H
   have A5:=am_ A50
   clear A50
   by_cases c6:t103=true
   ·
    subst c6
    have H1:((zcn.f a0_1 0 1000000).bind fun t104=>(if t104=true then((zcn.f a0_3 0 1000000).bind fun t105=>(some t105)) else(some false)))=some r:=by rw [if_pos rfl] at H;exact H
    clear H
    have H:=H1
    clear H1
    replace H:=Option.bind_eq_some_iff.mp H
    obtain⟨t104,A70,H⟩:=H
    replace H:(if t104=true then((zcn.f a0_3 0 1000000).bind fun t105=>(some t105)) else(some false))=some r:=H
    have A7:=am_ A70
    clear A70
    by_cases c8:t104=true
    ·
     subst c8
     have H1:((zcn.f a0_3 0 1000000).bind fun t105=>(some t105))=some r:=by rw [if_pos rfl] at H;exact H
     clear H
     have H:=H1
     clear H1
     replace H:=Option.bind_eq_some_iff.mp H
     obtain⟨t105,A90,H⟩:=H
     replace H:(some t105)=some r:=H
     have A9:=am_ A90
     clear A90
     obtain rfl:=Option.some.inj H
     go_enter Try.func11,Try.ntmps11
     go_wp2_with (first|((with_reducible refine zad (N:=1) rfl ?_);refine zae rfl (N:=1) rfl (cs:=#[.slice A0_0 l0_0.length c0_0,.int .i64 a0_1,.string a0_2,.int .i64 a0_3]) (t:=27) bx_ ?_;intro gb101 hg w10 hbox hb;replace BK101:=am_ (hbox);replace GW101:=am_ ((by rw [hg];exact(zac qz4_):w.heap.size≤gb101));replace GE101:=am_ ((by rw [hg];exact(zac qz4_):w.heap.size≤gb101));replace HB:=am_ (zaj qz4_ hb);clear hb hbox hg;have hcz11_0:w10.cell? ⟨gb101,0,none⟩=some (.slice A0_0 l0_0.length c0_0):=(zaa BK101.out 0).trans rfl;have hcz11_1:w10.cell? ⟨gb101,1,none⟩=some (.int .i64 a0_1):=(zaa BK101.out 1).trans rfl;have hcz11_2:w10.cell? ⟨gb101,2,none⟩=some (.string a0_2):=(zaa BK101.out 2).trans rfl;have hcz11_3:w10.cell? ⟨gb101,3,none⟩=some (.int .i64 a0_3):=(zaa BK101.out 3).trans rfl;have hfz11_0:=zab BK101.out 0;have hfz11_1:=zab BK101.out 1;have hfz11_2:=zab BK101.out 2;have hfz11_3:=zab BK101.out 3)|(go_at_call 42;(with_reducible refine(zam.calls  _ _ l0_0 true _ ?side1 ?side2 A3.out).mono ?_);(case side1=>exact qc_ (Kd.zbs HR0_0.out HB.out));(case side2=>exact HC0_0.out);rintro e w12 ⟨rfl,hb⟩;replace BK101:=am_ (zak (g:=gb101) (o:=.cells #[.slice A0_0 l0_0.length c0_0,.int .i64 a0_1,.string a0_2,.int .i64 a0_3] 27 (0,0)) qz13_ hb);replace HB:=am_ (zaj qz14_ hb);(try clear hb);(try clear hb2);(try clear hk);(try clear hi);have hcz13_0:w12.cell? ⟨gb101,0,none⟩=some (.slice A0_0 l0_0.length c0_0):=(zaa BK101.out 0).trans rfl;have hcz13_1:w12.cell? ⟨gb101,1,none⟩=some (.int .i64 a0_1):=(zaa BK101.out 1).trans rfl;have hcz13_2:w12.cell? ⟨gb101,2,none⟩=some (.string a0_2):=(zaa BK101.out 2).trans rfl;have hcz13_3:w12.cell? ⟨gb101,3,none⟩=some (.int .i64 a0_3):=(zaa BK101.out 3).trans rfl;have hfz13_0:=zab BK101.out 0;have hfz13_1:=zab BK101.out 1;have hfz13_2:=zab BK101.out 2;have hfz13_3:=zab BK101.out 3)|(go_at_call 47;(with_reducible refine(zd7.calls a0_2 true _ A5.out).mono ?_);rintro e w' ⟨rfl,⟨nd,rfl⟩⟩)|(go_at_call 44;(with_reducible refine(zcn.calls a0_1 0 1000000 true _ A7.out).mono ?_);rintro e w' ⟨rfl,⟨nd,rfl⟩⟩)|(go_at_call 44;(with_reducible refine(zcn.calls a0_3 0 1000000 t105 _ A9.out).mono ?_);rintro e w' ⟨rfl,⟨nd,rfl⟩⟩))
     go_ret
     exact⟨qz8_,qz14_⟩
    ·
     replace c8:=Bool.eq_false_iff.mpr c8
     subst c8
     have H1:(some false)=some r:=by rw [if_neg (show ¬(false=true) by decide)] at H;exact H
     clear H
     have H:=H1
     clear H1
     obtain rfl:=Option.some.inj H
     go_enter Try.func11,Try.ntmps11
     go_wp2_with (first|((with_reducible refine zad (N:=1) rfl ?_);refine zae rfl (N:=1) rfl (cs:=#[.slice A0_0 l0_0.length c0_0,.int .i64 a0_1,.string a0_2,.int .i64 a0_3]) (t:=27) bx_ ?_;intro gb101 hg w14 hbox hb;replace BK101:=am_ (hbox);replace GW101:=am_ ((by rw [hg];exact(zac qz4_):w.heap.size≤gb101));replace GE101:=am_ ((by rw [hg];exact(zac qz4_):w.heap.size≤gb101));replace HB:=am_ (zaj qz4_ hb);clear hb hbox hg;have hcz15_0:w14.cell? ⟨gb101,0,none⟩=some (.slice A0_0 l0_0.length c0_0):=(zaa BK101.out 0).trans rfl;have hcz15_1:w14.cell? ⟨gb101,1,none⟩=some (.int .i64 a0_1):=(zaa BK101.out 1).trans rfl;have hcz15_2:w14.cell? ⟨gb101,2,none⟩=some (.string a0_2):=(zaa BK101.out 2).trans rfl;have hcz15_3:w14.cell? ⟨gb101,3,none⟩=some (.int .i64 a0_3):=(zaa BK101.out 3).trans rfl;have hfz15_0:=zab BK101.out 0;have hfz15_1:=zab BK101.out 1;have hfz15_2:=zab BK101.out 2;have hfz15_3:=zab BK101.out 3)|(go_at_call 42;(with_reducible refine(zam.calls  _ _ l0_0 true _ ?side1 ?side2 A3.out).mono ?_);(case side1=>exact qc_ (Kd.zbs HR0_0.out HB.out));(case side2=>exact HC0_0.out);rintro e w16 ⟨rfl,hb⟩;replace BK101:=am_ (zak (g:=gb101) (o:=.cells #[.slice A0_0 l0_0.length c0_0,.int .i64 a0_1,.string a0_2,.int .i64 a0_3] 27 (0,0)) qz13_ hb);replace HB:=am_ (zaj qz14_ hb);(try clear hb);(try clear hb2);(try clear hk);(try clear hi);have hcz17_0:w16.cell? ⟨gb101,0,none⟩=some (.slice A0_0 l0_0.length c0_0):=(zaa BK101.out 0).trans rfl;have hcz17_1:w16.cell? ⟨gb101,1,none⟩=some (.int .i64 a0_1):=(zaa BK101.out 1).trans rfl;have hcz17_2:w16.cell? ⟨gb101,2,none⟩=some (.string a0_2):=(zaa BK101.out 2).trans rfl;have hcz17_3:w16.cell? ⟨gb101,3,none⟩=some (.int .i64 a0_3):=(zaa BK101.out 3).trans rfl;have hfz17_0:=zab BK101.out 0;have hfz17_1:=zab BK101.out 1;have hfz17_2:=zab BK101.out 2;have hfz17_3:=zab BK101.out 3)|(go_at_call 47;(with_reducible refine(zd7.calls a0_2 true _ A5.out).mono ?_);rintro e w' ⟨rfl,⟨nd,rfl⟩⟩)|(go_at_call 44;(with_reducible refine(zcn.calls a0_1 0 1000000 false _ A7.out).mono ?_);rintro e w' ⟨rfl,⟨nd,rfl⟩⟩))
     go_ret
     exact⟨qz8_,qz14_⟩
   ·
    replace c6:=Bool.eq_false_iff.mpr c6
    subst c6
    have H1:(some false)=some r:=by rw [if_neg (show ¬(false=true) by decide)] at H;exact H
    clear H
    have H:=H1
    clear H1
    obtain rfl:=Option.some.inj H
    go_enter Try.func11,Try.ntmps11
    go_wp2_with (first|((with_reducible refine zad (N:=1) rfl ?_);refine zae rfl (N:=1) rfl (cs:=#[.slice A0_0 l0_0.length c0_0,.int .i64 a0_1,.string a0_2,.int .i64 a0_3]) (t:=27) bx_ ?_;intro gb101 hg w18 hbox hb;replace BK101:=am_ (hbox);replace GW101:=am_ ((by rw [hg];exact(zac qz4_):w.heap.size≤gb101));replace GE101:=am_ ((by rw [hg];exact(zac qz4_):w.heap.size≤gb101));replace HB:=am_ (zaj qz4_ hb);clear hb hbox hg;have hcz19_0:w18.cell? ⟨gb101,0,none⟩=some (.slice A0_0 l0_0.length c0_0):=(zaa BK101.out 0).trans rfl;have hcz19_1:w18.cell? ⟨gb101,1,none⟩=some (.int .i64 a0_1):=(zaa BK101.out 1).trans rfl;have hcz19_2:w18.cell? ⟨gb101,2,none⟩=some (.string a0_2):=(zaa BK101.out 2).trans rfl;have hcz19_3:w18.cell? ⟨gb101,3,none⟩=some (.int .i64 a0_3):=(zaa BK101.out 3).trans rfl;have hfz19_0:=zab BK101.out 0;have hfz19_1:=zab BK101.out 1;have hfz19_2:=zab BK101.out 2;have hfz19_3:=zab BK101.out 3)|(go_at_call 42;(with_reducible refine(zam.calls  _ _ l0_0 true _ ?side1 ?side2 A3.out).mono ?_);(case side1=>exact qc_ (Kd.zbs HR0_0.out HB.out));(case side2=>exact HC0_0.out);rintro e w20 ⟨rfl,hb⟩;replace BK101:=am_ (zak (g:=gb101) (o:=.cells #[.slice A0_0 l0_0.length c0_0,.int .i64 a0_1,.string a0_2,.int .i64 a0_3] 27 (0,0)) qz13_ hb);replace HB:=am_ (zaj qz14_ hb);(try clear hb);(try clear hb2);(try clear hk);(try clear hi);have hcz21_0:w20.cell? ⟨gb101,0,none⟩=some (.slice A0_0 l0_0.length c0_0):=(zaa BK101.out 0).trans rfl;have hcz21_1:w20.cell? ⟨gb101,1,none⟩=some (.int .i64 a0_1):=(zaa BK101.out 1).trans rfl;have hcz21_2:w20.cell? ⟨gb101,2,none⟩=some (.string a0_2):=(zaa BK101.out 2).trans rfl;have hcz21_3:w20.cell? ⟨gb101,3,none⟩=some (.int .i64 a0_3):=(zaa BK101.out 3).trans rfl;have hfz21_0:=zab BK101.out 0;have hfz21_1:=zab BK101.out 1;have hfz21_2:=zab BK101.out 2;have hfz21_3:=zab BK101.out 3)|(go_at_call 47;(with_reducible refine(zd7.calls a0_2 false _ A5.out).mono ?_);rintro e w' ⟨rfl,⟨nd,rfl⟩⟩))
    go_ret
    exact⟨qz8_,qz14_⟩
  ·
   replace c4:=Bool.eq_false_iff.mpr c4
   subst c4
   have H1:(some false)=some r:=by rw [if_neg (show ¬(false=true) by decide)] at H;exact H
   clear H
   have H:=H1
   clear H1
   obtain rfl:=Option.some.inj H
   go_enter Try.func11,Try.ntmps11
   go_wp2_with (first|((with_reducible refine zad (N:=1) rfl ?_);refine zae rfl (N:=1) rfl (cs:=#[.slice A0_0 l0_0.length c0_0,.int .i64 a0_1,.string a0_2,.int .i64 a0_3]) (t:=27) bx_ ?_;intro gb101 hg w22 hbox hb;replace BK101:=am_ (hbox);replace GW101:=am_ ((by rw [hg];exact(zac qz4_):w.heap.size≤gb101));replace GE101:=am_ ((by rw [hg];exact(zac qz4_):w.heap.size≤gb101));replace HB:=am_ (zaj qz4_ hb);clear hb hbox hg;have hcz23_0:w22.cell? ⟨gb101,0,none⟩=some (.slice A0_0 l0_0.length c0_0):=(zaa BK101.out 0).trans rfl;have hcz23_1:w22.cell? ⟨gb101,1,none⟩=some (.int .i64 a0_1):=(zaa BK101.out 1).trans rfl;have hcz23_2:w22.cell? ⟨gb101,2,none⟩=some (.string a0_2):=(zaa BK101.out 2).trans rfl;have hcz23_3:w22.cell? ⟨gb101,3,none⟩=some (.int .i64 a0_3):=(zaa BK101.out 3).trans rfl;have hfz23_0:=zab BK101.out 0;have hfz23_1:=zab BK101.out 1;have hfz23_2:=zab BK101.out 2;have hfz23_3:=zab BK101.out 3)|(go_at_call 42;(with_reducible refine(zam.calls  _ _ l0_0 false _ ?side1 ?side2 A3.out).mono ?_);(case side1=>exact qc_ (Kd.zbs HR0_0.out HB.out));(case side2=>exact HC0_0.out);rintro e w24 ⟨rfl,hb⟩;replace BK101:=am_ (zak (g:=gb101) (o:=.cells #[.slice A0_0 l0_0.length c0_0,.int .i64 a0_1,.string a0_2,.int .i64 a0_3] 27 (0,0)) qz13_ hb);replace HB:=am_ (zaj qz14_ hb);(try clear hb);(try clear hb2);(try clear hk);(try clear hi)))
   go_ret
   exact⟨qz8_,qz14_⟩
 ·
  rw [if_neg c2] at H
  have c2b0:decide ((l0_0.length:Int)≤64)=false:=decide_eq_false c2
  have c2b1:decide (l0_0.length≤64)=false:=decide_eq_false (by omega)
  clear c2
  obtain rfl:=Option.some.inj H
  go_enter Try.func11,Try.ntmps11
  go_wp2_with (first|((with_reducible refine zad (N:=1) rfl ?_);refine zae rfl (N:=1) rfl (cs:=#[.slice A0_0 l0_0.length c0_0,.int .i64 a0_1,.string a0_2,.int .i64 a0_3]) (t:=27) bx_ ?_;intro gb101 hg w25 hbox hb;replace BK101:=am_ (hbox);replace GW101:=am_ ((by rw [hg];exact(zac qz4_):w.heap.size≤gb101));replace GE101:=am_ ((by rw [hg];exact(zac qz4_):w.heap.size≤gb101));replace HB:=am_ (zaj qz4_ hb);clear hb hbox hg;have hcz26_0:w25.cell? ⟨gb101,0,none⟩=some (.slice A0_0 l0_0.length c0_0):=(zaa BK101.out 0).trans rfl;have hcz26_1:w25.cell? ⟨gb101,1,none⟩=some (.int .i64 a0_1):=(zaa BK101.out 1).trans rfl;have hcz26_2:w25.cell? ⟨gb101,2,none⟩=some (.string a0_2):=(zaa BK101.out 2).trans rfl;have hcz26_3:w25.cell? ⟨gb101,3,none⟩=some (.int .i64 a0_3):=(zaa BK101.out 3).trans rfl;have hfz26_0:=zab BK101.out 0;have hfz26_1:=zab BK101.out 1;have hfz26_2:=zab BK101.out 2;have hfz26_3:=zab BK101.out 3))
  go_ret
  exact⟨qz8_,qz14_⟩
def zc0.f (l0_0:List (S34)) (a0_1:Int) (a0_2:ByteArray) (a0_3:Int):Option (Int):=some (wrap64 (1000000 - (mx a0_1 a0_3)))
theorem zc0.calls (A0_0:Option Addr) (c0_0:Nat) (l0_0:List (S34)) (a0_1:Int) (a0_2:ByteArray) (a0_3:Int) (r:Int) (w:World) (hr0_0:Kd.C k34 w A0_0 l0_0.length l0_0) (hc0_0:l0_0.length≤c0_0) (h:zc0.f l0_0 a0_1 a0_2 a0_3=some r) :
  Calls Try.prog 80 #[.agg #[.slice A0_0 l0_0.length c0_0,.int .i64 a0_1,.string a0_2,.int .i64 a0_3]] w fun e w'=>e=.returned (.int .i64 r)∧Below w.heap.size w w':=by
 have hu27:=Try.underlying27
 have HR0_0:=am_ hr0_0
 have HC0_0:=am_ hc0_0
 clear hr0_0 hc0_0
 have HB:=am_ (Below.refl w.heap.size w)
 have H:(some (wrap64 (1000000 - (mx a0_1 a0_3))))=some r:=h
 clear h
 obtain⟨ji2,hji2⟩:∃ j_:Int,(mx a0_1 a0_3)=j_:=⟨_,rfl⟩
 replace H:(some (wrap64 (1000000 - (ji2))))=some r:=by first|(rw [hji2] at H;exact H)|(simp only [hji2] at H ⊢;exact H)
 have hji2_:(if a0_1<a0_3 then a0_3 else a0_1)=ji2:=hji2
 have hmx : max a0_1 a0_3 = ji2 := by rw [← hji2]; unfold mx; omega
 obtain rfl:=Option.some.inj H
 go_enter Try.func80,Try.ntmps80
 go_wp2_with (first|((with_reducible refine zad (N:=1) rfl ?_);refine zae rfl (N:=1) rfl (cs:=#[.slice A0_0 l0_0.length c0_0,.int .i64 a0_1,.string a0_2,.int .i64 a0_3]) (t:=27) bx_ ?_;intro gb101 hg w3 hbox hb;replace BK101:=am_ (hbox);replace GW101:=am_ ((by rw [hg];exact(zac qz4_):w.heap.size≤gb101));replace GE101:=am_ ((by rw [hg];exact(zac qz4_):w.heap.size≤gb101));replace HB:=am_ (zaj qz4_ hb);clear hb hbox hg;have hcz4_0:w3.cell? ⟨gb101,0,none⟩=some (.slice A0_0 l0_0.length c0_0):=(zaa BK101.out 0).trans rfl;have hcz4_1:w3.cell? ⟨gb101,1,none⟩=some (.int .i64 a0_1):=(zaa BK101.out 1).trans rfl;have hcz4_2:w3.cell? ⟨gb101,2,none⟩=some (.string a0_2):=(zaa BK101.out 2).trans rfl;have hcz4_3:w3.cell? ⟨gb101,3,none⟩=some (.int .i64 a0_3):=(zaa BK101.out 3).trans rfl;have hfz4_0:=zab BK101.out 0;have hfz4_1:=zab BK101.out 1;have hfz4_2:=zab BK101.out 2;have hfz4_3:=zab BK101.out 3))
 go_ret
 exact⟨(by first|rfl|(simp [zc3,zc2] <;> rfl)|(simp only [←hji2];first|rfl|(simp [zc3,zc2] <;> rfl))|(simp [*,zc3,zc2] <;> rfl)),qz14_⟩
def ze3.f (l0:List (S34)):Option (List (S34)):=if l0.length<8796093022208 then some l0 else none
theorem ze3.calls (A0:Option Addr) (c0:Nat) (l0:List (S34)) (r:List (S34)) (w:World) (hr0:Kd.C k34 w A0 l0.length l0) (hc0:l0.length≤c0) (h:ze3.f l0=some r) :
  Calls Try.prog 45 #[.slice A0 l0.length c0] w fun e w'=>∃ v0_:Value,e=.returned (v0_)∧Kd.R k34 34 w' w.heap.size (fun _=>True) v0_ r∧Below w.heap.size w w':=by
 unfold ze3.f at h
 by_cases c4:l0.length<8796093022208
 ·
  rw [if_pos c4] at h
  obtain rfl:=Option.some.inj h
  clear h
  have LMc4:=am_ c4
  clear c4
  cases A0 with
  | none=>
   have hl:l0=[]:=by
    cases l0 with
    | nil=>rfl
    | cons x t=>obtain⟨ad,h1,_⟩:=hr0.2.2 (by simp);cases h1
   subst hl
   have HB:=am_ (Below.refl w.heap.size w)
   have hq:∀ W:World,(binOp .eql 24 (.slice none 0 c0) (.slice none 0 0)).run Try.prog W=.ok (.bool true) W:=fun W=>Lib.run_eql_slice_nil_nil W 0 c0 Try.underlying24
   go_enter Try.func45,Try.ntmps45
   go_wp2
   go_ret
   exact⟨_,(by first|rfl|(simp;done)),Kd.R_nil _ _ _ _ _,qz4_⟩
  | some ad0=>
   have HR0:=am_ hr0
   have HC0:=am_ hc0
   clear hr0 hc0
   have hq:∀ W:World,(binOp .eql 24 (.slice (some ad0) l0.length c0) (.slice none 0 0)).run Try.prog W=.ok (.bool false) W:=fun W=>Lib.run_eql_slice_nil W 24 34 (some ad0) l0.length c0 0 0 Try.underlying24
   have HB:=am_ (Below.refl w.heap.size w)
   obtain⟨y101,hy101⟩:∃ y_:List (S34),y_=([]:List (S34)):=⟨_,rfl⟩
   have Ny101:=am_ hy101
   obtain⟨y104,hy104⟩:∃ y_:List (S34),y_=y101++l0:=⟨_,rfl⟩
   have Ny104:=am_ hy104
   have Nend:=am_ (show y104=l0 by rw [hy104,hy101];rfl)
   have Nlim:=am_ (show y101.length + l0.length<8796093022208 by rw [hy101];simpa using LMc4.out)
   clear hy101 hy104
   go_enter Try.func45,Try.ntmps45
   go_wp2_with (first|((with_reducible refine zad (N:=5) rfl ?_);refine Kd.R_lit k34 _ 34 ?hg (N:=5) ?hd (xs:=([]:List (S34))) (inner:=[]) (ok:=fun _=>True) (okp:=fun _=>True) ?hr ?hp (fun _ hk=>hk) trivial (Below.refl _ _) (Nat.le_refl _) (by simp) ?_;(case hd=>rfl);(case hg=>rfl);(case hr=>first|(go_simp;done)|(go_simp;rfl));(case hp=>exact(Reps.none _ _));intro v102 w5 ho6 hb hg_ hnew_;clear hg_ hnew_;(first|rw [←Ny101.out] at ho6|(simp only [Int.reduceToNat] at ho6;rw [←Ny101.out] at ho6));replace HO103:=am_ (Kd.zdk ho6 (zac qz4_));replace HB:=am_ (zaj qz4_ hb);clear hb ho6)|((with_reducible refine zdc (b:=.append) (xs:=#[.tmp 5,.tmp 6]) rfl ?_);at_builtin;refine Kd.zfh k34 (w0:=w) w.heap.size rfl (.tmp 5) (.tmp 6) 24 34 (.agg #[(.int .i64 0),(.int .i64 0)]) 16 rfl Try.underlying24 zk5 rfl (by decide) (by omega) v102 y101 l0 _ _ _ (fun _=>True) (fun _=>False) rfl rfl ?aO ?aR (fun _ _ h=>h) (fun _ h=>h.elim) ?aF ?aB ?aS ?aL ?_;(case aR=>exact qc_ (Kd.zbs HR0.out HB.out));(case aB=>exact qz4_);(case aF=>exact(fun _ _=>trivial));(case aO=>exact qz7_);(case aS=>exact(zac qz4_));(case aL=>have:=Nlim.out;omega);intro v105 w7 ho hb hg hat;rw [←Ny104.out] at ho;replace HB:=am_ (hb);replace HO106:=am_ (ho);clear HO103;clear ho hb hg hat))
   go_ret
   exact⟨_,(by first|rfl|(simp;done)),(by rw [←Nend.out];(with_reducible repeat(first|apply Kd.zb3|apply Kd.zb4|apply Kd.zch));exact HO106.out),qz4_⟩
 ·
  rw [if_neg c4] at h;exact absurd h (by simp)
end Go.Proofs.Ytgookagndlfehaa.PT
end
