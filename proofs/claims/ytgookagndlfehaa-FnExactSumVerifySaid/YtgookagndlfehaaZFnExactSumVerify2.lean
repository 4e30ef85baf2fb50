/- Part 2 of the proof of FnExactSumVerify: what functions compute, shown step by step, and what that says (the claim's last text states the law). -/
import Derived.Test.YtgookagndlfehaaProg
import Derived.Test.YtgookagndlfehaaVMore
import Derived.Test.YtgookagndlfehaaVWords
import Derived.Test.YtgookagndlfehaaVLast
import Derived.Test.YtgookagndlfehaaVTab
import Derived.Test.YtgookagndlfehaaVFour
import Derived.Test.YtgookagndlfehaaVQPut
import Derived.Test.YtgookagndlfehaaVApart
import Derived.Test.YtgookagndlfehaaVArr
import Derived.Test.YtgookagndlfehaaVZeros
import Derived.Test.YtgookagndlfehaaVFoot
import Derived.Test.YtgookagndlfehaaVKept
import Derived.Test.YtgookagndlfehaaVShare
import Derived.Test.YtgookagndlfehaaVN
import Derived.Test.YtgookagndlfehaaVFootNe
import Derived.Test.YtgookagndlfehaaVAt
import Derived.Test.YtgookagndlfehaaVRepsOne
import Derived.Test.YtgookagndlfehaaVInv
import Derived.Test.YtgookagndlfehaaVInvWords
import Derived.Test.YtgookagndlfehaaVGuard
import Derived.Test.YtgookagndlfehaaVNEv
import Derived.Test.YtgookagndlfehaaRows
import Derived.JoinedOf
import Derived.WalkKit
import Derived.ProofKit
import Derived.Below
import Derived.Deep.Draws
import Derived.Deep.AppendLies
import Derived.Maps.AppendAt
import Derived.OwnWalk
import Derived.Laws.BytesArg
import Derived.Laws.MakeOwn
import Derived.Laws.OwnMore
import Derived.Deep.OwnRows
import Derived.Tactics
import Derived.Lib.ConvBytes
import Derived.Laws.Slices
import Derived.KernelRfl
import Derived.RowKit3
import Derived.Deep.LoopGhost
import Derived.Deep.QuietTactic
import Derived.BigQuiet
import Derived.WideLaws
import Derived.Deep.DeepCutAuto
import Derived.Deep.CutBlock
import Derived.Deep.RegionHeld3
import Derived.Laws.Rows
import Derived.Lib.AppendStr
import Derived.ArgAppend
import Derived.Laws.IdiomCopy
import Derived.OrdersHeld
import Derived.Laws.BitsLemmas
import Derived.RowKit
import Derived.Deep.DeepMust
import Derived.Laws.CopyOwn
import Derived.Lib.BufferMore
import Derived.Lib.SliceRun
import Derived.OpenShut
import Derived.ShutString
import Derived.ChangeOld
import Derived.SizedLaws
import Derived.Deep.Slices
import Derived.ChangeArms
import Derived.Shelf.Small.Bits
import Derived.Shelf.Strconv.Itoa0
import Derived.Laws.Bits64b
import Derived.Test.YtgookagndlfehaaZFnExactSumVerify1
set_option maxRecDepth 100000
set_option maxHeartbeats 8000000
section
namespace Go.Proofs.Ytgookagndlfehaa.PT
open Go.RowKit Go.Proofs.YtgookagndlfehaaW.PrintWords Go.Proofs.YtgookagndlfehaaW.PrintLast Go.Proofs.YtgookagndlfehaaW.PrintMore
attribute [local go_sem] zex zev zfa ze8 zec zed zeu zew   -- for this text's walks alone
set_option linter.unusedVariables false
set_option linter.unusedSimpArgs false
mutual
def zav.l0:Nat→List (S34)→List (S34)→Int→Int→Int→Int→Int→Int→Option (Int × Int)
 | 0,_,_,_,_,_,_,_,_=>none
 | k + 1,x0,x11,x12,x13,x102000,x102001,x104000,x104001=>if x13<x12 then(if 0≤x13 then(if x13<(x11.length:Int) then(zav.l1 k x0 x13 x11 x12 x13 (x0.length:Int) 0 x102000 x102001 x104000 x104001 ((zan x11 x13).f0) ((zan x11 x13).f1)) else(none)) else(none)) else(some (x104000,x104001))
def zav.l1:Nat→List (S34)→Int→List (S34)→Int→Int→Int→Int→Int→Int→Int→Int→Int→Int→Option (Int × Int)
 | 0,_,_,_,_,_,_,_,_,_,_,_,_,_=>none
 | k + 1,x0,x6,x11,x12,x13,x20,x21,x102000,x102001,x104000,x104001,x107000,x107001=>if x21<x20 then(if x21=x6 then(zav.l1 k x0 x6 x11 x12 x13 x20 (wrap64 (x21 + 1)) x102000 x102001 x104000 x104001 x107000 x107001) else((zb5.f x102000 x102001 x21 0).bind fun bt109=>((zb6.f x107000 x107001 bt109.1 bt109.2).bind fun bt111=>((zek.f x6 x21).bind fun t113=>((zd5.f k t113).bind fun t114=>((zbk.f bt111.1 bt111.2 t114).bind fun bt115=>(zav.l1 k x0 x6 x11 x12 x13 x20 (wrap64 (x21 + 1)) x102000 x102001 x104000 x104001 bt115.1 bt115.2))))))) else((zbu.f x104000 x104001 x107000 x107001).bind fun bt107=>(zav.l0 k x0 x11 x12 (wrap64 (x13 + 1)) x102000 x102001 bt107.1 bt107.2))
end
def zav.f (k:Nat) (l0:List (S34)) (a1_0:Int) (a1_1:Int):Option (Int × Int):=zav.l0 k l0 l0 (l0.length:Int) 0 a1_0 a1_1 0 0
def zav.T10:Bool × List (List Nat × List Nat):=(true,[([],[]),([],[]),([],[]),([2],[2]),([1,3],[1,3]),([0,4,4],[0,4]),([],[]),([],[]),([6,7,5],[6,7]),([8,8],[8]),([5,9,9],[5,9]),([10,10,0,1,2,3,4,5,6,7,8,9,10],[10])])
def zav.B10:List Nat:=[0,0,0,4,14,31,0,0,255,511,1023,2047]
theorem zav.tab10:rtab .any (opsOf Try.f124 10)=zav.T10:=by kernel_rfl
theorem zav.bits10:zc8 zav.T10.2 zav.B10=true:=by kernel_rfl
theorem zav.calls (k:Nat) (A0:Option Addr) (c0:Nat) (l0:List (S34)) (a1_0:Int) (a1_1:Int) (r1:Int) (r2:Int) (w:World) (hr0:Kd.C k34 w A0 l0.length l0) (hc0:l0.length≤c0) (h:zav.f k l0 a1_0 a1_1=some (r1,r2)) :
  Calls Try.prog 124 #[.slice A0 l0.length c0,.agg #[.int .i64 a1_0,.int .i64 a1_1]] w fun e w'=>e=.returned (.agg #[.int .i64 r1,.int .i64 r2])∧Below w.heap.size w w':=by
 have hu34:=Try.underlying34
 have HR0:=am_ hr0
 have HC0:=am_ hc0
 clear hr0 hc0
 have HB:=am_ (Below.refl w.heap.size w)
 have H:(zav.l0 k l0 l0 (l0.length:Int) 0 a1_0 a1_1 0 0)=some (r1,r2):=h
 clear h
 have H':=am_ H
 clear H
 go_enter Try.func124,Try.ntmps124
 go_wp2_with (first|((with_reducible refine zad (N:=3) rfl ?_);refine zae rfl (N:=3) rfl (cs:=#[.int .i64 a1_0,.int .i64 a1_1]) (t:=34) bx_ ?_;intro gb101 hg w3 hbox hb;replace BK101:=am_ (hbox);replace GW101:=am_ ((by rw [hg];exact(zac qz4_):w.heap.size≤gb101));replace GE101:=am_ ((by rw [hg];exact(zac qz4_):w.heap.size≤gb101));replace HB:=am_ (zaj qz4_ hb);clear hb hbox hg)|((with_reducible refine zad (N:=4) rfl ?_);refine zae rfl (N:=4) rfl (cs:=#[.int .i64 0,.int .i64 0]) (t:=34) bx_ ?_;intro gb102 hg w4 hbox hb;replace BK102:=am_ (hbox);replace GW102:=am_ ((by rw [hg];exact(zac qz14_):w.heap.size≤gb102));replace GE102:=am_ ((by rw [hg];exact(zac qz14_):w.heap.size≤gb102));replace HB:=am_ (zaj qz14_ hb);replace NB101_102:=am_ ((by rw [hg];exact Nat.ne_of_lt (zar (g:=gb101) (o:=.cells #[.int .i64 a1_0,.int .i64 a1_1] 34 (0,0)) qz13_):gb101≠gb102));replace NB102_101:=am_ ((by rw [hg];exact Nat.ne_of_gt (zar (g:=gb101) (o:=.cells #[.int .i64 a1_0,.int .i64 a1_1] 34 (0,0)) qz13_):gb102≠gb101));replace BK101:=am_ (zak (g:=gb101) (o:=.cells #[.int .i64 a1_0,.int .i64 a1_1] 34 (0,0)) qz13_ hb);clear hb hbox hg)|((with_reducible refine zad (N:=5) rfl ?_);refine zae rfl (N:=5) rfl (cs:=#[.int .i64 0,.int .i64 0]) (t:=34) bx_ ?_;intro gb103 hg w5 hbox hb;replace BK103:=am_ (hbox);replace GW103:=am_ ((by rw [hg];exact(zac qz16_):w.heap.size≤gb103));replace GE103:=am_ ((by rw [hg];exact(zac qz16_):w.heap.size≤gb103));replace HB:=am_ (zaj qz16_ hb);replace NB101_103:=am_ ((by rw [hg];exact Nat.ne_of_lt (zar (g:=gb101) (o:=.cells #[.int .i64 a1_0,.int .i64 a1_1] 34 (0,0)) qz13_):gb101≠gb103));replace NB103_101:=am_ ((by rw [hg];exact Nat.ne_of_gt (zar (g:=gb101) (o:=.cells #[.int .i64 a1_0,.int .i64 a1_1] 34 (0,0)) qz13_):gb103≠gb101));replace BK101:=am_ (zak (g:=gb101) (o:=.cells #[.int .i64 a1_0,.int .i64 a1_1] 34 (0,0)) qz13_ hb);replace NB102_103:=am_ ((by rw [hg];exact Nat.ne_of_lt (zar (g:=gb102) (o:=.cells #[.int .i64 0,.int .i64 0] 34 (0,0)) qz15_):gb102≠gb103));replace NB103_102:=am_ ((by rw [hg];exact Nat.ne_of_gt (zar (g:=gb102) (o:=.cells #[.int .i64 0,.int .i64 0] 34 (0,0)) qz15_):gb103≠gb102));replace BK102:=am_ (zak (g:=gb102) (o:=.cells #[.int .i64 0,.int .i64 0] 34 (0,0)) qz15_ hb);clear hb hbox hg;have hnb6:=NB103_101.out;have hnc6:=NB101_103.out;have hnb7:=NB103_102.out;have hnc7:=NB102_103.out;have hcz8_0:w5.cell? ⟨gb103,0,none⟩=some (.int .i64 0):=(zaa BK103.out 0).trans rfl;have hcz8_1:w5.cell? ⟨gb103,1,none⟩=some (.int .i64 0):=(zaa BK103.out 1).trans rfl;have hfz8_0:=zab BK103.out 0;have hfz8_1:=zab BK103.out 1))
 go_loopg [13] k (fun kq v13 w'=>∃ (x13_1:Int) (x104000_1:Int) (x104001_1:Int),v13=.int .i64 x13_1∧zal (zav.l0 kq l0 l0 (l0.length:Int) x13_1 a1_0 a1_1 x104000_1 x104001_1=some (r1,r2))∧zal (kq≤k)∧zal (w'.heap[gb101]?=some (.cells #[.int .i64 a1_0,.int .i64 a1_1] 34 (0,0)))∧zal (w'.heap[gb102]?=some (.cells #[.int .i64 0,.int .i64 0] 34 (0,0)))∧zal (w'.heap[gb103]?=some (.cells #[.int .i64 x104000_1,.int .i64 x104001_1] 34 (0,0)))∧zal (Below w.heap.size w w'))
 case atStart=>exact⟨(0),(0),(0),qz10_,H',⟨Nat.le_refl _⟩,⟨qz26_⟩,⟨qz27_⟩,⟨(by(with_reducible repeat(first|refine zah ?_ _|refine zaf ?_|refine zai ?_ _));refine za9 (cs:=#[.int .i64 0,.int .i64 0]) ?_ 1 _ rfl;(with_reducible repeat(first|refine zah ?_ _|refine zaf ?_|refine zai ?_ _));refine za9 (cs:=#[.int .i64 0,.int .i64 0]) ?_ 0 _ rfl;(with_reducible repeat(first|refine zah ?_ _|refine zaf ?_|refine zai ?_ _));exact BK103.out)⟩,⟨qz17_⟩⟩
 case round=>
  clear H'
  try clear c1
  try clear p2
  try clear c6
  try clear c7
  try clear hcz8_0
  try clear hcz8_1
  try clear hfz8_0
  try clear hfz8_1
  obtain⟨x13_1,x104000_1,x104001_1,rfl,HA,HK1,BK101,BK102,BK103,HB⟩:=hrel
  cases gk with
  | zero=>exact absurd HA.out (by simp [zav.l0])
  | succ k1=>
   have H:=HA.out
   clear HA
   simp only [zav.l0] at H
   by_cases c9:x13_1<(l0.length:Int)
   ·
    rw [if_pos c9] at H
    have c9b0:decide (x13_1<(l0.length:Int))=true:=decide_eq_true c9
    clear c9
    by_cases c10:0≤x13_1
    ·
     rw [if_pos c10] at H
     have c10b0:decide (0≤x13_1)=true:=decide_eq_true c10
     clear c10
     by_cases c11:x13_1<(l0.length:Int)
     ·
      rw [if_pos c11] at H
      have c11b0:decide (x13_1<(l0.length:Int))=true:=decide_eq_true c11
      clear c11
      have H':=am_ H
      clear H
      have p104:0≤(x13_1:Int):=of_decide_eq_true qz11_
      have q104:x13_1<(l0.length:Int):=of_decide_eq_true qz11_
      obtain⟨ad104,e104,hx104_0,hx104_1⟩:=zey HR0.out x13_1 p104 q104
      cases e104
      replace hx104_0:=(HB.out.cell (World.block_lt_of_cell? w _ hx104_0)).trans hx104_0
      replace hx104_1:=(HB.out.cell (World.block_lt_of_cell? w _ hx104_1)).trans hx104_1
      replace p104:=eq_true p104
      replace q104:=eq_true q104
      go_wp2_with (first|((with_reducible refine zad (N:=7) rfl ?_);refine zae rfl (N:=7) rfl (cs:=#[.int .i64 0,.int .i64 0]) (t:=34) bx_ ?_;intro gb105 hg w12 hbox hb;replace BK105:=am_ (hbox);replace GW105:=am_ ((by rw [hg];exact(zac qz17_):w.heap.size≤gb105));replace GE105:=am_ ((by rw [hg];exact(zac qz17_):w.heap.size≤gb105));replace HB:=am_ (zaj qz17_ hb);replace NB101_105:=am_ ((by rw [hg];exact Nat.ne_of_lt (zar (g:=gb101) (o:=.cells #[.int .i64 a1_0,.int .i64 a1_1] 34 (0,0)) qz13_):gb101≠gb105));replace NB105_101:=am_ ((by rw [hg];exact Nat.ne_of_gt (zar (g:=gb101) (o:=.cells #[.int .i64 a1_0,.int .i64 a1_1] 34 (0,0)) qz13_):gb105≠gb101));replace BK101:=am_ (zak (g:=gb101) (o:=.cells #[.int .i64 a1_0,.int .i64 a1_1] 34 (0,0)) qz13_ hb);replace NB102_105:=am_ ((by rw [hg];exact Nat.ne_of_lt (zar (g:=gb102) (o:=.cells #[.int .i64 0,.int .i64 0] 34 (0,0)) qz15_):gb102≠gb105));replace NB105_102:=am_ ((by rw [hg];exact Nat.ne_of_gt (zar (g:=gb102) (o:=.cells #[.int .i64 0,.int .i64 0] 34 (0,0)) qz15_):gb105≠gb102));replace BK102:=am_ (zak (g:=gb102) (o:=.cells #[.int .i64 0,.int .i64 0] 34 (0,0)) qz15_ hb);replace NB103_105:=am_ ((by rw [hg];exact Nat.ne_of_lt (zar (g:=gb103) (o:=.cells #[.int .i64 x104000_1,.int .i64 x104001_1] 34 (0,0)) qz19_):gb103≠gb105));replace NB105_103:=am_ ((by rw [hg];exact Nat.ne_of_gt (zar (g:=gb103) (o:=.cells #[.int .i64 x104000_1,.int .i64 x104001_1] 34 (0,0)) qz19_):gb105≠gb103));replace BK103:=am_ (zak (g:=gb103) (o:=.cells #[.int .i64 x104000_1,.int .i64 x104001_1] 34 (0,0)) qz19_ hb);clear hb hbox hg;have hnb13:=NB105_101.out;have hnc13:=NB101_105.out;have hnb14:=NB105_102.out;have hnc14:=NB102_105.out;have hnb15:=NB105_103.out;have hnc15:=NB103_105.out;have hcz16_0:w12.cell? ⟨gb105,0,none⟩=some (.int .i64 0):=(zaa BK105.out 0).trans rfl;have hcz16_1:w12.cell? ⟨gb105,1,none⟩=some (.int .i64 0):=(zaa BK105.out 1).trans rfl;have hfz16_0:=zab BK105.out 0;have hfz16_1:=zab BK105.out 1)|((with_reducible refine zad (N:=8) rfl ?_);refine zae rfl (N:=8) rfl (cs:=#[.int .i64 0,.int .i64 0]) (t:=34) bx_ ?_;intro gb106 hg w17 hbox hb;replace BK106:=am_ (hbox);replace GW106:=am_ ((by rw [hg];exact(zac qz32_):w.heap.size≤gb106));replace GE106:=am_ ((by rw [hg];exact(zac qz32_):w.heap.size≤gb106));replace HB:=am_ (zaj qz32_ hb);replace NB101_106:=am_ ((by rw [hg];exact Nat.ne_of_lt (zar (g:=gb101) (o:=.cells #[.int .i64 a1_0,.int .i64 a1_1] 34 (0,0)) qz28_):gb101≠gb106));replace NB106_101:=am_ ((by rw [hg];exact Nat.ne_of_gt (zar (g:=gb101) (o:=.cells #[.int .i64 a1_0,.int .i64 a1_1] 34 (0,0)) qz28_):gb106≠gb101));replace BK101:=am_ (zak (g:=gb101) (o:=.cells #[.int .i64 a1_0,.int .i64 a1_1] 34 (0,0)) qz28_ hb);replace NB102_106:=am_ ((by rw [hg];exact Nat.ne_of_lt (zar (g:=gb102) (o:=.cells #[.int .i64 0,.int .i64 0] 34 (0,0)) qz29_):gb102≠gb106));replace NB106_102:=am_ ((by rw [hg];exact Nat.ne_of_gt (zar (g:=gb102) (o:=.cells #[.int .i64 0,.int .i64 0] 34 (0,0)) qz29_):gb106≠gb102));replace BK102:=am_ (zak (g:=gb102) (o:=.cells #[.int .i64 0,.int .i64 0] 34 (0,0)) qz29_ hb);replace NB103_106:=am_ ((by rw [hg];exact Nat.ne_of_lt (zar (g:=gb103) (o:=.cells #[.int .i64 x104000_1,.int .i64 x104001_1] 34 (0,0)) qz30_):gb103≠gb106));replace NB106_103:=am_ ((by rw [hg];exact Nat.ne_of_gt (zar (g:=gb103) (o:=.cells #[.int .i64 x104000_1,.int .i64 x104001_1] 34 (0,0)) qz30_):gb106≠gb103));replace BK103:=am_ (zak (g:=gb103) (o:=.cells #[.int .i64 x104000_1,.int .i64 x104001_1] 34 (0,0)) qz30_ hb);replace NB105_106:=am_ ((by rw [hg];exact Nat.ne_of_lt (zar (g:=gb105) (o:=.cells #[.int .i64 ((zan l0 x13_1).f0),.int .i64 ((zan l0 x13_1).f1)] 34 (0,0)) qz31_):gb105≠gb106));replace NB106_105:=am_ ((by rw [hg];exact Nat.ne_of_gt (zar (g:=gb105) (o:=.cells #[.int .i64 ((zan l0 x13_1).f0),.int .i64 ((zan l0 x13_1).f1)] 34 (0,0)) qz31_):gb106≠gb105));replace BK105:=am_ (zak (g:=gb105) (o:=.cells #[.int .i64 ((zan l0 x13_1).f0),.int .i64 ((zan l0 x13_1).f1)] 34 (0,0)) qz31_ hb);clear hb hbox hg;have hnb18:=NB106_101.out;have hnc18:=NB101_106.out;have hnb19:=NB106_102.out;have hnc19:=NB102_106.out;have hnb20:=NB106_103.out;have hnc20:=NB103_106.out;have hnb21:=NB106_105.out;have hnc21:=NB105_106.out;have hcz22_0:w17.cell? ⟨gb106,0,none⟩=some (.int .i64 0):=(zaa BK106.out 0).trans rfl;have hcz22_1:w17.cell? ⟨gb106,1,none⟩=some (.int .i64 0):=(zaa BK106.out 1).trans rfl;have hfz22_0:=zab BK106.out 0;have hfz22_1:=zab BK106.out 1))
      go_loopg [21] k1 (fun kq v21 w'=>∃ (x21_2:Int) (x107000_2:Int) (x107001_2:Int),v21=.int .i64 x21_2∧zal (zav.l1 kq l0 x13_1 l0 (l0.length:Int) x13_1 (l0.length:Int) x21_2 a1_0 a1_1 x104000_1 x104001_1 x107000_2 x107001_2=some (r1,r2))∧zal (kq≤k1)∧zal (w'.heap[gb101]?=some (.cells #[.int .i64 a1_0,.int .i64 a1_1] 34 (0,0)))∧zal (w'.heap[gb102]?=some (.cells #[.int .i64 0,.int .i64 0] 34 (0,0)))∧zal (w'.heap[gb103]?=some (.cells #[.int .i64 x104000_1,.int .i64 x104001_1] 34 (0,0)))∧zal (w'.heap[gb105]?=some (.cells #[.int .i64 ((zan l0 x13_1).f0),.int .i64 ((zan l0 x13_1).f1)] 34 (0,0)))∧zal (w'.heap[gb106]?=some (.cells #[.int .i64 x107000_2,.int .i64 x107001_2] 34 (0,0)))∧zal (Below w.heap.size w w'))
      case atStart=>exact⟨(0),((zan l0 x13_1).f0),((zan l0 x13_1).f1),qz10_,H',⟨Nat.le_refl _⟩,⟨(by(with_reducible repeat(first|refine zah ?_ _|refine zaf ?_|refine zai ?_ _));refine zbc ?_ NB101_106.out _;(with_reducible repeat(first|refine zah ?_ _|refine zaf ?_|refine zai ?_ _));refine zbc ?_ NB101_106.out _;(with_reducible repeat(first|refine zah ?_ _|refine zaf ?_|refine zai ?_ _));exact BK101.out)⟩,⟨(by(with_reducible repeat(first|refine zah ?_ _|refine zaf ?_|refine zai ?_ _));refine zbc ?_ NB102_106.out _;(with_reducible repeat(first|refine zah ?_ _|refine zaf ?_|refine zai ?_ _));refine zbc ?_ NB102_106.out _;(with_reducible repeat(first|refine zah ?_ _|refine zaf ?_|refine zai ?_ _));exact BK102.out)⟩,⟨(by(with_reducible repeat(first|refine zah ?_ _|refine zaf ?_|refine zai ?_ _));refine zbc ?_ NB103_106.out _;(with_reducible repeat(first|refine zah ?_ _|refine zaf ?_|refine zai ?_ _));refine zbc ?_ NB103_106.out _;(with_reducible repeat(first|refine zah ?_ _|refine zaf ?_|refine zai ?_ _));exact BK103.out)⟩,⟨(by(with_reducible repeat(first|refine zah ?_ _|refine zaf ?_|refine zai ?_ _));refine zbc ?_ NB105_106.out _;(with_reducible repeat(first|refine zah ?_ _|refine zaf ?_|refine zai ?_ _));refine zbc ?_ NB105_106.out _;(with_reducible repeat(first|refine zah ?_ _|refine zaf ?_|refine zai ?_ _));exact BK105.out)⟩,⟨(by(with_reducible repeat(first|refine zah ?_ _|refine zaf ?_|refine zai ?_ _));refine za9 (cs:=#[.int .i64 ((zan l0 x13_1).f0),.int .i64 0]) ?_ 1 _ rfl;(with_reducible repeat(first|refine zah ?_ _|refine zaf ?_|refine zai ?_ _));refine za9 (cs:=#[.int .i64 0,.int .i64 0]) ?_ 0 _ rfl;(with_reducible repeat(first|refine zah ?_ _|refine zaf ?_|refine zai ?_ _));exact BK106.out)⟩,⟨qz33_⟩⟩
      case round=>
       clear H'
       try clear c1
       try clear p1
       try clear q1
       try clear hx1
       try clear c2
       try clear p2
       try clear c6
       try clear c7
       try clear c9
       try clear c9b0
       try clear c10
       try clear c10b0
       try clear p10
       try clear q10
       try clear hx10
       try clear c11
       try clear c11b0
       try clear c12
       try clear c13
       try clear c14
       try clear c15
       try clear c18
       try clear c19
       try clear c20
       try clear c21
       try clear hcz16_0
       try clear hcz16_1
       try clear hcz22_0
       try clear hcz22_1
       try clear hcz8_0
       try clear hcz8_1
       try clear hfz16_0
       try clear hfz16_1
       try clear hfz22_0
       try clear hfz22_1
       try clear hfz8_0
       try clear hfz8_1
       try clear hx104_0
       try clear hx104_1
       try clear p104
       try clear p2
       try clear q104
       obtain⟨x21_2,x107000_2,x107001_2,rfl,HA,HK2,BK101,BK102,BK103,BK105,BK106,HB⟩:=hrel
       cases gk with
       | zero=>exact absurd HA.out (by simp [zav.l1])
       | succ k2=>
        have H:=HA.out
        clear HA
        simp only [zav.l1] at H
        by_cases c23:x21_2<(l0.length:Int)
        ·
         rw [if_pos c23] at H
         have c23b0:decide (x21_2<(l0.length:Int))=true:=decide_eq_true c23
         clear c23
         by_cases c24:x21_2=x13_1
         ·
          rw [if_pos c24] at H
          have c24b0:(x21_2 == x13_1)=true:=beq_iff_eq.mpr c24
          have c24b1:(x21_2 != x13_1)=false:=bne_eq_false_iff_eq.mpr c24
          clear c24
          have H':=am_ H
          clear H
          go_wp2
          go_roundg k2
          case measure=>have:=HK1.out;have:=HK2.out;omega
          case rel=>exact⟨(wrap64 (x21_2 + 1)),(x107000_2),(x107001_2),qz10_,H',⟨(by have:=HK1.out;have:=HK2.out;omega)⟩,⟨qz13_⟩,⟨qz15_⟩,⟨qz19_⟩,⟨qz24_⟩,⟨(by(with_reducible repeat(first|refine zah ?_ _|refine zaf ?_|refine zai ?_ _));exact BK106.out)⟩,⟨qz33_⟩⟩
         ·
          rw [if_neg c24] at H
          have c24b0:(x21_2 == x13_1)=false:=beq_eq_false_iff_ne.mpr c24
          have c24b1:(x21_2 != x13_1)=true:=bne_iff_ne.mpr c24
          replace H:=Option.bind_eq_some_iff.mp H
          obtain⟨⟨t109,t110⟩,A250,H⟩:=H
          replace H:((zb6.f x107000_2 x107001_2 t109 t110).bind fun bt111=>((zek.f x13_1 x21_2).bind fun t113=>((zd5.f k2 t113).bind fun t114=>((zbk.f bt111.1 bt111.2 t114).bind fun bt115=>(zav.l1 k2 l0 x13_1 l0 (l0.length:Int) x13_1 (l0.length:Int) (wrap64 (x21_2 + 1)) a1_0 a1_1 x104000_1 x104001_1 bt115.1 bt115.2)))))=some (r1,r2):=H
          have A25:=am_ A250
          clear A250
          replace H:=Option.bind_eq_some_iff.mp H
          obtain⟨⟨t111,t112⟩,A260,H⟩:=H
          replace H:((zek.f x13_1 x21_2).bind fun t113=>((zd5.f k2 t113).bind fun t114=>((zbk.f t111 t112 t114).bind fun bt115=>(zav.l1 k2 l0 x13_1 l0 (l0.length:Int) x13_1 (l0.length:Int) (wrap64 (x21_2 + 1)) a1_0 a1_1 x104000_1 x104001_1 bt115.1 bt115.2))))=some (r1,r2):=H
          have A26:=am_ A260
          clear A260
          replace H:=Option.bind_eq_some_iff.mp H
          obtain⟨t113,A270,H⟩:=H
          replace H:((zd5.f k2 t113).bind fun t114=>((zbk.f t111 t112 t114).bind fun bt115=>(zav.l1 k2 l0 x13_1 l0 (l0.length:Int) x13_1 (l0.length:Int) (wrap64 (x21_2 + 1)) a1_0 a1_1 x104000_1 x104001_1 bt115.1 bt115.2)))=some (r1,r2):=H
          have A27:=am_ A270
          clear A270
          replace H:=Option.bind_eq_some_iff.mp H
          obtain⟨t114,A280,H⟩:=H
          replace H:((zbk.f t111 t112 t114).bind fun bt115=>(zav.l1 k2 l0 x13_1 l0 (l0.length:Int) x13_1 (l0.length:Int) (wrap64 (x21_2 + 1)) a1_0 a1_1 x104000_1 x104001_1 bt115.1 bt115.2))=some (r1,r2):=H
          have A28:=am_ A280
          clear A280
          replace H:=Option.bind_eq_some_iff.mp H
          obtain⟨⟨t115,t116⟩,A290,H⟩:=H
          replace H:(zav.l1 k2 l0 x13_1 l0 (l0.length:Int) x13_1 (l0.length:Int) (wrap64 (x21_2 + 1)) a1_0 a1_1 x104000_1 x104001_1 t115 t116)=some (r1,r2):=H
          have A29:=am_ A290
          clear A290
          have H':=am_ H
          clear H
          try go_wp2
          replace BK101:=am_ (zaf BK101.out)
          replace BK102:=am_ (zaf BK102.out)
          replace BK103:=am_ (zaf BK103.out)
          replace BK105:=am_ (zaf BK105.out)
          replace BK106:=am_ (zaf BK106.out)
          replace HB:=am_ (zat HB.out)
          refine zcb (n:=12) (S:=fun w'=>w'.cell? ⟨gb106,0,none⟩=some (.int .i64 x107000_2)∧w'.cell? ⟨gb106,1,none⟩=some (.int .i64 x107001_2)∧w'.cell? ⟨gb101,0,none⟩=some (.int .i64 a1_0)∧w'.cell? ⟨gb101,1,none⟩=some (.int .i64 a1_1)) (ds:=[11]) (bs_ 12 0) (by kernel_rfl) rfl rfl ⟨(zaa BK106.out 0).trans rfl,(zaa BK106.out 1).trans rfl,(zaa BK101.out 0).trans rfl,(zaa BK101.out 1).trans rfl⟩ (fun hHeld=>?_);refine zcr zav.tab10 zav.bits10 (fun HT_ HW_=>?_)
          generalize wr.drew=w30 at BK101 BK102 BK103 BK105 BK106 HB hHeld ⊢
          refine pt_ HT_.out 2 29 (bs_ 12 4) ?_
          refine pt_ HT_.out 3 30 (bs_ 12 12) ?_
          refine pt_ HT_.out 6 33 (bs_ 12 76) ?_
          refine pt_ HT_.out 7 34 (bs_ 12 204) ?_
          refine take_ (i:=0) (N:=some 27) (v:=?_) (a':=?_) (bs_ 12 205) rfl rfl (zba HT_.out HW_.out (by kernel_rfl)) (fun _ _ _ h=>h) (Or.inl ⟨(by rfl),?_⟩) hHeld ?_ ?_
          rotate_left
          ·
           rintro w' ⟨s0,s1,s2,s3⟩
           go_simp
           with_reducible rfl
          rotate_left
          ·
           exact ap_
          refine take_ (i:=1) (N:=some 28) (v:=?_) (a':=?_) (bs_ 12 207) rfl rfl (zba HT_.out HW_.out (by kernel_rfl)) (fun _ _ _ h=>h) (Or.inl ⟨(by rfl),?_⟩) hHeld ?_ ?_
          rotate_left
          ·
           rintro w' ⟨s0,s1,s2,s3⟩
           go_simp
           with_reducible rfl
          rotate_left
          ·
           exact ap_
          refine one_ (i:=4) (N:=some 31) (bs_ 12 223) rfl rfl (zbx HT_.out (by kernel_rfl)) (by decide) (fun K hK=>?_)
          refine goes_ Try.func113 (by kernel_rfl) rfl #[.agg #[.int .i64 a1_0,.int .i64 a1_1],.agg #[.int .i64 x21_2,.int .i64 0]] (by rfl) rfl rfl qz18_ ?_
          with_reducible refine(zb5.calls a1_0 a1_1 x21_2 0 t109 t110 _ A25.out).mono ?_
          rintro e w31 ⟨rfl,hb⟩
          refine⟨_,rfl,?_⟩
          replace BK101:=am_ (zak (g:=gb101) (o:=.cells #[.int .i64 a1_0,.int .i64 a1_1] 34 (0,0)) qz13_ hb)
          replace BK102:=am_ (zak (g:=gb102) (o:=.cells #[.int .i64 0,.int .i64 0] 34 (0,0)) qz15_ hb)
          replace BK103:=am_ (zak (g:=gb103) (o:=.cells #[.int .i64 x104000_1,.int .i64 x104001_1] 34 (0,0)) qz19_ hb)
          replace BK105:=am_ (zak (g:=gb105) (o:=.cells #[.int .i64 ((zan l0 x13_1).f0),.int .i64 ((zan l0 x13_1).f1)] 34 (0,0)) qz24_ hb)
          replace BK106:=am_ (zak (g:=gb106) (o:=.cells #[.int .i64 x107000_2,.int .i64 x107001_2] 34 (0,0)) (by(with_reducible repeat(first|refine zah ?_ _|refine zaf ?_|refine zai ?_ _));exact BK106.out) hb)
          replace HB:=am_ (zaj qz33_ hb)
          (try clear hb)
          (try clear hb2)
          (try clear hk)
          (try clear hi)
          refine hK.out _ _ ⟨(zaa BK106.out 0).trans rfl,(zaa BK106.out 1).trans rfl,(zaa BK101.out 0).trans rfl,(zaa BK101.out 1).trans rfl⟩ (fun hHeld=>?_)
          clear hK K
          refine norm_ (a':=?_) ?_ ?_
          rotate_left
          ·
           show Act.put _ (some 31) _=_
           exact ap_
          refine one_ (i:=5) (N:=some 32) (bs_ 12 255) rfl rfl (zbx HT_.out (by kernel_rfl)) (by decide) (fun K hK=>?_)
          refine goes_ Try.func156 (by kernel_rfl) rfl #[.agg #[.int .i64 x107000_2,.int .i64 x107001_2],.agg #[.int .i64 t109,.int .i64 t110]] (by rfl) rfl rfl qz18_ ?_
          with_reducible refine(zb6.calls x107000_2 x107001_2 t109 t110 t111 t112 _ A26.out).mono ?_
          rintro e w32 ⟨rfl,hb⟩
          refine⟨_,rfl,?_⟩
          replace BK101:=am_ (zak (g:=gb101) (o:=.cells #[.int .i64 a1_0,.int .i64 a1_1] 34 (0,0)) qz13_ hb)
          replace BK102:=am_ (zak (g:=gb102) (o:=.cells #[.int .i64 0,.int .i64 0] 34 (0,0)) qz15_ hb)
          replace BK103:=am_ (zak (g:=gb103) (o:=.cells #[.int .i64 x104000_1,.int .i64 x104001_1] 34 (0,0)) qz19_ hb)
          replace BK105:=am_ (zak (g:=gb105) (o:=.cells #[.int .i64 ((zan l0 x13_1).f0),.int .i64 ((zan l0 x13_1).f1)] 34 (0,0)) qz24_ hb)
          replace BK106:=am_ (zak (g:=gb106) (o:=.cells #[.int .i64 x107000_2,.int .i64 x107001_2] 34 (0,0)) (by(with_reducible repeat(first|refine zah ?_ _|refine zaf ?_|refine zai ?_ _));exact BK106.out) hb)
          replace HB:=am_ (zaj qz33_ hb)
          (try clear hb)
          (try clear hb2)
          (try clear hk)
          (try clear hi)
          refine hK.out _ _ ⟨(zaa BK106.out 0).trans rfl,(zaa BK106.out 1).trans rfl,(zaa BK101.out 0).trans rfl,(zaa BK101.out 1).trans rfl⟩ (fun hHeld=>?_)
          clear hK K
          refine norm_ (a':=?_) ?_ ?_
          rotate_left
          ·
           show Act.put _ (some 32) _=_
           exact ap_
          refine one_ (i:=8) (N:=some 35) (bs_ 12 511) rfl rfl (zbx HT_.out (by kernel_rfl)) (by decide) (fun K hK=>?_)
          refine goes_ Try.func145 (by kernel_rfl) rfl #[.int .i64 x13_1,.int .i64 x21_2] (by rfl) rfl rfl qz18_ ?_
          with_reducible refine(zek.calls x13_1 x21_2 t113 _ A27.out).mono ?_
          rintro e w' ⟨rfl,⟨nd,rfl⟩⟩
          refine⟨_,rfl,?_⟩
          refine hK.out _ _ ⟨(zaa BK106.out 0).trans rfl,(zaa BK106.out 1).trans rfl,(zaa BK101.out 0).trans rfl,(zaa BK101.out 1).trans rfl⟩ (fun hHeld=>?_)
          clear hK K
          refine norm_ (a':=?_) ?_ ?_
          rotate_left
          ·
           show Act.put _ (some 35) _=_
           exact ap_
          refine one_ (i:=9) (N:=some 36) (bs_ 12 1023) rfl rfl (zbx HT_.out (by kernel_rfl)) (by decide) (fun K hK=>?_)
          refine goes_ Try.func158 (by kernel_rfl) rfl #[.int .i64 t113] (by rfl) rfl rfl qz18_ ?_
          with_reducible refine(zd5.calls k2 t113 t114 _ A28.out).mono ?_
          rintro e w' ⟨rfl,⟨nd,rfl⟩⟩
          refine⟨_,rfl,?_⟩
          refine hK.out _ _ ⟨(zaa BK106.out 0).trans rfl,(zaa BK106.out 1).trans rfl,(zaa BK101.out 0).trans rfl,(zaa BK101.out 1).trans rfl⟩ (fun hHeld=>?_)
          clear hK K
          refine norm_ (a':=?_) ?_ ?_
          rotate_left
          ·
           show Act.put _ (some 36) _=_
           exact ap_
          refine one_ (i:=10) (N:=some 37) (bs_ 12 2047) rfl rfl (zbx HT_.out (by kernel_rfl)) (by decide) (fun K hK=>?_)
          refine goes_ Try.func157 (by kernel_rfl) rfl #[.agg #[.int .i64 t111,.int .i64 t112],.int .i64 t114] (by rfl) rfl rfl qz18_ ?_
          with_reducible refine(zbk.calls t111 t112 t114 t115 t116 _ A29.out).mono ?_
          rintro e w33 ⟨rfl,hb⟩
          refine⟨_,rfl,?_⟩
          replace BK101:=am_ (zak (g:=gb101) (o:=.cells #[.int .i64 a1_0,.int .i64 a1_1] 34 (0,0)) qz13_ hb)
          replace BK102:=am_ (zak (g:=gb102) (o:=.cells #[.int .i64 0,.int .i64 0] 34 (0,0)) qz15_ hb)
          replace BK103:=am_ (zak (g:=gb103) (o:=.cells #[.int .i64 x104000_1,.int .i64 x104001_1] 34 (0,0)) qz19_ hb)
          replace BK105:=am_ (zak (g:=gb105) (o:=.cells #[.int .i64 ((zan l0 x13_1).f0),.int .i64 ((zan l0 x13_1).f1)] 34 (0,0)) qz24_ hb)
          replace BK106:=am_ (zak (g:=gb106) (o:=.cells #[.int .i64 x107000_2,.int .i64 x107001_2] 34 (0,0)) (by(with_reducible repeat(first|refine zah ?_ _|refine zaf ?_|refine zai ?_ _));exact BK106.out) hb)
          replace HB:=am_ (zaj qz33_ hb)
          (try clear hb)
          (try clear hb2)
          (try clear hk)
          (try clear hi)
          refine hK.out _ _ ⟨(zaa BK106.out 0).trans rfl,(zaa BK106.out 1).trans rfl,(zaa BK101.out 0).trans rfl,(zaa BK101.out 1).trans rfl⟩ (fun hHeld=>?_)
          clear hK K
          refine norm_ (a':=?_) ?_ ?_
          rotate_left
          ·
           show Act.put _ (some 37) _=_
           exact ap_
          refine last_ (i:=11) (N:=none) (bs_ 12 4095) rfl rfl (zbx HT_.out (by kernel_rfl)) (by decide) (fun K hK=>?_)
          have hs34:w33.cell? ⟨gb106,0,none⟩=some (.int .i64 x107000_2):=(zaa BK106.out 0).trans rfl
          have hfs34:=zab BK106.out 0
          have hns34_0:=NB101_106.out
          have hns34_1:=NB102_106.out
          have hns34_2:=NB103_106.out
          have hns34_3:=NB105_106.out
          have hms34_0:=NB106_101.out
          have hms34_1:=NB106_102.out
          have hms34_2:=NB106_103.out
          have hms34_3:=NB106_105.out
          have hs35:w33.cell? ⟨gb106,1,none⟩=some (.int .i64 x107001_2):=(zaa BK106.out 1).trans rfl
          have hfs35:=zab BK106.out 1
          have hns35_0:=NB101_106.out
          have hns35_1:=NB102_106.out
          have hns35_2:=NB103_106.out
          have hns35_3:=NB105_106.out
          have hms35_0:=NB106_101.out
          have hms35_1:=NB106_102.out
          have hms35_2:=NB106_103.out
          have hms35_3:=NB106_105.out
          refine skip_ (w1:=?_) (by rfl) rfl ?_ ?_
          rotate_left
          ·
           go_simp
           rfl
          refine hK.out _ _ ?_
          clear hK K
          refine done_ (zej HT_.out (by kernel_rfl)) ?_
          try go_wp2
          go_roundg k2
          case measure=>have:=HK1.out;have:=HK2.out;omega
          case rel=>exact⟨(wrap64 (x21_2 + 1)),(t115),(t116),qz10_,H',⟨(by have:=HK1.out;have:=HK2.out;omega)⟩,⟨(by(with_reducible repeat(first|refine zah ?_ _|refine zaf ?_|refine zai ?_ _));refine zbc ?_ NB101_106.out _;(with_reducible repeat(first|refine zah ?_ _|refine zaf ?_|refine zai ?_ _));refine zbc ?_ NB101_106.out _;(with_reducible repeat(first|refine zah ?_ _|refine zaf ?_|refine zai ?_ _));exact BK101.out)⟩,⟨(by(with_reducible repeat(first|refine zah ?_ _|refine zaf ?_|refine zai ?_ _));refine zbc ?_ NB102_106.out _;(with_reducible repeat(first|refine zah ?_ _|refine zaf ?_|refine zai ?_ _));refine zbc ?_ NB102_106.out _;(with_reducible repeat(first|refine zah ?_ _|refine zaf ?_|refine zai ?_ _));exact BK102.out)⟩,⟨(by(with_reducible repeat(first|refine zah ?_ _|refine zaf ?_|refine zai ?_ _));refine zbc ?_ NB103_106.out _;(with_reducible repeat(first|refine zah ?_ _|refine zaf ?_|refine zai ?_ _));refine zbc ?_ NB103_106.out _;(with_reducible repeat(first|refine zah ?_ _|refine zaf ?_|refine zai ?_ _));exact BK103.out)⟩,⟨(by(with_reducible repeat(first|refine zah ?_ _|refine zaf ?_|refine zai ?_ _));refine zbc ?_ NB105_106.out _;(with_reducible repeat(first|refine zah ?_ _|refine zaf ?_|refine zai ?_ _));refine zbc ?_ NB105_106.out _;(with_reducible repeat(first|refine zah ?_ _|refine zaf ?_|refine zai ?_ _));exact BK105.out)⟩,⟨(by(with_reducible repeat(first|refine zah ?_ _|refine zaf ?_|refine zai ?_ _));refine za9 (cs:=#[.int .i64 t115,.int .i64 x107001_2]) ?_ 1 _ rfl;(with_reducible repeat(first|refine zah ?_ _|refine zaf ?_|refine zai ?_ _));refine za9 (cs:=#[.int .i64 x107000_2,.int .i64 x107001_2]) ?_ 0 _ rfl;(with_reducible repeat(first|refine zah ?_ _|refine zaf ?_|refine zai ?_ _));exact BK106.out)⟩,⟨qz33_⟩⟩
        ·
         rw [if_neg c23] at H
         have c23b0:decide (x21_2<(l0.length:Int))=false:=decide_eq_false c23
         clear c23
         replace H:=Option.bind_eq_some_iff.mp H
         obtain⟨⟨t107,t108⟩,A360,H⟩:=H
         replace H:(zav.l0 k2 l0 l0 (l0.length:Int) (wrap64 (x13_1 + 1)) a1_0 a1_1 t107 t108)=some (r1,r2):=H
         have A36:=am_ A360
         clear A360
         have H':=am_ H
         clear H
         have hnb37:=NB103_101.out
         have hnc37:=NB101_103.out
         have hnb38:=NB103_102.out
         have hnc38:=NB102_103.out
         have hnb39:=NB103_105.out
         have hnc39:=NB105_103.out
         have hnb40:=NB103_106.out
         have hnc40:=NB106_103.out
         have hcz41_0:wr.cell? ⟨gb103,0,none⟩=some (.int .i64 x104000_1):=(zaa BK103.out 0).trans rfl
         have hcz41_1:wr.cell? ⟨gb103,1,none⟩=some (.int .i64 x104001_1):=(zaa BK103.out 1).trans rfl
         have hfz41_0:=zab BK103.out 0
         have hfz41_1:=zab BK103.out 1
         have hnb42:=NB106_101.out
         have hnc42:=NB101_106.out
         have hnb43:=NB106_102.out
         have hnc43:=NB102_106.out
         have hnb44:=NB106_105.out
         have hnc44:=NB105_106.out
         have hcz45_0:wr.cell? ⟨gb106,0,none⟩=some (.int .i64 x107000_2):=(zaa BK106.out 0).trans rfl
         have hcz45_1:wr.cell? ⟨gb106,1,none⟩=some (.int .i64 x107001_2):=(zaa BK106.out 1).trans rfl
         have hfz45_0:=zab BK106.out 0
         have hfz45_1:=zab BK106.out 1
         go_wp2_with (first|((with_reducible refine zaz (f:=121) rfl ?_);refine zc5 (some 41) rfl rfl Try.func121 (by kernel_rfl) rfl #[.agg #[.int .i64 x104000_1,.int .i64 x104001_1],.agg #[.int .i64 x107000_2,.int .i64 x107001_2]] rfl qz18_ ?_;(with_reducible refine(zbu.calls x104000_1 x104001_1 x107000_2 x107001_2 t107 t108 _ A36.out).mono ?_);rintro e w46 ⟨rfl,hb⟩;refine⟨_,rfl,?_⟩;replace BK101:=am_ (zak (g:=gb101) (o:=.cells #[.int .i64 a1_0,.int .i64 a1_1] 34 (0,0)) qz13_ hb);replace BK102:=am_ (zak (g:=gb102) (o:=.cells #[.int .i64 0,.int .i64 0] 34 (0,0)) qz15_ hb);replace BK103:=am_ (zak (g:=gb103) (o:=.cells #[.int .i64 x104000_1,.int .i64 x104001_1] 34 (0,0)) qz19_ hb);replace BK105:=am_ (zak (g:=gb105) (o:=.cells #[.int .i64 ((zan l0 x13_1).f0),.int .i64 ((zan l0 x13_1).f1)] 34 (0,0)) qz24_ hb);replace BK106:=am_ (zak (g:=gb106) (o:=.cells #[.int .i64 x107000_2,.int .i64 x107001_2] 34 (0,0)) (by(with_reducible repeat(first|refine zah ?_ _|refine zaf ?_|refine zai ?_ _));exact BK106.out) hb);replace HB:=am_ (zaj qz33_ hb);(try clear hb);(try clear hb2);(try clear hk);(try clear hi);have hcz47_0:w46.cell? ⟨gb103,0,none⟩=some (.int .i64 x104000_1):=(zaa BK103.out 0).trans rfl;have hcz47_1:w46.cell? ⟨gb103,1,none⟩=some (.int .i64 x104001_1):=(zaa BK103.out 1).trans rfl;have hfz47_0:=zab BK103.out 0;have hfz47_1:=zab BK103.out 1))
         go_roundg k2
         case measure=>have:=HK1.out;have:=HK2.out;omega
         case rel=>exact⟨(wrap64 (x13_1 + 1)),(t107),(t108),qz10_,H',⟨(by have:=HK1.out;have:=HK2.out;omega)⟩,⟨qz26_⟩,⟨qz27_⟩,⟨(by(with_reducible repeat(first|refine zah ?_ _|refine zaf ?_|refine zai ?_ _));refine za9 (cs:=#[.int .i64 t107,.int .i64 x104001_1]) ?_ 1 _ rfl;(with_reducible repeat(first|refine zah ?_ _|refine zaf ?_|refine zai ?_ _));refine za9 (cs:=#[.int .i64 x104000_1,.int .i64 x104001_1]) ?_ 0 _ rfl;(with_reducible repeat(first|refine zah ?_ _|refine zaf ?_|refine zai ?_ _));exact BK103.out)⟩,⟨qz33_⟩⟩
     ·
      rw [if_neg c11] at H
      exact absurd H (by simp)
    ·
     rw [if_neg c10] at H
     exact absurd H (by simp)
   ·
    rw [if_neg c9] at H
    have c9b0:decide (x13_1<(l0.length:Int))=false:=decide_eq_false c9
    clear c9
    simp only [Option.some.injEq,Prod.mk.injEq] at H
    obtain⟨rfl,rfl⟩:=H
    have hnb48:=NB103_101.out
    have hnc48:=NB101_103.out
    have hnb49:=NB103_102.out
    have hnc49:=NB102_103.out
    have hcz50_0:wr.cell? ⟨gb103,0,none⟩=some (.int .i64 x104000_1):=(zaa BK103.out 0).trans rfl
    have hcz50_1:wr.cell? ⟨gb103,1,none⟩=some (.int .i64 x104001_1):=(zaa BK103.out 1).trans rfl
    have hfz50_0:=zab BK103.out 0
    have hfz50_1:=zab BK103.out 1
    have hnb51:=NB102_101.out
    have hnc51:=NB101_102.out
    have hcz52_0:wr.cell? ⟨gb102,0,none⟩=some (.int .i64 0):=(zaa BK102.out 0).trans rfl
    have hcz52_1:wr.cell? ⟨gb102,1,none⟩=some (.int .i64 0):=(zaa BK102.out 1).trans rfl
    have hfz52_0:=zab BK102.out 0
    have hfz52_1:=zab BK102.out 1
    go_wp2
    refine bodyPost_ret (results_cell_row rfl _ _ gb102 34 #[.int .i64 x104000_1,.int .i64 x104001_1] (0,0) _ rfl (by(with_reducible repeat(first|refine zah ?_ _|refine zaf ?_|refine zai ?_ _));refine za9 (cs:=#[.int .i64 x104000_1,.int .i64 0]) ?_ 1 _ rfl;(with_reducible repeat(first|refine zah ?_ _|refine zaf ?_|refine zai ?_ _));refine za9 (cs:=#[.int .i64 0,.int .i64 0]) ?_ 0 _ rfl;(with_reducible repeat(first|refine zah ?_ _|refine zaf ?_|refine zai ?_ _));exact BK102.out) Try.underlying34 rfl (by kernel_rfl)) rfl ?_
    exact⟨qz8_,qz17_⟩
end Go.Proofs.Ytgookagndlfehaa.PT
end
section
namespace Go.Proofs.Ytgookagndlfehaa.PT
open Go Go.RowKit Go.Proofs.YtgookagndlfehaaW.PrintWords Go.Proofs.YtgookagndlfehaaW.PrintLast Go.Proofs.YtgookagndlfehaaW.PrintMore
set_option linter.unusedVariables false
set_option linter.unusedSimpArgs false
theorem zi6 {α:Type} (a b c d:α):[a,b,c,d].Perm [d,a,b,c]:=by
 have:=(List.perm_append_comm (l₁:=[a,b,c]) (l₂:=[d]));simpa using this
theorem zja {α:Type} (a b c d e:α):[a,b,c,d,e].Perm [c,a,b,d,e]:=by
 have:=((List.perm_append_comm (l₁:=[a,b]) (l₂:=[c])).append_right [d,e]);simpa using this
theorem zl0 {α:Type} (a b c d e:α):[a,b,c,d,e].Perm [e,a,b,c,d]:=by
 have:=(List.perm_append_comm (l₁:=[a,b,c,d]) (l₂:=[e]));simpa using this
theorem zlm (a b m1 m2:Int):(#[Value.int .i64 a,Value.int .i64 b]:Array Value).size=(#[Value.int .i64 m1,Value.int .i64 m2]:Array Value).size:=rfl
theorem znb {W:World} {B:Option Addr} {r:List S34} (hC:Kd.C k34 W B r.length r) (h:1<r.length):∃ ad,B=some ad:=by
 obtain⟨ad,e,_⟩:=zey hC 0 (by omega) (by omega)
 exact⟨ad,e⟩
theorem zkw {W:World} {ad:Addr} {r:List S34} (hC:Kd.C k34 W (some ad) r.length r) (h:1<r.length):W.cell? ad=some (.int .i64 (zan r 0).f0)∧W.cell? ⟨ad.block,ad.off + 1,none⟩=some (.int .i64 (zan r 0).f1)∧W.cell? ⟨ad.block,ad.off + 2,none⟩=some (.int .i64 (zan r 1).f0)∧W.cell? ⟨ad.block,ad.off + 2 + 1,none⟩=some (.int .i64 (zan r 1).f1):=by
 obtain⟨a1,e1,h0,h1⟩:=zey hC 0 (by omega) (by omega)
 obtain⟨a2,e2,h2,h3⟩:=zey hC 1 (by omega) (by omega)
 injection e1 with e1
 injection e2 with e2
 subst e1 e2
 have hz:ad.add ((0:Int).toNat * 2)=ad:=by cases ad;rfl
 have hz2:ad.add ((1:Int).toNat * 2)=⟨ad.block,ad.off + 2,none⟩:=by cases ad;rfl
 rw [hz] at h0 h1
 rw [hz2] at h2 h3
 exact⟨h0,h1,h2,h3⟩
def vs_ (k:Nat) (kind:Int) (s0:List S34):List (List S34)→Int→Int→Int→ByteArray→Int→List S34→Option (List S34 × Int × Int × Int × Int × ByteArray × Int)
 | [],c0,c1,s1,s2,s3,pt=>some (pt,c0,c1,0,s1,s2,s3)
 | r::rs,c0,c1,s1,s2,s3,pt=>(zbw.f kind).bind fun d=>if (r.length:Int)=wrap64 (d + 1) then(if 1<r.length then((zbu.f (zan r 0).f0 (zan r 0).f1 (zan r 1).f0 (zan r 1).f1).bind fun p=>if p.1=c0∧p.2=c1 then((zck.f k s0 s1 s2 s3 r).bind fun a=>(zcz.f s0 a.1 a.2.1 a.2.2).bind fun e=>(zav.f k r e.1 e.2.1).bind fun c=>if pt.length≤100000 then vs_ k kind s0 rs c.1 c.2 e.2.2.1 e.2.2.2.1 e.2.2.2.2 (pt++[⟨e.1,e.2.1⟩]) else none) else some ([],0,0,10,s1,s2,s3)) else none) else some ([],0,0,18,s1,s2,s3)
theorem zo9 {α:Type} (a b c d e:α):[a,b,c,d,e].Perm [b,e,a,d,c]:=by
 have h1:[a,b,c,d,e].Perm [b,a,c,d,e]:=List.Perm.swap _ _ _
 have h2:[a,c,d,e].Perm [e,a,d,c]:=by
  have h3:[a,c,d,e].Perm [e,a,c,d]:=by have:=(List.perm_append_comm (l₁:=[a,c,d]) (l₂:=[e]));simpa using this
  exact h3.trans (((List.Perm.swap _ _ _).cons _).cons _)
 exact h1.trans (h2.cons _)
theorem zgu.calls (k:Nat) (g:Nat) (s0:List S34) (s1:Int) (s2:ByteArray) (s3:Int) (kind c0 c1:Int) (A3:Option Addr) (cap3:Nat) (l3:List (List S34)) (r1:List S34) (r2 r3 r4 r5:Int) (r6:ByteArray) (r7:Int) (wb w:World) (hI:IsS27 wb w g s0 s1 s2 s3) (hB:Below wb.heap.size wb w) (hr3:∀ W_,zbj w W_ g none→Kd.C (Kd.slice 34 k34) W_ A3 l3.length l3) (hc3:l3.length≤cap3) (h:vs_ k kind s0 l3 c0 c1 s1 s2 s3 []=some (r1,r2,r3,r4,r5,r6,r7)) :
  Calls Try.prog 81 #[.pointer (some ⟨g,0,none⟩),.int .i64 kind,.agg #[.int .i64 c0,.int .i64 c1],.slice A3 l3.length cap3,.func (.func 82) #[] #[]] w fun e w'=>∃ v0_:Value,e=.returned (.tuple #[v0_,.agg #[.int .i64 r2,.int .i64 r3],.int .i64 r4])∧Kd.R k34 34 w' w.heap.size (fun _=>True) v0_ r1∧IsS27 wb w' g s0 r5 r6 r7∧Below wb.heap.size wb w'∧zbj w w' g none:=by
 have hu34:=Try.underlying34
 have HB:=am_ hB
 have HGE:=am_ (IsS27.ge hI)
 obtain⟨A0,cap,hblk,hge,hr0⟩:=hI
 have HGQ:=am_ hge
 have HR0:=am_ hr0
 have HVS:=am_ h
 have HL3:=am_ (show l3.length≤9223372036854775807 from(hr3 w (zbj.refl w g none)).2.1)
 have HI:=am_ (Inv.zoz w hblk (fun w2=>Kd.C k34 w2 A0 s0.length s0∧Kd.C (Kd.slice 34 k34) w2 A3 l3.length l3) (fun w' ha=>⟨Kd.zbs hr0 (ha.onto hB (fun k hk=>by obtain rfl:k=g:=hk;exact HGE.out)),hr3 w' ha.keep⟩))
 clear hB hblk hge hr0 hr3 h hc3
 go_enter Try.func81,Try.ntmps81
 go_wp2_with (first|((with_reducible refine zad (N:=7) rfl ?_);refine zae rfl (N:=7) rfl (cs:=#[.int .i64 c0,.int .i64 c1]) (t:=34) bx_ ?_;intro g7 hg w7_ hbox hb;replace HI:=am_ ((HI.out).box hg hbox hb);clear hb hbox hg)|((with_reducible refine zad (N:=11) rfl ?_);refine zae rfl (N:=11) rfl (cs:=#[.int .i64 0,.int .i64 0]) (t:=34) bx_ ?_;intro g11 hg w11_ hbox hb;replace HI:=am_ ((HI.out).box hg hbox hb);clear hb hbox hg)|((with_reducible refine zad (N:=17) rfl ?_);refine Kd.R_lit k34 (w0:=_) _ 34 ?hg (N:=17) ?hd (xs:=([]:List S34)) (inner:=[]) (ok:=fun _=>True) (okp:=fun _=>True) ?hr ?hp (fun _ hk=>hk) trivial (Below.refl _ _) (Nat.le_refl _) (by simp) ?_;(case hd=>rfl);(case hg=>rfl);(case hr=>first|(go_simp;done)|(go_simp;rfl));(case hp=>exact(Reps.none _ _));intro v17 w17 hR hb hg hat;replace HI:=am_ ((HI.out).zdj hb hR);clear hR hb hg hat))
 obtain⟨A17,c17,e17⟩:=Kd.zb0 HI.out.row0
 subst e17
 go_loopg [13,20] l3.length (fun kq v13 v20 w'=>∃ (j:Nat) (pt:List S34) (c0 c1 s1:Int) (s2:ByteArray) (s3:Int) (S:Nat→Prop) (Apt:Option Addr) (npt cpt:Nat),v13=.slice Apt npt cpt∧v20=.int .i64 j∧zal (j + kq=l3.length)∧zal (vs_ k kind s0 (l3.drop j) c0 c1 s1 s2 s3 pt=some (r1,r2,r3,r4,r5,r6,r7))∧zal (Inv w (fun k=>k=g) w' [row k34 34 w.heap.size (.slice Apt npt cpt) pt S,blk g11 34 #[.int .i64 0,.int .i64 0],blk g7 34 #[.int .i64 c0,.int .i64 c1],blk g 27 #[.slice A0 s0.length cap,.int .i64 s1,.string s2,.int .i64 s3]] (fun w2=>Kd.C k34 w2 A0 s0.length s0∧Kd.C (Kd.slice 34 k34) w2 A3 l3.length l3)))
 case atStart=>exact⟨0,[],c0,c1,s1,s2,s3,_,A17,_,c17,rfl,rfl,⟨(by omega)⟩,HVS,HI⟩
 case round=>
  clear HI HVS
  obtain⟨j,pt,c0,c1,s1,s2,s3,S,Apt,npt,cpt,rfl,rfl,HJ,HVS,HI⟩:=hrel
  have hj:=HJ.out
  cases gk with
  | zero=>
   have h:=HVS.out
   rw [List.drop_eq_nil_of_le (by omega),vs_] at h
   simp only [Option.some.injEq,Prod.mk.injEq] at h
   obtain⟨rfl,rfl,rfl,rfl,rfl,rfl,rfl⟩:=h
   have d1:decide ((j:Int)<(l3.length:Int))=false:=decide_eq_false (by omega)
   have d2:decide (j<l3.length)=false:=decide_eq_false (by omega)
   clear hj HJ HVS
   go_wp2
   refine zcb (n:=5) (S:=fun w'=>w'.cell? ⟨g7,0,none⟩=some (.int .i64 c0)∧w'.cell? ⟨g7,1,none⟩=some (.int .i64 c1)) (ds:=[3]) (bs_ 5 0) (by kernel_rfl) rfl rfl ⟨(zaa (HI.out.drew.get 2 rfl) 0).trans rfl,(zaa (HI.out.drew.get 2 rfl) 1).trans rfl⟩ (fun hHeld=>?_)
   refine pu_ 0 60 (bs_ 5 1) ?_
   refine take_ (i:=1) (N:=some 61) (v:=?_) (a':=?_) (bs_ 5 3) rfl rfl (by kernel_rfl) (fun _ _ _ h=>h) (Or.inl ⟨(by rfl),?_⟩) hHeld ?_ ?_
   rotate_left
   ·
    rintro w' ⟨s0,s1⟩
    go_simp
    with_reducible rfl
   rotate_left
   ·
    exact ap_
   refine pu_ 2 10 (bs_ 5 7) ?_
   refine last_ (i:=3) (N:=none) (bs_ 5 15) rfl rfl (by kernel_rfl) (by decide) (fun K hK=>?_)
   rw [if_pos (by rfl)]
   refine wp_store_row 34 _ _ rfl g11 (#[.int .i64 c0,.int .i64 c1]) rfl qz0_ 34 (#[.int .i64 0,.int .i64 0]) ((HI.out.swap.drew).blk0) (zby c0 c1) (zeo c0 c1) (zd8 c0 c1) ?_
   refine hK.out _ _ ?_
   clear hK K
   have HI2:=am_ (((HI.out.swap.drew).put0 (#[.int .i64 c0,.int .i64 c1])))
   refine pu_ 4 12 (bs_ 5 31) ?_
   refine done_ (by kernel_rfl) ?_
   try go_wp2
   refine bodyPost_ret (zf8 rfl _ _ g11 34 #[.int .i64 c0,.int .i64 c1] (0,0) _ rfl (Inv.blk0 HI2.out) hu34 rfl (zby _ _)) rfl ?_
   exact⟨_,rfl,Kd.zbi (HI2.out.get 1 rfl) (fun _ _=>trivial),⟨A0,cap,HI2.out.get 3 rfl,HGQ.out,HR0.out⟩,HI2.out.agr.onto HB.out (fun k hk=>by obtain rfl:k=g:=hk;exact HGE.out),HI2.out.agr.keep⟩
  | succ k1=>
   have hjl:j<l3.length:=by omega
   have h:=HVS.out
   rw [zjz l3 j [] hjl,vs_] at h
   clear HVS
   obtain⟨ad3,B,cB,eA,hBl,hrow⟩:=zmr (S:=InL _) (fun W' hW=>(HI.out.facts W' hW).2) j hjl
   subst eA
   generalize hr_:l3.getD j []=r at h hBl hrow
   clear hr_
   have HI_:=am_ (HI.out.addF (fun w2=>w2.cell? (ad3.add j)=some (.slice B r.length cB)∧Kd.C k34 w2 B r.length r) hrow)
   clear HI hrow
   have HI:=HI_
   clear HI_
   have HBL:=am_ hBl
   have hx:=HI.out.now.1.1
   have d1:decide ((j:Int)<(l3.length:Int))=true:=decide_eq_true (by omega)
   have d2:decide (j<l3.length)=true:=decide_eq_true hjl
   have p6:=eq_true (show 0≤(j:Int) by omega)
   have q6:=eq_true (show (j:Int)<(l3.length:Int) by omega)
   have q6n:=eq_true hjl
   have HWJ:=am_ (show wrap64 ((j:Int) + 1)=((j + 1:Nat):Int) by have:=HL3.out;unfold wrap64;omega)
   have HJ2:=am_ (show j + 1 + k1=l3.length by omega)
   replace h:=Option.bind_eq_some_iff.1 h
   obtain⟨d,hdg,h⟩:=h
   have HDG:=am_ hdg
   clear hdg hBl hj HJ hjl
   by_cases ce1:(r.length:Int)=wrap64 (d + 1)
   ·
    rw [if_pos ce1] at h
    have f1:((r.length:Int) == wrap64 (d + 1))=true:=beq_iff_eq.mpr ce1
    have f2:((r.length:Int) != wrap64 (d + 1))=false:=bne_eq_false_iff_eq.mpr ce1
    clear ce1
    by_cases ce2:1<r.length
    ·
     rw [if_pos ce2] at h
     replace h:=Option.bind_eq_some_iff.1 h
     obtain⟨⟨p0,p1⟩,hpl,h⟩:=h
     obtain⟨ad,eB⟩:=znb HI.out.now.1.2 ce2
     subst eB
     have HX:=am_ (fun(W:World) (hC:Kd.C k34 W (some ad) r.length r)=>zkw hC ce2)
     have p7:=eq_true (show (0:Int)<(r.length:Int) by omega)
     have p8:=eq_true (show (1:Int)<(r.length:Int) by omega)
     have p7n:=eq_true (show 0<r.length by omega)
     have p8n:=eq_true ce2
     generalize zan r 0=x at HX hpl
     generalize zan r 1=y at HX hpl
     have HPL:=am_ hpl
     clear hpl ce2
     by_cases ce3:p0=c0∧p1=c1
     ·
      rw [if_pos (show (p0,p1).1=c0∧(p0,p1).2=c1 from ce3)] at h
      have f3:=eq_true ce3.1
      have f4:=eq_true ce3.2
      clear ce3
      replace h:=Option.bind_eq_some_iff.1 h
      obtain⟨⟨a1,a2,a3⟩,hae,h⟩:=h
      replace h:=Option.bind_eq_some_iff.1 h
      obtain⟨⟨y0,y1,e1,e2,e3⟩,hdw,h⟩:=h
      replace h:=Option.bind_eq_some_iff.1 h
      obtain⟨⟨z0,z1⟩,hli,h⟩:=h
      by_cases cpt_:pt.length≤100000
      ·
       rw [if_pos cpt_] at h
       have HAE:=am_ (show zck.f k s0 s1 s2 s3 r=some (a1,a2,a3) from hae)
       have HDW:=am_ (show zcz.f s0 a1 a2 a3=some (y0,y1,e1,e2,e3) from hdw)
       have HLI:=am_ (show zav.f k r y0 y1=some (z0,z1) from hli)
       have HVS:=am_ (show vs_ k kind s0 (l3.drop (j + 1)) z0 z1 e1 e2 e3 (pt++([(⟨y0,y1⟩:S34)]:List S34))=some (r1,r2,r3,r4,r5,r6,r7) from h)
       have HPT:=am_ cpt_
       clear hae hdw hli h cpt_
       go_wp2_with (first|(go_at_call 79;(refine(zbw.calls kind d _ HDG.out).mono ?_);rintro e w29 ⟨rfl,⟨n29,rfl⟩⟩;replace HI:=am_ (HI.out.drewN n29)))
       clear hx
       refine zcb (n:=10) (S:=fun w'=>w'.cell? ad=some (.int .i64 x.f0)∧w'.cell? ⟨ad.block,ad.off + 1,none⟩=some (.int .i64 x.f1)∧w'.cell? ⟨ad.block,ad.off + 2,none⟩=some (.int .i64 y.f0)∧w'.cell? ⟨ad.block,ad.off + 2 + 1,none⟩=some (.int .i64 y.f1)∧w'.cell? ⟨g7,0,none⟩=some (.int .i64 c0)∧w'.cell? ⟨g7,1,none⟩=some (.int .i64 c1)) (ds:=[]) (bs_ 10 0) (by kernel_rfl) rfl rfl ⟨(HX.out _ ((HI.out.drew).now.1.2)).1,(HX.out _ ((HI.out.drew).now.1.2)).2.1,(HX.out _ ((HI.out.drew).now.1.2)).2.2.1,(HX.out _ ((HI.out.drew).now.1.2)).2.2.2,(zaa (((HI.out.drew)).get 2 rfl) 0).trans rfl,(zaa (((HI.out.drew)).get 2 rfl) 1).trans rfl⟩ (fun hHeld=>?_)
       replace HI:=am_ (HI.out.drew)
       generalize World.drew _=wd0 at HI hHeld ⊢
       refine pu_ 0 34 (bs_ 10 1) ?_
       refine pu_ 1 35 (bs_ 10 3) ?_
       refine take_ (i:=2) (N:=some 36) (v:=?_) (a':=?_) (bs_ 10 7) rfl rfl (by kernel_rfl) (fun _ _ _ h=>h) (Or.inl ⟨(by rfl),?_⟩) hHeld ?_ ?_
       rotate_left
       ·
        rintro w' ⟨s_0,s_1,s_2,s_3,s_4,s_5⟩
        go_simp
        with_reducible rfl
       rotate_left
       ·
        exact ap_
       refine pu_ 3 37 (bs_ 10 15) ?_
       refine pu_ 4 38 (bs_ 10 31) ?_
       refine take_ (i:=5) (N:=some 39) (v:=?_) (a':=?_) (bs_ 10 63) rfl rfl (by kernel_rfl) (fun _ _ _ h=>h) (Or.inl ⟨(by rfl),?_⟩) hHeld ?_ ?_
       rotate_left
       ·
        rintro w' ⟨s_0,s_1,s_2,s_3,s_4,s_5⟩
        go_simp
        with_reducible rfl
       rotate_left
       ·
        exact ap_
       refine take_ (i:=7) (N:=some 41) (v:=?_) (a':=?_) (bs_ 10 191) rfl rfl (by kernel_rfl) (fun _ _ _ h=>h) (Or.inl ⟨(by rfl),?_⟩) hHeld ?_ ?_
       rotate_left
       ·
        rintro w' ⟨s_0,s_1,s_2,s_3,s_4,s_5⟩
        go_simp
        with_reducible rfl
       rotate_left
       ·
        exact ap_
       refine one_ (i:=6) (N:=some 40) (bs_ 10 255) rfl rfl (by kernel_rfl) (by decide) (fun K hK=>?_)
       refine goes_ Try.func121 (by kernel_rfl) rfl #[.agg #[.int .i64 x.f0,.int .i64 x.f1],.agg #[.int .i64 y.f0,.int .i64 y.f1]] (by rfl) rfl rfl qz3_ ?_
       with_reducible refine(zbu.calls x.f0 x.f1 y.f0 y.f1 p0 p1 _ HPL.out).mono ?_
       rintro e w40 ⟨rfl,hb⟩
       refine⟨_,rfl,?_⟩
       replace HI:=am_ (HI.out.grow hb)
       clear hb
       refine hK.out _ _ ⟨(HX.out _ ((HI.out).now.1.2)).1,(HX.out _ ((HI.out).now.1.2)).2.1,(HX.out _ ((HI.out).now.1.2)).2.2.1,(HX.out _ ((HI.out).now.1.2)).2.2.2,(zaa (((HI.out)).get 2 rfl) 0).trans rfl,(zaa (((HI.out)).get 2 rfl) 1).trans rfl⟩ (fun hHeld=>?_)
       clear hK K
       refine norm_ (a':=?_) ?_ ?_
       rotate_left
       ·
        show Act.put _ (some 40) _=_
        exact ap_
       refine pu_ 8 42 (bs_ 10 511) ?_
       refine pu_ 9 33 (bs_ 10 1023) ?_
       refine done_ (by kernel_rfl) ?_
       clear f3 f4
       go_wp2_with (first|(go_at_call 122;(refine(zck.calls k g s0 s1 s2 s3 (some ad) cB r a1 a2 a3 wb _ ⟨A0,cap,HI.out.get 3 rfl,HGQ.out,HR0.out⟩ (HI.out.agr.onto HB.out (fun k hk=>by obtain rfl:k=g:=hk;exact HGE.out)) (fun W_ hk=>(Inv.zhy (HI.out.perm (zi6 _ _ _ _)) hk).1.2) HBL.out HAE.out).mono ?_);rintro e w46 ⟨rfl,⟨Aq_,cq_,hbq,⟨_,hdq⟩,_⟩,hBq,hkq⟩;obtain⟨e1_,e2_⟩:=zhq (HGQ.out.2.symm.trans hdq);subst e1_ e2_;replace HI:=am_ (Inv.keep0 (wb:=wb) (HI.out.perm (zi6 _ _ _ _)) (HI.out.agr.onto HB.out (fun k hk=>by obtain rfl:k=g:=hk;exact HGE.out)) hBq hkq hbq);clear hbq hdq hBq hkq)|(go_at_call 123;(refine(zcz.calls g s0 a1 a2 a3 y0 y1 e1 e2 e3 wb _ ⟨A0,cap,HI.out.blk0,HGQ.out,HR0.out⟩ (HI.out.agr.onto HB.out (fun k hk=>by obtain rfl:k=g:=hk;exact HGE.out)) HDW.out).mono ?_);rintro e w48 ⟨rfl,⟨Aq_,cq_,hbq,⟨_,hdq⟩,_⟩,hBq,hkq⟩;obtain⟨e1_,e2_⟩:=zhq (HGQ.out.2.symm.trans hdq);subst e1_ e2_;replace HI:=am_ (Inv.keep0 (wb:=wb) HI.out (HI.out.agr.onto HB.out (fun k hk=>by obtain rfl:k=g:=hk;exact HGE.out)) hBq hkq hbq);clear hbq hdq hBq hkq)|((with_reducible refine zad (N:=16) rfl ?_);refine zae rfl (N:=16) rfl (cs:=#[.int .i64 0,.int .i64 0]) (t:=34) bx_ ?_;intro g16 hg w16 hbox hb;replace HI:=am_ ((HI.out).box hg hbox hb);clear hb hbox hg)|((with_reducible refine zaq (p:=16) (v:=(.tmp 48)) (t:=34) rfl ?_);go_must (refine wpList_store_row rfl 34 _ _ rfl g16 (#[.int .i64 y0,.int .i64 y1]) rfl (by first|rfl|(go_simp;done)|(go_simp;rfl)) 34 (#[.int .i64 0,.int .i64 0]) (Inv.blk0 (HI.out)) (zby y0 y1) (zeo y0 y1) (zd8 y0 y1) ?_;replace HI:=am_ (Inv.put0 (HI.out) (#[.int .i64 y0,.int .i64 y1]));generalize World.setRow _ g16 (#[.int .i64 y0,.int .i64 y1])=w17_ at HI ⊢)))
       refine zcb (n:=9) (S:=fun w'=>w'.cell? ⟨g16,0,none⟩=some (.int .i64 y0)∧w'.cell? ⟨g16,1,none⟩=some (.int .i64 y1)) (ds:=[7]) (bs_ 9 0) (by kernel_rfl) rfl rfl ⟨(zaa (HI.out.drew).blk0 0).trans rfl,(zaa (HI.out.drew).blk0 1).trans rfl⟩ (fun hHeld=>?_)
       replace HI:=am_ (HI.out.drew)
       generalize World.drew _=wd0 at HI hHeld ⊢
       refine pu_ 0 49 (bs_ 9 1) ?_
       refine take_ (i:=1) (N:=some 50) (v:=?_) (a':=?_) (bs_ 9 3) rfl rfl (by kernel_rfl) (fun _ _ _ h=>h) (Or.inl ⟨(by rfl),?_⟩) hHeld ?_ ?_
       rotate_left
       ·
        rintro w' ⟨s_0,s_1⟩
        go_simp
        with_reducible rfl
       rotate_left
       ·
        exact ap_
       refine pu_ 3 52 (bs_ 9 11) ?_
       refine take_ (i:=4) (N:=some 53) (v:=?_) (a':=?_) (bs_ 9 27) rfl rfl (by kernel_rfl) (fun _ _ _ h=>h) (Or.inl ⟨(by rfl),?_⟩) hHeld ?_ ?_
       rotate_left
       ·
        rintro w' ⟨s_0,s_1⟩
        go_simp
        with_reducible rfl
       rotate_left
       ·
        exact ap_
       refine join_ (σ:=Value) 3 (bs_ 9 63) (fun s=>[(51,.agg #[.int .i64 z0,.int .i64 z1]),(54,s)]) (fun s w'=>Inv w (fun k=>k=g) w' [blk g16 34 #[.int .i64 y0,.int .i64 y1],blk g 27 #[.slice A0 s0.length cap,.int .i64 e1,.string e2,.int .i64 e3],row k34 34 w.heap.size (.slice Apt npt cpt) pt S,blk g11 34 #[.int .i64 0,.int .i64 0],blk g7 34 #[.int .i64 c0,.int .i64 c1]] (fun w2=>(∃ A c,s=.slice A 1 c∧1≤c∧Kd.C k34 w2 A 1 [(⟨y0,y1⟩:S34)])∧(fun w2=>(w2.cell? (ad3.add j)=some (.slice (some ad) r.length cB)∧Kd.C k34 w2 (some ad) r.length r)∧Kd.C k34 w2 A0 s0.length s0∧Kd.C (Kd.slice 34 k34) w2 (some ad3) l3.length l3) w2)) ?_ ?_
       rotate_left
       ·
        intro hJ
        refine two_ (i:=2) (j:=5) (Ni:=some 51) (Nj:=some 54) (bs_ 9 31) (bs_ 9 59) rfl rfl rfl rfl (by kernel_rfl) (by decide) (by decide) (fun K hK=>?_) (fun K hK=>?_)
        ·
         refine goes_ Try.func124 (by kernel_rfl) rfl #[.slice (some ad) r.length cB,.agg #[.int .i64 y0,.int .i64 y1]] (by rfl) rfl rfl qz3_ ?_
         with_reducible refine(zav.calls k (some ad) cB r y0 y1 z0 z1 _ HI.out.now.1.2 HBL.out HLI.out).mono ?_
         rintro e w51 ⟨rfl,hb⟩
         refine⟨_,rfl,?_⟩
         replace HI:=am_ (HI.out.grow hb)
         clear hb
         refine hK.out _ _ ⟨(zaa (HI.out).blk0 0).trans rfl,(zaa (HI.out).blk0 1).trans rfl⟩ (fun hHeld=>?_)
         clear hK K
         refine norm_ (a':=?_) ?_ ?_
         rotate_left
         ·
          show Act.put _ (some 51) _=_
          exact ap_
         refine one_ (i:=5) (N:=some 54) (bs_ 9 63) rfl rfl (by kernel_rfl) (by decide) (fun K hK=>?_)
         refine Kd.zfm k34 (w0:=_) _ 34 ?hg (N:=54) ?hd (xs:=([(⟨y0,y1⟩:S34)]:List S34)) (inner:=[.int .i64 y0,.int .i64 y1]) (ok:=fun _=>True) (okp:=fun _=>True) ?hr ?hp (fun _ hk=>hk) trivial (Below.refl _ _) (Nat.le_refl _) (by simp) ?_
         (case hd=>rfl);(case hg=>rfl);(case hr=>first|(go_simp;done)|(go_simp;rfl));(case hp=>exact(Reps.c2 (show Kd.M k34 _ _ _ (⟨y0,y1⟩:S34) [.int .i64 y0,.int .i64 y1] from(zhe _ _ _ (⟨y0,y1⟩:S34))) (Reps.none _ _)))
         intro v54 w54 hR hb hg hat
         obtain⟨Al,cl,e54,hl54,HI_⟩:=HI.out.zl4 hb hR
         clear HI;have HI:=am_ HI_;clear HI_ hR hb hg hat
         subst e54
         refine hK.out _ _ ⟨(zaa (HI.out).blk0 0).trans rfl,(zaa (HI.out).blk0 1).trans rfl⟩ (fun hHeld=>?_)
         clear hK K
         refine norm_ (a':=?_) ?_ ?_
         rotate_left
         ·
          show Act.put _ (some 54) _=_
          exact ap_
         refine norm_ ?_ (hJ (.slice Al 1 cl) _ (HI.out.weaken (fun _ h=>⟨⟨Al,cl,rfl,hl54,h.1⟩,h.2⟩)))
         simp only [zdu];simp only [Act.put,List.setIfInBounds_toArray,List.set_cons_zero,List.set_cons_succ,i64_w,i32_w]
         try rfl
        ·
         refine Kd.zfm k34 (w0:=_) _ 34 ?hg (N:=54) ?hd (xs:=([(⟨y0,y1⟩:S34)]:List S34)) (inner:=[.int .i64 y0,.int .i64 y1]) (ok:=fun _=>True) (okp:=fun _=>True) ?hr ?hp (fun _ hk=>hk) trivial (Below.refl _ _) (Nat.le_refl _) (by simp) ?_
         (case hd=>rfl);(case hg=>rfl);(case hr=>first|(go_simp;done)|(go_simp;rfl));(case hp=>exact(Reps.c2 (show Kd.M k34 _ _ _ (⟨y0,y1⟩:S34) [.int .i64 y0,.int .i64 y1] from(zhe _ _ _ (⟨y0,y1⟩:S34))) (Reps.none _ _)))
         intro v54 w54 hR hb hg hat
         obtain⟨Al,cl,e54,hl54,HI_⟩:=HI.out.zl4 hb hR
         clear HI;have HI:=am_ HI_;clear HI_ hR hb hg hat
         subst e54
         refine hK.out _ _ ⟨(zaa (HI.out).blk0 0).trans rfl,(zaa (HI.out).blk0 1).trans rfl⟩ (fun hHeld=>?_)
         clear hK K
         refine norm_ (a':=?_) ?_ ?_
         rotate_left
         ·
          show Act.put _ (some 54) _=_
          exact ap_
         refine one_ (i:=2) (N:=some 51) (bs_ 9 63) rfl rfl (by kernel_rfl) (by decide) (fun K hK=>?_)
         refine goes_ Try.func124 (by kernel_rfl) rfl #[.slice (some ad) r.length cB,.agg #[.int .i64 y0,.int .i64 y1]] (by rfl) rfl rfl qz3_ ?_
         with_reducible refine(zav.calls k (some ad) cB r y0 y1 z0 z1 _ HI.out.now.2.1.2 HBL.out HLI.out).mono ?_
         rintro e w51 ⟨rfl,hb⟩
         refine⟨_,rfl,?_⟩
         replace HI:=am_ (HI.out.grow hb)
         clear hb
         refine hK.out _ _ ⟨(zaa (HI.out).blk0 0).trans rfl,(zaa (HI.out).blk0 1).trans rfl⟩ (fun hHeld=>?_)
         clear hK K
         refine norm_ (a':=?_) ?_ ?_
         rotate_left
         ·
          show Act.put _ (some 51) _=_
          exact ap_
         refine norm_ ?_ (hJ (.slice Al 1 cl) _ (HI.out.weaken (fun _ h=>⟨⟨Al,cl,rfl,hl54,h.1⟩,h.2⟩)))
         simp only [zdu];simp only [Act.put,List.setIfInBounds_toArray,List.set_cons_zero,List.set_cons_succ,i64_w,i32_w]
         try rfl
       ·
        rintro v54 wj HI0
        have HI:=am_ HI0
        clear HI0
        refine norm_ (a':=?_) ?_ ?_
        rotate_left
        ·
         simp only [zdu];simp only [Act.put,List.setIfInBounds_toArray,List.set_cons_zero,List.set_cons_succ,i64_w,i32_w]
         try rfl
        obtain⟨Al,cl,e54,hl54,hC54⟩:=HI.out.now.1
        subst e54
        replace HI:=am_ (HI.out.weaken (G:=fun w2=>Kd.C k34 w2 Al 1 [(⟨y0,y1⟩:S34)]∧(fun w2=>(w2.cell? (ad3.add j)=some (.slice (some ad) r.length cB)∧Kd.C k34 w2 (some ad) r.length r)∧Kd.C k34 w2 A0 s0.length s0∧Kd.C (Kd.slice 34 k34) w2 (some ad3) l3.length l3) w2) (fun w2 h=>⟨by obtain⟨A,c,e,_,hC⟩:=h.1;injection e with e1 e2 e3;rw [e1];exact hC,h.2⟩))
        clear hC54
        refine one_ (i:=6) (N:=some 55) (bs_ 9 127) rfl rfl (by kernel_rfl) (by decide) (fun K hK=>?_)
        refine Kd.ze5 k34 (w0:=_) w.heap.size (by rfl) (.tmp 52) (.tmp 54) 24 34 (.agg #[(.int .i64 0),(.int .i64 0)]) 16 rfl Try.underlying24 zk5 rfl (by decide) (by omega) _ pt ([(⟨y0,y1⟩:S34)]:List S34) _ _ _ _ (fun _=>False) rfl rfl (Inv.row0W (HI.out.perm (zja _ _ _ _ _))) HI.out.now.1 (fun _ _ h=>h) (fun _ h=>h.elim) ?aF (Below.refl _ _) HI.out.agr.size ?aL ?_
        (case aF=>exact(fun _ hk=>.inr hk))
        (case aL=>have:=HPT.out;simp;omega)
        intro v55 w55 hR hb hg hat
        obtain⟨A55,c55,e55⟩:=Kd.zb0 hR
        rw [show (pt++([(⟨y0,y1⟩:S34)]:List S34)).length=pt.length + 1 by simp] at e55
        subst e55
        replace HI:=am_ ((Inv.zpu (HI.out.perm (zja _ _ _ _ _)) hb hR (fun _ hk _=>hk) hg).weaken (fun _ h=>h.2))
        clear hR hb hg hat
        refine hK.out _ _ ⟨(zaa (HI.out.get 1 rfl) 0).trans rfl,(zaa (HI.out.get 1 rfl) 1).trans rfl⟩ (fun hHeld=>?_)
        clear hK K
        refine norm_ (a':=?_) ?_ ?_
        rotate_left
        ·
         show Act.put _ (some 55) _=_
         exact ap_
        refine last_ (i:=7) (N:=none) (bs_ 9 255) rfl rfl (by kernel_rfl) (by decide) (fun K hK=>?_)
        rw [if_pos (by rfl)]
        refine wp_store_row 34 _ _ rfl g7 (#[.int .i64 z0,.int .i64 z1]) rfl qz0_ 34 (#[.int .i64 c0,.int .i64 c1]) (HI.out.get 4 rfl) (zby z0 z1) (zlm c0 c1 z0 z1) (zd8 z0 z1) ?_
        replace HI:=am_ (Inv.put0 (HI.out.perm (zl0 _ _ _ _ _)) (#[.int .i64 z0,.int .i64 z1]))
        generalize World.setRow _ g7 (#[.int .i64 z0,.int .i64 z1])=w56 at HI ⊢
        refine hK.out _ _ ?_
        clear hK K
        refine pu_ 8 13 (bs_ 9 511) ?_
        refine done_ (by kernel_rfl) ?_
        go_wp2_with (first|(go_at_call 82;(refine(zgc.calls _ _ (by rfl)).mono ?_);rintro e w58 ⟨rfl,⟨n58,rfl⟩⟩;replace HI:=am_ (HI.out.drewN n58)))
        go_roundg k1
        case measure=>omega
        case rel=>exact⟨j + 1,_,z0,z1,e1,e2,e3,_,A55,_,c55,rfl,by first|rfl|(rw [HWJ.out]),HJ2,HVS,⟨((HI.out.perm (zo9 _ _ _ _ _)).subL qz34_).weaken (fun _ h=>h.2)⟩⟩
      ·
       rw [if_neg cpt_] at h;cases h
     ·
      rw [if_neg (show ¬((p0,p1).1=c0∧(p0,p1).2=c1) from ce3)] at h
      simp only [Option.some.injEq,Prod.mk.injEq] at h
      obtain⟨rfl,rfl,rfl,rfl,rfl,rfl,rfl⟩:=h
      have f3:(p0=c0)=False∨((p0=c0)=True∧(p1=c1)=False):=by
       rcases Classical.em (p0=c0) with h0|h0
       ·
        exact .inr ⟨eq_true h0,eq_false (fun h1=>ce3 ⟨h0,h1⟩)⟩
       ·
        exact .inl (eq_false h0)
      clear ce3
      rcases f3 with f3|⟨f3,f4⟩
      ·
       go_wp2_with (first|(go_at_call 79;(refine(zbw.calls kind d _ HDG.out).mono ?_);rintro e w29 ⟨rfl,⟨n29,rfl⟩⟩;replace HI:=am_ (HI.out.drewN n29)))
       clear hx
       refine zcb (n:=10) (S:=fun w'=>w'.cell? ad=some (.int .i64 x.f0)∧w'.cell? ⟨ad.block,ad.off + 1,none⟩=some (.int .i64 x.f1)∧w'.cell? ⟨ad.block,ad.off + 2,none⟩=some (.int .i64 y.f0)∧w'.cell? ⟨ad.block,ad.off + 2 + 1,none⟩=some (.int .i64 y.f1)∧w'.cell? ⟨g7,0,none⟩=some (.int .i64 c0)∧w'.cell? ⟨g7,1,none⟩=some (.int .i64 c1)) (ds:=[]) (bs_ 10 0) (by kernel_rfl) rfl rfl ⟨(HX.out _ ((HI.out.drew).now.1.2)).1,(HX.out _ ((HI.out.drew).now.1.2)).2.1,(HX.out _ ((HI.out.drew).now.1.2)).2.2.1,(HX.out _ ((HI.out.drew).now.1.2)).2.2.2,(zaa (((HI.out.drew)).get 2 rfl) 0).trans rfl,(zaa (((HI.out.drew)).get 2 rfl) 1).trans rfl⟩ (fun hHeld=>?_)
       replace HI:=am_ (HI.out.drew)
       generalize World.drew _=wd0 at HI hHeld ⊢
       refine pu_ 0 34 (bs_ 10 1) ?_
       refine pu_ 1 35 (bs_ 10 3) ?_
       refine take_ (i:=2) (N:=some 36) (v:=?_) (a':=?_) (bs_ 10 7) rfl rfl (by kernel_rfl) (fun _ _ _ h=>h) (Or.inl ⟨(by rfl),?_⟩) hHeld ?_ ?_
       rotate_left
       ·
        rintro w' ⟨s_0,s_1,s_2,s_3,s_4,s_5⟩
        go_simp
        with_reducible rfl
       rotate_left
       ·
        exact ap_
       refine pu_ 3 37 (bs_ 10 15) ?_
       refine pu_ 4 38 (bs_ 10 31) ?_
       refine take_ (i:=5) (N:=some 39) (v:=?_) (a':=?_) (bs_ 10 63) rfl rfl (by kernel_rfl) (fun _ _ _ h=>h) (Or.inl ⟨(by rfl),?_⟩) hHeld ?_ ?_
       rotate_left
       ·
        rintro w' ⟨s_0,s_1,s_2,s_3,s_4,s_5⟩
        go_simp
        with_reducible rfl
       rotate_left
       ·
        exact ap_
       refine take_ (i:=7) (N:=some 41) (v:=?_) (a':=?_) (bs_ 10 191) rfl rfl (by kernel_rfl) (fun _ _ _ h=>h) (Or.inl ⟨(by rfl),?_⟩) hHeld ?_ ?_
       rotate_left
       ·
        rintro w' ⟨s_0,s_1,s_2,s_3,s_4,s_5⟩
        go_simp
        with_reducible rfl
       rotate_left
       ·
        exact ap_
       refine one_ (i:=6) (N:=some 40) (bs_ 10 255) rfl rfl (by kernel_rfl) (by decide) (fun K hK=>?_)
       refine goes_ Try.func121 (by kernel_rfl) rfl #[.agg #[.int .i64 x.f0,.int .i64 x.f1],.agg #[.int .i64 y.f0,.int .i64 y.f1]] (by rfl) rfl rfl qz3_ ?_
       with_reducible refine(zbu.calls x.f0 x.f1 y.f0 y.f1 p0 p1 _ HPL.out).mono ?_
       rintro e w40 ⟨rfl,hb⟩
       refine⟨_,rfl,?_⟩
       replace HI:=am_ (HI.out.grow hb)
       clear hb
       refine hK.out _ _ ⟨(HX.out _ ((HI.out).now.1.2)).1,(HX.out _ ((HI.out).now.1.2)).2.1,(HX.out _ ((HI.out).now.1.2)).2.2.1,(HX.out _ ((HI.out).now.1.2)).2.2.2,(zaa (((HI.out)).get 2 rfl) 0).trans rfl,(zaa (((HI.out)).get 2 rfl) 1).trans rfl⟩ (fun hHeld=>?_)
       clear hK K
       refine norm_ (a':=?_) ?_ ?_
       rotate_left
       ·
        show Act.put _ (some 40) _=_
        exact ap_
       refine pu_ 8 42 (bs_ 10 511) ?_
       refine pu_ 9 33 (bs_ 10 1023) ?_
       refine done_ (by kernel_rfl) ?_
       go_wp2_with (first|((with_reducible refine zaq (p:=11) (v:=(.tmp 43)) (t:=34) rfl ?_);go_must (refine wpList_store_row rfl 34 _ _ rfl g11 (#[.int .i64 0,.int .i64 0]) rfl qz0_ 34 (#[.int .i64 0,.int .i64 0]) (Inv.blk0 (HI.out.swap)) (by kernel_rfl) (by rfl) qz12_ ?_;replace HI:=am_ (Inv.put0 (HI.out.swap) (#[.int .i64 0,.int .i64 0]));generalize World.setRow _ g11 (#[.int .i64 0,.int .i64 0])=w43 at HI ⊢)))
       refine bodyPost_ret (zf8 rfl _ _ g11 34 #[.int .i64 0,.int .i64 0] (0,0) _ rfl (Inv.blk0 HI.out) hu34 rfl (by kernel_rfl)) rfl ?_
       exact⟨_,rfl,Kd.R_nil _ _ _ _ _,⟨A0,cap,HI.out.get 3 rfl,HGQ.out,HR0.out⟩,HI.out.agr.onto HB.out (fun k hk=>by obtain rfl:k=g:=hk;exact HGE.out),HI.out.agr.keep⟩
      ·
       go_wp2_with (first|(go_at_call 79;(refine(zbw.calls kind d _ HDG.out).mono ?_);rintro e w29 ⟨rfl,⟨n29,rfl⟩⟩;replace HI:=am_ (HI.out.drewN n29)))
       clear hx
       refine zcb (n:=10) (S:=fun w'=>w'.cell? ad=some (.int .i64 x.f0)∧w'.cell? ⟨ad.block,ad.off + 1,none⟩=some (.int .i64 x.f1)∧w'.cell? ⟨ad.block,ad.off + 2,none⟩=some (.int .i64 y.f0)∧w'.cell? ⟨ad.block,ad.off + 2 + 1,none⟩=some (.int .i64 y.f1)∧w'.cell? ⟨g7,0,none⟩=some (.int .i64 c0)∧w'.cell? ⟨g7,1,none⟩=some (.int .i64 c1)) (ds:=[]) (bs_ 10 0) (by kernel_rfl) rfl rfl ⟨(HX.out _ ((HI.out.drew).now.1.2)).1,(HX.out _ ((HI.out.drew).now.1.2)).2.1,(HX.out _ ((HI.out.drew).now.1.2)).2.2.1,(HX.out _ ((HI.out.drew).now.1.2)).2.2.2,(zaa (((HI.out.drew)).get 2 rfl) 0).trans rfl,(zaa (((HI.out.drew)).get 2 rfl) 1).trans rfl⟩ (fun hHeld=>?_)
       replace HI:=am_ (HI.out.drew)
       generalize World.drew _=wd0 at HI hHeld ⊢
       refine pu_ 0 34 (bs_ 10 1) ?_
       refine pu_ 1 35 (bs_ 10 3) ?_
       refine take_ (i:=2) (N:=some 36) (v:=?_) (a':=?_) (bs_ 10 7) rfl rfl (by kernel_rfl) (fun _ _ _ h=>h) (Or.inl ⟨(by rfl),?_⟩) hHeld ?_ ?_
       rotate_left
       ·
        rintro w' ⟨s_0,s_1,s_2,s_3,s_4,s_5⟩
        go_simp
        with_reducible rfl
       rotate_left
       ·
        exact ap_
       refine pu_ 3 37 (bs_ 10 15) ?_
       refine pu_ 4 38 (bs_ 10 31) ?_
       refine take_ (i:=5) (N:=some 39) (v:=?_) (a':=?_) (bs_ 10 63) rfl rfl (by kernel_rfl) (fun _ _ _ h=>h) (Or.inl ⟨(by rfl),?_⟩) hHeld ?_ ?_
       rotate_left
       ·
        rintro w' ⟨s_0,s_1,s_2,s_3,s_4,s_5⟩
        go_simp
        with_reducible rfl
       rotate_left
       ·
        exact ap_
       refine take_ (i:=7) (N:=some 41) (v:=?_) (a':=?_) (bs_ 10 191) rfl rfl (by kernel_rfl) (fun _ _ _ h=>h) (Or.inl ⟨(by rfl),?_⟩) hHeld ?_ ?_
       rotate_left
       ·
        rintro w' ⟨s_0,s_1,s_2,s_3,s_4,s_5⟩
        go_simp
        with_reducible rfl
       rotate_left
       ·
        exact ap_
       refine one_ (i:=6) (N:=some 40) (bs_ 10 255) rfl rfl (by kernel_rfl) (by decide) (fun K hK=>?_)
       refine goes_ Try.func121 (by kernel_rfl) rfl #[.agg #[.int .i64 x.f0,.int .i64 x.f1],.agg #[.int .i64 y.f0,.int .i64 y.f1]] (by rfl) rfl rfl qz3_ ?_
       with_reducible refine(zbu.calls x.f0 x.f1 y.f0 y.f1 p0 p1 _ HPL.out).mono ?_
       rintro e w40 ⟨rfl,hb⟩
       refine⟨_,rfl,?_⟩
       replace HI:=am_ (HI.out.grow hb)
       clear hb
       refine hK.out _ _ ⟨(HX.out _ ((HI.out).now.1.2)).1,(HX.out _ ((HI.out).now.1.2)).2.1,(HX.out _ ((HI.out).now.1.2)).2.2.1,(HX.out _ ((HI.out).now.1.2)).2.2.2,(zaa (((HI.out)).get 2 rfl) 0).trans rfl,(zaa (((HI.out)).get 2 rfl) 1).trans rfl⟩ (fun hHeld=>?_)
       clear hK K
       refine norm_ (a':=?_) ?_ ?_
       rotate_left
       ·
        show Act.put _ (some 40) _=_
        exact ap_
       refine pu_ 8 42 (bs_ 10 511) ?_
       refine pu_ 9 33 (bs_ 10 1023) ?_
       refine done_ (by kernel_rfl) ?_
       go_wp2_with (first|((with_reducible refine zaq (p:=11) (v:=(.tmp 43)) (t:=34) rfl ?_);go_must (refine wpList_store_row rfl 34 _ _ rfl g11 (#[.int .i64 0,.int .i64 0]) rfl qz0_ 34 (#[.int .i64 0,.int .i64 0]) (Inv.blk0 (HI.out.swap)) (by kernel_rfl) (by rfl) qz12_ ?_;replace HI:=am_ (Inv.put0 (HI.out.swap) (#[.int .i64 0,.int .i64 0]));generalize World.setRow _ g11 (#[.int .i64 0,.int .i64 0])=w43 at HI ⊢)))
       refine bodyPost_ret (zf8 rfl _ _ g11 34 #[.int .i64 0,.int .i64 0] (0,0) _ rfl (Inv.blk0 HI.out) hu34 rfl (by kernel_rfl)) rfl ?_
       exact⟨_,rfl,Kd.R_nil _ _ _ _ _,⟨A0,cap,HI.out.get 3 rfl,HGQ.out,HR0.out⟩,HI.out.agr.onto HB.out (fun k hk=>by obtain rfl:k=g:=hk;exact HGE.out),HI.out.agr.keep⟩
    ·
     rw [if_neg ce2] at h;cases h
   ·
    rw [if_neg ce1] at h
    simp only [Option.some.injEq,Prod.mk.injEq] at h
    obtain⟨rfl,rfl,rfl,rfl,rfl,rfl,rfl⟩:=h
    have f1:((r.length:Int) == wrap64 (d + 1))=false:=beq_eq_false_iff_ne.mpr ce1
    have f2:((r.length:Int) != wrap64 (d + 1))=true:=bne_iff_ne.mpr ce1
    clear ce1
    go_wp2_with (first|(go_at_call 79;(refine(zbw.calls kind d _ HDG.out).mono ?_);rintro e w29 ⟨rfl,⟨n29,rfl⟩⟩;replace HI:=am_ (HI.out.drewN n29))|((with_reducible refine zaq (p:=11) (v:=(.tmp 32)) (t:=34) rfl ?_);go_must (refine wpList_store_row rfl 34 _ _ rfl g11 (#[.int .i64 0,.int .i64 0]) rfl qz0_ 34 (#[.int .i64 0,.int .i64 0]) (Inv.blk0 (HI.out.swap)) (by kernel_rfl) (by rfl) qz12_ ?_;replace HI:=am_ (Inv.put0 (HI.out.swap) (#[.int .i64 0,.int .i64 0]));generalize World.setRow _ g11 (#[.int .i64 0,.int .i64 0])=w32 at HI ⊢)))
    refine bodyPost_ret (zf8 rfl _ _ g11 34 #[.int .i64 0,.int .i64 0] (0,0) _ rfl (Inv.blk0 HI.out) hu34 rfl (by kernel_rfl)) rfl ?_
    exact⟨_,rfl,Kd.R_nil _ _ _ _ _,⟨A0,cap,HI.out.get 3 rfl,HGQ.out,HR0.out⟩,HI.out.agr.onto HB.out (fun k hk=>by obtain rfl:k=g:=hk;exact HGE.out),HI.out.agr.keep⟩
def zds.f (a0:Int):Option (Int):=some (wrap64 (a0 + 1))
theorem zds.calls (a0:Int) (r:Int) (w:World) (h:zds.f a0=some r) :
  Calls Try.prog 115 #[.int .i64 a0] w fun e w'=>e=.returned (.int .i64 r)∧zbr w w':=by
 have H:(some (wrap64 (a0 + 1)))=some r:=h
 clear h
 obtain rfl:=Option.some.inj H
 go_enter Try.func115,Try.ntmps115
 go_wp2
 go_ret
 exact⟨qz10_,qz2_⟩
def zbv.f (a0:Int) (a1:Int):Option (Int):=some (Int.tmod (wrap64 (a0 + a1)) 2130706433)
theorem zbv.calls (a0:Int) (a1:Int) (r:Int) (w:World) (h:zbv.f a0 a1=some r) :
  Calls Try.prog 146 #[.int .i64 a0,.int .i64 a1] w fun e w'=>e=.returned (.int .i64 r)∧zbr w w':=by
 have H:(some (Int.tmod (wrap64 (a0 + a1)) 2130706433))=some r:=h
 clear h
 obtain rfl:=Option.some.inj H
 go_enter Try.func146,Try.ntmps146
 go_wp2
 go_ret
 exact⟨qz10_,qz2_⟩
def zb9.f (a0_0:Int) (a0_1:Int) (a1_0:Int) (a1_1:Int):Option (Int × Int):=(zbv.f a0_0 a1_0).bind fun t104=>((zbv.f a0_1 a1_1).bind fun t105=>(some (t104,t105)))
def zb9.T1:Bool × List (List Nat × List Nat):=(true,[([],[]),([0],[0]),([],[]),([2],[2]),([1,3],[1,3]),([],[]),([5],[5]),([],[]),([7],[7]),([6,8,4],[6,8]),([4,9],[4,9]),([10,9,0,1,2,3,4,5,6,7,8,9,10],[10])])
def zb9.B1:List Nat:=[0,1,0,4,15,0,32,0,128,511,1023,2047]
theorem zb9.tab1:rtab .any (opsOf Try.f116 1)=zb9.T1:=by kernel_rfl
theorem zb9.bits1:zc8 zb9.T1.2 zb9.B1=true:=by kernel_rfl
theorem zb9.calls (a0_0:Int) (a0_1:Int) (a1_0:Int) (a1_1:Int) (r1:Int) (r2:Int) (w:World) (h:zb9.f a0_0 a0_1 a1_0 a1_1=some (r1,r2)) :
  Calls Try.prog 116 #[.agg #[.int .i64 a0_0,.int .i64 a0_1],.agg #[.int .i64 a1_0,.int .i64 a1_1]] w fun e w'=>e=.returned (.agg #[.int .i64 r1,.int .i64 r2])∧Below w.heap.size w w':=by
 have hu34:=Try.underlying34
 have HB:=am_ (Below.refl w.heap.size w)
 have H:((zbv.f a0_0 a1_0).bind fun t104=>((zbv.f a0_1 a1_1).bind fun t105=>(some (t104,t105))))=some (r1,r2):=h
 clear h
 replace H:=Option.bind_eq_some_iff.mp H
 obtain⟨t104,A30,H⟩:=H
 replace H:((zbv.f a0_1 a1_1).bind fun t105=>(some (t104,t105)))=some (r1,r2):=H
 have A3:=am_ A30
 clear A30
 replace H:=Option.bind_eq_some_iff.mp H
 obtain⟨t105,A40,H⟩:=H
 replace H:(some (t104,t105))=some (r1,r2):=H
 have A4:=am_ A40
 clear A40
 simp only [Option.some.injEq,Prod.mk.injEq] at H
 obtain⟨rfl,rfl⟩:=H
 go_enter Try.func116,Try.ntmps116
 try go_wp2_with (first|((with_reducible refine zad (N:=2) rfl ?_);refine zae rfl (N:=2) rfl (cs:=#[.int .i64 a0_0,.int .i64 a0_1]) (t:=34) bx_ ?_;intro gb101 hg w5 hbox hb;replace BK101:=am_ (hbox);replace GW101:=am_ ((by rw [hg];exact(zac qz4_):w.heap.size≤gb101));replace GE101:=am_ ((by rw [hg];exact(zac qz4_):w.heap.size≤gb101));replace HB:=am_ (zaj qz4_ hb);clear hb hbox hg)|((with_reducible refine zad (N:=3) rfl ?_);refine zae rfl (N:=3) rfl (cs:=#[.int .i64 a1_0,.int .i64 a1_1]) (t:=34) bx_ ?_;intro gb102 hg w6 hbox hb;replace BK102:=am_ (hbox);replace GW102:=am_ ((by rw [hg];exact(zac qz14_):w.heap.size≤gb102));replace GE102:=am_ ((by rw [hg];exact(zac qz14_):w.heap.size≤gb102));replace HB:=am_ (zaj qz14_ hb);replace NB101_102:=am_ ((by rw [hg];exact Nat.ne_of_lt (zar (g:=gb101) (o:=.cells #[.int .i64 a0_0,.int .i64 a0_1] 34 (0,0)) qz13_):gb101≠gb102));replace NB102_101:=am_ ((by rw [hg];exact Nat.ne_of_gt (zar (g:=gb101) (o:=.cells #[.int .i64 a0_0,.int .i64 a0_1] 34 (0,0)) qz13_):gb102≠gb101));replace BK101:=am_ (zak (g:=gb101) (o:=.cells #[.int .i64 a0_0,.int .i64 a0_1] 34 (0,0)) qz13_ hb);clear hb hbox hg)|((with_reducible refine zad (N:=4) rfl ?_);refine zae rfl (N:=4) rfl (cs:=#[.int .i64 0,.int .i64 0]) (t:=34) bx_ ?_;intro gb103 hg w7 hbox hb;replace BK103:=am_ (hbox);replace GW103:=am_ ((by rw [hg];exact(zac qz16_):w.heap.size≤gb103));replace GE103:=am_ ((by rw [hg];exact(zac qz16_):w.heap.size≤gb103));replace HB:=am_ (zaj qz16_ hb);replace NB101_103:=am_ ((by rw [hg];exact Nat.ne_of_lt (zar (g:=gb101) (o:=.cells #[.int .i64 a0_0,.int .i64 a0_1] 34 (0,0)) qz13_):gb101≠gb103));replace NB103_101:=am_ ((by rw [hg];exact Nat.ne_of_gt (zar (g:=gb101) (o:=.cells #[.int .i64 a0_0,.int .i64 a0_1] 34 (0,0)) qz13_):gb103≠gb101));replace BK101:=am_ (zak (g:=gb101) (o:=.cells #[.int .i64 a0_0,.int .i64 a0_1] 34 (0,0)) qz13_ hb);replace NB102_103:=am_ ((by rw [hg];exact Nat.ne_of_lt (zar (g:=gb102) (o:=.cells #[.int .i64 a1_0,.int .i64 a1_1] 34 (0,0)) qz15_):gb102≠gb103));replace NB103_102:=am_ ((by rw [hg];exact Nat.ne_of_gt (zar (g:=gb102) (o:=.cells #[.int .i64 a1_0,.int .i64 a1_1] 34 (0,0)) qz15_):gb103≠gb102));replace BK102:=am_ (zak (g:=gb102) (o:=.cells #[.int .i64 a1_0,.int .i64 a1_1] 34 (0,0)) qz15_ hb);clear hb hbox hg))
 replace BK101:=am_ (zaf BK101.out)
 replace BK102:=am_ (zaf BK102.out)
 replace BK103:=am_ (zaf BK103.out)
 replace HB:=am_ (zat HB.out)
 refine zcb (n:=12) (S:=fun w'=>w'.cell? ⟨gb101,0,none⟩=some (.int .i64 a0_0)∧w'.cell? ⟨gb101,1,none⟩=some (.int .i64 a0_1)∧w'.cell? ⟨gb102,0,none⟩=some (.int .i64 a1_0)∧w'.cell? ⟨gb102,1,none⟩=some (.int .i64 a1_1)) (ds:=[]) (bs_ 12 0) (by kernel_rfl) rfl rfl ⟨(zaa BK101.out 0).trans rfl,(zaa BK101.out 1).trans rfl,(zaa BK102.out 0).trans rfl,(zaa BK102.out 1).trans rfl⟩ (fun hHeld=>?_);refine zcr zb9.tab1 zb9.bits1 (fun HT_ HW_=>?_)
 generalize w7.drew=w8 at BK101 BK102 BK103 HB hHeld ⊢
 refine pt_ HT_.out 0 5 (bs_ 12 1) ?_
 refine pt_ HT_.out 2 7 (bs_ 12 5) ?_
 refine pt_ HT_.out 5 10 (bs_ 12 37) ?_
 refine pt_ HT_.out 7 12 (bs_ 12 165) ?_
 refine take_ (i:=1) (N:=some 6) (v:=?_) (a':=?_) (bs_ 12 167) rfl rfl (zba HT_.out HW_.out (by kernel_rfl)) (fun _ _ _ h=>h) (Or.inl ⟨(by rfl),?_⟩) hHeld ?_ ?_
 rotate_left
 ·
  rintro w' ⟨s0,s1,s2,s3⟩
  go_simp
  with_reducible rfl
 rotate_left
 ·
  exact ap_
 refine take_ (i:=3) (N:=some 8) (v:=?_) (a':=?_) (bs_ 12 175) rfl rfl (zba HT_.out HW_.out (by kernel_rfl)) (fun _ _ _ h=>h) (Or.inl ⟨(by rfl),?_⟩) hHeld ?_ ?_
 rotate_left
 ·
  rintro w' ⟨s0,s1,s2,s3⟩
  go_simp
  with_reducible rfl
 rotate_left
 ·
  exact ap_
 refine take_ (i:=6) (N:=some 11) (v:=?_) (a':=?_) (bs_ 12 239) rfl rfl (zba HT_.out HW_.out (by kernel_rfl)) (fun _ _ _ h=>h) (Or.inl ⟨(by rfl),?_⟩) hHeld ?_ ?_
 rotate_left
 ·
  rintro w' ⟨s0,s1,s2,s3⟩
  go_simp
  with_reducible rfl
 rotate_left
 ·
  exact ap_
 refine take_ (i:=8) (N:=some 13) (v:=?_) (a':=?_) (bs_ 12 495) rfl rfl (zba HT_.out HW_.out (by kernel_rfl)) (fun _ _ _ h=>h) (Or.inl ⟨(by rfl),?_⟩) hHeld ?_ ?_
 rotate_left
 ·
  rintro w' ⟨s0,s1,s2,s3⟩
  go_simp
  with_reducible rfl
 rotate_left
 ·
  exact ap_
 refine one_ (i:=4) (N:=some 9) (bs_ 12 511) rfl rfl (zbx HT_.out (by kernel_rfl)) (by decide) (fun K hK=>?_)
 refine goes_ Try.func146 (by kernel_rfl) rfl #[.int .i64 a0_0,.int .i64 a1_0] (by rfl) rfl rfl qz18_ ?_
 with_reducible refine(zbv.calls a0_0 a1_0 t104 _ A3.out).mono ?_
 rintro e w' ⟨rfl,⟨nd,rfl⟩⟩
 refine⟨_,rfl,?_⟩
 refine hK.out _ _ ⟨(zaa BK101.out 0).trans rfl,(zaa BK101.out 1).trans rfl,(zaa BK102.out 0).trans rfl,(zaa BK102.out 1).trans rfl⟩ (fun hHeld=>?_)
 clear hK K
 refine norm_ (a':=?_) ?_ ?_
 rotate_left
 ·
  show Act.put _ (some 9) _=_
  exact ap_
 refine one_ (i:=9) (N:=some 14) (bs_ 12 1023) rfl rfl (zbx HT_.out (by kernel_rfl)) (by decide) (fun K hK=>?_)
 refine goes_ Try.func146 (by kernel_rfl) rfl #[.int .i64 a0_1,.int .i64 a1_1] (by rfl) rfl rfl qz18_ ?_
 with_reducible refine(zbv.calls a0_1 a1_1 t105 _ A4.out).mono ?_
 rintro e w' ⟨rfl,⟨nd,rfl⟩⟩
 refine⟨_,rfl,?_⟩
 refine hK.out _ _ ⟨(zaa BK101.out 0).trans rfl,(zaa BK101.out 1).trans rfl,(zaa BK102.out 0).trans rfl,(zaa BK102.out 1).trans rfl⟩ (fun hHeld=>?_)
 clear hK K
 refine norm_ (a':=?_) ?_ ?_
 rotate_left
 ·
  show Act.put _ (some 14) _=_
  exact ap_
 refine pt_ HT_.out 10 15 (bs_ 12 2047) ?_
 refine one_ (i:=11) (N:=none) (bs_ 12 4095) rfl rfl (zbx HT_.out (by kernel_rfl)) (by decide) (fun K hK=>?_)
 have hs9:w8.cell? ⟨gb103,0,none⟩=some (.int .i64 0):=(zaa BK103.out 0).trans rfl
 have hfs9:=zab BK103.out 0
 have hns9_0:=NB101_103.out
 have hns9_1:=NB102_103.out
 have hms9_0:=NB103_101.out
 have hms9_1:=NB103_102.out
 have hs10:w8.cell? ⟨gb103,1,none⟩=some (.int .i64 0):=(zaa BK103.out 1).trans rfl
 have hfs10:=zab BK103.out 1
 have hns10_0:=NB101_103.out
 have hns10_1:=NB102_103.out
 have hms10_0:=NB103_101.out
 have hms10_1:=NB103_102.out
 refine skip_ (w1:=?_) (by rfl) rfl ?_ ?_
 rotate_left
 ·
  go_simp
  rfl
 refine hK.out _ _ ⟨((cell_far (p:=⟨gb103,_,none⟩) NB101_103.out _).trans (((cell_far (p:=⟨gb103,_,none⟩) NB101_103.out _).trans (hHeld.1)))),((cell_far (p:=⟨gb103,_,none⟩) NB101_103.out _).trans (((cell_far (p:=⟨gb103,_,none⟩) NB101_103.out _).trans (hHeld.2.1)))),((cell_far (p:=⟨gb103,_,none⟩) NB102_103.out _).trans (((cell_far (p:=⟨gb103,_,none⟩) NB102_103.out _).trans (hHeld.2.2.1)))),((cell_far (p:=⟨gb103,_,none⟩) NB102_103.out _).trans (((cell_far (p:=⟨gb103,_,none⟩) NB102_103.out _).trans (hHeld.2.2.2))))⟩ (fun hHeld=>?_)
 clear hK K
 refine done_ (zej HT_.out (by kernel_rfl)) ?_
 try go_wp2
 refine bodyPost_ret (results_cell_row rfl _ _ gb103 34 #[.int .i64 t104,.int .i64 t105] (0,0) _ rfl qz23_ Try.underlying34 rfl (by kernel_rfl)) rfl ?_
 exact⟨qz8_,qz17_⟩
end Go.Proofs.Ytgookagndlfehaa.PT
end
section
namespace Go.Proofs.Ytgookagndlfehaa.PT
open Go.RowKit Go.Proofs.YtgookagndlfehaaW.PrintWords Go.Proofs.YtgookagndlfehaaW.PrintLast Go.Proofs.YtgookagndlfehaaW.PrintMore
attribute [local go_sem] zex zev zfa ze8 zec zed zeu zew   -- for this text's walks alone
set_option linter.unusedVariables false
set_option linter.unusedSimpArgs false
def zau.l0:Nat→Int→List Int→Int→Option (List Int)
 | 0,_,_,_=>none
 | k + 1,x0,x5,x6=>if x6≥0 then(if 0≤(IntKind.u64.wrap (wrap64 (8 * x6))) then(if x5.length<140737488355328 then(zau.l0 k x0 (x5++[(shr .i64 x0 (IntKind.u64.wrap (wrap64 (8 * x6)))) % 256]) (wrap64 (x6 - 1))) else(none)) else(none)) else(some x5)
def zau.f (k:Nat) (a0:Int) (a1:Int):Option (List Int):=zau.l0 k a0 (([]:List Int)) (wrap64 (a1 - 1))
theorem zau.calls (k:Nat) (a0:Int) (a1:Int) (r:List Int) (w:World) (h:zau.f k a0 a1=some r) :
  Calls Try.prog 91 #[.int .i64 a0,.int .i64 a1] w fun e w'=>∃ v0_:Value,e=.returned (v0_)∧Kd.R (Kd.int .u8) 5 w' w.heap.size (fun _=>True) v0_ r∧Below w.heap.size w w':=by
 have HB:=am_ (Below.refl w.heap.size w)
 have H:(zau.l0 k a0 (([]:List Int)) (wrap64 (a1 - 1)))=some r:=h
 clear h
 obtain⟨y101,hy101⟩:∃ y_:List Int,y_=(([]:List Int)):=⟨_,rfl⟩
 replace H:(zau.l0 k a0 y101 (wrap64 (a1 - 1)))=some r:=by first|(rw [hy101];with_reducible exact H)|(have H2_:=(Option.bind_some _ _).symm.trans H;rw [hy101];with_reducible exact H2_)|(have H2_:=(Option.bind_some _ _).symm.trans H;with_reducible exact H2_)|with_reducible exact H|(rw [hy101];exact H)|exact H
 have Ny101:=am_ hy101
 clear hy101
 have H':=am_ H
 clear H
 go_enter Try.func91,Try.ntmps91
 go_wp2_with (first|((with_reducible refine zad (N:=7) rfl ?_);refine Kd.R_lit (Kd.int .u8) _ 5 ?hg (N:=7) ?hd (xs:=([]:List Int)) (inner:=[]) (ok:=fun _=>True) (okp:=fun _=>True) ?hr ?hp (fun _ hk=>hk) trivial (Below.refl _ _) (Nat.le_refl _) (by simp) ?_;(case hd=>rfl);(case hg=>rfl);(case hr=>first|(go_simp;done)|(go_simp;rfl));(case hp=>exact(Reps.none _ _));intro v102 w3 ho4 hb hg_ hnew_;clear hg_ hnew_;(first|rw [←Ny101.out] at ho4|(simp only [Int.reduceToNat] at ho4;rw [←Ny101.out] at ho4));replace HO103:=am_ (Kd.zdk ho4 (zac qz4_));replace HB:=am_ (zaj qz4_ hb);clear hb ho4))
 go_loopg [5,6] k (fun kq v5 v6 w'=>∃ (x5_1:List Int) (x6_1:Int),v6=.int .i64 x6_1∧zal (zau.l0 kq a0 x5_1 x6_1=some r)∧zal (kq≤k)∧zal (Kd.R (Kd.int .u8) 5 w' w.heap.size (fun _=>True) v5 x5_1)∧zal (Below w.heap.size w w'))
 case atStart=>exact⟨(y101),(wrap64 (a1 - 1)),qz10_,H',⟨Nat.le_refl _⟩,⟨qz7_⟩,⟨qz4_⟩⟩
 case round=>
  clear H'
  try clear p2
  obtain⟨x5_1,x6_1,rfl,HA,HK1,HO_5,HB⟩:=hrel
  cases gk with
  | zero=>exact absurd HA.out (by simp [zau.l0])
  | succ k1=>
   have H:=HA.out
   clear HA
   simp only [zau.l0] at H
   by_cases c5:x6_1≥0
   ·
    rw [if_pos c5] at H
    have c5b0:decide (0≤x6_1)=true:=decide_eq_true c5
    clear c5
    obtain⟨ji6,hji6⟩:∃ j_:Int,(IntKind.u64.wrap (wrap64 (8 * x6_1)))=j_:=⟨_,rfl⟩
    replace H:(if 0≤(ji6) then(if x5_1.length<140737488355328 then(zau.l0 k1 a0 (x5_1++[(shr .i64 a0 (ji6)) % 256]) (wrap64 (x6_1 - 1))) else(none)) else(none))=some r:=by first|(rw [hji6] at H;exact H)|(simp only [hji6] at H ⊢;exact H)
    by_cases c7:0≤(ji6)
    ·
     rw [if_pos c7] at H
     have c7b0:=eq_true c7
     have c7b1:decide (0≤(ji6))=true:=decide_eq_true c7
     clear c7
     obtain⟨ji8,hji8⟩:∃ j_:Int,(shr .i64 a0 (ji6))=j_:=⟨_,rfl⟩
     replace H:(if x5_1.length<140737488355328 then(zau.l0 k1 a0 (x5_1++[(ji8) % 256]) (wrap64 (x6_1 - 1))) else(none))=some r:=by first|(rw [hji8] at H;exact H)|(simp only [hji8] at H ⊢;exact H)
     have hji8_:(a0 / 2 ^ min (ji6).toNat 64)=ji8:=hji8
     have hji8z:(ji6)≤64→(a0 / 2 ^ (ji6).toNat)=ji8:=zi7 hji8
     by_cases c9:x5_1.length<140737488355328
     ·
      rw [if_pos c9] at H
      have LMc9:=am_ c9
      clear c9
      obtain⟨y104,hy104⟩:∃ y_:List Int,y_=(x5_1++[(ji8) % 256]):=⟨_,rfl⟩
      replace H:(zau.l0 k1 a0 y104 (wrap64 (x6_1 - 1)))=some r:=by first|(rw [hy104];with_reducible exact H)|(have H2_:=(Option.bind_some _ _).symm.trans H;rw [hy104];with_reducible exact H2_)|(have H2_:=(Option.bind_some _ _).symm.trans H;with_reducible exact H2_)|with_reducible exact H|(rw [hy104];exact H)|exact H
      have Ny104:=am_ hy104
      clear hy104
      have H':=am_ H
      clear H
      go_wp2_with (first|((with_reducible refine zdc (b:=.append) (xs:=#[.tmp 14,.tmp 21]) rfl ?_);at_builtin;refine Kd.zgp (Kd.int .u8) (w0:=w) w.heap.size rfl (.tmp 14) (.tmp 21) 22 5 (.int .u8 0) 1 rfl Try.underlying22 info5 rfl (by decide) (by omega) u5 x5_1 ((ji8) % 256) [.int .u8 ((ji8) % 256)] (fun _=>True) (fun _=>False) rfl rfl ?aP (fun _ hk=>hk.elim) ?aF ?aO ?aB ?aS ?aL ?_;(case aP=>exact rfl);(case aB=>exact qz4_);(case aF=>exact(fun _ _=>trivial));(case aO=>exact(by(with_reducible repeat(first|apply Kd.zb3|apply Kd.zb4|apply Kd.zch));exact HO_5.out));(case aS=>exact(zac qz4_));(case aL=>have:=LMc9.out;omega);intro v105 w10 ho hb hg hat;rw [←Ny104.out] at ho;replace HB:=am_ (hb);replace HO106:=am_ (ho);clear HO_5;clear ho hb hg hat))
      go_roundg k1
      case measure=>have:=HK1.out;omega
      case rel=>exact⟨(y104),(wrap64 (x6_1 - 1)),qz10_,H',⟨(by have:=HK1.out;omega)⟩,⟨(by(with_reducible repeat(first|apply Kd.zb3|apply Kd.zb4|apply Kd.zch));exact HO106.out)⟩,⟨qz4_⟩⟩
     ·
      rw [if_neg c9] at H
      exact absurd H (by simp)
    ·
     rw [if_neg c7] at H
     exact absurd H (by simp)
   ·
    rw [if_neg c5] at H
    have c5b0:decide (0≤x6_1)=false:=decide_eq_false c5
    clear c5
    obtain rfl:=Option.some.inj H
    go_wp2
    go_ret
    exact⟨_,qz8_,(by(with_reducible repeat(first|apply Kd.zb3|apply Kd.zb4|apply Kd.zch));exact HO_5.out),qz4_⟩
def za3.l0:Nat→List (S34)→List Int→Int→Option (List Int)
 | 0,_,_,_=>none
 | k + 1,x0,x3,x4=>if x4<(x0.length:Int) then(if 0≤x4 then((zau.f k ((zan x0 x4).f0) 4).bind fun t105=>(if x3.length + t105.length<140737488355328 then((some (x3++t105:List Int)).bind fun y108=>((zau.f k ((zan x0 x4).f1) 4).bind fun t112=>(if y108.length + t112.length<140737488355328 then(za3.l0 k x0 (y108++t112) (wrap64 (x4 + 1))) else(none)))) else(none))) else(none)) else(some x3)
def za3.f (k:Nat) (l0:List (S34)):Option (List Int):=za3.l0 k l0 (([]:List Int)) 0
def za3.T5:Bool × List (List Nat × List Nat):=(true,[([],[]),([],[]),([],[]),([1,2],[1,2]),([3],[3]),([4],[4]),([5],[5]),([0,6,6],[0,6]),([],[]),([],[]),([8,9],[8,9]),([10],[10]),([11],[11]),([12,7],[12]),([7,13,13],[7,13]),([14,14,0,1,2,3,4,5,6,7,8,9,10,11,12,13,14],[0,14])])
def za3.B5:List Nat:=[0,0,0,6,14,30,62,127,0,0,768,1792,3840,8191,16383,32767]
theorem za3.tab5:rtab .any (opsOf Try.f105 5)=za3.T5:=by kernel_rfl
theorem za3.bits5:zc8 za3.T5.2 za3.B5=true:=by kernel_rfl
theorem za3.calls (k:Nat) (A0:Option Addr) (c0:Nat) (l0:List (S34)) (r:List Int) (w:World) (hr0:Kd.C k34 w A0 l0.length l0) (hc0:l0.length≤c0) (h:za3.f k l0=some r) :
  Calls Try.prog 105 #[.slice A0 l0.length c0] w fun e w'=>∃ v0_:Value,e=.returned (v0_)∧Kd.R (Kd.int .u8) 5 w' w.heap.size (fun _=>True) v0_ r∧Below w.heap.size w w':=by
 have HR0:=am_ hr0
 have HC0:=am_ hc0
 clear hr0 hc0
 have HB:=am_ (Below.refl w.heap.size w)
 have H:(za3.l0 k l0 (([]:List Int)) 0)=some r:=h
 clear h
 obtain⟨y101,hy101⟩:∃ y_:List Int,y_=(([]:List Int)):=⟨_,rfl⟩
 replace H:(za3.l0 k l0 y101 0)=some r:=by first|(rw [hy101];with_reducible exact H)|(have H2_:=(Option.bind_some _ _).symm.trans H;rw [hy101];with_reducible exact H2_)|(have H2_:=(Option.bind_some _ _).symm.trans H;with_reducible exact H2_)|with_reducible exact H|(rw [hy101];exact H)|exact H
 have Ny101:=am_ hy101
 clear hy101
 have H':=am_ H
 clear H
 go_enter Try.func105,Try.ntmps105
 go_wp2_with (first|((with_reducible refine zad (N:=5) rfl ?_);refine Kd.R_lit (Kd.int .u8) _ 5 ?hg (N:=5) ?hd (xs:=([]:List Int)) (inner:=[]) (ok:=fun _=>True) (okp:=fun _=>True) ?hr ?hp (fun _ hk=>hk) trivial (Below.refl _ _) (Nat.le_refl _) (by simp) ?_;(case hd=>rfl);(case hg=>rfl);(case hr=>first|(go_simp;done)|(go_simp;rfl));(case hp=>exact(Reps.none _ _));intro v102 w2 ho3 hb hg_ hnew_;clear hg_ hnew_;(first|rw [←Ny101.out] at ho3|(simp only [Int.reduceToNat] at ho3;rw [←Ny101.out] at ho3));replace HO103:=am_ (Kd.zdk ho3 (zac qz4_));replace HB:=am_ (zaj qz4_ hb);clear hb ho3))
 go_loopg [3,4] k (fun kq v3 v4 w'=>∃ (x3_1:List Int) (x4_1:Int),v4=.int .i64 x4_1∧zal (za3.l0 kq l0 x3_1 x4_1=some r)∧zal (kq≤k)∧zal (Kd.R (Kd.int .u8) 5 w' w.heap.size (fun _=>True) v3 x3_1)∧zal (Below w.heap.size w w'))
 case atStart=>exact⟨(y101),(0),qz10_,H',⟨Nat.le_refl _⟩,⟨qz7_⟩,⟨qz4_⟩⟩
 case round=>
  clear H'
  try clear c1
  try clear p2
  obtain⟨x3_1,x4_1,rfl,HA,HK1,HO_3,HB⟩:=hrel
  cases gk with
  | zero=>exact absurd HA.out (by simp [za3.l0])
  | succ k1=>
   have H:=HA.out
   clear HA
   simp only [za3.l0] at H
   by_cases c4:x4_1<(l0.length:Int)
   ·
    rw [if_pos c4] at H
    have c4b0:decide (x4_1<(l0.length:Int))=true:=decide_eq_true c4
    clear c4
    by_cases c5:0≤x4_1
    ·
     rw [if_pos c5] at H
     have c5b0:decide (0≤x4_1)=true:=decide_eq_true c5
     clear c5
     replace H:=Option.bind_eq_some_iff.mp H
     obtain⟨t105,A60,H⟩:=H
     replace H:(if x3_1.length + t105.length<140737488355328 then((some (x3_1++t105:List Int)).bind fun y108=>((zau.f k1 ((zan l0 x4_1).f1) 4).bind fun t112=>(if y108.length + t112.length<140737488355328 then(za3.l0 k1 l0 (y108++t112) (wrap64 (x4_1 + 1))) else(none)))) else(none))=some r:=H
     have A6:=am_ A60
     clear A60
     by_cases c7:x3_1.length + t105.length<140737488355328
     ·
      rw [if_pos c7] at H
      have LMc7:=am_ c7
      clear c7
      obtain⟨y108,hy108⟩:∃ y_:List Int,y_=(x3_1++t105):=⟨_,rfl⟩
      replace H:((zau.f k1 ((zan l0 x4_1).f1) 4).bind fun t112=>(if y108.length + t112.length<140737488355328 then(za3.l0 k1 l0 (y108++t112) (wrap64 (x4_1 + 1))) else(none)))=some r:=by first|(rw [hy108];with_reducible exact H)|(have H2_:=(Option.bind_some _ _).symm.trans H;rw [hy108];with_reducible exact H2_)|(have H2_:=(Option.bind_some _ _).symm.trans H;with_reducible exact H2_)|with_reducible exact H|(rw [hy108];exact H)|exact H
      have Ny108:=am_ hy108
      clear hy108
      replace H:=Option.bind_eq_some_iff.mp H
      obtain⟨t112,A80,H⟩:=H
      replace H:(if y108.length + t112.length<140737488355328 then(za3.l0 k1 l0 (y108++t112) (wrap64 (x4_1 + 1))) else(none))=some r:=H
      have A8:=am_ A80
      clear A80
      by_cases c9:y108.length + t112.length<140737488355328
      ·
       rw [if_pos c9] at H
       have LMc9:=am_ c9
       clear c9
       obtain⟨y115,hy115⟩:∃ y_:List Int,y_=(y108++t112):=⟨_,rfl⟩
       replace H:(za3.l0 k1 l0 y115 (wrap64 (x4_1 + 1)))=some r:=by first|(rw [hy115];with_reducible exact H)|(have H2_:=(Option.bind_some _ _).symm.trans H;rw [hy115];with_reducible exact H2_)|(have H2_:=(Option.bind_some _ _).symm.trans H;with_reducible exact H2_)|with_reducible exact H|(rw [hy115];exact H)|exact H
       have Ny115:=am_ hy115
       clear hy115
       have H':=am_ H
       clear H
       try go_wp2
       replace HO_3:=am_ (Kd.zch HO_3.out)
       replace HB:=am_ (zat HB.out)
       have p104:0≤(x4_1:Int):=of_decide_eq_true qz11_
       have q104:x4_1<(l0.length:Int):=of_decide_eq_true qz11_
       obtain⟨ad104,e104,hx104_0,hx104_1⟩:=zey HR0.out x4_1 p104 q104
       have hw104_1:=hx104_1
       have hw104_0:=hx104_0
       cases e104
       replace hx104_0:=(HB.out.cell (World.block_lt_of_cell? w _ hx104_0)).trans hx104_0
       replace hx104_1:=(HB.out.cell (World.block_lt_of_cell? w _ hx104_1)).trans hx104_1
       replace p104:=eq_true p104
       replace q104:=eq_true q104
       have p111:0≤(x4_1:Int):=of_decide_eq_true qz11_
       have q111:x4_1<(l0.length:Int):=of_decide_eq_true qz11_
       obtain⟨ad111,e111,hx111_0,hx111_1⟩:=zey HR0.out x4_1 p111 q111
       have hw111_1:=hx111_1
       have hw111_0:=hx111_0
       obtain rfl:ad104=ad111:=(by injection e111)
       replace hx111_0:=(HB.out.cell (World.block_lt_of_cell? w _ hx111_0)).trans hx111_0
       replace hx111_1:=(HB.out.cell (World.block_lt_of_cell? w _ hx111_1)).trans hx111_1
       replace p111:=eq_true p111
       replace q111:=eq_true q111
       refine zcb (n:=16) (S:=fun w'=>w'.cell? (ad104.add ((x4_1).toNat * 2))=some (.int .i64 ((zan l0 x4_1).f0))∧w'.cell? ⟨(ad104.add ((x4_1).toNat * 2)).block,(ad104.add ((x4_1).toNat * 2)).off + 1,none⟩=some (.int .i64 ((zan l0 x4_1).f1))∧w'.cell? (ad104.add ((x4_1).toNat * 2))=some (.int .i64 ((zan l0 x4_1).f0))∧w'.cell? ⟨(ad104.add ((x4_1).toNat * 2)).block,(ad104.add ((x4_1).toNat * 2)).off + 1,none⟩=some (.int .i64 ((zan l0 x4_1).f1))) (ds:=[]) (bs_ 16 0) (by kernel_rfl) rfl rfl ⟨((HB.out.cell (World.block_lt_of_cell? w _ hw104_0)).trans hw104_0),((HB.out.cell (World.block_lt_of_cell? w _ hw104_1)).trans hw104_1),((HB.out.cell (World.block_lt_of_cell? w _ hw111_0)).trans hw111_0),((HB.out.cell (World.block_lt_of_cell? w _ hw111_1)).trans hw111_1)⟩ (fun hHeld=>?_);refine zcr za3.tab5 za3.bits5 (fun HT_ HW_=>?_)
       generalize wr.drew=w10 at HO_3 HB hx104_0 hx104_1 hx111_0 hx111_1 hHeld ⊢
       refine pt_ HT_.out 0 12 (bs_ 16 1) ?_
       refine pt_ HT_.out 1 13 (bs_ 16 3) ?_
       refine pt_ HT_.out 2 14 (bs_ 16 7) ?_
       refine pt_ HT_.out 3 15 (bs_ 16 15) ?_
       refine pt_ HT_.out 4 16 (bs_ 16 31) ?_
       refine pt_ HT_.out 8 20 (bs_ 16 287) ?_
       refine pt_ HT_.out 9 21 (bs_ 16 799) ?_
       refine pt_ HT_.out 10 22 (bs_ 16 1823) ?_
       refine pt_ HT_.out 11 23 (bs_ 16 3871) ?_
       refine take_ (i:=5) (N:=some 17) (v:=?_) (a':=?_) (bs_ 16 3903) rfl rfl (zba HT_.out HW_.out (by kernel_rfl)) (fun _ _ _ h=>h) (Or.inl ⟨(by rfl),?_⟩) hHeld ?_ ?_
       rotate_left
       ·
        rintro w' ⟨s0,s1,s2,s3⟩
        go_simp
        with_reducible rfl
       rotate_left
       ·
        exact ap_
       refine take_ (i:=12) (N:=some 24) (v:=?_) (a':=?_) (bs_ 16 7999) rfl rfl (zba HT_.out HW_.out (by kernel_rfl)) (fun _ _ _ h=>h) (Or.inl ⟨(by rfl),?_⟩) hHeld ?_ ?_
       rotate_left
       ·
        rintro w' ⟨s0,s1,s2,s3⟩
        go_simp
        with_reducible rfl
       rotate_left
       ·
        exact ap_
       refine one_ (i:=6) (N:=some 18) (bs_ 16 8063) rfl rfl (zbx HT_.out (by kernel_rfl)) (by decide) (fun K hK=>?_)
       refine goes_ Try.func91 (by kernel_rfl) rfl #[.int .i64 ((zan l0 x4_1).f0),.int .i64 4] (by rfl) rfl rfl qz18_ ?_
       with_reducible refine(zau.calls k1 ((zan l0 x4_1).f0) 4 t105 _ A6.out).mono ?_
       rintro e w11 ⟨v106,rfl,ho0,hb⟩
       refine⟨_,rfl,?_⟩
       replace HO107:=am_ (Kd.zdk (Kd.R_new' ho0 (Kd.R_lt qz5_)) (zac qz4_))
       replace HO_3:=am_ (Kd.R_elder' qz5_ (Kd.zh6 ho0) hb)
       replace HB:=am_ (zaj qz4_ hb)
       (try clear hb)
       (try clear hb2)
       (try clear hk)
       (try clear hi)
       (try clear ho0)
       obtain⟨Ao13,co13,eo13⟩:=Kd.zb0 HO107.out
       (first|subst eo13|(injection eo13 with f1_ f2_ f3_;have f4_:=f1_.symm;have f5_:=f3_.symm;clear f1_ f2_ f3_;subst f4_;subst f5_))
       refine hK.out _ _ ⟨((HB.out.cell (World.block_lt_of_cell? w _ hw104_0)).trans hw104_0),((HB.out.cell (World.block_lt_of_cell? w _ hw104_1)).trans hw104_1),((HB.out.cell (World.block_lt_of_cell? w _ hw111_0)).trans hw111_0),((HB.out.cell (World.block_lt_of_cell? w _ hw111_1)).trans hw111_1)⟩ (fun hHeld=>?_)
       clear hK K
       refine norm_ (a':=?_) ?_ ?_
       rotate_left
       ·
        show Act.put _ (some 18) _=_
        exact ap_
       refine one_ (i:=7) (N:=some 19) (bs_ 16 8191) rfl rfl (zbx HT_.out (by kernel_rfl)) (by decide) (fun K hK=>?_)
       refine Kd.ze5 (Kd.int .u8) (w0:=w) w.heap.size (by rfl) (.tmp 12) (.tmp 18) 22 5 (.int .u8 0) 1 rfl Try.underlying22 info5 rfl (by decide) (by omega) u3 x3_1 t105 _ _ _ (fun k_=>some k_≠(.slice Ao13 t105.length co13:Value).ownBlock) (fun _=>False) rfl rfl ?aO ?aR (fun _ _ h=>h) (fun _ h=>h.elim) ?aF ?aB ?aS ?aL ?_
       (case aR=>exact qc_ (Kd.R_reads' HO107.out).2.2)
       (case aB=>exact qz4_)
       (case aF=>exact(fun k_ hk=>Kd.fresh' (Kd.R_lt (by(with_reducible repeat(first|apply Kd.zb3|apply Kd.zb4|apply Kd.zch));exact HO107.out)) k_ hk))
       (case aO=>exact(by(with_reducible repeat(first|apply Kd.zb3|apply Kd.zb4|apply Kd.zch));exact Kd.zbi HO_3.out (fun _ hk=>hk.2)))
       (case aS=>exact(zac qz4_))
       (case aL=>have:=LMc7.out;omega)
       intro v109 w12 ho hb hg hat
       rw [←Ny108.out] at ho
       replace HO107:=am_ (Kd.zkh (ok:=(fun _=>True)) (by(with_reducible repeat(first|apply Kd.zb3|apply Kd.zb4|apply Kd.zch));exact HO107.out) hg hat)
       replace HB:=am_ (hb)
       replace HO110:=am_ (ho)
       clear HO_3
       clear ho hb hg hat
       refine hK.out _ _ ⟨((HB.out.cell (World.block_lt_of_cell? w _ hw104_0)).trans hw104_0),((HB.out.cell (World.block_lt_of_cell? w _ hw104_1)).trans hw104_1),((HB.out.cell (World.block_lt_of_cell? w _ hw111_0)).trans hw111_0),((HB.out.cell (World.block_lt_of_cell? w _ hw111_1)).trans hw111_1)⟩ (fun hHeld=>?_)
       clear hK K
       refine norm_ (a':=?_) ?_ ?_
       rotate_left
       ·
        show Act.put _ (some 19) _=_
        exact ap_
       refine one_ (i:=13) (N:=some 25) (bs_ 16 16383) rfl rfl (zbx HT_.out (by kernel_rfl)) (by decide) (fun K hK=>?_)
       refine goes_ Try.func91 (by kernel_rfl) rfl #[.int .i64 ((zan l0 x4_1).f1),.int .i64 4] (by rfl) rfl rfl qz18_ ?_
       with_reducible refine(zau.calls k1 ((zan l0 x4_1).f1) 4 t112 _ A8.out).mono ?_
       rintro e w14 ⟨v113,rfl,ho0,hb⟩
       refine⟨_,rfl,?_⟩
       replace HO114:=am_ (Kd.zdk (Kd.R_new' (Kd.R_new' ho0 (Kd.R_lt (by(with_reducible repeat(first|apply Kd.zb3|apply Kd.zb4|apply Kd.zch));exact HO107.out))) (Kd.R_lt (by(with_reducible repeat(first|apply Kd.zb3|apply Kd.zb4|apply Kd.zch));exact HO110.out))) (zac qz4_))
       replace HO107:=am_ (Kd.R_elder' (by(with_reducible repeat(first|apply Kd.zb3|apply Kd.zb4|apply Kd.zch));exact HO107.out) (Kd.zh6 ho0) hb)
       replace HO110:=am_ (Kd.R_elder' (by(with_reducible repeat(first|apply Kd.zb3|apply Kd.zb4|apply Kd.zch));exact HO110.out) (Kd.zh6 ho0) hb)
       replace HB:=am_ (zaj qz4_ hb)
       (try clear hb)
       (try clear hb2)
       (try clear hk)
       (try clear hi)
       (try clear ho0)
       obtain⟨Ao16,co16,eo16⟩:=Kd.zb0 HO114.out
       (first|subst eo16|(injection eo16 with f1_ f2_ f3_;have f4_:=f1_.symm;have f5_:=f3_.symm;clear f1_ f2_ f3_;subst f4_;subst f5_))
       refine hK.out _ _ ⟨((HB.out.cell (World.block_lt_of_cell? w _ hw104_0)).trans hw104_0),((HB.out.cell (World.block_lt_of_cell? w _ hw104_1)).trans hw104_1),((HB.out.cell (World.block_lt_of_cell? w _ hw111_0)).trans hw111_0),((HB.out.cell (World.block_lt_of_cell? w _ hw111_1)).trans hw111_1)⟩ (fun hHeld=>?_)
       clear hK K
       refine norm_ (a':=?_) ?_ ?_
       rotate_left
       ·
        show Act.put _ (some 25) _=_
        exact ap_
       refine one_ (i:=14) (N:=some 26) (bs_ 16 32767) rfl rfl (zbx HT_.out (by kernel_rfl)) (by decide) (fun K hK=>?_)
       refine Kd.ze5 (Kd.int .u8) (w0:=w) w.heap.size (by rfl) (.tmp 19) (.tmp 25) 22 5 (.int .u8 0) 1 rfl Try.underlying22 info5 rfl (by decide) (by omega) v109 y108 t112 _ _ _ (fun k_=>some k_≠(.slice Ao13 t105.length co13:Value).ownBlock∧some k_≠(.slice Ao16 t112.length co16:Value).ownBlock) (fun _=>False) rfl rfl ?aO ?aR (fun _ _ h=>h) (fun _ h=>h.elim) ?aF ?aB ?aS ?aL ?_
       (case aR=>exact qc_ (Kd.R_reads' HO114.out).2.2)
       (case aB=>exact qz4_)
       (case aF=>exact(fun k_ hk=>⟨Kd.fresh' (Kd.R_lt (by(with_reducible repeat(first|apply Kd.zb3|apply Kd.zb4|apply Kd.zch));exact HO107.out)) k_ hk,Kd.fresh' (Kd.R_lt (by(with_reducible repeat(first|apply Kd.zb3|apply Kd.zb4|apply Kd.zch));exact HO114.out)) k_ hk⟩))
       (case aO=>exact(by(with_reducible repeat(first|apply Kd.zb3|apply Kd.zb4|apply Kd.zch));exact HO110.out))
       (case aS=>exact(zac qz4_))
       (case aL=>have:=LMc9.out;omega)
       intro v116 w15 ho hb hg hat
       rw [←Ny115.out] at ho
       replace HO107:=am_ (Kd.zkh (ok:=(fun k_=>some k_≠(.slice Ao16 t112.length co16:Value).ownBlock)) (by(with_reducible repeat(first|apply Kd.zb3|apply Kd.zb4|apply Kd.zch));exact Kd.zbi HO107.out (fun _ hk=>⟨hk.2,hk.1.2⟩)) hg hat)
       replace HO114:=am_ (Kd.zkh (ok:=(fun k_=>some k_≠(.slice Ao13 t105.length co13:Value).ownBlock)) (by(with_reducible repeat(first|apply Kd.zb3|apply Kd.zb4|apply Kd.zch));exact Kd.zbi HO114.out (fun _ hk=>⟨hk.1.2,hk.2⟩)) hg hat)
       replace HB:=am_ (hb)
       replace HO117:=am_ (ho)
       clear HO110
       clear ho hb hg hat
       refine hK.out _ _ ⟨((HB.out.cell (World.block_lt_of_cell? w _ hw104_0)).trans hw104_0),((HB.out.cell (World.block_lt_of_cell? w _ hw104_1)).trans hw104_1),((HB.out.cell (World.block_lt_of_cell? w _ hw111_0)).trans hw111_0),((HB.out.cell (World.block_lt_of_cell? w _ hw111_1)).trans hw111_1)⟩ (fun hHeld=>?_)
       clear hK K
       refine norm_ (a':=?_) ?_ ?_
       rotate_left
       ·
        show Act.put _ (some 26) _=_
        exact ap_
       refine pt_ HT_.out 15 3 (bs_ 16 65535) ?_
       refine done_ (zej HT_.out (by kernel_rfl)) ?_
       try go_wp2
       go_roundg k1
       case measure=>have:=HK1.out;omega
       case rel=>exact⟨(y115),(wrap64 (x4_1 + 1)),qz10_,H',⟨(by have:=HK1.out;omega)⟩,⟨(by(with_reducible repeat(first|apply Kd.zb3|apply Kd.zb4|apply Kd.zch));exact Kd.zbi HO117.out (fun _ hk=>trivial))⟩,⟨qz4_⟩⟩
      ·
       rw [if_neg c9] at H
       exact absurd H (by simp)
     ·
      rw [if_neg c7] at H
      exact absurd H (by simp)
    ·
     rw [if_neg c5] at H
     exact absurd H (by simp)
   ·
    rw [if_neg c4] at H
    have c4b0:decide (x4_1<(l0.length:Int))=false:=decide_eq_false c4
    clear c4
    obtain rfl:=Option.some.inj H
    go_wp2
    go_ret
    exact⟨_,qz8_,qz5_,qz4_⟩
end Go.Proofs.Ytgookagndlfehaa.PT
end
section
/- The two hashes are one: the reference's permutation is the program's. -/
namespace Go.Proofs.Ytgookagndlfehaa.PT
open Go.RowKit Go.Proofs.YtgookagndlfehaaW.PrintWords Go.Proofs.YtgookagndlfehaaW.PrintLast Go.Proofs.YtgookagndlfehaaW.PrintMore
set_option linter.unusedVariables false
set_option linter.unusedSimpArgs false
def In64 (x:Int):Prop:=0≤x∧x<18446744073709551616
def U64 (l:List Int):Prop:=∀ x,x∈l→In64 x
theorem zmg (op:BinOp) (x y:Int):In64 (Go.bits op .u64 x y):=by
 unfold Go.bits In64
 simp only [IntKind.wrap_u64]
 omega
theorem of_in {x:Int} (h:In64 x):((BitVec.ofInt 64 x).toNat:Int)=x:=by
 obtain⟨h0,h1⟩:=h
 rw [BitVec.toNat_ofInt]
 have:x % ((2 ^ 64:Nat):Int)=x:=Int.emod_eq_of_lt h0 (by simpa using h1)
 rw [this]
 exact Int.toNat_of_nonneg h0
theorem wrap_in {x:Int} (h:In64 x):IntKind.u64.wrap x=x:=by
 obtain⟨h0,h1⟩:=h
 rw [IntKind.wrap_u64]
 omega
theorem bv_in (b:BitVec 64):In64 (b.toNat:Int):=by
 have:=b.isLt
 unfold In64
 omega
theorem znq (b:BitVec 64):BitVec.ofInt 64 (IntKind.u64.wrap (b.toNat:Int))=b:=by
 rw [wrap_in (bv_in b)]
 apply BitVec.eq_of_toNat_eq
 have h:=of_in (bv_in b)
 exact Int.ofNat_inj.1 h
theorem xr0 {x:Int} (h:In64 x):xr 0 x=x:=by
 unfold xr Go.bits
 show IntKind.u64.wrap (((BitVec.ofInt 64 0 ^^^ BitVec.ofInt 64 x).toNat:Nat):Int)=x
 rw [show BitVec.ofInt 64 0=0#64 from rfl,BitVec.zero_xor,of_in h,wrap_in h]
theorem or0 {x:Int} (h:In64 x):Go.bits .or .u64 x 0=x:=by
 unfold Go.bits
 show IntKind.u64.wrap (((BitVec.ofInt 64 x ||| BitVec.ofInt 64 0).toNat:Nat):Int)=x
 rw [show BitVec.ofInt 64 0=0#64 from rfl,BitVec.or_zero,of_in h,wrap_in h]
theorem an_eq (x y:Int):bnd (cpl y) x=an x y:=by
 unfold bnd cpl an Go.bits
 show IntKind.u64.wrap (((BitVec.ofInt 64 (IntKind.u64.wrap (((BitVec.ofInt 64 IntKind.u64.max ^^^ BitVec.ofInt 64 y).toNat:Nat):Int)) &&& BitVec.ofInt 64 x).toNat:Nat):Int)=IntKind.u64.wrap (((BitVec.ofInt 64 x &&& ~~~ BitVec.ofInt 64 y).toNat:Nat):Int)
 rw [znq,show BitVec.ofInt 64 IntKind.u64.max=BitVec.allOnes 64 from by decide,BitVec.allOnes_xor,BitVec.and_comm]
theorem xr_in (x y:Int):In64 (xr x y):=zmg _ _ _
theorem k63:∀ k:Fin 64,Go.bits .and .u64 (IntKind.u64.wrap (k.val:Int)) 63=(k.val:Int)∧0≤IntKind.u64.wrap (64 - (k.val:Int)):=by decide +kernel
theorem turn_in {x k:Int} (h:In64 x) (h0:0≤k) (h1:k≤64):In64 (turn x k):=by
 unfold turn zdt.f
 by_cases hk:k=0
 ·
  rw [if_pos hk];exact h
 ·
  rw [if_neg hk,if_pos h0,if_pos (by rw [IntKind.wrap_u64];omega),Option.getD_some]
  exact zmg _ _ _
theorem zm8 {x:Int} (h:In64 x) (k:Nat) (hk:k<64):rot x (k:Int)=turn x (k:Int):=by
 obtain⟨h1,h2⟩:=k63 ⟨k,hk⟩
 simp only at h1 h2
 unfold rot zcp.f turn zdt.f
 rw [h1,if_pos (by omega),if_pos h2]
 by_cases h0:(k:Int)=0
 ·
  rw [if_pos h0,h0]
  have e1:shl .u64 x 0=x:=by
   show IntKind.u64.wrap (x * 2 ^ (min (0:Int).toNat 64))=x
   rw [show min (0:Int).toNat 64=0 from rfl,Int.pow_zero,Int.mul_one,wrap_in h]
  have e2:shr .u64 x (IntKind.u64.wrap (64 - 0))=0:=by
   obtain⟨a,b⟩:=h
   show x / 2 ^ (min (IntKind.u64.wrap (64 - 0)).toNat 64)=0
   rw [show min (IntKind.u64.wrap (64 - 0)).toNat 64=64 by decide]
   exact Int.ediv_eq_zero_of_lt a (by simpa using b)
  rw [e1,e2]
  exact or0 h
 ·
  rw [if_neg h0]
theorem U64.set {l:List Int} (h:U64 l) {v:Int} (hv:In64 v) (i:Nat):U64 (l.set i v):=fun x hx=>by
 rcases List.mem_or_eq_of_mem_set hx with hx|rfl
 ·
  exact h x hx
 ·
  exact hv
theorem U64.get {l:List Int} (h:U64 l) (i:Nat):In64 (l.getD i 0):=by
 rw [List.getD]
 cases hi:l[i]? with
 | none=>exact⟨(by simp),(by simp)⟩
 | some v=>exact h v (List.mem_of_getElem? hi)
theorem U64.iter {f:Nat→List Int→List Int} (hf:∀ i x,U64 x→U64 (f i x)):∀ k j x,U64 x→U64 (iter f k j x)
 | 0,_,_,h=>h
 | k + 1,j,x,h=>U64.iter hf k (j + 1) _ (hf j x h)
theorem zhx {f g:Nat→List Int→List Int} {n:Nat} (h:∀ i x,i<n→f i x=g i x):∀ k j x,j + k≤n→iter f k j x=iter g k j x
 | 0,_,_,_=>rfl
 | k + 1,j,x,hj=>by rw [zdp,zdp,h j x (by omega)];exact zhx h k (j + 1) _ (by omega)
theorem zoc:U64 z25:=fun x hx=>by simp [z25] at hx;subst hx;exact⟨(by decide),(by decide)⟩
theorem z5_in:U64 z5:=fun x hx=>by simp [z5] at hx;subst hx;exact⟨(by decide),(by decide)⟩
theorem lanes_in (xs:List Int):U64 (zdf xs):=U64.iter (fun i x h=>h.set (zmg _ _ _) _) _ _ _ zoc
theorem xors_in (l:List Int) {s:List Int} (h:U64 s):U64 (xors l s):=U64.iter (fun i x h=>h.set (xr_in _ _) _) _ _ _ h
theorem sh64:∀ i:Fin 25,∃ k:Fin 64,zce.getD i.val 0=(k.val:Int):=by decide +kernel
theorem sh64' (i:Nat):∃ k:Nat,k<64∧zce.getD i 0=(k:Int):=by
 by_cases h:i<25
 ·
  obtain⟨k,hk⟩:=sh64 ⟨i,h⟩
  exact⟨k.val,k.isLt,hk⟩
 ·
  exact⟨0,(by decide),(by rw [List.getD,List.getElem?_eq_none (by simp [zce];omega)];rfl)⟩
theorem c_in {a:List Int} (h:U64 a):U64 (c_ a):=U64.iter (fun i x h=>h.set (xr_in _ _) _) _ _ _ z5_in
theorem t_in {a:List Int} (h:U64 a):U64 (t_ a):=U64.iter (fun i x h=>h.set (xr_in _ _) _) _ _ _ h
theorem zn1 {x:Int} (h:In64 x) (i:Nat):In64 (turn x (zce.getD i 0)):=by
 obtain⟨k,hk,e⟩:=sh64' i
 rw [e]
 exact turn_in h (by omega) (by omega)
theorem b_in {a:List Int} (h:U64 a):U64 (b_ a):=U64.iter (fun i x hx=>U64.iter (fun j y hy=>hy.set (zn1 (h.get _) _) _) _ _ _ hx) _ _ _ zoc
theorem h_in (b:List Int) {a:List Int} (h:U64 a):U64 (h_ b a):=U64.iter (fun i x hx=>U64.iter (fun j y hy=>hy.set (xr_in _ _) _) _ _ _ hx) _ _ _ h
theorem zk6 {a:List Int} (h:U64 a) (r:Nat):U64 (zfe r a):=by
 unfold zfe roundEnd
 exact U64.set (h_in _ (t_in h)) (xr_in _ _) _
theorem zkt {a:List Int} (h:a.length=25):∃ a0 a1 a2 a3 a4 a5 a6 a7 a8 a9 a10 a11 a12 a13 a14 a15 a16 a17 a18 a19 a20 a21 a22 a23 a24,a=[a0,a1,a2,a3,a4,a5,a6,a7,a8,a9,a10,a11,a12,a13,a14,a15,a16,a17,a18,a19,a20,a21,a22,a23,a24]:=by
 match a,h with
 | [a0,a1,a2,a3,a4,a5,a6,a7,a8,a9,a10,a11,a12,a13,a14,a15,a16,a17,a18,a19,a20,a21,a22,a23,a24],_=>exact⟨_,_,_,_,_,_,_,_,_,_,_,_,_,_,_,_,_,_,_,_,_,_,_,_,_,rfl⟩
theorem list5 {a:List Int} (h:a.length=5):∃ a0 a1 a2 a3 a4,a=[a0,a1,a2,a3,a4]:=by
 match a,h with
 | [a0,a1,a2,a3,a4],_=>exact⟨_,_,_,_,_,rfl⟩
theorem c_rfl (a0 a1 a2 a3 a4 a5 a6 a7 a8 a9 a10 a11 a12 a13 a14 a15 a16 a17 a18 a19 a20 a21 a22 a23 a24:Int):[xr (xr (xr (xr a0 a5) a10) a15) a20,xr (xr (xr (xr a1 a6) a11) a16) a21,xr (xr (xr (xr a2 a7) a12) a17) a22,xr (xr (xr (xr a3 a8) a13) a18) a23,xr (xr (xr (xr a4 a9) a14) a19) a24]=c_ [a0,a1,a2,a3,a4,a5,a6,a7,a8,a9,a10,a11,a12,a13,a14,a15,a16,a17,a18,a19,a20,a21,a22,a23,a24]:=by kernel_rfl
theorem sums_c {a:List Int} (h:a.length=25) (hu:U64 a):sums_ a=c_ a:=by
 obtain⟨a0,a1,a2,a3,a4,a5,a6,a7,a8,a9,a10,a11,a12,a13,a14,a15,a16,a17,a18,a19,a20,a21,a22,a23,a24,rfl⟩:=zkt h
 have e0:=xr0 (hu a0 (by simp))
 have e1:=xr0 (hu a1 (by simp))
 have e2:=xr0 (hu a2 (by simp))
 have e3:=xr0 (hu a3 (by simp))
 have e4:=xr0 (hu a4 (by simp))
 have h1:sums_ [a0,a1,a2,a3,a4,a5,a6,a7,a8,a9,a10,a11,a12,a13,a14,a15,a16,a17,a18,a19,a20,a21,a22,a23,a24]=[xr (xr (xr (xr (xr 0 a0) a5) a10) a15) a20,xr (xr (xr (xr (xr 0 a1) a6) a11) a16) a21,xr (xr (xr (xr (xr 0 a2) a7) a12) a17) a22,xr (xr (xr (xr (xr 0 a3) a8) a13) a18) a23,xr (xr (xr (xr (xr 0 a4) a9) a14) a19) a24]:=by kernel_rfl
 rw [h1,e0,e1,e2,e3,e4]
 exact c_rfl a0 a1 a2 a3 a4 a5 a6 a7 a8 a9 a10 a11 a12 a13 a14 a15 a16 a17 a18 a19 a20 a21 a22 a23 a24
def movT (ls s:List Int) (i:Nat) (m:List Int):List Int:=m.set (i / 5 + 5 * ((2 * (i % 5) + 3 * (i / 5)) % 5)) (turn (xr (ls.getD i 0) (xr (s.getD ((i % 5 + 4) % 5) 0) (turn (s.getD ((i % 5 + 1) % 5) 0) 1))) (zce.getD i 0))
theorem mov_T (a:List Int) {s:List Int} (hs:U64 s) (i:Nat) (m:List Int):zhu a s i m=movT a s i m:=by
 unfold zhu movT
 obtain⟨k,hk,e⟩:=sh64' i
 have h1:rot (s.getD ((i % 5 + 1) % 5) 0) 1=turn (s.getD ((i % 5 + 1) % 5) 0) 1:=zm8 (hs.get _) 1 (by decide)
 rw [e,h1,zm8 (xr_in _ _) k hk]
theorem mv_gen (T X:Int→Int→Int) (a0 a1 a2 a3 a4 a5 a6 a7 a8 a9 a10 a11 a12 a13 a14 a15 a16 a17 a18 a19 a20 a21 a22 a23 a24 c0 c1 c2 c3 c4:Int):iter (fun i m=>m.set (i / 5 + 5 * ((2 * (i % 5) + 3 * (i / 5)) % 5)) (T (X ([a0,a1,a2,a3,a4,a5,a6,a7,a8,a9,a10,a11,a12,a13,a14,a15,a16,a17,a18,a19,a20,a21,a22,a23,a24].getD i 0) (X ([c0,c1,c2,c3,c4].getD ((i % 5 + 4) % 5) 0) (T ([c0,c1,c2,c3,c4].getD ((i % 5 + 1) % 5) 0) 1))) (zce.getD i 0))) 25 0 z25
  = iter (fun x b=>iter (fun y b=>b.set (y + 5 * ((2 * x + 3 * y) % 5)) (T ((iter (fun i a=>a.set i (X (a.getD i 0) (X ([c0,c1,c2,c3,c4].getD ((i + 4) % 5) 0) (T ([c0,c1,c2,c3,c4].getD ((i + 1) % 5) 0) 1)))) 25 0 [a0,a1,a2,a3,a4,a5,a6,a7,a8,a9,a10,a11,a12,a13,a14,a15,a16,a17,a18,a19,a20,a21,a22,a23,a24]).getD (x + 5 * y) 0) (zce.getD (x + 5 * y) 0))) 5 0 b) 5 0 z25:=by kernel_rfl
theorem moved_b {a:List Int} (h:a.length=25) {c:List Int} (hc:c_ a=c) (hu:U64 c):zjr a c=b_ (t_ a):=by
 have e:zjr a c=iter (movT a c) 25 0 z25:=zhx (n:=25) (fun i x _=>mov_T a hu i x) 25 0 z25 (by decide)
 have ht:t_ a=iter (tS c) 25 0 a:=by unfold t_;rw [hc]
 have hcl:c.length=5:=by rw [←hc];exact zng a
 rw [e,ht]
 clear hc e ht hu
 obtain⟨a0,a1,a2,a3,a4,a5,a6,a7,a8,a9,a10,a11,a12,a13,a14,a15,a16,a17,a18,a19,a20,a21,a22,a23,a24,rfl⟩:=zkt h
 obtain⟨c0,c1,c2,c3,c4,rfl⟩:=list5 hcl
 exact mv_gen turn xr a0 a1 a2 a3 a4 a5 a6 a7 a8 a9 a10 a11 a12 a13 a14 a15 a16 a17 a18 a19 a20 a21 a22 a23 a24 c0 c1 c2 c3 c4
def newT (m:List Int) (i:Nat) (l:List Int):List Int:=l.set i (xr (m.getD i 0) (bnd (cpl (m.getD (i - i % 5 + (i % 5 + 1) % 5) 0)) (m.getD (i - i % 5 + (i % 5 + 2) % 5) 0)))
theorem nw_rfl (b0 b1 b2 b3 b4 b5 b6 b7 b8 b9 b10 b11 b12 b13 b14 b15 b16 b17 b18 b19 b20 b21 b22 b23 b24 a0 a1 a2 a3 a4 a5 a6 a7 a8 a9 a10 a11 a12 a13 a14 a15 a16 a17 a18 a19 a20 a21 a22 a23 a24 d0 d1 d2 d3 d4 d5 d6 d7 d8 d9 d10 d11 d12 d13 d14 d15 d16 d17 d18 d19 d20 d21 d22 d23 d24:Int):iter (newT [b0,b1,b2,b3,b4,b5,b6,b7,b8,b9,b10,b11,b12,b13,b14,b15,b16,b17,b18,b19,b20,b21,b22,b23,b24]) 25 0 [a0,a1,a2,a3,a4,a5,a6,a7,a8,a9,a10,a11,a12,a13,a14,a15,a16,a17,a18,a19,a20,a21,a22,a23,a24]=h_ [b0,b1,b2,b3,b4,b5,b6,b7,b8,b9,b10,b11,b12,b13,b14,b15,b16,b17,b18,b19,b20,b21,b22,b23,b24] [d0,d1,d2,d3,d4,d5,d6,d7,d8,d9,d10,d11,d12,d13,d14,d15,d16,d17,d18,d19,d20,d21,d22,d23,d24]:=by kernel_rfl
theorem new_h {b a:List Int} (hb:b.length=25) (ha:a.length=25) {a':List Int} (ha':a'.length=25):new_ b a=h_ b a':=by
 have e:new_ b a=iter (newT b) 25 0 a:=zhx (n:=25) (fun i x _=>by unfold zih newT;rw [an_eq]) 25 0 a (by decide)
 rw [e]
 obtain⟨a0,a1,a2,a3,a4,a5,a6,a7,a8,a9,a10,a11,a12,a13,a14,a15,a16,a17,a18,a19,a20,a21,a22,a23,a24,rfl⟩:=zkt ha
 obtain⟨c0,c1,c2,c3,c4,c5,c6,c7,c8,c9,c10,c11,c12,c13,c14,c15,c16,c17,c18,c19,c20,c21,c22,c23,c24,rfl⟩:=zkt ha'
 obtain⟨b0,b1,b2,b3,b4,b5,b6,b7,b8,b9,b10,b11,b12,b13,b14,b15,b16,b17,b18,b19,b20,b21,b22,b23,b24,rfl⟩:=zkt hb
 exact nw_rfl b0 b1 b2 b3 b4 b5 b6 b7 b8 b9 b10 b11 b12 b13 b14 b15 b16 b17 b18 b19 b20 b21 b22 b23 b24 a0 a1 a2 a3 a4 a5 a6 a7 a8 a9 a10 a11 a12 a13 a14 a15 a16 a17 a18 a19 a20 a21 a22 a23 a24 c0 c1 c2 c3 c4 c5 c6 c7 c8 c9 c10 c11 c12 c13 c14 c15 c16 c17 c18 c19 c20 c21 c22 c23 c24
theorem round_eq {a:List Int} (h:a.length=25) (hu:U64 a) (r:Nat):zfe r a=zeb r a:=by
 unfold zfe zeb
 rw [sums_c h hu,moved_b h rfl (c_in hu),new_h (zm0 _) h ((zkb a).trans h)]
theorem zol:∀ k r a,a.length=25→U64 a→iter zfe k r a=iter zeb k r a
 | 0,_,a,_,_=>show a=a from rfl
 | k + 1,r,a,h,hu=>by
  have e:=zol k (r + 1) (zfe r a) ((zhf r a).trans h) (zk6 hu r)
  exact(zdp zfe k r a).trans (e.trans ((congrArg (iter zeb k (r + 1)) (round_eq h hu r)).trans (zdp zeb k r a).symm))
theorem zns {a:List Int} (h:a.length=25) (hu:U64 a):permS a=perm a:=zol 24 0 a h hu
theorem permS_in {a:List Int} (hu:U64 a):U64 (permS a):=U64.iter (fun i x hx=>zk6 hx i) 24 0 a hu
theorem zkx:∀ k ys s,s.length=25→U64 s→zfu k ys s=zh9 k ys s
 | 0,_,_,_,_=>rfl
 | k + 1,ys,s,h,hu=>by
  have h1:=(zhb (zdf (ys.take 136)) s).trans h
  have h2:=xors_in (zdf (ys.take 136)) hu
  show zfu k (ys.drop 136) (permS (xors (zdf (ys.take 136)) s))=zh9 k (ys.drop 136) (perm (xors (zdf (ys.take 136)) s))
  exact(zkx k (ys.drop 136) (permS (xors (zdf (ys.take 136)) s)) ((zgf _).trans h1) (permS_in h2)).trans (congrArg (zh9 k (ys.drop 136)) (zns h1 h2))
theorem kecS_kec (xs:List Int):kecS xs=kec xs:=by
 unfold kecS kec
 rw [zkx _ _ _ rfl zoc]
def zcm.f (a0:ByteArray):Option ByteArray:=if a0.size≤2000000 then some (kec (nums_ a0)) else none
theorem zcm.calls (a0:ByteArray) (r:ByteArray) (w:World) (h:zcm.f a0=some r) :
  Calls Try.prog 92 #[.string a0] w fun e w'=>e=.returned (.string r)∧Below w.heap.size w w':=by
 unfold zcm.f at h
 by_cases c:a0.size≤2000000
 ·
  rw [if_pos c] at h
  obtain rfl:=Option.some.inj h
  rw [←kecS_kec]
  exact zcm.zpc a0 w c
 ·
  rw [if_neg c] at h;cases h
def zb7.f (k:Nat) (l0_0:List (S34)) (a0_1:Int) (a0_2:ByteArray) (a0_3:Int) (a1:ByteArray):Option ((List (S34)) × Int × ByteArray × Int):=if a0_2.size + 6≤9223372036854775807 then((zau.f k (a1.size:Int) 4).bind fun t103=>(if (a0_2++(⟨#[97,98,115,111,114,98]⟩:ByteArray)).size + (strOfNums t103).size≤9223372036854775807 then(if ((a0_2++(⟨#[97,98,115,111,114,98]⟩:ByteArray))++(strOfNums t103)).size + a1.size≤9223372036854775807 then((zcm.f (((a0_2++(⟨#[97,98,115,111,114,98]⟩:ByteArray))++(strOfNums t103))++a1)).bind fun t106=>(some (l0_0,a0_1,t106,0))) else(none)) else(none))) else(none)
def zb7.T1:Bool × List (List Nat × List Nat):=(true,[([],[]),([0],[0]),([1],[1]),([],[]),([3],[3]),([4],[4]),([5],[5]),([2,6],[2,6]),([],[]),([7,8],[7,8]),([9,5],[9]),([0,1,2,3,4,5,6,7,8,9,10],[]),([11,10,10,0,1,2,3,4,5,6,7,8,9,10],[10,11])])
def zb7.B1:List Nat:=[0,1,3,0,8,24,56,127,0,511,1023,2047,4095]
theorem zb7.tab1:rtab .any (opsOf Try.f147 1)=zb7.T1:=by kernel_rfl
theorem zb7.bits1:zc8 zb7.T1.2 zb7.B1=true:=by kernel_rfl
theorem zb7.calls (k:Nat) (P0_0_:Nat→Prop) (u9000_:Value) (l0_0:List (S34)) (a0_1:Int) (a0_2:ByteArray) (a0_3:Int) (a1:ByteArray) (r1:List (S34)) (r2:Int) (r3:ByteArray) (r4:Int) (w0 w:World) (hB:Below w0.heap.size w0 w) (ho0_0:Kd.R k34 34 w w0.heap.size P0_0_ u9000_ l0_0) (h:zb7.f k l0_0 a0_1 a0_2 a0_3 a1=some (r1,r2,r3,r4)) :
  Calls Try.prog 147 #[.agg #[u9000_,.int .i64 a0_1,.string a0_2,.int .i64 a0_3],.string a1] w fun e w'=>∃ v0_:Value,e=.returned (.agg #[v0_,.int .i64 r2,.string r3,.int .i64 r4])∧Kd.R k34 34 w' w0.heap.size (fun k_=>(P0_0_ k_∨w.heap.size≤k_)) v0_ r1∧Below w0.heap.size w0 w'∧Kept w w' (fun k_=>P0_0_ k_):=by
 have hu27:=Try.underlying27
 have HO0_0:=am_ (show Kd.R k34 34 w w0.heap.size (fun k_=>(P0_0_ k_∨w.heap.size≤k_)) u9000_ l0_0 from Kd.zbi ho0_0 (fun k_ hk=>(.inl hk)))
 have HK:=am_ (Kept.refl w (fun k_=>P0_0_ k_))
 have HW0:=am_ hB.size
 have HB:=am_ hB
 clear hB
 have H:(if a0_2.size + 6≤9223372036854775807 then((zau.f k (a1.size:Int) 4).bind fun t103=>(if (a0_2++(⟨#[97,98,115,111,114,98]⟩:ByteArray)).size + (strOfNums t103).size≤9223372036854775807 then(if ((a0_2++(⟨#[97,98,115,111,114,98]⟩:ByteArray))++(strOfNums t103)).size + a1.size≤9223372036854775807 then((zcm.f (((a0_2++(⟨#[97,98,115,111,114,98]⟩:ByteArray))++(strOfNums t103))++a1)).bind fun t106=>(some (l0_0,a0_1,t106,0))) else(none)) else(none))) else(none))=some (r1,r2,r3,r4):=h
 clear h
 by_cases c3:a0_2.size + 6≤9223372036854775807
 ·
  rw [if_pos c3] at H
  have c3b0:=eq_true c3
  have c3b1:decide (a0_2.size + 6≤9223372036854775807)=true:=decide_eq_true c3
  try have c3b2:(9223372036854775807<a0_2.size + 6)=False:=eq_false (Nat.not_lt.2 c3)
  replace H:=Option.bind_eq_some_iff.mp H
  obtain⟨t103,A40,H⟩:=H
  replace H:(if (a0_2++(⟨#[97,98,115,111,114,98]⟩:ByteArray)).size + (strOfNums t103).size≤9223372036854775807 then(if ((a0_2++(⟨#[97,98,115,111,114,98]⟩:ByteArray))++(strOfNums t103)).size + a1.size≤9223372036854775807 then((zcm.f (((a0_2++(⟨#[97,98,115,111,114,98]⟩:ByteArray))++(strOfNums t103))++a1)).bind fun t106=>(some (l0_0,a0_1,t106,0))) else(none)) else(none))=some (r1,r2,r3,r4):=H
  have A4:=am_ A40
  clear A40
  by_cases c5:(a0_2++(⟨#[97,98,115,111,114,98]⟩:ByteArray)).size + (strOfNums t103).size≤9223372036854775807
  ·
   rw [if_pos c5] at H
   have c5b0:=eq_true c5
   have c5b1:decide ((a0_2++(⟨#[97,98,115,111,114,98]⟩:ByteArray)).size + (strOfNums t103).size≤9223372036854775807)=true:=decide_eq_true c5
   try have c5b2:(9223372036854775807<(a0_2++(⟨#[97,98,115,111,114,98]⟩:ByteArray)).size + (strOfNums t103).size)=False:=eq_false (Nat.not_lt.2 c5)
   try have c5b3:(9223372036854775807<a0_2.size + 6 + (strOfNums t103).size)=False:=eq_false (Nat.not_lt.2 (by have h_:=c5;simp only [ByteArray.size_append] at h_;exact h_))
   by_cases c6:((a0_2++(⟨#[97,98,115,111,114,98]⟩:ByteArray))++(strOfNums t103)).size + a1.size≤9223372036854775807
   ·
    rw [if_pos c6] at H
    have c6b0:=eq_true c6
    have c6b1:decide (((a0_2++(⟨#[97,98,115,111,114,98]⟩:ByteArray))++(strOfNums t103)).size + a1.size≤9223372036854775807)=true:=decide_eq_true c6
    try have c6b2:(9223372036854775807<((a0_2++(⟨#[97,98,115,111,114,98]⟩:ByteArray))++(strOfNums t103)).size + a1.size)=False:=eq_false (Nat.not_lt.2 c6)
    try have c6b3:(9223372036854775807<a0_2.size + 6 + (strOfNums t103).size + a1.size)=False:=eq_false (Nat.not_lt.2 (by have h_:=c6;simp only [ByteArray.size_append] at h_;exact h_))
    replace H:=Option.bind_eq_some_iff.mp H
    obtain⟨t106,A70,H⟩:=H
    replace H:(some (l0_0,a0_1,t106,0))=some (r1,r2,r3,r4):=H
    have A7:=am_ A70
    clear A70
    simp only [Option.some.injEq,Prod.mk.injEq] at H
    obtain⟨rfl,rfl,rfl,rfl⟩:=H
    obtain⟨Ao8,co8,eo8⟩:=Kd.zb0 HO0_0.out
    subst eo8
    go_enter Try.func147,Try.ntmps147
    try go_wp2_with (first|((with_reducible refine zad (N:=2) rfl ?_);refine zae rfl (N:=2) rfl (cs:=#[.slice Ao8 l0_0.length co8,.int .i64 a0_1,.string a0_2,.int .i64 a0_3]) (t:=27) bx_ ?_;intro gb101 hg w9 hbox hb;replace HO0_0:=am_ (Kd.zdr qz20_ hb);replace BK101:=am_ (hbox);replace GW101:=am_ ((by rw [hg];exact qz21_:w.heap.size≤gb101));replace HK:=am_ (Kept.below (S:=(fun k_=>P0_0_ k_)) qz6_ hb);replace GE101:=am_ ((by rw [hg];exact(zac qz4_):w0.heap.size≤gb101));replace HB:=am_ (zaj qz4_ hb);clear hb hbox hg)|((with_reducible refine zad (N:=4) rfl ?_);refine zae rfl (N:=4) rfl (cs:=#[.slice none 0 0,.int .i64 0,.string (⟨#[]⟩:ByteArray),.int .i64 0]) (t:=27) bx_ ?_;intro gb102 hg w10 hbox hb;replace HO0_0:=am_ (Kd.zdr qz20_ hb);replace BK102:=am_ (hbox);replace GW102:=am_ ((by rw [hg];exact qz35_:w.heap.size≤gb102));replace HK:=am_ (Kept.below (S:=(fun k_=>P0_0_ k_)) qz22_ hb);replace GE102:=am_ ((by rw [hg];exact(zac qz14_):w0.heap.size≤gb102));replace HB:=am_ (zaj qz14_ hb);replace NB101_102:=am_ ((by rw [hg];exact Nat.ne_of_lt (zar (g:=gb101) (o:=.cells #[.slice Ao8 l0_0.length co8,.int .i64 a0_1,.string a0_2,.int .i64 a0_3] 27 (0,0)) qz13_):gb101≠gb102));replace NB102_101:=am_ ((by rw [hg];exact Nat.ne_of_gt (zar (g:=gb101) (o:=.cells #[.slice Ao8 l0_0.length co8,.int .i64 a0_1,.string a0_2,.int .i64 a0_3] 27 (0,0)) qz13_):gb102≠gb101));replace BK101:=am_ (zak (g:=gb101) (o:=.cells #[.slice Ao8 l0_0.length co8,.int .i64 a0_1,.string a0_2,.int .i64 a0_3] 27 (0,0)) qz13_ hb);clear hb hbox hg))
    replace HO0_0:=am_ (Kd.zch HO0_0.out)
    replace BK101:=am_ (zaf BK101.out)
    replace BK102:=am_ (zaf BK102.out)
    replace HK:=am_ (Kept.drew HK.out)
    replace HB:=am_ (zat HB.out)
    refine zcb (n:=13) (S:=fun w'=>w'.cell? ⟨gb101,0,none⟩=some (.slice Ao8 l0_0.length co8)∧w'.cell? ⟨gb101,1,none⟩=some (.int .i64 a0_1)∧w'.cell? ⟨gb101,2,none⟩=some (.string a0_2)∧w'.cell? ⟨gb101,3,none⟩=some (.int .i64 a0_3)) (ds:=[12]) (bs_ 13 0) (by kernel_rfl) rfl rfl ⟨(zaa BK101.out 0).trans rfl,(zaa BK101.out 1).trans rfl,(zaa BK101.out 2).trans rfl,(zaa BK101.out 3).trans rfl⟩ (fun hHeld=>?_);refine zcr zb7.tab1 zb7.bits1 (fun HT_ HW_=>?_)
    generalize w10.drew=w11 at HO0_0 BK101 BK102 HK HB hHeld ⊢
    refine pt_ HT_.out 0 5 (bs_ 13 1) ?_
    refine pt_ HT_.out 3 8 (bs_ 13 9) ?_
    refine pt_ HT_.out 4 9 (bs_ 13 25) ?_
    refine pt_ HT_.out 8 13 (bs_ 13 281) ?_
    refine take_ (i:=1) (N:=some 6) (v:=?_) (a':=?_) (bs_ 13 283) rfl rfl (zba HT_.out HW_.out (by kernel_rfl)) (fun _ _ _ h=>h) (Or.inl ⟨(by rfl),?_⟩) hHeld ?_ ?_
    rotate_left
    ·
     rintro w' ⟨s0,s1,s2,s3⟩
     go_simp
     with_reducible rfl
    rotate_left
    ·
     exact ap_
    refine pt_ HT_.out 2 7 (bs_ 13 287) ?_
    refine one_ (i:=5) (N:=some 10) (bs_ 13 319) rfl rfl (zbx HT_.out (by kernel_rfl)) (by decide) (fun K hK=>?_)
    refine goes_ Try.func91 (by kernel_rfl) rfl #[.int .i64 (a1.size:Int),.int .i64 4] (by rfl) rfl rfl qz18_ ?_
    with_reducible refine(zau.calls k (a1.size:Int) 4 t103 _ A4.out).mono ?_
    rintro e w12 ⟨v104,rfl,ho0,hb⟩
    refine⟨_,rfl,?_⟩
    replace HO0_0:=am_ (Kd.zdr qz20_ hb)
    replace HO105:=am_ (Kd.zdk (Kd.znf (M:=fun k_=>(P0_0_ k_∨w.heap.size≤k_)) ho0 qz36_ (fun k_ h_=>.inr h_)) (zac qz16_))
    replace BK101:=am_ (zak (g:=gb101) (o:=.cells #[.slice Ao8 l0_0.length co8,.int .i64 a0_1,.string a0_2,.int .i64 a0_3] 27 (0,0)) qz13_ hb)
    replace BK102:=am_ (zak (g:=gb102) (o:=.cells #[.slice none 0 0,.int .i64 0,.string (⟨#[]⟩:ByteArray),.int .i64 0] 27 (0,0)) qz15_ hb)
    replace HK:=am_ (Kept.below (S:=(fun k_=>P0_0_ k_)) qz37_ hb)
    replace HB:=am_ (zaj qz16_ hb)
    (try clear hb)
    (try clear hb2)
    (try clear hk)
    (try clear hi)
    (try clear ho0)
    refine hK.out _ _ ⟨(zaa BK101.out 0).trans rfl,(zaa BK101.out 1).trans rfl,(zaa BK101.out 2).trans rfl,(zaa BK101.out 3).trans rfl⟩ (fun hHeld=>?_)
    clear hK K
    refine norm_ (a':=?_) ?_ ?_
    rotate_left
    ·
     show Act.put _ (some 10) _=_
     exact ap_
    refine one_ (i:=6) (N:=some 11) (bs_ 13 383) rfl rfl (zbx HT_.out (by kernel_rfl)) (by decide) (fun K hK=>?_)
    have hcv13:=zhz (P:=Try.prog) Try.underlying22 Try.underlying5 Try.underlying9 (Kd.zhi HO105.out)
    refine zbf (w1:=?_) (v:=?_) (by rfl) rfl ?_ ?_
    rotate_left 2
    ·
     go_simp
     constructor
     ·
      rfl
     ·
      rfl
    clear hcv13
    refine hK.out _ _ ⟨(zaa BK101.out 0).trans rfl,(zaa BK101.out 1).trans rfl,(zaa BK101.out 2).trans rfl,(zaa BK101.out 3).trans rfl⟩ (fun hHeld=>?_)
    clear hK K
    refine norm_ (a':=?_) ?_ ?_
    rotate_left
    ·
     show Act.put _ (some 11) _=_
     exact ap_
    refine pt_ HT_.out 7 12 (bs_ 13 511) ?_
    refine pt_ HT_.out 9 14 (bs_ 13 1023) ?_
    refine one_ (i:=10) (N:=some 15) (bs_ 13 2047) rfl rfl (zbx HT_.out (by kernel_rfl)) (by decide) (fun K hK=>?_)
    refine goes_ Try.func92 (by kernel_rfl) rfl #[.string (((a0_2++(⟨#[97,98,115,111,114,98]⟩:ByteArray))++(strOfNums t103))++a1)] (by rfl) rfl rfl qz18_ ?_
    with_reducible refine(zcm.calls (((a0_2++(⟨#[97,98,115,111,114,98]⟩:ByteArray))++(strOfNums t103))++a1) t106 _ A7.out).mono ?_
    rintro e w14 ⟨rfl,hb⟩
    refine⟨_,rfl,?_⟩
    replace HO0_0:=am_ (Kd.zdr qz20_ hb)
    replace HO105:=am_ (Kd.zdr (by(with_reducible repeat(first|apply Kd.zb3|apply Kd.zb4|apply Kd.zch));exact HO105.out) hb)
    replace BK101:=am_ (zak (g:=gb101) (o:=.cells #[.slice Ao8 l0_0.length co8,.int .i64 a0_1,.string a0_2,.int .i64 a0_3] 27 (0,0)) qz13_ hb)
    replace BK102:=am_ (zak (g:=gb102) (o:=.cells #[.slice none 0 0,.int .i64 0,.string (⟨#[]⟩:ByteArray),.int .i64 0] 27 (0,0)) qz15_ hb)
    replace HK:=am_ (Kept.below (S:=(fun k_=>P0_0_ k_)) qz37_ hb)
    replace HB:=am_ (zaj qz16_ hb)
    (try clear hb)
    (try clear hb2)
    (try clear hk)
    (try clear hi)
    refine hK.out _ _ ⟨(zaa BK101.out 0).trans rfl,(zaa BK101.out 1).trans rfl,(zaa BK101.out 2).trans rfl,(zaa BK101.out 3).trans rfl⟩ (fun hHeld=>?_)
    clear hK K
    refine norm_ (a':=?_) ?_ ?_
    rotate_left
    ·
     show Act.put _ (some 15) _=_
     exact ap_
    refine pt_ HT_.out 11 16 (bs_ 13 4095) ?_
    refine last_ (i:=12) (N:=none) (bs_ 13 8191) rfl rfl (zbx HT_.out (by kernel_rfl)) (by decide) (fun K hK=>?_)
    have hs15:w14.cell? ⟨gb101,2,none⟩=some (.string a0_2):=(zaa BK101.out 2).trans rfl
    have hfs15:=zab BK101.out 2
    have hns15_1:=NB102_101.out
    have hms15_1:=NB101_102.out
    refine skip_ (w1:=?_) (by rfl) rfl ?_ ?_
    rotate_left
    ·
     go_simp
     rfl
    refine hK.out _ _ ?_
    clear hK K
    refine done_ (zej HT_.out (by kernel_rfl)) ?_
    have hnb16:=NB101_102.out
    have hnc16:=NB102_101.out
    have hcz17_0:w14.cell? ⟨gb101,0,none⟩=some (.slice Ao8 l0_0.length co8):=(zaa BK101.out 0).trans rfl
    have hcz17_1:w14.cell? ⟨gb101,1,none⟩=some (.int .i64 a0_1):=(zaa BK101.out 1).trans rfl
    have hcz17_2:w14.cell? ⟨gb101,2,none⟩=some (.string a0_2):=(zaa BK101.out 2).trans rfl
    have hcz17_3:w14.cell? ⟨gb101,3,none⟩=some (.int .i64 a0_3):=(zaa BK101.out 3).trans rfl
    have hfz17_0:=zab BK101.out 0
    have hfz17_1:=zab BK101.out 1
    have hfz17_2:=zab BK101.out 2
    have hfz17_3:=zab BK101.out 3
    have hcz18_0:w14.cell? ⟨gb102,0,none⟩=some (.slice none 0 0):=(zaa BK102.out 0).trans rfl
    have hcz18_1:w14.cell? ⟨gb102,1,none⟩=some (.int .i64 0):=(zaa BK102.out 1).trans rfl
    have hcz18_2:w14.cell? ⟨gb102,2,none⟩=some (.string (⟨#[]⟩:ByteArray)):=(zaa BK102.out 2).trans rfl
    have hcz18_3:w14.cell? ⟨gb102,3,none⟩=some (.int .i64 0):=(zaa BK102.out 3).trans rfl
    have hfz18_0:=zab BK102.out 0
    have hfz18_1:=zab BK102.out 1
    have hfz18_2:=zab BK102.out 2
    have hfz18_3:=zab BK102.out 3
    try go_wp2
    refine bodyPost_ret (results_cell_row rfl _ _ gb102 27 #[.slice Ao8 l0_0.length co8,.int .i64 a0_1,.string t106,.int .i64 0] (0,0) _ rfl (by(with_reducible repeat(first|refine zah ?_ _|refine zaf ?_|refine zai ?_ _));refine za9 (cs:=#[.slice Ao8 l0_0.length co8,.int .i64 a0_1,.string t106,.int .i64 0]) ?_ 3 _ rfl;(with_reducible repeat(first|refine zah ?_ _|refine zaf ?_|refine zai ?_ _));refine za9 (cs:=#[.slice Ao8 l0_0.length co8,.int .i64 a0_1,.string (⟨#[]⟩:ByteArray),.int .i64 0]) ?_ 2 _ rfl;(with_reducible repeat(first|refine zah ?_ _|refine zaf ?_|refine zai ?_ _));refine za9 (cs:=#[.slice Ao8 l0_0.length co8,.int .i64 0,.string (⟨#[]⟩:ByteArray),.int .i64 0]) ?_ 1 _ rfl;(with_reducible repeat(first|refine zah ?_ _|refine zaf ?_|refine zai ?_ _));refine za9 (cs:=#[.slice none 0 0,.int .i64 0,.string (⟨#[]⟩:ByteArray),.int .i64 0]) ?_ 0 _ rfl;(with_reducible repeat(first|refine zah ?_ _|refine zaf ?_|refine zai ?_ _));refine zbc ?_ NB102_101.out _;(with_reducible repeat(first|refine zah ?_ _|refine zaf ?_|refine zai ?_ _));refine zbc ?_ NB102_101.out _;(with_reducible repeat(first|refine zah ?_ _|refine zaf ?_|refine zai ?_ _));exact BK102.out) Try.underlying27 rfl (by kernel_rfl)) rfl ?_
    exact⟨_,by first|rfl|(simp [zc3,zc2] <;> rfl)|(simp [*,zc3,zc2] <;> rfl),by(with_reducible repeat(first|apply Kd.zb3|apply Kd.zb4|apply Kd.zch));exact Kd.zbi (Kd.R_far (p:=⟨gb102,3,none⟩) (Kd.R_far (p:=⟨gb102,2,none⟩) (Kd.R_far (p:=⟨gb102,1,none⟩) (Kd.R_far (p:=⟨gb102,0,none⟩) (Kd.R_far (p:=⟨gb101,3,none⟩) (Kd.R_far (p:=⟨gb101,2,none⟩) (Kd.zep (Kd.zep HO0_0.out BK101.out (by decide)) BK102.out (by decide)) (fun _ hk=>hk.1.2) (.string t106)) (fun _ hk=>hk.1.2) (.int .i64 0)) (fun _ hk=>hk.2) (.slice Ao8 l0_0.length co8)) (fun _ hk=>hk.2) (.int .i64 a0_1)) (fun _ hk=>hk.2) (.string t106)) (fun _ hk=>hk.2) (.int .i64 0)) (fun _ hk=>hk.1.1),by repeat(first|(with_reducible first|exact HB.out|apply za0|apply zay|apply zat|refine za4 ?_ GE101.out|refine za4 ?_ GE102.out)|exact HB.out),by repeat(first|(with_reducible first|exact HK.out|apply Kept.alloc|apply Kept.drewN|apply Kept.drew|refine Kept.setCell ?_ (.inr GW101.out) _|refine Kept.setCell ?_ (.inr GW102.out) _)|exact HK.out)⟩
   ·
    rw [if_neg c6] at H
    exact absurd H (by simp)
  ·
   rw [if_neg c5] at H
   exact absurd H (by simp)
 ·
  rw [if_neg c3] at H
  exact absurd H (by simp)
def zer.f (k:Nat) (l0_0:List (S34)) (a0_1:Int) (a0_2:ByteArray) (a0_3:Int) (l1:List (S34)):Option ((List (S34)) × Int × ByteArray × Int):=(za3.f k l1).bind fun t103=>((zb7.f k l0_0 a0_1 a0_2 a0_3 (strOfNums t103)).bind fun bt106=>(some (bt106.1,bt106.2.1,bt106.2.2.1,bt106.2.2.2)))
theorem zer.calls (k:Nat) (P0_0_:Nat→Prop) (u9000_:Value) (l0_0:List (S34)) (a0_1:Int) (a0_2:ByteArray) (a0_3:Int) (A1:Option Addr) (c1:Nat) (l1:List (S34)) (r1:List (S34)) (r2:Int) (r3:ByteArray) (r4:Int) (w0 w:World) (hB:Below w0.heap.size w0 w) (ho0_0:Kd.R k34 34 w w0.heap.size P0_0_ u9000_ l0_0) (hr1:∀ W_,Kept w W_ (fun k_=>P0_0_ k_)→Kd.C k34 W_ A1 l1.length l1) (hc1:l1.length≤c1) (h:zer.f k l0_0 a0_1 a0_2 a0_3 l1=some (r1,r2,r3,r4)) :
  Calls Try.prog 117 #[.agg #[u9000_,.int .i64 a0_1,.string a0_2,.int .i64 a0_3],.slice A1 l1.length c1] w fun e w'=>∃ v0_:Value,e=.returned (.agg #[v0_,.int .i64 r2,.string r3,.int .i64 r4])∧Kd.R k34 34 w' w0.heap.size (fun k_=>(P0_0_ k_∨w.heap.size≤k_)) v0_ r1∧Below w0.heap.size w0 w'∧Kept w w' (fun k_=>P0_0_ k_):=by
 have hu27:=Try.underlying27
 have HO0_0:=am_ (show Kd.R k34 34 w w0.heap.size (fun k_=>(P0_0_ k_∨w.heap.size≤k_)) u9000_ l0_0 from Kd.zbi ho0_0 (fun k_ hk=>(.inl hk)))
 have HR1:=am_ hr1
 have HC1:=am_ hc1
 clear hr1 hc1
 have HK:=am_ (Kept.refl w (fun k_=>P0_0_ k_))
 have HW0:=am_ hB.size
 have HB:=am_ hB
 clear hB
 have H:((za3.f k l1).bind fun t103=>((zb7.f k l0_0 a0_1 a0_2 a0_3 (strOfNums t103)).bind fun bt106=>(some (bt106.1,bt106.2.1,bt106.2.2.1,bt106.2.2.2))))=some (r1,r2,r3,r4):=h
 clear h
 replace H:=Option.bind_eq_some_iff.mp H
 obtain⟨t103,A30,H⟩:=H
 replace H:((zb7.f k l0_0 a0_1 a0_2 a0_3 (strOfNums t103)).bind fun bt106=>(some (bt106.1,bt106.2.1,bt106.2.2.1,bt106.2.2.2)))=some (r1,r2,r3,r4):=H
 have A3:=am_ A30
 clear A30
 replace H:=Option.bind_eq_some_iff.mp H
 obtain⟨⟨t106,t109,t110,t111⟩,A40,H⟩:=H
 replace H:(some (t106,t109,t110,t111))=some (r1,r2,r3,r4):=H
 have A4:=am_ A40
 clear A40
 simp only [Option.some.injEq,Prod.mk.injEq] at H
 obtain⟨rfl,rfl,rfl,rfl⟩:=H
 obtain⟨Ao5,co5,eo5⟩:=Kd.zb0 HO0_0.out
 subst eo5
 go_enter Try.func117,Try.ntmps117
 try go_wp2_with (first|((with_reducible refine zad (N:=2) rfl ?_);refine zae rfl (N:=2) rfl (cs:=#[.slice Ao5 l0_0.length co5,.int .i64 a0_1,.string a0_2,.int .i64 a0_3]) (t:=27) bx_ ?_;intro gb101 hg w6 hbox hb;replace HO0_0:=am_ (Kd.zdr qz20_ hb);replace BK101:=am_ (hbox);replace GW101:=am_ ((by rw [hg];exact qz21_:w.heap.size≤gb101));replace HK:=am_ (Kept.below (S:=(fun k_=>P0_0_ k_)) qz6_ hb);replace GE101:=am_ ((by rw [hg];exact(zac qz4_):w0.heap.size≤gb101));replace HB:=am_ (zaj qz4_ hb);clear hb hbox hg)|((with_reducible refine zad (N:=4) rfl ?_);refine zae rfl (N:=4) rfl (cs:=#[.slice none 0 0,.int .i64 0,.string (⟨#[]⟩:ByteArray),.int .i64 0]) (t:=27) bx_ ?_;intro gb102 hg w7 hbox hb;replace HO0_0:=am_ (Kd.zdr qz20_ hb);replace BK102:=am_ (hbox);replace GW102:=am_ ((by rw [hg];exact qz35_:w.heap.size≤gb102));replace HK:=am_ (Kept.below (S:=(fun k_=>P0_0_ k_)) qz22_ hb);replace GE102:=am_ ((by rw [hg];exact(zac qz14_):w0.heap.size≤gb102));replace HB:=am_ (zaj qz14_ hb);replace NB101_102:=am_ ((by rw [hg];exact Nat.ne_of_lt (zar (g:=gb101) (o:=.cells #[.slice Ao5 l0_0.length co5,.int .i64 a0_1,.string a0_2,.int .i64 a0_3] 27 (0,0)) qz13_):gb101≠gb102));replace NB102_101:=am_ ((by rw [hg];exact Nat.ne_of_gt (zar (g:=gb101) (o:=.cells #[.slice Ao5 l0_0.length co5,.int .i64 a0_1,.string a0_2,.int .i64 a0_3] 27 (0,0)) qz13_):gb102≠gb101));replace BK101:=am_ (zak (g:=gb101) (o:=.cells #[.slice Ao5 l0_0.length co5,.int .i64 a0_1,.string a0_2,.int .i64 a0_3] 27 (0,0)) qz13_ hb);clear hb hbox hg))
 replace HO0_0:=am_ (Kd.zch HO0_0.out)
 replace BK101:=am_ (zaf BK101.out)
 replace BK102:=am_ (zaf BK102.out)
 replace HK:=am_ (Kept.drew HK.out)
 replace HB:=am_ (zat HB.out)
 refine zcb (n:=6) (S:=fun w'=>w'.cell? ⟨gb101,0,none⟩=some (.slice Ao5 l0_0.length co5)∧w'.cell? ⟨gb101,1,none⟩=some (.int .i64 a0_1)∧w'.cell? ⟨gb101,2,none⟩=some (.string a0_2)∧w'.cell? ⟨gb101,3,none⟩=some (.int .i64 a0_3)) (ds:=[]) (bs_ 6 0) (by kernel_rfl) rfl rfl ⟨(zaa BK101.out 0).trans rfl,(zaa BK101.out 1).trans rfl,(zaa BK101.out 2).trans rfl,(zaa BK101.out 3).trans rfl⟩ (fun hHeld=>?_)
 generalize w7.drew=w8 at HO0_0 BK101 BK102 HK HB hHeld ⊢
 refine pu_ 1 6 (bs_ 6 2) ?_
 refine take_ (i:=0) (N:=some 5) (v:=?_) (a':=?_) (bs_ 6 3) rfl rfl (by kernel_rfl) (fun _ _ _ h=>h) (Or.inl ⟨(by rfl),?_⟩) hHeld ?_ ?_
 rotate_left
 ·
  rintro w' ⟨s0,s1,s2,s3⟩
  go_simp
  with_reducible rfl
 rotate_left
 ·
  exact ap_
 refine one_ (i:=2) (N:=some 7) (bs_ 6 7) rfl rfl (by kernel_rfl) (by decide) (fun K hK=>?_)
 refine goes_ Try.func105 (by kernel_rfl) rfl #[.slice A1 l1.length c1] (by rfl) rfl rfl qz18_ ?_
 with_reducible refine(za3.calls k _ _ l1 t103 _ ?side1 ?side2 A3.out).mono ?_
 (case side1=>exact Kd.znm HR1.out qz37_)
 (case side2=>exact HC1.out)
 rintro e w9 ⟨v104,rfl,ho0,hb⟩
 refine⟨_,rfl,?_⟩
 replace HO0_0:=am_ (Kd.zdr qz20_ hb)
 replace HO105:=am_ (Kd.zdk (Kd.znf (M:=fun k_=>(P0_0_ k_∨w.heap.size≤k_)) ho0 qz36_ (fun k_ h_=>.inr h_)) (zac qz16_))
 replace BK101:=am_ (zak (g:=gb101) (o:=.cells #[.slice Ao5 l0_0.length co5,.int .i64 a0_1,.string a0_2,.int .i64 a0_3] 27 (0,0)) qz13_ hb)
 replace BK102:=am_ (zak (g:=gb102) (o:=.cells #[.slice none 0 0,.int .i64 0,.string (⟨#[]⟩:ByteArray),.int .i64 0] 27 (0,0)) qz15_ hb)
 replace HK:=am_ (Kept.below (S:=(fun k_=>P0_0_ k_)) qz37_ hb)
 replace HB:=am_ (zaj qz16_ hb)
 (try clear hb)
 (try clear hb2)
 (try clear hk)
 (try clear hi)
 (try clear ho0)
 refine hK.out _ _ ⟨(zaa BK101.out 0).trans rfl,(zaa BK101.out 1).trans rfl,(zaa BK101.out 2).trans rfl,(zaa BK101.out 3).trans rfl⟩ (fun hHeld=>?_)
 clear hK K
 refine norm_ (a':=?_) ?_ ?_
 rotate_left
 ·
  show Act.put _ (some 7) _=_
  exact ap_
 refine one_ (i:=3) (N:=some 8) (bs_ 6 15) rfl rfl (by kernel_rfl) (by decide) (fun K hK=>?_)
 have hcv10:=zhz (P:=Try.prog) Try.underlying22 Try.underlying5 Try.underlying9 (Kd.zhi HO105.out)
 refine zbf (w1:=?_) (v:=?_) (by rfl) rfl ?_ ?_
 rotate_left 2
 ·
  go_simp
  constructor
  ·
   rfl
  ·
   rfl
 clear hcv10
 refine hK.out _ _ ⟨(zaa BK101.out 0).trans rfl,(zaa BK101.out 1).trans rfl,(zaa BK101.out 2).trans rfl,(zaa BK101.out 3).trans rfl⟩ (fun hHeld=>?_)
 clear hK K
 refine norm_ (a':=?_) ?_ ?_
 rotate_left
 ·
  show Act.put _ (some 8) _=_
  exact ap_
 refine one_ (i:=4) (N:=some 9) (bs_ 6 31) rfl rfl (by kernel_rfl) (by decide) (fun K hK=>?_)
 refine goes_ Try.func147 (by kernel_rfl) rfl #[.agg #[.slice Ao5 l0_0.length co5,.int .i64 a0_1,.string a0_2,.int .i64 a0_3],.string (strOfNums t103)] (by rfl) rfl rfl qz18_ ?_
 with_reducible refine(zb7.calls k (fun k_=>some k_=(.slice Ao5 l0_0.length co5:Value).ownBlock) (.slice Ao5 l0_0.length co5) l0_0 a0_1 a0_2 a0_3 (strOfNums t103) t106 t109 t110 t111 w0 _ ?side1 ?side2 A4.out).mono ?_
 (case side1=>repeat(first|(with_reducible first|exact HB.out|apply za0|apply zay|apply zat|refine za4 ?_ GE101.out|refine za4 ?_ GE102.out)|exact HB.out))
 (case side2=>exact Kd.zfo rfl HO0_0.out)
 rintro e w11 ⟨v107,rfl,ho0,hb,hkp⟩
 refine⟨_,rfl,?_⟩
 replace BK101:=am_ (zhg (g:=gb101) (o:=.cells #[.slice Ao5 l0_0.length co5,.int .i64 a0_1,.string a0_2,.int .i64 a0_3] 27 (0,0)) qz13_ hkp (fun hs_=>(fun e_=>(Kd.R_ne HO0_0.out BK101.out (by decide)) e_) hs_))
 replace BK102:=am_ (zhg (g:=gb102) (o:=.cells #[.slice none 0 0,.int .i64 0,.string (⟨#[]⟩:ByteArray),.int .i64 0] 27 (0,0)) qz15_ hkp (fun hs_=>(fun e_=>(Kd.R_ne HO0_0.out BK102.out (by decide)) e_) hs_))
 replace HO105:=am_ (Kd.zbi (ok':=fun k_=>(P0_0_ k_∨w.heap.size≤k_)) (Kd.R_keptB ((Kd.R_apart' HO105.out (Kd.zo3 HO0_0.out) (by decide))) hkp (fun k_ hk_ hs_=>(hk_.2) hs_)) (fun k_ hk_=>hk_.1.1.1))
 replace HO108:=am_ (Kd.zbi (ok':=fun k_=>(P0_0_ k_∨w.heap.size≤k_)) ho0 (fun k_ hk_=>Or.elim hk_ (fun hs_=>(HO0_0.out.1 k_ (hs_).symm)) (fun hn_=>(.inr (Nat.le_trans qz36_ hn_)))))
 replace HK:=am_ (Kept.then_ (S:=(fun k_=>P0_0_ k_)) qz37_ hkp (fun k_ hs_=>(fun e_=>(HO0_0.out.1 k_ e_.symm)) hs_))
 replace HB:=am_ (hb)
 clear HO0_0
 (try clear hb)
 (try clear hkp)
 (try clear ho0)
 obtain⟨Ao12,co12,eo12⟩:=Kd.zb0 HO108.out
 (first|subst eo12|(injection eo12 with f1_ f2_ f3_;have f4_:=f1_.symm;have f5_:=f3_.symm;clear f1_ f2_ f3_;subst f4_;subst f5_))
 refine hK.out _ _ ⟨(zaa BK101.out 0).trans rfl,(zaa BK101.out 1).trans rfl,(zaa BK101.out 2).trans rfl,(zaa BK101.out 3).trans rfl⟩ (fun hHeld=>?_)
 clear hK K
 refine norm_ (a':=?_) ?_ ?_
 rotate_left
 ·
  show Act.put _ (some 9) _=_
  exact ap_
 refine one_ (i:=5) (N:=none) (bs_ 6 63) rfl rfl (by kernel_rfl) (by decide) (fun K hK=>?_)
 have hs13:w11.cell? ⟨gb102,0,none⟩=some (.slice none 0 0):=(zaa BK102.out 0).trans rfl
 have hfs13:=zab BK102.out 0
 have hns13_0:=NB101_102.out
 have hms13_0:=NB102_101.out
 have hs14:w11.cell? ⟨gb102,1,none⟩=some (.int .i64 0):=(zaa BK102.out 1).trans rfl
 have hfs14:=zab BK102.out 1
 have hns14_0:=NB101_102.out
 have hms14_0:=NB102_101.out
 have hs15:w11.cell? ⟨gb102,2,none⟩=some (.string (⟨#[]⟩:ByteArray)):=(zaa BK102.out 2).trans rfl
 have hfs15:=zab BK102.out 2
 have hns15_0:=NB101_102.out
 have hms15_0:=NB102_101.out
 have hs16:w11.cell? ⟨gb102,3,none⟩=some (.int .i64 0):=(zaa BK102.out 3).trans rfl
 have hfs16:=zab BK102.out 3
 have hns16_0:=NB101_102.out
 have hms16_0:=NB102_101.out
 refine skip_ (w1:=?_) (by rfl) rfl ?_ ?_
 rotate_left
 ·
  go_simp
  rfl
 refine hK.out _ _ ⟨((cell_far (p:=⟨gb102,_,none⟩) NB101_102.out _).trans (((cell_far (p:=⟨gb102,_,none⟩) NB101_102.out _).trans (((cell_far (p:=⟨gb102,_,none⟩) NB101_102.out _).trans (((cell_far (p:=⟨gb102,_,none⟩) NB101_102.out _).trans (hHeld.1)))))))),((cell_far (p:=⟨gb102,_,none⟩) NB101_102.out _).trans (((cell_far (p:=⟨gb102,_,none⟩) NB101_102.out _).trans (((cell_far (p:=⟨gb102,_,none⟩) NB101_102.out _).trans (((cell_far (p:=⟨gb102,_,none⟩) NB101_102.out _).trans (hHeld.2.1)))))))),((cell_far (p:=⟨gb102,_,none⟩) NB101_102.out _).trans (((cell_far (p:=⟨gb102,_,none⟩) NB101_102.out _).trans (((cell_far (p:=⟨gb102,_,none⟩) NB101_102.out _).trans (((cell_far (p:=⟨gb102,_,none⟩) NB101_102.out _).trans (hHeld.2.2.1)))))))),((cell_far (p:=⟨gb102,_,none⟩) NB101_102.out _).trans (((cell_far (p:=⟨gb102,_,none⟩) NB101_102.out _).trans (((cell_far (p:=⟨gb102,_,none⟩) NB101_102.out _).trans (((cell_far (p:=⟨gb102,_,none⟩) NB101_102.out _).trans (hHeld.2.2.2))))))))⟩ (fun hHeld=>?_)
 clear hK K
 refine done_ (by kernel_rfl) ?_
 try go_wp2
 refine bodyPost_ret (results_cell_row rfl _ _ gb102 27 #[.slice Ao12 t106.length co12,.int .i64 t109,.string t110,.int .i64 t111] (0,0) _ rfl (by(with_reducible repeat(first|refine zah ?_ _|refine zaf ?_|refine zai ?_ _));refine za9 (cs:=#[.slice Ao12 t106.length co12,.int .i64 t109,.string t110,.int .i64 0]) ?_ 3 _ rfl;(with_reducible repeat(first|refine zah ?_ _|refine zaf ?_|refine zai ?_ _));refine za9 (cs:=#[.slice Ao12 t106.length co12,.int .i64 t109,.string (⟨#[]⟩:ByteArray),.int .i64 0]) ?_ 2 _ rfl;(with_reducible repeat(first|refine zah ?_ _|refine zaf ?_|refine zai ?_ _));refine za9 (cs:=#[.slice Ao12 t106.length co12,.int .i64 0,.string (⟨#[]⟩:ByteArray),.int .i64 0]) ?_ 1 _ rfl;(with_reducible repeat(first|refine zah ?_ _|refine zaf ?_|refine zai ?_ _));refine za9 (cs:=#[.slice none 0 0,.int .i64 0,.string (⟨#[]⟩:ByteArray),.int .i64 0]) ?_ 0 _ rfl;(with_reducible repeat(first|refine zah ?_ _|refine zaf ?_|refine zai ?_ _));exact BK102.out) Try.underlying27 rfl (by kernel_rfl)) rfl ?_
 exact⟨_,by first|rfl|(simp [zc3,zc2] <;> rfl)|(simp [*,zc3,zc2] <;> rfl),by(with_reducible repeat(first|apply Kd.zb3|apply Kd.zb4|apply Kd.zch));exact Kd.zbi (Kd.R_far (p:=⟨gb102,3,none⟩) (Kd.R_far (p:=⟨gb102,2,none⟩) (Kd.R_far (p:=⟨gb102,1,none⟩) (Kd.R_far (p:=⟨gb102,0,none⟩) (Kd.zep HO108.out BK102.out (by decide)) (fun _ hk=>hk.2) (.slice Ao12 t106.length co12)) (fun _ hk=>hk.2) (.int .i64 t109)) (fun _ hk=>hk.2) (.string t110)) (fun _ hk=>hk.2) (.int .i64 t111)) (fun _ hk=>hk.1),by repeat(first|(with_reducible first|exact HB.out|apply za0|apply zay|apply zat|refine za4 ?_ GE101.out|refine za4 ?_ GE102.out)|exact HB.out),by repeat(first|(with_reducible first|exact HK.out|apply Kept.alloc|apply Kept.drewN|apply Kept.drew|refine Kept.setCell ?_ (.inr GW101.out) _|refine Kept.setCell ?_ (.inr GW102.out) _)|exact HK.out)⟩
def zbg.l0:Nat→ByteArray→Int→Int→Option (Int)
 | 0,_,_,_=>none
 | k + 1,x0,x3,x4=>if x4<8 then(if 0≤x4 then(if x4<(x0.size:Int) then(zbg.l0 k x0 (Int.tmod (wrap64 ((wrap64 (x3 * 256)) + (wrap64 (bt x0 x4)))) 2130706433) (wrap64 (x4 + 1))) else(none)) else(none)) else(some x3)
def zbg.f (k:Nat) (a0:ByteArray):Option (Int):=zbg.l0 k a0 0 0
theorem zbg.calls (k:Nat) (a0:ByteArray) (r:Int) (w:World) (h:zbg.f k a0=some r) :
  Calls Try.prog 148 #[.string a0] w fun e w'=>e=.returned (.int .i64 r)∧zbr w w':=by
 have H:(zbg.l0 k a0 0 0)=some r:=h
 clear h
 have H':=am_ H
 clear H
 go_enter Try.func148,Try.ntmps148
 go_wp2
 go_loopg [3,4] k (fun kq v3 v4 w'=>∃ (x3_1:Int) (x4_1:Int),v3=.int .i64 x3_1∧v4=.int .i64 x4_1∧zal (zbg.l0 kq a0 x3_1 x4_1=some r)∧zal (kq≤k)∧zbr w w')
 case atStart=>exact⟨(0),(0),qz10_,qz10_,H',⟨Nat.le_refl _⟩,by repeat(first|exact zbr.refl _|apply zbr.step)⟩
 case round=>
  clear H'
  try clear c1
  obtain⟨x3_1,x4_1,rfl,rfl,HA,HK1,⟨m1,rfl⟩⟩:=hrel
  cases gk with
  | zero=>exact absurd HA.out (by simp [zbg.l0])
  | succ k1=>
   have H:=HA.out
   clear HA
   simp only [zbg.l0] at H
   by_cases c2:x4_1<8
   ·
    rw [if_pos c2] at H
    have c2b0:decide (x4_1<8)=true:=decide_eq_true c2
    clear c2
    by_cases c3:0≤x4_1
    ·
     rw [if_pos c3] at H
     have c3b0:decide (0≤x4_1)=true:=decide_eq_true c3
     clear c3
     by_cases c4:x4_1<(a0.size:Int)
     ·
      rw [if_pos c4] at H
      have c4b0:decide (x4_1<(a0.size:Int))=true:=decide_eq_true c4
      clear c4
      have H':=am_ H
      clear H
      have p5:0≤(x4_1:Int):=of_decide_eq_true qz11_
      have q5:x4_1<(a0.size:Int):=of_decide_eq_true qz11_
      have hx5:=bt_at a0 x4_1
      replace p5:=eq_true p5
      replace q5:=eq_true q5
      go_wp2
      go_roundg k1
      case measure=>have:=HK1.out;omega
      case rel=>exact⟨(Int.tmod (wrap64 ((wrap64 (x3_1 * 256)) + (wrap64 (bt a0 x4_1)))) 2130706433),(wrap64 (x4_1 + 1)),qz10_,qz10_,H',⟨(by have:=HK1.out;omega)⟩,by repeat(first|exact zbr.refl _|apply zbr.step)⟩
     ·
      rw [if_neg c4] at H
      exact absurd H (by simp)
    ·
     rw [if_neg c3] at H
     exact absurd H (by simp)
   ·
    rw [if_neg c2] at H
    have c2b0:decide (x4_1<8)=false:=decide_eq_false c2
    clear c2
    obtain rfl:=Option.some.inj H
    go_wp2
    go_ret
    exact⟨qz10_,qz2_⟩
end Go.Proofs.Ytgookagndlfehaa.PT
end
section
namespace Go.Proofs.Ytgookagndlfehaa.PT
open Go.RowKit Go.Proofs.YtgookagndlfehaaW.PrintWords Go.Proofs.YtgookagndlfehaaW.PrintLast Go.Proofs.YtgookagndlfehaaW.PrintMore
attribute [local go_sem] zex zev zfa ze8 zec zed zeu zew   -- for this text's walks alone
set_option linter.unusedVariables false
set_option linter.unusedSimpArgs false
def za2.f (k:Nat) (l0_0:List (S34)) (a0_1:Int) (a0_2:ByteArray) (a0_3:Int):Option ((List (S34)) × Int × ByteArray × Int × Int × Int):=if (l0_0.length:Int)>0 then(if (l0_0.length:Int)=0 then(none) else(if 0≤(Int.tmod a0_1 (l0_0.length:Int)) then(if (Int.tmod a0_1 (l0_0.length:Int))<(l0_0.length:Int) then(some (l0_0,wrap64 (a0_1 + 1),a0_2,a0_3,(zan l0_0 (Int.tmod a0_1 (l0_0.length:Int))).f0,(zan l0_0 (Int.tmod a0_1 (l0_0.length:Int))).f1)) else(none)) else(none))) else(if a0_2.size + 4≤9223372036854775807 then((zau.f k a0_3 4).bind fun t106=>(if (a0_2++(⟨#[100,114,97,119]⟩:ByteArray)).size + (strOfNums t106).size≤9223372036854775807 then((zcm.f ((a0_2++(⟨#[100,114,97,119]⟩:ByteArray))++(strOfNums t106))).bind fun t109=>(if 0≤8 then(if 8≤(t109.size:Int) then((zbg.f k (t109.extract 0 8)).bind fun t110=>(if 8≤16 then(if 16≤(t109.size:Int) then((zbg.f k (t109.extract 8 16)).bind fun t111=>(some (l0_0,a0_1,a0_2,wrap64 (a0_3 + 1),t110,t111))) else(none)) else(none))) else(none)) else(none))) else(none))) else(none))
def za2.T2:Bool × List (List Nat × List Nat):=(true,[([],[]),([0],[0]),([],[]),([2],[2]),([],[]),([4],[4]),([5],[5]),([3,6],[3,6]),([1,7],[1,7]),([8],[8]),([],[]),([10,9,0,1,2,3,4,5,6,7,8,9,10],[9,10])])
def za2.B2:List Nat:=[0,1,0,4,0,16,48,124,255,511,0,2047]
theorem za2.tab2:rtab .any (opsOf Try.f118 2)=za2.T2:=by kernel_rfl
theorem za2.bits2:zc8 za2.T2.2 za2.B2=true:=by kernel_rfl
def za2.T5:Bool × List (List Nat × List Nat):=(true,[([],[]),([0],[0]),([1],[1]),([],[]),([3],[3]),([4],[4]),([5],[5]),([2,6],[2,6]),([7,5],[7]),([8,8,0,1,2,3,4,5,6,7,8],[8])])
def za2.B5:List Nat:=[0,1,3,0,8,24,56,127,255,511]
theorem za2.tab5:rtab .any (opsOf Try.f118 5)=za2.T5:=by kernel_rfl
theorem za2.bits5:zc8 za2.T5.2 za2.B5=true:=by kernel_rfl
def za2.T7:Bool × List (List Nat × List Nat):=(true,[([],[]),([],[]),([1],[1]),([2],[2]),([],[]),([4],[4]),([5,3],[5]),([3,6],[3,6]),([0,6,0],[0]),([7,8,0,1,2,3,4,5,6,7,8],[7])])
def za2.B7:List Nat:=[0,0,2,6,0,16,62,126,127,511]
theorem za2.tab7:rtab .any (opsOf Try.f118 7)=za2.T7:=by kernel_rfl
theorem za2.bits7:zc8 za2.T7.2 za2.B7=true:=by kernel_rfl
theorem za2.calls (k:Nat) (P0_0_:Nat→Prop) (u9000_:Value) (l0_0:List (S34)) (a0_1:Int) (a0_2:ByteArray) (a0_3:Int) (r1:List (S34)) (r2:Int) (r3:ByteArray) (r4:Int) (r5:Int) (r6:Int) (w0 w:World) (hB:Below w0.heap.size w0 w) (ho0_0:Kd.R k34 34 w w0.heap.size P0_0_ u9000_ l0_0) (h:za2.f k l0_0 a0_1 a0_2 a0_3=some (r1,r2,r3,r4,r5,r6)) :
  Calls Try.prog 118 #[.agg #[u9000_,.int .i64 a0_1,.string a0_2,.int .i64 a0_3]] w fun e w'=>∃ v0_:Value,e=.returned (.tuple #[.agg #[v0_,.int .i64 r2,.string r3,.int .i64 r4],.agg #[.int .i64 r5,.int .i64 r6]])∧Kd.R k34 34 w' w0.heap.size (fun k_=>(P0_0_ k_∨w.heap.size≤k_)) v0_ r1∧Below w0.heap.size w0 w'∧Kept w w' (fun k_=>P0_0_ k_):=by
 have hu27:=Try.underlying27
 have hu34:=Try.underlying34
 have HO0_0:=am_ (show Kd.R k34 34 w w0.heap.size (fun k_=>(P0_0_ k_∨w.heap.size≤k_)) u9000_ l0_0 from Kd.zbi ho0_0 (fun k_ hk=>(.inl hk)))
 have HK:=am_ (Kept.refl w (fun k_=>P0_0_ k_))
 have HW0:=am_ hB.size
 have HB:=am_ hB
 clear hB
 have H:(if (l0_0.length:Int)>0 then(if (l0_0.length:Int)=0 then(none) else(if 0≤(Int.tmod a0_1 (l0_0.length:Int)) then(if (Int.tmod a0_1 (l0_0.length:Int))<(l0_0.length:Int) then(some (l0_0,wrap64 (a0_1 + 1),a0_2,a0_3,(zan l0_0 (Int.tmod a0_1 (l0_0.length:Int))).f0,(zan l0_0 (Int.tmod a0_1 (l0_0.length:Int))).f1)) else(none)) else(none))) else(if a0_2.size + 4≤9223372036854775807 then((zau.f k a0_3 4).bind fun t106=>(if (a0_2++(⟨#[100,114,97,119]⟩:ByteArray)).size + (strOfNums t106).size≤9223372036854775807 then((zcm.f ((a0_2++(⟨#[100,114,97,119]⟩:ByteArray))++(strOfNums t106))).bind fun t109=>(if 0≤8 then(if 8≤(t109.size:Int) then((zbg.f k (t109.extract 0 8)).bind fun t110=>(if 8≤16 then(if 16≤(t109.size:Int) then((zbg.f k (t109.extract 8 16)).bind fun t111=>(some (l0_0,a0_1,a0_2,wrap64 (a0_3 + 1),t110,t111))) else(none)) else(none))) else(none)) else(none))) else(none))) else(none)))=some (r1,r2,r3,r4,r5,r6):=h
 clear h
 by_cases c2:(l0_0.length:Int)>0
 ·
  rw [if_pos c2] at H
  have c2b0:decide (0<(l0_0.length:Int))=true:=decide_eq_true c2
  have c2b1:decide (0<l0_0.length)=true:=decide_eq_true (by omega)
  clear c2
  by_cases c3:(l0_0.length:Int)=0
  ·
   rw [if_pos c3] at H
   exact absurd H (by simp)
  ·
   rw [if_neg c3] at H
   have c3b0:((l0_0.length:Int) == 0)=false:=beq_eq_false_iff_ne.mpr c3
   have c3b1:((l0_0.length:Int) != 0)=true:=bne_iff_ne.mpr c3
   have c3b2:¬(l0_0=[]):=fun h_=>c3 (by rw [h_];rfl)
   obtain⟨ji4,hji4⟩:∃ j_:Int,(Int.tmod a0_1 (l0_0.length:Int))=j_:=⟨_,rfl⟩
   replace H:(if 0≤(ji4) then(if (ji4)<(l0_0.length:Int) then(some (l0_0,wrap64 (a0_1 + 1),a0_2,a0_3,(zan l0_0 (ji4)).f0,(zan l0_0 (ji4)).f1)) else(none)) else(none))=some (r1,r2,r3,r4,r5,r6):=by first|(rw [hji4] at H;exact H)|(simp only [hji4] at H ⊢;exact H)
   by_cases c5:0≤(ji4)
   ·
    rw [if_pos c5] at H
    have c5b0:decide (0≤(ji4))=true:=decide_eq_true c5
    clear c5
    by_cases c6:(ji4)<(l0_0.length:Int)
    ·
     rw [if_pos c6] at H
     have c6b0:decide ((ji4)<(l0_0.length:Int))=true:=decide_eq_true c6
     clear c6
     simp only [Option.some.injEq,Prod.mk.injEq] at H
     obtain⟨rfl,rfl,rfl,rfl,rfl,rfl⟩:=H
     obtain⟨Ao7,co7,eo7⟩:=Kd.zb0 HO0_0.out
     subst eo7
     go_enter Try.func118,Try.ntmps118
     try go_wp2_with (first|((with_reducible refine zad (N:=1) rfl ?_);refine zae rfl (N:=1) rfl (cs:=#[.slice Ao7 l0_0.length co7,.int .i64 a0_1,.string a0_2,.int .i64 a0_3]) (t:=27) bx_ ?_;intro gb101 hg w8 hbox hb;replace HO0_0:=am_ (Kd.zdr qz20_ hb);replace BK101:=am_ (hbox);replace GW101:=am_ ((by rw [hg];exact qz21_:w.heap.size≤gb101));replace HK:=am_ (Kept.below (S:=(fun k_=>P0_0_ k_)) qz6_ hb);replace GE101:=am_ ((by rw [hg];exact(zac qz4_):w0.heap.size≤gb101));replace HB:=am_ (zaj qz4_ hb);clear hb hbox hg)|((with_reducible refine zad (N:=2) rfl ?_);refine zae rfl (N:=2) rfl (cs:=#[.slice none 0 0,.int .i64 0,.string (⟨#[]⟩:ByteArray),.int .i64 0]) (t:=27) bx_ ?_;intro gb102 hg w9 hbox hb;replace HO0_0:=am_ (Kd.zdr qz20_ hb);replace BK102:=am_ (hbox);replace GW102:=am_ ((by rw [hg];exact qz35_:w.heap.size≤gb102));replace HK:=am_ (Kept.below (S:=(fun k_=>P0_0_ k_)) qz22_ hb);replace GE102:=am_ ((by rw [hg];exact(zac qz14_):w0.heap.size≤gb102));replace HB:=am_ (zaj qz14_ hb);replace NB101_102:=am_ ((by rw [hg];exact Nat.ne_of_lt (zar (g:=gb101) (o:=.cells #[.slice Ao7 l0_0.length co7,.int .i64 a0_1,.string a0_2,.int .i64 a0_3] 27 (0,0)) qz13_):gb101≠gb102));replace NB102_101:=am_ ((by rw [hg];exact Nat.ne_of_gt (zar (g:=gb101) (o:=.cells #[.slice Ao7 l0_0.length co7,.int .i64 a0_1,.string a0_2,.int .i64 a0_3] 27 (0,0)) qz13_):gb102≠gb101));replace BK101:=am_ (zak (g:=gb101) (o:=.cells #[.slice Ao7 l0_0.length co7,.int .i64 a0_1,.string a0_2,.int .i64 a0_3] 27 (0,0)) qz13_ hb);clear hb hbox hg)|((with_reducible refine zad (N:=3) rfl ?_);refine zae rfl (N:=3) rfl (cs:=#[.int .i64 0,.int .i64 0]) (t:=34) bx_ ?_;intro gb103 hg w10 hbox hb;replace HO0_0:=am_ (Kd.zdr (Kd.zj9 qz20_ gb103 (Nat.le_of_eq hg.symm)) hb);replace BK103:=am_ (hbox);replace GW103:=am_ ((by rw [hg];exact qz36_:w.heap.size≤gb103));replace HK:=am_ (Kept.below (S:=(fun k_=>P0_0_ k_)) qz37_ hb);replace GE103:=am_ ((by rw [hg];exact(zac qz16_):w0.heap.size≤gb103));replace HB:=am_ (zaj qz16_ hb);replace NB101_103:=am_ ((by rw [hg];exact Nat.ne_of_lt (zar (g:=gb101) (o:=.cells #[.slice Ao7 l0_0.length co7,.int .i64 a0_1,.string a0_2,.int .i64 a0_3] 27 (0,0)) qz13_):gb101≠gb103));replace NB103_101:=am_ ((by rw [hg];exact Nat.ne_of_gt (zar (g:=gb101) (o:=.cells #[.slice Ao7 l0_0.length co7,.int .i64 a0_1,.string a0_2,.int .i64 a0_3] 27 (0,0)) qz13_):gb103≠gb101));replace BK101:=am_ (zak (g:=gb101) (o:=.cells #[.slice Ao7 l0_0.length co7,.int .i64 a0_1,.string a0_2,.int .i64 a0_3] 27 (0,0)) qz13_ hb);replace NB102_103:=am_ ((by rw [hg];exact Nat.ne_of_lt (zar (g:=gb102) (o:=.cells #[.slice none 0 0,.int .i64 0,.string (⟨#[]⟩:ByteArray),.int .i64 0] 27 (0,0)) qz15_):gb102≠gb103));replace NB103_102:=am_ ((by rw [hg];exact Nat.ne_of_gt (zar (g:=gb102) (o:=.cells #[.slice none 0 0,.int .i64 0,.string (⟨#[]⟩:ByteArray),.int .i64 0] 27 (0,0)) qz15_):gb103≠gb102));replace BK102:=am_ (zak (g:=gb102) (o:=.cells #[.slice none 0 0,.int .i64 0,.string (⟨#[]⟩:ByteArray),.int .i64 0] 27 (0,0)) qz15_ hb);clear hb hbox hg;have hnb11:=NB101_102.out;have hnc11:=NB102_101.out;have hnb12:=NB101_103.out;have hnc12:=NB103_101.out;have hcz13_0:w10.cell? ⟨gb101,0,none⟩=some (.slice Ao7 l0_0.length co7):=(zaa BK101.out 0).trans rfl;have hcz13_1:w10.cell? ⟨gb101,1,none⟩=some (.int .i64 a0_1):=(zaa BK101.out 1).trans rfl;have hcz13_2:w10.cell? ⟨gb101,2,none⟩=some (.string a0_2):=(zaa BK101.out 2).trans rfl;have hcz13_3:w10.cell? ⟨gb101,3,none⟩=some (.int .i64 a0_3):=(zaa BK101.out 3).trans rfl;have hfz13_0:=zab BK101.out 0;have hfz13_1:=zab BK101.out 1;have hfz13_2:=zab BK101.out 2;have hfz13_3:=zab BK101.out 3))
     replace HO0_0:=am_ (Kd.zch HO0_0.out)
     replace BK101:=am_ (zaf BK101.out)
     replace BK102:=am_ (zaf BK102.out)
     replace BK103:=am_ (zaf BK103.out)
     replace HK:=am_ (Kept.drew HK.out)
     replace HB:=am_ (zat HB.out)
     have p104:0≤((ji4):Int):=of_decide_eq_true qz11_
     have q104:(ji4)<(l0_0.length:Int):=of_decide_eq_true qz11_
     obtain⟨ad104,e104,hx104_0,hx104_1⟩:=zey (Kd.R_reads' HO0_0.out).2.2 (ji4) p104 q104
     cases e104
     replace p104:=eq_true p104
     replace q104:=eq_true q104
     refine zcb (n:=12) (S:=fun w'=>w'.cell? ⟨gb101,0,none⟩=some (.slice (some ad104) l0_0.length co7)∧w'.cell? ⟨gb101,1,none⟩=some (.int .i64 a0_1)∧w'.cell? ⟨gb101,2,none⟩=some (.string a0_2)∧w'.cell? ⟨gb101,3,none⟩=some (.int .i64 a0_3)∧w'.cell? (ad104.add (((ji4)).toNat * 2))=some (.int .i64 ((zan l0_0 (ji4)).f0))∧w'.cell? ⟨(ad104.add (((ji4)).toNat * 2)).block,(ad104.add (((ji4)).toNat * 2)).off + 1,none⟩=some (.int .i64 ((zan l0_0 (ji4)).f1))) (ds:=[]) (bs_ 12 0) (by kernel_rfl) rfl rfl ⟨(zaa BK101.out 0).trans rfl,(zaa BK101.out 1).trans rfl,(zaa BK101.out 2).trans rfl,(zaa BK101.out 3).trans rfl,hx104_0,hx104_1⟩ (fun hHeld=>?_);refine zcr za2.tab2 za2.bits2 (fun HT_ HW_=>?_)
     generalize w10.drew=w14 at HO0_0 BK101 BK102 BK103 HK HB hx104_0 hx104_1 hHeld ⊢
     refine pt_ HT_.out 0 10 (bs_ 12 1) ?_
     refine pt_ HT_.out 2 12 (bs_ 12 5) ?_
     refine pt_ HT_.out 4 14 (bs_ 12 21) ?_
     refine take_ (i:=1) (N:=some 11) (v:=?_) (a':=?_) (bs_ 12 23) rfl rfl (zba HT_.out HW_.out (by kernel_rfl)) (fun _ _ _ h=>h) (Or.inl ⟨(by rfl),?_⟩) hHeld ?_ ?_
     rotate_left
     ·
      rintro w' ⟨s0,s1,s2,s3,s4,s5⟩
      go_simp
      with_reducible rfl
     rotate_left
     ·
      exact ap_
     refine take_ (i:=3) (N:=some 13) (v:=?_) (a':=?_) (bs_ 12 31) rfl rfl (zba HT_.out HW_.out (by kernel_rfl)) (fun _ _ _ h=>h) (Or.inl ⟨(by rfl),?_⟩) hHeld ?_ ?_
     rotate_left
     ·
      rintro w' ⟨s0,s1,s2,s3,s4,s5⟩
      go_simp
      with_reducible rfl
     rotate_left
     ·
      exact ap_
     refine take_ (i:=5) (N:=some 15) (v:=?_) (a':=?_) (bs_ 12 63) rfl rfl (zba HT_.out HW_.out (by kernel_rfl)) (fun _ _ _ h=>h) (Or.inl ⟨(by rfl),?_⟩) hHeld ?_ ?_
     rotate_left
     ·
      rintro w' ⟨s0,s1,s2,s3,s4,s5⟩
      go_simp
      with_reducible rfl
     rotate_left
     ·
      exact ap_
     refine pt_ HT_.out 6 16 (bs_ 12 127) ?_
     refine pt_ HT_.out 7 17 (bs_ 12 255) ?_
     refine pt_ HT_.out 8 18 (bs_ 12 511) ?_
     refine take_ (i:=9) (N:=some 19) (v:=?_) (a':=?_) (bs_ 12 1023) rfl rfl (zba HT_.out HW_.out (by kernel_rfl)) (fun _ _ _ h=>h) (Or.inl ⟨(by rfl),?_⟩) hHeld ?_ ?_
     rotate_left
     ·
      rintro w' ⟨s0,s1,s2,s3,s4,s5⟩
      go_simp
      with_reducible rfl
     rotate_left
     ·
      exact ap_
     refine one_ (i:=10) (N:=some 4) (bs_ 12 2047) rfl rfl (zbx HT_.out (by kernel_rfl)) (by decide) (fun K hK=>?_)
     refine box_step ?hg (N:=4) ?hd (cs:=#[.int .i64 0,.int .i64 0]) (t:=34) ?hr ?_;(case hd=>rfl);(case hg=>rfl);(case hr=>first|(go_simp;done)|(go_simp;rfl))
     intro gb105 hg w15 hbox hb
     have HS4_:=(hb.cell (World.block_lt_of_cell? _ _ (hHeld.2.2.2.2.1))).trans (hHeld.2.2.2.2.1)
     have HS5_:=(hb.cell (World.block_lt_of_cell? _ _ (hHeld.2.2.2.2.2))).trans (hHeld.2.2.2.2.2)
     replace HO0_0:=am_ (Kd.zdr (Kd.zj9 qz20_ gb105 (Nat.le_of_eq hg.symm)) hb)
     replace BK105:=am_ (hbox)
     replace GW105:=am_ ((by rw [hg];exact(by first|exact HK.out.1|exact(show Kept w _ (fun k_=>P0_0_ k_) from by repeat(first|(with_reducible first|exact HK.out|apply Kept.alloc|apply Kept.drewN|apply Kept.drew|refine Kept.setCell ?_ (.inr GW101.out) _|refine Kept.setCell ?_ (.inr GW102.out) _|refine Kept.setCell ?_ (.inr GW103.out) _)|exact HK.out)).1):w.heap.size≤gb105))
     replace HK:=am_ (Kept.below (S:=(fun k_=>P0_0_ k_)) qz38_ hb)
     replace GE105:=am_ ((by rw [hg];exact(zac qz17_):w0.heap.size≤gb105))
     replace HB:=am_ (zaj qz17_ hb)
     replace NB101_105:=am_ ((by rw [hg];exact Nat.ne_of_lt (zar (g:=gb101) (o:=.cells #[.slice (some ad104) l0_0.length co7,.int .i64 a0_1,.string a0_2,.int .i64 a0_3] 27 (0,0)) qz13_):gb101≠gb105))
     replace NB105_101:=am_ ((by rw [hg];exact Nat.ne_of_gt (zar (g:=gb101) (o:=.cells #[.slice (some ad104) l0_0.length co7,.int .i64 a0_1,.string a0_2,.int .i64 a0_3] 27 (0,0)) qz13_):gb105≠gb101))
     replace BK101:=am_ (zak (g:=gb101) (o:=.cells #[.slice (some ad104) l0_0.length co7,.int .i64 a0_1,.string a0_2,.int .i64 a0_3] 27 (0,0)) qz13_ hb)
     replace NB102_105:=am_ ((by rw [hg];exact Nat.ne_of_lt (zar (g:=gb102) (o:=.cells #[.slice none 0 0,.int .i64 0,.string (⟨#[]⟩:ByteArray),.int .i64 0] 27 (0,0)) qz15_):gb102≠gb105))
     replace NB105_102:=am_ ((by rw [hg];exact Nat.ne_of_gt (zar (g:=gb102) (o:=.cells #[.slice none 0 0,.int .i64 0,.string (⟨#[]⟩:ByteArray),.int .i64 0] 27 (0,0)) qz15_):gb105≠gb102))
     replace BK102:=am_ (zak (g:=gb102) (o:=.cells #[.slice none 0 0,.int .i64 0,.string (⟨#[]⟩:ByteArray),.int .i64 0] 27 (0,0)) qz15_ hb)
     replace NB103_105:=am_ ((by rw [hg];exact Nat.ne_of_lt (zar (g:=gb103) (o:=.cells #[.int .i64 0,.int .i64 0] 34 (0,0)) qz19_):gb103≠gb105))
     replace NB105_103:=am_ ((by rw [hg];exact Nat.ne_of_gt (zar (g:=gb103) (o:=.cells #[.int .i64 0,.int .i64 0] 34 (0,0)) qz19_):gb105≠gb103))
     replace BK103:=am_ (zak (g:=gb103) (o:=.cells #[.int .i64 0,.int .i64 0] 34 (0,0)) qz19_ hb)
     clear hb hbox hg
     refine hK.out _ _ ⟨(zaa BK101.out 0).trans rfl,(zaa BK101.out 1).trans rfl,(zaa BK101.out 2).trans rfl,(zaa BK101.out 3).trans rfl,HS4_,HS5_⟩ (fun hHeld=>?_)
     clear hK K
     refine norm_ (a':=?_) ?_ ?_
     rotate_left
     ·
      show Act.put _ (some 4) _=_
      exact ap_
     refine one_ (i:=11) (N:=none) (bs_ 12 4095) rfl rfl (zbx HT_.out (by kernel_rfl)) (by decide) (fun K hK=>?_)
     have hs16:w15.cell? ⟨gb105,0,none⟩=some (.int .i64 0):=(zaa BK105.out 0).trans rfl
     have hfs16:=zab BK105.out 0
     have hns16_0:=NB101_105.out
     have hns16_1:=NB102_105.out
     have hns16_2:=NB103_105.out
     have hms16_0:=NB105_101.out
     have hms16_1:=NB105_102.out
     have hms16_2:=NB105_103.out
     have hs17:w15.cell? ⟨gb105,1,none⟩=some (.int .i64 0):=(zaa BK105.out 1).trans rfl
     have hfs17:=zab BK105.out 1
     have hns17_0:=NB101_105.out
     have hns17_1:=NB102_105.out
     have hns17_2:=NB103_105.out
     have hms17_0:=NB105_101.out
     have hms17_1:=NB105_102.out
     have hms17_2:=NB105_103.out
     refine skip_ (w1:=?_) (by rfl) rfl ?_ ?_
     rotate_left
     ·
      go_simp
      rfl
     refine hK.out _ _ ⟨((cell_far (p:=⟨gb105,_,none⟩) NB101_105.out _).trans (((cell_far (p:=⟨gb105,_,none⟩) NB101_105.out _).trans (hHeld.1)))),((cell_far (p:=⟨gb105,_,none⟩) NB101_105.out _).trans (((cell_far (p:=⟨gb105,_,none⟩) NB101_105.out _).trans (hHeld.2.1)))),((cell_far (p:=⟨gb105,_,none⟩) NB101_105.out _).trans (((cell_far (p:=⟨gb105,_,none⟩) NB101_105.out _).trans (hHeld.2.2.1)))),((cell_far (p:=⟨gb105,_,none⟩) NB101_105.out _).trans (((cell_far (p:=⟨gb105,_,none⟩) NB101_105.out _).trans (hHeld.2.2.2.1)))),((cell_far (p:=⟨gb105,_,none⟩) qz39_ _).trans (((cell_far (p:=⟨gb105,_,none⟩) qz39_ _).trans (hHeld.2.2.2.2.1)))),((cell_far (p:=⟨gb105,_,none⟩) qz39_ _).trans (((cell_far (p:=⟨gb105,_,none⟩) qz39_ _).trans (hHeld.2.2.2.2.2))))⟩ (fun hHeld=>?_)
     clear hK K
     refine done_ (zej HT_.out (by kernel_rfl)) ?_
     have hnb18:=NB101_105.out
     have hnc18:=NB105_101.out
     have hcz19_0:w15.cell? ⟨gb101,0,none⟩=some (.slice (some ad104) l0_0.length co7):=(zaa BK101.out 0).trans rfl
     have hcz19_1:w15.cell? ⟨gb101,1,none⟩=some (.int .i64 a0_1):=(zaa BK101.out 1).trans rfl
     have hcz19_2:w15.cell? ⟨gb101,2,none⟩=some (.string a0_2):=(zaa BK101.out 2).trans rfl
     have hcz19_3:w15.cell? ⟨gb101,3,none⟩=some (.int .i64 a0_3):=(zaa BK101.out 3).trans rfl
     have hfz19_0:=zab BK101.out 0
     have hfz19_1:=zab BK101.out 1
     have hfz19_2:=zab BK101.out 2
     have hfz19_3:=zab BK101.out 3
     try go_wp2
     have n0_:zal (Kd.R k34 34 (((w15.setCell ⟨gb105,0,none⟩ (.int .i64 ((zan l0_0 (ji4)).f0))).setCell ⟨gb105,1,none⟩ (.int .i64 ((zan l0_0 (ji4)).f1))).setCell ⟨gb101,1,none⟩ (.int .i64 (wrap64 (a0_1 + 1)))) w0.heap.size (fun k_=>(P0_0_ k_∨w.heap.size≤k_)∧k_≠gb103∧k_≠gb105) (.slice (some ad104) l0_0.length co7) l0_0):=⟨by(with_reducible repeat(first|apply Kd.zb3|apply Kd.zb4|apply Kd.zch));exact Kd.zbi (Kd.R_far (p:=⟨gb101,1,none⟩) (Kd.R_far (p:=⟨gb105,1,none⟩) (Kd.R_far (p:=⟨gb105,0,none⟩) (Kd.zep (Kd.zbi HO0_0.out (fun k_ hk=>(⟨hk,hk.2⟩:_∧k_≠gb105))) BK101.out (by decide)) (fun _ hk=>hk.1.2) (.int .i64 ((zan l0_0 (ji4)).f0))) (fun _ hk=>hk.1.2) (.int .i64 ((zan l0_0 (ji4)).f1))) (fun _ hk=>hk.2) (.int .i64 (wrap64 (a0_1 + 1)))) (fun _ hk=>⟨hk.1.1.1.1,⟨hk.1.1.1.2,hk.1.1.2⟩⟩)⟩
     have n1_:zal ((((w15.setCell ⟨gb105,0,none⟩ (.int .i64 ((zan l0_0 (ji4)).f0))).setCell ⟨gb105,1,none⟩ (.int .i64 ((zan l0_0 (ji4)).f1))).setCell ⟨gb101,1,none⟩ (.int .i64 (wrap64 (a0_1 + 1)))).heap[gb101]?=some (.cells #[.slice (some ad104) l0_0.length co7,.int .i64 (wrap64 (a0_1 + 1)),.string a0_2,.int .i64 a0_3] 27 (0,0))):=⟨(by(with_reducible repeat(first|refine zah ?_ _|refine zaf ?_|refine zai ?_ _));refine za9 (cs:=#[.slice (some ad104) l0_0.length co7,.int .i64 a0_1,.string a0_2,.int .i64 a0_3]) ?_ 1 _ rfl;(with_reducible repeat(first|refine zah ?_ _|refine zaf ?_|refine zai ?_ _));refine zbc ?_ NB101_105.out _;(with_reducible repeat(first|refine zah ?_ _|refine zaf ?_|refine zai ?_ _));refine zbc ?_ NB101_105.out _;(with_reducible repeat(first|refine zah ?_ _|refine zaf ?_|refine zai ?_ _));exact BK101.out)⟩
     have n2_:zal ((((w15.setCell ⟨gb105,0,none⟩ (.int .i64 ((zan l0_0 (ji4)).f0))).setCell ⟨gb105,1,none⟩ (.int .i64 ((zan l0_0 (ji4)).f1))).setCell ⟨gb101,1,none⟩ (.int .i64 (wrap64 (a0_1 + 1)))).heap[gb102]?=some (.cells #[.slice none 0 0,.int .i64 0,.string (⟨#[]⟩:ByteArray),.int .i64 0] 27 (0,0))):=⟨(by(with_reducible repeat(first|refine zah ?_ _|refine zaf ?_|refine zai ?_ _));refine zbc ?_ NB102_101.out _;(with_reducible repeat(first|refine zah ?_ _|refine zaf ?_|refine zai ?_ _));refine zbc ?_ NB102_105.out _;(with_reducible repeat(first|refine zah ?_ _|refine zaf ?_|refine zai ?_ _));refine zbc ?_ NB102_105.out _;(with_reducible repeat(first|refine zah ?_ _|refine zaf ?_|refine zai ?_ _));exact BK102.out)⟩
     have n3_:zal ((((w15.setCell ⟨gb105,0,none⟩ (.int .i64 ((zan l0_0 (ji4)).f0))).setCell ⟨gb105,1,none⟩ (.int .i64 ((zan l0_0 (ji4)).f1))).setCell ⟨gb101,1,none⟩ (.int .i64 (wrap64 (a0_1 + 1)))).heap[gb103]?=some (.cells #[.int .i64 0,.int .i64 0] 34 (0,0))):=⟨(by(with_reducible repeat(first|refine zah ?_ _|refine zaf ?_|refine zai ?_ _));refine zbc ?_ NB103_101.out _;(with_reducible repeat(first|refine zah ?_ _|refine zaf ?_|refine zai ?_ _));refine zbc ?_ NB103_105.out _;(with_reducible repeat(first|refine zah ?_ _|refine zaf ?_|refine zai ?_ _));refine zbc ?_ NB103_105.out _;(with_reducible repeat(first|refine zah ?_ _|refine zaf ?_|refine zai ?_ _));exact BK103.out)⟩
     have n4_:zal ((((w15.setCell ⟨gb105,0,none⟩ (.int .i64 ((zan l0_0 (ji4)).f0))).setCell ⟨gb105,1,none⟩ (.int .i64 ((zan l0_0 (ji4)).f1))).setCell ⟨gb101,1,none⟩ (.int .i64 (wrap64 (a0_1 + 1)))).heap[gb105]?=some (.cells #[.int .i64 ((zan l0_0 (ji4)).f0),.int .i64 ((zan l0_0 (ji4)).f1)] 34 (0,0))):=⟨(by(with_reducible repeat(first|refine zah ?_ _|refine zaf ?_|refine zai ?_ _));refine zbc ?_ NB105_101.out _;(with_reducible repeat(first|refine zah ?_ _|refine zaf ?_|refine zai ?_ _));refine za9 (cs:=#[.int .i64 ((zan l0_0 (ji4)).f0),.int .i64 0]) ?_ 1 _ rfl;(with_reducible repeat(first|refine zah ?_ _|refine zaf ?_|refine zai ?_ _));refine za9 (cs:=#[.int .i64 0,.int .i64 0]) ?_ 0 _ rfl;(with_reducible repeat(first|refine zah ?_ _|refine zaf ?_|refine zai ?_ _));exact BK105.out)⟩
     have n5_:zal (Kept w (((w15.setCell ⟨gb105,0,none⟩ (.int .i64 ((zan l0_0 (ji4)).f0))).setCell ⟨gb105,1,none⟩ (.int .i64 ((zan l0_0 (ji4)).f1))).setCell ⟨gb101,1,none⟩ (.int .i64 (wrap64 (a0_1 + 1)))) (fun k_=>P0_0_ k_)):=⟨(by repeat(first|(with_reducible first|exact HK.out|apply Kept.alloc|apply Kept.drewN|apply Kept.drew|refine Kept.setCell ?_ (.inr GW101.out) _|refine Kept.setCell ?_ (.inr GW102.out) _|refine Kept.setCell ?_ (.inr GW103.out) _|refine Kept.setCell ?_ (.inr GW105.out) _)|exact HK.out))⟩
     have n6_:zal (Below w0.heap.size w0 (((w15.setCell ⟨gb105,0,none⟩ (.int .i64 ((zan l0_0 (ji4)).f0))).setCell ⟨gb105,1,none⟩ (.int .i64 ((zan l0_0 (ji4)).f1))).setCell ⟨gb101,1,none⟩ (.int .i64 (wrap64 (a0_1 + 1))))):=⟨qz32_⟩
     (try clear HO0_0)
     (try clear BK101)
     (try clear BK102)
     (try clear BK103)
     (try clear BK105)
     (try clear HK)
     (try clear HB)
     generalize (((w15.setCell ⟨gb105,0,none⟩ (.int .i64 ((zan l0_0 (ji4)).f0))).setCell ⟨gb105,1,none⟩ (.int .i64 ((zan l0_0 (ji4)).f1))).setCell ⟨gb101,1,none⟩ (.int .i64 (wrap64 (a0_1 + 1))))=w20 at n0_ n1_ n2_ n3_ n4_ n5_ n6_ ⊢
     have HO0_0:=n0_
     have BK101:=n1_
     have BK102:=n2_
     have BK103:=n3_
     have BK105:=n4_
     have HK:=n5_
     have HB:=n6_
     clear n0_ n1_ n2_ n3_ n4_ n5_ n6_
     replace HO0_0:=am_ (Kd.zch HO0_0.out)
     replace BK101:=am_ (zaf BK101.out)
     replace BK102:=am_ (zaf BK102.out)
     replace BK103:=am_ (zaf BK103.out)
     replace BK105:=am_ (zaf BK105.out)
     replace HK:=am_ (Kept.drew HK.out)
     replace HB:=am_ (zat HB.out)
     refine zcb (n:=4) (S:=fun w'=>w'.cell? ⟨gb101,0,none⟩=some (.slice (some ad104) l0_0.length co7)∧w'.cell? ⟨gb101,1,none⟩=some (.int .i64 (wrap64 (a0_1 + 1)))∧w'.cell? ⟨gb101,2,none⟩=some (.string a0_2)∧w'.cell? ⟨gb101,3,none⟩=some (.int .i64 a0_3)∧w'.cell? ⟨gb105,0,none⟩=some (.int .i64 ((zan l0_0 (ji4)).f0))∧w'.cell? ⟨gb105,1,none⟩=some (.int .i64 ((zan l0_0 (ji4)).f1))) (ds:=[]) (bs_ 4 0) (by kernel_rfl) rfl rfl ⟨(zaa BK101.out 0).trans rfl,(zaa BK101.out 1).trans rfl,(zaa BK101.out 2).trans rfl,(zaa BK101.out 3).trans rfl,(zaa BK105.out 0).trans rfl,(zaa BK105.out 1).trans rfl⟩ (fun hHeld=>?_)
     generalize w20.drew=w21 at HO0_0 BK101 BK102 BK103 BK105 HK HB hHeld ⊢
     refine take_ (i:=0) (N:=some 24) (v:=?_) (a':=?_) (bs_ 4 1) rfl rfl (by kernel_rfl) (fun _ _ _ h=>h) (Or.inl ⟨(by rfl),?_⟩) hHeld ?_ ?_
     rotate_left
     ·
      rintro w' ⟨s0,s1,s2,s3,s4,s5⟩
      go_simp
      with_reducible rfl
     rotate_left
     ·
      exact ap_
     refine take_ (i:=1) (N:=some 25) (v:=?_) (a':=?_) (bs_ 4 3) rfl rfl (by kernel_rfl) (fun _ _ _ h=>h) (Or.inl ⟨(by rfl),?_⟩) hHeld ?_ ?_
     rotate_left
     ·
      rintro w' ⟨s0,s1,s2,s3,s4,s5⟩
      go_simp
      with_reducible rfl
     rotate_left
     ·
      exact ap_
     refine one_ (i:=2) (N:=none) (bs_ 4 7) rfl rfl (by kernel_rfl) (by decide) (fun K hK=>?_)
     have hs22:w21.cell? ⟨gb102,0,none⟩=some (.slice none 0 0):=(zaa BK102.out 0).trans rfl
     have hfs22:=zab BK102.out 0
     have hns22_0:=NB101_102.out
     have hns22_2:=NB103_102.out
     have hns22_3:=NB105_102.out
     have hms22_0:=NB102_101.out
     have hms22_2:=NB102_103.out
     have hms22_3:=NB102_105.out
     have hs23:w21.cell? ⟨gb102,1,none⟩=some (.int .i64 0):=(zaa BK102.out 1).trans rfl
     have hfs23:=zab BK102.out 1
     have hns23_0:=NB101_102.out
     have hns23_2:=NB103_102.out
     have hns23_3:=NB105_102.out
     have hms23_0:=NB102_101.out
     have hms23_2:=NB102_103.out
     have hms23_3:=NB102_105.out
     have hs24:w21.cell? ⟨gb102,2,none⟩=some (.string (⟨#[]⟩:ByteArray)):=(zaa BK102.out 2).trans rfl
     have hfs24:=zab BK102.out 2
     have hns24_0:=NB101_102.out
     have hns24_2:=NB103_102.out
     have hns24_3:=NB105_102.out
     have hms24_0:=NB102_101.out
     have hms24_2:=NB102_103.out
     have hms24_3:=NB102_105.out
     have hs25:w21.cell? ⟨gb102,3,none⟩=some (.int .i64 0):=(zaa BK102.out 3).trans rfl
     have hfs25:=zab BK102.out 3
     have hns25_0:=NB101_102.out
     have hns25_2:=NB103_102.out
     have hns25_3:=NB105_102.out
     have hms25_0:=NB102_101.out
     have hms25_2:=NB102_103.out
     have hms25_3:=NB102_105.out
     refine skip_ (w1:=?_) (by rfl) rfl ?_ ?_
     rotate_left
     ·
      go_simp
      rfl
     refine hK.out _ _ ⟨((cell_far (p:=⟨gb102,_,none⟩) NB101_102.out _).trans (((cell_far (p:=⟨gb102,_,none⟩) NB101_102.out _).trans (((cell_far (p:=⟨gb102,_,none⟩) NB101_102.out _).trans (((cell_far (p:=⟨gb102,_,none⟩) NB101_102.out _).trans (hHeld.1)))))))),((cell_far (p:=⟨gb102,_,none⟩) NB101_102.out _).trans (((cell_far (p:=⟨gb102,_,none⟩) NB101_102.out _).trans (((cell_far (p:=⟨gb102,_,none⟩) NB101_102.out _).trans (((cell_far (p:=⟨gb102,_,none⟩) NB101_102.out _).trans (hHeld.2.1)))))))),((cell_far (p:=⟨gb102,_,none⟩) NB101_102.out _).trans (((cell_far (p:=⟨gb102,_,none⟩) NB101_102.out _).trans (((cell_far (p:=⟨gb102,_,none⟩) NB101_102.out _).trans (((cell_far (p:=⟨gb102,_,none⟩) NB101_102.out _).trans (hHeld.2.2.1)))))))),((cell_far (p:=⟨gb102,_,none⟩) NB101_102.out _).trans (((cell_far (p:=⟨gb102,_,none⟩) NB101_102.out _).trans (((cell_far (p:=⟨gb102,_,none⟩) NB101_102.out _).trans (((cell_far (p:=⟨gb102,_,none⟩) NB101_102.out _).trans (hHeld.2.2.2.1)))))))),((cell_far (p:=⟨gb102,_,none⟩) NB105_102.out _).trans (((cell_far (p:=⟨gb102,_,none⟩) NB105_102.out _).trans (((cell_far (p:=⟨gb102,_,none⟩) NB105_102.out _).trans (((cell_far (p:=⟨gb102,_,none⟩) NB105_102.out _).trans (hHeld.2.2.2.2.1)))))))),((cell_far (p:=⟨gb102,_,none⟩) NB105_102.out _).trans (((cell_far (p:=⟨gb102,_,none⟩) NB105_102.out _).trans (((cell_far (p:=⟨gb102,_,none⟩) NB105_102.out _).trans (((cell_far (p:=⟨gb102,_,none⟩) NB105_102.out _).trans (hHeld.2.2.2.2.2))))))))⟩ (fun hHeld=>?_)
     clear hK K
     refine one_ (i:=3) (N:=none) (bs_ 4 15) rfl rfl (by kernel_rfl) (by decide) (fun K hK=>?_)
     have hs26:w21.cell? ⟨gb103,0,none⟩=some (.int .i64 0):=(zaa BK103.out 0).trans rfl
     have hfs26:=zab BK103.out 0
     have hns26_0:=NB101_103.out
     have hns26_1:=NB102_103.out
     have hns26_3:=NB105_103.out
     have hms26_0:=NB103_101.out
     have hms26_1:=NB103_102.out
     have hms26_3:=NB103_105.out
     have hs27:w21.cell? ⟨gb103,1,none⟩=some (.int .i64 0):=(zaa BK103.out 1).trans rfl
     have hfs27:=zab BK103.out 1
     have hns27_0:=NB101_103.out
     have hns27_1:=NB102_103.out
     have hns27_3:=NB105_103.out
     have hms27_0:=NB103_101.out
     have hms27_1:=NB103_102.out
     have hms27_3:=NB103_105.out
     refine skip_ (w1:=?_) (by rfl) rfl ?_ ?_
     rotate_left
     ·
      go_simp
      rfl
     refine hK.out _ _ ⟨((cell_far (p:=⟨gb103,_,none⟩) NB101_103.out _).trans (((cell_far (p:=⟨gb103,_,none⟩) NB101_103.out _).trans (hHeld.1)))),((cell_far (p:=⟨gb103,_,none⟩) NB101_103.out _).trans (((cell_far (p:=⟨gb103,_,none⟩) NB101_103.out _).trans (hHeld.2.1)))),((cell_far (p:=⟨gb103,_,none⟩) NB101_103.out _).trans (((cell_far (p:=⟨gb103,_,none⟩) NB101_103.out _).trans (hHeld.2.2.1)))),((cell_far (p:=⟨gb103,_,none⟩) NB101_103.out _).trans (((cell_far (p:=⟨gb103,_,none⟩) NB101_103.out _).trans (hHeld.2.2.2.1)))),((cell_far (p:=⟨gb103,_,none⟩) NB105_103.out _).trans (((cell_far (p:=⟨gb103,_,none⟩) NB105_103.out _).trans (hHeld.2.2.2.2.1)))),((cell_far (p:=⟨gb103,_,none⟩) NB105_103.out _).trans (((cell_far (p:=⟨gb103,_,none⟩) NB105_103.out _).trans (hHeld.2.2.2.2.2))))⟩ (fun hHeld=>?_)
     clear hK K
     refine done_ (by kernel_rfl) ?_
     try go_wp2
     refine bodyPost_ret (zjo rfl _ _ gb102 gb103 27 34 #[.slice (some ad104) l0_0.length co7,.int .i64 (wrap64 (a0_1 + 1)),.string a0_2,.int .i64 a0_3] #[.int .i64 ((zan l0_0 (ji4)).f0),.int .i64 ((zan l0_0 (ji4)).f1)] (0,0) (0,0) _ _ rfl (by(with_reducible repeat(first|refine zah ?_ _|refine zaf ?_|refine zai ?_ _));refine zbc ?_ NB102_103.out _;(with_reducible repeat(first|refine zah ?_ _|refine zaf ?_|refine zai ?_ _));refine zbc ?_ NB102_103.out _;(with_reducible repeat(first|refine zah ?_ _|refine zaf ?_|refine zai ?_ _));refine za9 (cs:=#[.slice (some ad104) l0_0.length co7,.int .i64 (wrap64 (a0_1 + 1)),.string a0_2,.int .i64 0]) ?_ 3 _ rfl;(with_reducible repeat(first|refine zah ?_ _|refine zaf ?_|refine zai ?_ _));refine za9 (cs:=#[.slice (some ad104) l0_0.length co7,.int .i64 (wrap64 (a0_1 + 1)),.string (⟨#[]⟩:ByteArray),.int .i64 0]) ?_ 2 _ rfl;(with_reducible repeat(first|refine zah ?_ _|refine zaf ?_|refine zai ?_ _));refine za9 (cs:=#[.slice (some ad104) l0_0.length co7,.int .i64 0,.string (⟨#[]⟩:ByteArray),.int .i64 0]) ?_ 1 _ rfl;(with_reducible repeat(first|refine zah ?_ _|refine zaf ?_|refine zai ?_ _));refine za9 (cs:=#[.slice none 0 0,.int .i64 0,.string (⟨#[]⟩:ByteArray),.int .i64 0]) ?_ 0 _ rfl;(with_reducible repeat(first|refine zah ?_ _|refine zaf ?_|refine zai ?_ _));exact BK102.out) Try.underlying27 rfl (by kernel_rfl) rfl (by(with_reducible repeat(first|refine zah ?_ _|refine zaf ?_|refine zai ?_ _));refine za9 (cs:=#[.int .i64 ((zan l0_0 (ji4)).f0),.int .i64 0]) ?_ 1 _ rfl;(with_reducible repeat(first|refine zah ?_ _|refine zaf ?_|refine zai ?_ _));refine za9 (cs:=#[.int .i64 0,.int .i64 0]) ?_ 0 _ rfl;(with_reducible repeat(first|refine zah ?_ _|refine zaf ?_|refine zai ?_ _));refine zbc ?_ NB103_102.out _;(with_reducible repeat(first|refine zah ?_ _|refine zaf ?_|refine zai ?_ _));refine zbc ?_ NB103_102.out _;(with_reducible repeat(first|refine zah ?_ _|refine zaf ?_|refine zai ?_ _));refine zbc ?_ NB103_102.out _;(with_reducible repeat(first|refine zah ?_ _|refine zaf ?_|refine zai ?_ _));refine zbc ?_ NB103_102.out _;(with_reducible repeat(first|refine zah ?_ _|refine zaf ?_|refine zai ?_ _));exact BK103.out) Try.underlying34 rfl (by kernel_rfl)) rfl ?_
     exact⟨_,by first|rfl|(simp [zc3,zc2] <;> rfl)|(simp only [←hji4];first|rfl|(simp [zc3,zc2] <;> rfl))|(simp [*,zc3,zc2] <;> rfl),by(with_reducible repeat(first|apply Kd.zb3|apply Kd.zb4|apply Kd.zch));exact Kd.zbi (Kd.R_far (p:=⟨gb103,1,none⟩) (Kd.R_far (p:=⟨gb103,0,none⟩) (Kd.R_far (p:=⟨gb102,3,none⟩) (Kd.R_far (p:=⟨gb102,2,none⟩) (Kd.R_far (p:=⟨gb102,1,none⟩) (Kd.R_far (p:=⟨gb102,0,none⟩) (Kd.zbi (Kd.zep HO0_0.out BK102.out (by decide)) (fun k_ hk=>(⟨hk,hk.1.2.1⟩:_∧k_≠gb103))) (fun _ hk=>hk.1.2) (.slice (some ad104) l0_0.length co7)) (fun _ hk=>hk.1.2) (.int .i64 (wrap64 (a0_1 + 1)))) (fun _ hk=>hk.1.2) (.string a0_2)) (fun _ hk=>hk.1.2) (.int .i64 a0_3)) (fun _ hk=>hk.2) (.int .i64 ((zan l0_0 (ji4)).f0))) (fun _ hk=>hk.2) (.int .i64 ((zan l0_0 (ji4)).f1))) (fun _ hk=>hk.1.1.1),by repeat(first|(with_reducible first|exact HB.out|apply za0|apply zay|apply zat|refine za4 ?_ GE101.out|refine za4 ?_ GE102.out|refine za4 ?_ GE103.out|refine za4 ?_ GE105.out)|exact HB.out),by repeat(first|(with_reducible first|exact HK.out|apply Kept.alloc|apply Kept.drewN|apply Kept.drew|refine Kept.setCell ?_ (.inr GW101.out) _|refine Kept.setCell ?_ (.inr GW102.out) _|refine Kept.setCell ?_ (.inr GW103.out) _|refine Kept.setCell ?_ (.inr GW105.out) _)|exact HK.out)⟩
    ·
     rw [if_neg c6] at H
     exact absurd H (by simp)
   ·
    rw [if_neg c5] at H
    exact absurd H (by simp)
 ·
  rw [if_neg c2] at H
  have c2b0:decide (0<(l0_0.length:Int))=false:=decide_eq_false c2
  have c2b1:decide (0<l0_0.length)=false:=decide_eq_false (by omega)
  clear c2
  by_cases c28:a0_2.size + 4≤9223372036854775807
  ·
   rw [if_pos c28] at H
   have c28b0:=eq_true c28
   have c28b1:decide (a0_2.size + 4≤9223372036854775807)=true:=decide_eq_true c28
   try have c28b2:(9223372036854775807<a0_2.size + 4)=False:=eq_false (Nat.not_lt.2 c28)
   replace H:=Option.bind_eq_some_iff.mp H
   obtain⟨t106,A290,H⟩:=H
   replace H:(if (a0_2++(⟨#[100,114,97,119]⟩:ByteArray)).size + (strOfNums t106).size≤9223372036854775807 then((zcm.f ((a0_2++(⟨#[100,114,97,119]⟩:ByteArray))++(strOfNums t106))).bind fun t109=>(if 0≤8 then(if 8≤(t109.size:Int) then((zbg.f k (t109.extract 0 8)).bind fun t110=>(if 8≤16 then(if 16≤(t109.size:Int) then((zbg.f k (t109.extract 8 16)).bind fun t111=>(some (l0_0,a0_1,a0_2,wrap64 (a0_3 + 1),t110,t111))) else(none)) else(none))) else(none)) else(none))) else(none))=some (r1,r2,r3,r4,r5,r6):=H
   have A29:=am_ A290
   clear A290
   by_cases c30:(a0_2++(⟨#[100,114,97,119]⟩:ByteArray)).size + (strOfNums t106).size≤9223372036854775807
   ·
    rw [if_pos c30] at H
    have c30b0:=eq_true c30
    have c30b1:decide ((a0_2++(⟨#[100,114,97,119]⟩:ByteArray)).size + (strOfNums t106).size≤9223372036854775807)=true:=decide_eq_true c30
    try have c30b2:(9223372036854775807<(a0_2++(⟨#[100,114,97,119]⟩:ByteArray)).size + (strOfNums t106).size)=False:=eq_false (Nat.not_lt.2 c30)
    try have c30b3:(9223372036854775807<a0_2.size + 4 + (strOfNums t106).size)=False:=eq_false (Nat.not_lt.2 (by have h_:=c30;simp only [ByteArray.size_append] at h_;exact h_))
    replace H:=Option.bind_eq_some_iff.mp H
    obtain⟨t109,A310,H⟩:=H
    replace H:(if 0≤8 then(if 8≤(t109.size:Int) then((zbg.f k (t109.extract 0 8)).bind fun t110=>(if 8≤16 then(if 16≤(t109.size:Int) then((zbg.f k (t109.extract 8 16)).bind fun t111=>(some (l0_0,a0_1,a0_2,wrap64 (a0_3 + 1),t110,t111))) else(none)) else(none))) else(none)) else(none))=some (r1,r2,r3,r4,r5,r6):=H
    have A31:=am_ A310
    clear A310
    by_cases c32:0≤8
    ·
     rw [if_pos c32] at H
     have c32b0:=eq_true c32
     have c32b1:decide (0≤8)=true:=decide_eq_true c32
     clear c32
     by_cases c33:8≤(t109.size:Int)
     ·
      rw [if_pos c33] at H
      have c33b0:=eq_true c33
      have c33b1:decide (8≤(t109.size:Int))=true:=decide_eq_true c33
      clear c33
      replace H:=Option.bind_eq_some_iff.mp H
      obtain⟨t110,A340,H⟩:=H
      replace H:(if 8≤16 then(if 16≤(t109.size:Int) then((zbg.f k (t109.extract 8 16)).bind fun t111=>(some (l0_0,a0_1,a0_2,wrap64 (a0_3 + 1),t110,t111))) else(none)) else(none))=some (r1,r2,r3,r4,r5,r6):=H
      have A34:=am_ A340
      clear A340
      by_cases c35:8≤16
      ·
       rw [if_pos c35] at H
       have c35b0:=eq_true c35
       have c35b1:decide (8≤16)=true:=decide_eq_true c35
       clear c35
       by_cases c36:16≤(t109.size:Int)
       ·
        rw [if_pos c36] at H
        have c36b0:=eq_true c36
        have c36b1:decide (16≤(t109.size:Int))=true:=decide_eq_true c36
        clear c36
        replace H:=Option.bind_eq_some_iff.mp H
        obtain⟨t111,A370,H⟩:=H
        replace H:(some (l0_0,a0_1,a0_2,wrap64 (a0_3 + 1),t110,t111))=some (r1,r2,r3,r4,r5,r6):=H
        have A37:=am_ A370
        clear A370
        simp only [Option.some.injEq,Prod.mk.injEq] at H
        obtain⟨rfl,rfl,rfl,rfl,rfl,rfl⟩:=H
        obtain⟨Ao38,co38,eo38⟩:=Kd.zb0 HO0_0.out
        subst eo38
        go_enter Try.func118,Try.ntmps118
        try go_wp2_with (first|((with_reducible refine zad (N:=1) rfl ?_);refine zae rfl (N:=1) rfl (cs:=#[.slice Ao38 l0_0.length co38,.int .i64 a0_1,.string a0_2,.int .i64 a0_3]) (t:=27) bx_ ?_;intro gb101 hg w39 hbox hb;replace HO0_0:=am_ (Kd.zdr qz20_ hb);replace BK101:=am_ (hbox);replace GW101:=am_ ((by rw [hg];exact qz21_:w.heap.size≤gb101));replace HK:=am_ (Kept.below (S:=(fun k_=>P0_0_ k_)) qz6_ hb);replace GE101:=am_ ((by rw [hg];exact(zac qz4_):w0.heap.size≤gb101));replace HB:=am_ (zaj qz4_ hb);clear hb hbox hg)|((with_reducible refine zad (N:=2) rfl ?_);refine zae rfl (N:=2) rfl (cs:=#[.slice none 0 0,.int .i64 0,.string (⟨#[]⟩:ByteArray),.int .i64 0]) (t:=27) bx_ ?_;intro gb102 hg w40 hbox hb;replace HO0_0:=am_ (Kd.zdr qz20_ hb);replace BK102:=am_ (hbox);replace GW102:=am_ ((by rw [hg];exact qz35_:w.heap.size≤gb102));replace HK:=am_ (Kept.below (S:=(fun k_=>P0_0_ k_)) qz22_ hb);replace GE102:=am_ ((by rw [hg];exact(zac qz14_):w0.heap.size≤gb102));replace HB:=am_ (zaj qz14_ hb);replace NB101_102:=am_ ((by rw [hg];exact Nat.ne_of_lt (zar (g:=gb101) (o:=.cells #[.slice Ao38 l0_0.length co38,.int .i64 a0_1,.string a0_2,.int .i64 a0_3] 27 (0,0)) qz13_):gb101≠gb102));replace NB102_101:=am_ ((by rw [hg];exact Nat.ne_of_gt (zar (g:=gb101) (o:=.cells #[.slice Ao38 l0_0.length co38,.int .i64 a0_1,.string a0_2,.int .i64 a0_3] 27 (0,0)) qz13_):gb102≠gb101));replace BK101:=am_ (zak (g:=gb101) (o:=.cells #[.slice Ao38 l0_0.length co38,.int .i64 a0_1,.string a0_2,.int .i64 a0_3] 27 (0,0)) qz13_ hb);clear hb hbox hg)|((with_reducible refine zad (N:=3) rfl ?_);refine zae rfl (N:=3) rfl (cs:=#[.int .i64 0,.int .i64 0]) (t:=34) bx_ ?_;intro gb103 hg w41 hbox hb;replace HO0_0:=am_ (Kd.zdr (Kd.zj9 qz20_ gb103 (Nat.le_of_eq hg.symm)) hb);replace BK103:=am_ (hbox);replace GW103:=am_ ((by rw [hg];exact qz36_:w.heap.size≤gb103));replace HK:=am_ (Kept.below (S:=(fun k_=>P0_0_ k_)) qz37_ hb);replace GE103:=am_ ((by rw [hg];exact(zac qz16_):w0.heap.size≤gb103));replace HB:=am_ (zaj qz16_ hb);replace NB101_103:=am_ ((by rw [hg];exact Nat.ne_of_lt (zar (g:=gb101) (o:=.cells #[.slice Ao38 l0_0.length co38,.int .i64 a0_1,.string a0_2,.int .i64 a0_3] 27 (0,0)) qz13_):gb101≠gb103));replace NB103_101:=am_ ((by rw [hg];exact Nat.ne_of_gt (zar (g:=gb101) (o:=.cells #[.slice Ao38 l0_0.length co38,.int .i64 a0_1,.string a0_2,.int .i64 a0_3] 27 (0,0)) qz13_):gb103≠gb101));replace BK101:=am_ (zak (g:=gb101) (o:=.cells #[.slice Ao38 l0_0.length co38,.int .i64 a0_1,.string a0_2,.int .i64 a0_3] 27 (0,0)) qz13_ hb);replace NB102_103:=am_ ((by rw [hg];exact Nat.ne_of_lt (zar (g:=gb102) (o:=.cells #[.slice none 0 0,.int .i64 0,.string (⟨#[]⟩:ByteArray),.int .i64 0] 27 (0,0)) qz15_):gb102≠gb103));replace NB103_102:=am_ ((by rw [hg];exact Nat.ne_of_gt (zar (g:=gb102) (o:=.cells #[.slice none 0 0,.int .i64 0,.string (⟨#[]⟩:ByteArray),.int .i64 0] 27 (0,0)) qz15_):gb103≠gb102));replace BK102:=am_ (zak (g:=gb102) (o:=.cells #[.slice none 0 0,.int .i64 0,.string (⟨#[]⟩:ByteArray),.int .i64 0] 27 (0,0)) qz15_ hb);clear hb hbox hg;have hnb42:=NB101_102.out;have hnc42:=NB102_101.out;have hnb43:=NB101_103.out;have hnc43:=NB103_101.out;have hcz44_0:w41.cell? ⟨gb101,0,none⟩=some (.slice Ao38 l0_0.length co38):=(zaa BK101.out 0).trans rfl;have hcz44_1:w41.cell? ⟨gb101,1,none⟩=some (.int .i64 a0_1):=(zaa BK101.out 1).trans rfl;have hcz44_2:w41.cell? ⟨gb101,2,none⟩=some (.string a0_2):=(zaa BK101.out 2).trans rfl;have hcz44_3:w41.cell? ⟨gb101,3,none⟩=some (.int .i64 a0_3):=(zaa BK101.out 3).trans rfl;have hfz44_0:=zab BK101.out 0;have hfz44_1:=zab BK101.out 1;have hfz44_2:=zab BK101.out 2;have hfz44_3:=zab BK101.out 3))
        replace HO0_0:=am_ (Kd.zch HO0_0.out)
        replace BK101:=am_ (zaf BK101.out)
        replace BK102:=am_ (zaf BK102.out)
        replace BK103:=am_ (zaf BK103.out)
        replace HK:=am_ (Kept.drew HK.out)
        replace HB:=am_ (zat HB.out)
        refine zcb (n:=10) (S:=fun w'=>w'.cell? ⟨gb101,0,none⟩=some (.slice Ao38 l0_0.length co38)∧w'.cell? ⟨gb101,1,none⟩=some (.int .i64 a0_1)∧w'.cell? ⟨gb101,2,none⟩=some (.string a0_2)∧w'.cell? ⟨gb101,3,none⟩=some (.int .i64 a0_3)) (ds:=[]) (bs_ 10 0) (by kernel_rfl) rfl rfl ⟨(zaa BK101.out 0).trans rfl,(zaa BK101.out 1).trans rfl,(zaa BK101.out 2).trans rfl,(zaa BK101.out 3).trans rfl⟩ (fun hHeld=>?_);refine zcr za2.tab5 za2.bits5 (fun HT_ HW_=>?_)
        generalize w41.drew=w45 at HO0_0 BK101 BK102 BK103 HK HB hHeld ⊢
        refine pt_ HT_.out 0 26 (bs_ 10 1) ?_
        refine pt_ HT_.out 3 29 (bs_ 10 9) ?_
        refine take_ (i:=1) (N:=some 27) (v:=?_) (a':=?_) (bs_ 10 11) rfl rfl (zba HT_.out HW_.out (by kernel_rfl)) (fun _ _ _ h=>h) (Or.inl ⟨(by rfl),?_⟩) hHeld ?_ ?_
        rotate_left
        ·
         rintro w' ⟨s0,s1,s2,s3⟩
         go_simp
         with_reducible rfl
        rotate_left
        ·
         exact ap_
        refine pt_ HT_.out 2 28 (bs_ 10 15) ?_
        refine take_ (i:=4) (N:=some 30) (v:=?_) (a':=?_) (bs_ 10 31) rfl rfl (zba HT_.out HW_.out (by kernel_rfl)) (fun _ _ _ h=>h) (Or.inl ⟨(by rfl),?_⟩) hHeld ?_ ?_
        rotate_left
        ·
         rintro w' ⟨s0,s1,s2,s3⟩
         go_simp
         with_reducible rfl
        rotate_left
        ·
         exact ap_
        refine one_ (i:=5) (N:=some 31) (bs_ 10 63) rfl rfl (zbx HT_.out (by kernel_rfl)) (by decide) (fun K hK=>?_)
        refine goes_ Try.func91 (by kernel_rfl) rfl #[.int .i64 a0_3,.int .i64 4] (by rfl) rfl rfl qz18_ ?_
        with_reducible refine(zau.calls k a0_3 4 t106 _ A29.out).mono ?_
        rintro e w46 ⟨v107,rfl,ho0,hb⟩
        refine⟨_,rfl,?_⟩
        replace HO0_0:=am_ (Kd.zdr qz20_ hb)
        replace HO108:=am_ (Kd.zdk (Kd.znf (M:=fun k_=>(P0_0_ k_∨w.heap.size≤k_)) ho0 (by first|exact HK.out.1|exact(show Kept w _ (fun k_=>P0_0_ k_) from by repeat(first|(with_reducible first|exact HK.out|apply Kept.alloc|apply Kept.drewN|apply Kept.drew|refine Kept.setCell ?_ (.inr GW101.out) _|refine Kept.setCell ?_ (.inr GW102.out) _|refine Kept.setCell ?_ (.inr GW103.out) _)|exact HK.out)).1) (fun k_ h_=>.inr h_)) (zac qz17_))
        replace BK101:=am_ (zak (g:=gb101) (o:=.cells #[.slice Ao38 l0_0.length co38,.int .i64 a0_1,.string a0_2,.int .i64 a0_3] 27 (0,0)) qz13_ hb)
        replace BK102:=am_ (zak (g:=gb102) (o:=.cells #[.slice none 0 0,.int .i64 0,.string (⟨#[]⟩:ByteArray),.int .i64 0] 27 (0,0)) qz15_ hb)
        replace BK103:=am_ (zak (g:=gb103) (o:=.cells #[.int .i64 0,.int .i64 0] 34 (0,0)) qz19_ hb)
        replace HK:=am_ (Kept.below (S:=(fun k_=>P0_0_ k_)) qz38_ hb)
        replace HB:=am_ (zaj qz17_ hb)
        (try clear hb)
        (try clear hb2)
        (try clear hk)
        (try clear hi)
        (try clear ho0)
        refine hK.out _ _ ⟨(zaa BK101.out 0).trans rfl,(zaa BK101.out 1).trans rfl,(zaa BK101.out 2).trans rfl,(zaa BK101.out 3).trans rfl⟩ (fun hHeld=>?_)
        clear hK K
        refine norm_ (a':=?_) ?_ ?_
        rotate_left
        ·
         show Act.put _ (some 31) _=_
         exact ap_
        refine one_ (i:=6) (N:=some 32) (bs_ 10 127) rfl rfl (zbx HT_.out (by kernel_rfl)) (by decide) (fun K hK=>?_)
        have hcv47:=zhz (P:=Try.prog) Try.underlying22 Try.underlying5 Try.underlying9 (Kd.zhi HO108.out)
        refine zbf (w1:=?_) (v:=?_) (by rfl) rfl ?_ ?_
        rotate_left 2
        ·
         go_simp
         constructor
         ·
          rfl
         ·
          rfl
        clear hcv47
        refine hK.out _ _ ⟨(zaa BK101.out 0).trans rfl,(zaa BK101.out 1).trans rfl,(zaa BK101.out 2).trans rfl,(zaa BK101.out 3).trans rfl⟩ (fun hHeld=>?_)
        clear hK K
        refine norm_ (a':=?_) ?_ ?_
        rotate_left
        ·
         show Act.put _ (some 32) _=_
         exact ap_
        refine pt_ HT_.out 7 33 (bs_ 10 255) ?_
        refine one_ (i:=8) (N:=some 34) (bs_ 10 511) rfl rfl (zbx HT_.out (by kernel_rfl)) (by decide) (fun K hK=>?_)
        refine goes_ Try.func92 (by kernel_rfl) rfl #[.string ((a0_2++(⟨#[100,114,97,119]⟩:ByteArray))++(strOfNums t106))] (by rfl) rfl rfl qz18_ ?_
        with_reducible refine(zcm.calls ((a0_2++(⟨#[100,114,97,119]⟩:ByteArray))++(strOfNums t106)) t109 _ A31.out).mono ?_
        rintro e w48 ⟨rfl,hb⟩
        refine⟨_,rfl,?_⟩
        replace HO0_0:=am_ (Kd.zdr qz20_ hb)
        replace HO108:=am_ (Kd.zdr (by(with_reducible repeat(first|apply Kd.zb3|apply Kd.zb4|apply Kd.zch));exact HO108.out) hb)
        replace BK101:=am_ (zak (g:=gb101) (o:=.cells #[.slice Ao38 l0_0.length co38,.int .i64 a0_1,.string a0_2,.int .i64 a0_3] 27 (0,0)) qz13_ hb)
        replace BK102:=am_ (zak (g:=gb102) (o:=.cells #[.slice none 0 0,.int .i64 0,.string (⟨#[]⟩:ByteArray),.int .i64 0] 27 (0,0)) qz15_ hb)
        replace BK103:=am_ (zak (g:=gb103) (o:=.cells #[.int .i64 0,.int .i64 0] 34 (0,0)) qz19_ hb)
        replace HK:=am_ (Kept.below (S:=(fun k_=>P0_0_ k_)) qz38_ hb)
        replace HB:=am_ (zaj qz17_ hb)
        (try clear hb)
        (try clear hb2)
        (try clear hk)
        (try clear hi)
        refine hK.out _ _ ⟨(zaa BK101.out 0).trans rfl,(zaa BK101.out 1).trans rfl,(zaa BK101.out 2).trans rfl,(zaa BK101.out 3).trans rfl⟩ (fun hHeld=>?_)
        clear hK K
        refine norm_ (a':=?_) ?_ ?_
        rotate_left
        ·
         show Act.put _ (some 34) _=_
         exact ap_
        refine pt_ HT_.out 9 5 (bs_ 10 1023) ?_
        refine done_ (zej HT_.out (by kernel_rfl)) ?_
        have hcz49_0:w48.cell? ⟨gb101,0,none⟩=some (.slice Ao38 l0_0.length co38):=(zaa BK101.out 0).trans rfl
        have hcz49_1:w48.cell? ⟨gb101,1,none⟩=some (.int .i64 a0_1):=(zaa BK101.out 1).trans rfl
        have hcz49_2:w48.cell? ⟨gb101,2,none⟩=some (.string a0_2):=(zaa BK101.out 2).trans rfl
        have hcz49_3:w48.cell? ⟨gb101,3,none⟩=some (.int .i64 a0_3):=(zaa BK101.out 3).trans rfl
        have hfz49_0:=zab BK101.out 0
        have hfz49_1:=zab BK101.out 1
        have hfz49_2:=zab BK101.out 2
        have hfz49_3:=zab BK101.out 3
        try go_wp2
        have n0_:zal (Kd.R k34 34 (w48.setCell ⟨gb101,3,none⟩ (.int .i64 (wrap64 (a0_3 + 1)))) w0.heap.size (fun k_=>(P0_0_ k_∨w.heap.size≤k_)∧k_≠gb103) (.slice Ao38 l0_0.length co38) l0_0):=⟨by(with_reducible repeat(first|apply Kd.zb3|apply Kd.zb4|apply Kd.zch));exact Kd.zbi (Kd.R_far (p:=⟨gb101,3,none⟩) (Kd.zep HO0_0.out BK101.out (by decide)) (fun _ hk=>hk.2) (.int .i64 (wrap64 (a0_3 + 1)))) (fun _ hk=>⟨hk.1.1,hk.1.2⟩)⟩
        have n1_:zal (Kd.R (Kd.int .u8) 5 (w48.setCell ⟨gb101,3,none⟩ (.int .i64 (wrap64 (a0_3 + 1)))) w0.heap.size (fun k_=>(P0_0_ k_∨w.heap.size≤k_)) v107 t106):=⟨by(with_reducible repeat(first|apply Kd.zb3|apply Kd.zb4|apply Kd.zch));exact Kd.zbi (Kd.R_far (p:=⟨gb101,3,none⟩) (Kd.zep HO108.out BK101.out (by decide)) (fun _ hk=>hk.2) (.int .i64 (wrap64 (a0_3 + 1)))) (fun _ hk=>hk.1.1)⟩
        have n2_:zal ((w48.setCell ⟨gb101,3,none⟩ (.int .i64 (wrap64 (a0_3 + 1)))).heap[gb101]?=some (.cells #[.slice Ao38 l0_0.length co38,.int .i64 a0_1,.string a0_2,.int .i64 (wrap64 (a0_3 + 1))] 27 (0,0))):=⟨(by(with_reducible repeat(first|refine zah ?_ _|refine zaf ?_|refine zai ?_ _));refine za9 (cs:=#[.slice Ao38 l0_0.length co38,.int .i64 a0_1,.string a0_2,.int .i64 a0_3]) ?_ 3 _ rfl;(with_reducible repeat(first|refine zah ?_ _|refine zaf ?_|refine zai ?_ _));exact BK101.out)⟩
        have n3_:zal ((w48.setCell ⟨gb101,3,none⟩ (.int .i64 (wrap64 (a0_3 + 1)))).heap[gb102]?=some (.cells #[.slice none 0 0,.int .i64 0,.string (⟨#[]⟩:ByteArray),.int .i64 0] 27 (0,0))):=⟨(by(with_reducible repeat(first|refine zah ?_ _|refine zaf ?_|refine zai ?_ _));refine zbc ?_ NB102_101.out _;(with_reducible repeat(first|refine zah ?_ _|refine zaf ?_|refine zai ?_ _));exact BK102.out)⟩
        have n4_:zal ((w48.setCell ⟨gb101,3,none⟩ (.int .i64 (wrap64 (a0_3 + 1)))).heap[gb103]?=some (.cells #[.int .i64 0,.int .i64 0] 34 (0,0))):=⟨(by(with_reducible repeat(first|refine zah ?_ _|refine zaf ?_|refine zai ?_ _));refine zbc ?_ NB103_101.out _;(with_reducible repeat(first|refine zah ?_ _|refine zaf ?_|refine zai ?_ _));exact BK103.out)⟩
        have n5_:zal (Kept w (w48.setCell ⟨gb101,3,none⟩ (.int .i64 (wrap64 (a0_3 + 1)))) (fun k_=>P0_0_ k_)):=⟨qz38_⟩
        have n6_:zal (Below w0.heap.size w0 (w48.setCell ⟨gb101,3,none⟩ (.int .i64 (wrap64 (a0_3 + 1))))):=⟨qz17_⟩
        (try clear HO0_0)
        (try clear HO108)
        (try clear BK101)
        (try clear BK102)
        (try clear BK103)
        (try clear HK)
        (try clear HB)
        generalize (w48.setCell ⟨gb101,3,none⟩ (.int .i64 (wrap64 (a0_3 + 1))))=w50 at n0_ n1_ n2_ n3_ n4_ n5_ n6_ ⊢
        have HO0_0:=n0_
        have HO108:=n1_
        have BK101:=n2_
        have BK102:=n3_
        have BK103:=n4_
        have HK:=n5_
        have HB:=n6_
        clear n0_ n1_ n2_ n3_ n4_ n5_ n6_
        replace HO0_0:=am_ (Kd.zch HO0_0.out)
        replace HO108:=am_ (Kd.zch HO108.out)
        replace BK101:=am_ (zaf BK101.out)
        replace BK102:=am_ (zaf BK102.out)
        replace BK103:=am_ (zaf BK103.out)
        replace HK:=am_ (Kept.drew HK.out)
        replace HB:=am_ (zat HB.out)
        refine zcb (n:=10) (S:=fun w'=>w'.cell? ⟨gb101,0,none⟩=some (.slice Ao38 l0_0.length co38)∧w'.cell? ⟨gb101,1,none⟩=some (.int .i64 a0_1)∧w'.cell? ⟨gb101,2,none⟩=some (.string a0_2)∧w'.cell? ⟨gb101,3,none⟩=some (.int .i64 (wrap64 (a0_3 + 1)))) (ds:=[]) (bs_ 10 0) (by kernel_rfl) rfl rfl ⟨(zaa BK101.out 0).trans rfl,(zaa BK101.out 1).trans rfl,(zaa BK101.out 2).trans rfl,(zaa BK101.out 3).trans rfl⟩ (fun hHeld=>?_);refine zcr za2.tab7 za2.bits7 (fun HT_ HW_=>?_)
        generalize w50.drew=w51 at HO0_0 HO108 BK101 BK102 BK103 HK HB hHeld ⊢
        refine pt_ HT_.out 1 40 (bs_ 10 2) ?_
        refine pt_ HT_.out 2 41 (bs_ 10 6) ?_
        refine pt_ HT_.out 4 43 (bs_ 10 22) ?_
        refine pt_ HT_.out 5 44 (bs_ 10 54) ?_
        refine take_ (i:=0) (N:=some 39) (v:=?_) (a':=?_) (bs_ 10 55) rfl rfl (zba HT_.out HW_.out (by kernel_rfl)) (fun _ _ _ h=>h) (Or.inl ⟨(by rfl),?_⟩) hHeld ?_ ?_
        rotate_left
        ·
         rintro w' ⟨s0,s1,s2,s3⟩
         go_simp
         with_reducible rfl
        rotate_left
        ·
         exact ap_
        refine one_ (i:=3) (N:=some 42) (bs_ 10 63) rfl rfl (zbx HT_.out (by kernel_rfl)) (by decide) (fun K hK=>?_)
        refine goes_ Try.func148 (by kernel_rfl) rfl #[.string (t109.extract 0 8)] (by rfl) rfl rfl qz18_ ?_
        with_reducible refine(zbg.calls k (t109.extract 0 8) t110 _ A34.out).mono ?_
        rintro e w' ⟨rfl,⟨nd,rfl⟩⟩
        refine⟨_,rfl,?_⟩
        refine hK.out _ _ ⟨(zaa BK101.out 0).trans rfl,(zaa BK101.out 1).trans rfl,(zaa BK101.out 2).trans rfl,(zaa BK101.out 3).trans rfl⟩ (fun hHeld=>?_)
        clear hK K
        refine norm_ (a':=?_) ?_ ?_
        rotate_left
        ·
         show Act.put _ (some 42) _=_
         exact ap_
        refine one_ (i:=6) (N:=some 45) (bs_ 10 127) rfl rfl (zbx HT_.out (by kernel_rfl)) (by decide) (fun K hK=>?_)
        refine goes_ Try.func148 (by kernel_rfl) rfl #[.string (t109.extract 8 16)] (by rfl) rfl rfl qz18_ ?_
        with_reducible refine(zbg.calls k (t109.extract 8 16) t111 _ A37.out).mono ?_
        rintro e w' ⟨rfl,⟨nd,rfl⟩⟩
        refine⟨_,rfl,?_⟩
        refine hK.out _ _ ⟨(zaa BK101.out 0).trans rfl,(zaa BK101.out 1).trans rfl,(zaa BK101.out 2).trans rfl,(zaa BK101.out 3).trans rfl⟩ (fun hHeld=>?_)
        clear hK K
        refine norm_ (a':=?_) ?_ ?_
        rotate_left
        ·
         show Act.put _ (some 45) _=_
         exact ap_
        refine pt_ HT_.out 7 46 (bs_ 10 255) ?_
        refine one_ (i:=8) (N:=none) (bs_ 10 511) rfl rfl (zbx HT_.out (by kernel_rfl)) (by decide) (fun K hK=>?_)
        have hs52:w51.cell? ⟨gb102,0,none⟩=some (.slice none 0 0):=(zaa BK102.out 0).trans rfl
        have hfs52:=zab BK102.out 0
        have hns52_0:=NB101_102.out
        have hns52_2:=NB103_102.out
        have hms52_0:=NB102_101.out
        have hms52_2:=NB102_103.out
        have hs53:w51.cell? ⟨gb102,1,none⟩=some (.int .i64 0):=(zaa BK102.out 1).trans rfl
        have hfs53:=zab BK102.out 1
        have hns53_0:=NB101_102.out
        have hns53_2:=NB103_102.out
        have hms53_0:=NB102_101.out
        have hms53_2:=NB102_103.out
        have hs54:w51.cell? ⟨gb102,2,none⟩=some (.string (⟨#[]⟩:ByteArray)):=(zaa BK102.out 2).trans rfl
        have hfs54:=zab BK102.out 2
        have hns54_0:=NB101_102.out
        have hns54_2:=NB103_102.out
        have hms54_0:=NB102_101.out
        have hms54_2:=NB102_103.out
        have hs55:w51.cell? ⟨gb102,3,none⟩=some (.int .i64 0):=(zaa BK102.out 3).trans rfl
        have hfs55:=zab BK102.out 3
        have hns55_0:=NB101_102.out
        have hns55_2:=NB103_102.out
        have hms55_0:=NB102_101.out
        have hms55_2:=NB102_103.out
        refine skip_ (w1:=?_) (by rfl) rfl ?_ ?_
        rotate_left
        ·
         go_simp
         rfl
        refine hK.out _ _ ⟨((cell_far (p:=⟨gb102,_,none⟩) NB101_102.out _).trans (((cell_far (p:=⟨gb102,_,none⟩) NB101_102.out _).trans (((cell_far (p:=⟨gb102,_,none⟩) NB101_102.out _).trans (((cell_far (p:=⟨gb102,_,none⟩) NB101_102.out _).trans (hHeld.1)))))))),((cell_far (p:=⟨gb102,_,none⟩) NB101_102.out _).trans (((cell_far (p:=⟨gb102,_,none⟩) NB101_102.out _).trans (((cell_far (p:=⟨gb102,_,none⟩) NB101_102.out _).trans (((cell_far (p:=⟨gb102,_,none⟩) NB101_102.out _).trans (hHeld.2.1)))))))),((cell_far (p:=⟨gb102,_,none⟩) NB101_102.out _).trans (((cell_far (p:=⟨gb102,_,none⟩) NB101_102.out _).trans (((cell_far (p:=⟨gb102,_,none⟩) NB101_102.out _).trans (((cell_far (p:=⟨gb102,_,none⟩) NB101_102.out _).trans (hHeld.2.2.1)))))))),((cell_far (p:=⟨gb102,_,none⟩) NB101_102.out _).trans (((cell_far (p:=⟨gb102,_,none⟩) NB101_102.out _).trans (((cell_far (p:=⟨gb102,_,none⟩) NB101_102.out _).trans (((cell_far (p:=⟨gb102,_,none⟩) NB101_102.out _).trans (hHeld.2.2.2))))))))⟩ (fun hHeld=>?_)
        clear hK K
        refine one_ (i:=9) (N:=none) (bs_ 10 1023) rfl rfl (zbx HT_.out (by kernel_rfl)) (by decide) (fun K hK=>?_)
        have hs56:w51.cell? ⟨gb103,0,none⟩=some (.int .i64 0):=(zaa BK103.out 0).trans rfl
        have hfs56:=zab BK103.out 0
        have hns56_0:=NB101_103.out
        have hns56_1:=NB102_103.out
        have hms56_0:=NB103_101.out
        have hms56_1:=NB103_102.out
        have hs57:w51.cell? ⟨gb103,1,none⟩=some (.int .i64 0):=(zaa BK103.out 1).trans rfl
        have hfs57:=zab BK103.out 1
        have hns57_0:=NB101_103.out
        have hns57_1:=NB102_103.out
        have hms57_0:=NB103_101.out
        have hms57_1:=NB103_102.out
        refine skip_ (w1:=?_) (by rfl) rfl ?_ ?_
        rotate_left
        ·
         go_simp
         rfl
        refine hK.out _ _ ⟨((cell_far (p:=⟨gb103,_,none⟩) NB101_103.out _).trans (((cell_far (p:=⟨gb103,_,none⟩) NB101_103.out _).trans (hHeld.1)))),((cell_far (p:=⟨gb103,_,none⟩) NB101_103.out _).trans (((cell_far (p:=⟨gb103,_,none⟩) NB101_103.out _).trans (hHeld.2.1)))),((cell_far (p:=⟨gb103,_,none⟩) NB101_103.out _).trans (((cell_far (p:=⟨gb103,_,none⟩) NB101_103.out _).trans (hHeld.2.2.1)))),((cell_far (p:=⟨gb103,_,none⟩) NB101_103.out _).trans (((cell_far (p:=⟨gb103,_,none⟩) NB101_103.out _).trans (hHeld.2.2.2))))⟩ (fun hHeld=>?_)
        clear hK K
        refine done_ (zej HT_.out (by kernel_rfl)) ?_
        try go_wp2
        refine bodyPost_ret (zjo rfl _ _ gb102 gb103 27 34 #[.slice Ao38 l0_0.length co38,.int .i64 a0_1,.string a0_2,.int .i64 (wrap64 (a0_3 + 1))] #[.int .i64 t110,.int .i64 t111] (0,0) (0,0) _ _ rfl (by(with_reducible repeat(first|refine zah ?_ _|refine zaf ?_|refine zai ?_ _));refine zbc ?_ NB102_103.out _;(with_reducible repeat(first|refine zah ?_ _|refine zaf ?_|refine zai ?_ _));refine zbc ?_ NB102_103.out _;(with_reducible repeat(first|refine zah ?_ _|refine zaf ?_|refine zai ?_ _));refine za9 (cs:=#[.slice Ao38 l0_0.length co38,.int .i64 a0_1,.string a0_2,.int .i64 0]) ?_ 3 _ rfl;(with_reducible repeat(first|refine zah ?_ _|refine zaf ?_|refine zai ?_ _));refine za9 (cs:=#[.slice Ao38 l0_0.length co38,.int .i64 a0_1,.string (⟨#[]⟩:ByteArray),.int .i64 0]) ?_ 2 _ rfl;(with_reducible repeat(first|refine zah ?_ _|refine zaf ?_|refine zai ?_ _));refine za9 (cs:=#[.slice Ao38 l0_0.length co38,.int .i64 0,.string (⟨#[]⟩:ByteArray),.int .i64 0]) ?_ 1 _ rfl;(with_reducible repeat(first|refine zah ?_ _|refine zaf ?_|refine zai ?_ _));refine za9 (cs:=#[.slice none 0 0,.int .i64 0,.string (⟨#[]⟩:ByteArray),.int .i64 0]) ?_ 0 _ rfl;(with_reducible repeat(first|refine zah ?_ _|refine zaf ?_|refine zai ?_ _));exact BK102.out) Try.underlying27 rfl (by kernel_rfl) rfl (by(with_reducible repeat(first|refine zah ?_ _|refine zaf ?_|refine zai ?_ _));refine za9 (cs:=#[.int .i64 t110,.int .i64 0]) ?_ 1 _ rfl;(with_reducible repeat(first|refine zah ?_ _|refine zaf ?_|refine zai ?_ _));refine za9 (cs:=#[.int .i64 0,.int .i64 0]) ?_ 0 _ rfl;(with_reducible repeat(first|refine zah ?_ _|refine zaf ?_|refine zai ?_ _));refine zbc ?_ NB103_102.out _;(with_reducible repeat(first|refine zah ?_ _|refine zaf ?_|refine zai ?_ _));refine zbc ?_ NB103_102.out _;(with_reducible repeat(first|refine zah ?_ _|refine zaf ?_|refine zai ?_ _));refine zbc ?_ NB103_102.out _;(with_reducible repeat(first|refine zah ?_ _|refine zaf ?_|refine zai ?_ _));refine zbc ?_ NB103_102.out _;(with_reducible repeat(first|refine zah ?_ _|refine zaf ?_|refine zai ?_ _));exact BK103.out) Try.underlying34 rfl (by kernel_rfl)) rfl ?_
        exact⟨_,by first|rfl|(simp [zc3,zc2] <;> rfl)|(simp [*,zc3,zc2] <;> rfl),by(with_reducible repeat(first|apply Kd.zb3|apply Kd.zb4|apply Kd.zch));exact Kd.zbi (Kd.R_far (p:=⟨gb103,1,none⟩) (Kd.R_far (p:=⟨gb103,0,none⟩) (Kd.R_far (p:=⟨gb102,3,none⟩) (Kd.R_far (p:=⟨gb102,2,none⟩) (Kd.R_far (p:=⟨gb102,1,none⟩) (Kd.R_far (p:=⟨gb102,0,none⟩) (Kd.zbi (Kd.zep HO0_0.out BK102.out (by decide)) (fun k_ hk=>(⟨hk,hk.1.2⟩:_∧k_≠gb103))) (fun _ hk=>hk.1.2) (.slice Ao38 l0_0.length co38)) (fun _ hk=>hk.1.2) (.int .i64 a0_1)) (fun _ hk=>hk.1.2) (.string a0_2)) (fun _ hk=>hk.1.2) (.int .i64 (wrap64 (a0_3 + 1)))) (fun _ hk=>hk.2) (.int .i64 t110)) (fun _ hk=>hk.2) (.int .i64 t111)) (fun _ hk=>hk.1.1.1),by repeat(first|(with_reducible first|exact HB.out|apply za0|apply zay|apply zat|refine za4 ?_ GE101.out|refine za4 ?_ GE102.out|refine za4 ?_ GE103.out)|exact HB.out),by repeat(first|(with_reducible first|exact HK.out|apply Kept.alloc|apply Kept.drewN|apply Kept.drew|refine Kept.setCell ?_ (.inr GW101.out) _|refine Kept.setCell ?_ (.inr GW102.out) _|refine Kept.setCell ?_ (.inr GW103.out) _)|exact HK.out)⟩
       ·
        rw [if_neg c36] at H
        exact absurd H (by simp)
      ·
       rw [if_neg c35] at H
       exact absurd H (by simp)
     ·
      rw [if_neg c33] at H
      exact absurd H (by simp)
    ·
     rw [if_neg c32] at H
     exact absurd H (by simp)
   ·
    rw [if_neg c30] at H
    exact absurd H (by simp)
  ·
   rw [if_neg c28] at H
   exact absurd H (by simp)
def zcs.f (a0:Int) (a1:Int):Option (Int):=some (Int.tmod (wrap64 ((wrap64 (a0 + 2130706433)) - a1)) 2130706433)
theorem zcs.calls (a0:Int) (a1:Int) (r:Int) (w:World) (h:zcs.f a0 a1=some r) :
  Calls Try.prog 152 #[.int .i64 a0,.int .i64 a1] w fun e w'=>e=.returned (.int .i64 r)∧zbr w w':=by
 have H:(some (Int.tmod (wrap64 ((wrap64 (a0 + 2130706433)) - a1)) 2130706433))=some r:=h
 clear h
 obtain rfl:=Option.some.inj H
 go_enter Try.func152,Try.ntmps152
 go_wp2
 go_ret
 exact⟨qz10_,qz2_⟩
def zct.f (a0_0:Int) (a0_1:Int) (a1_0:Int) (a1_1:Int):Option (Int × Int):=(zcs.f a0_0 a1_0).bind fun t104=>((zcs.f a0_1 a1_1).bind fun t105=>(some (t104,t105)))
def zct.T1:Bool × List (List Nat × List Nat):=(true,[([],[]),([0],[0]),([],[]),([2],[2]),([1,3],[1,3]),([],[]),([5],[5]),([],[]),([7],[7]),([6,8,4],[6,8]),([4,9],[4,9]),([10,9,0,1,2,3,4,5,6,7,8,9,10],[10])])
def zct.B1:List Nat:=[0,1,0,4,15,0,32,0,128,511,1023,2047]
theorem zct.tab1:rtab .any (opsOf Try.f138 1)=zct.T1:=by kernel_rfl
theorem zct.bits1:zc8 zct.T1.2 zct.B1=true:=by kernel_rfl
theorem zct.calls (a0_0:Int) (a0_1:Int) (a1_0:Int) (a1_1:Int) (r1:Int) (r2:Int) (w:World) (h:zct.f a0_0 a0_1 a1_0 a1_1=some (r1,r2)) :
  Calls Try.prog 138 #[.agg #[.int .i64 a0_0,.int .i64 a0_1],.agg #[.int .i64 a1_0,.int .i64 a1_1]] w fun e w'=>e=.returned (.agg #[.int .i64 r1,.int .i64 r2])∧Below w.heap.size w w':=by
 have hu34:=Try.underlying34
 have HB:=am_ (Below.refl w.heap.size w)
 have H:((zcs.f a0_0 a1_0).bind fun t104=>((zcs.f a0_1 a1_1).bind fun t105=>(some (t104,t105))))=some (r1,r2):=h
 clear h
 replace H:=Option.bind_eq_some_iff.mp H
 obtain⟨t104,A30,H⟩:=H
 replace H:((zcs.f a0_1 a1_1).bind fun t105=>(some (t104,t105)))=some (r1,r2):=H
 have A3:=am_ A30
 clear A30
 replace H:=Option.bind_eq_some_iff.mp H
 obtain⟨t105,A40,H⟩:=H
 replace H:(some (t104,t105))=some (r1,r2):=H
 have A4:=am_ A40
 clear A40
 simp only [Option.some.injEq,Prod.mk.injEq] at H
 obtain⟨rfl,rfl⟩:=H
 go_enter Try.func138,Try.ntmps138
 try go_wp2_with (first|((with_reducible refine zad (N:=2) rfl ?_);refine zae rfl (N:=2) rfl (cs:=#[.int .i64 a0_0,.int .i64 a0_1]) (t:=34) bx_ ?_;intro gb101 hg w5 hbox hb;replace BK101:=am_ (hbox);replace GW101:=am_ ((by rw [hg];exact(zac qz4_):w.heap.size≤gb101));replace GE101:=am_ ((by rw [hg];exact(zac qz4_):w.heap.size≤gb101));replace HB:=am_ (zaj qz4_ hb);clear hb hbox hg)|((with_reducible refine zad (N:=3) rfl ?_);refine zae rfl (N:=3) rfl (cs:=#[.int .i64 a1_0,.int .i64 a1_1]) (t:=34) bx_ ?_;intro gb102 hg w6 hbox hb;replace BK102:=am_ (hbox);replace GW102:=am_ ((by rw [hg];exact(zac qz14_):w.heap.size≤gb102));replace GE102:=am_ ((by rw [hg];exact(zac qz14_):w.heap.size≤gb102));replace HB:=am_ (zaj qz14_ hb);replace NB101_102:=am_ ((by rw [hg];exact Nat.ne_of_lt (zar (g:=gb101) (o:=.cells #[.int .i64 a0_0,.int .i64 a0_1] 34 (0,0)) qz13_):gb101≠gb102));replace NB102_101:=am_ ((by rw [hg];exact Nat.ne_of_gt (zar (g:=gb101) (o:=.cells #[.int .i64 a0_0,.int .i64 a0_1] 34 (0,0)) qz13_):gb102≠gb101));replace BK101:=am_ (zak (g:=gb101) (o:=.cells #[.int .i64 a0_0,.int .i64 a0_1] 34 (0,0)) qz13_ hb);clear hb hbox hg)|((with_reducible refine zad (N:=4) rfl ?_);refine zae rfl (N:=4) rfl (cs:=#[.int .i64 0,.int .i64 0]) (t:=34) bx_ ?_;intro gb103 hg w7 hbox hb;replace BK103:=am_ (hbox);replace GW103:=am_ ((by rw [hg];exact(zac qz16_):w.heap.size≤gb103));replace GE103:=am_ ((by rw [hg];exact(zac qz16_):w.heap.size≤gb103));replace HB:=am_ (zaj qz16_ hb);replace NB101_103:=am_ ((by rw [hg];exact Nat.ne_of_lt (zar (g:=gb101) (o:=.cells #[.int .i64 a0_0,.int .i64 a0_1] 34 (0,0)) qz13_):gb101≠gb103));replace NB103_101:=am_ ((by rw [hg];exact Nat.ne_of_gt (zar (g:=gb101) (o:=.cells #[.int .i64 a0_0,.int .i64 a0_1] 34 (0,0)) qz13_):gb103≠gb101));replace BK101:=am_ (zak (g:=gb101) (o:=.cells #[.int .i64 a0_0,.int .i64 a0_1] 34 (0,0)) qz13_ hb);replace NB102_103:=am_ ((by rw [hg];exact Nat.ne_of_lt (zar (g:=gb102) (o:=.cells #[.int .i64 a1_0,.int .i64 a1_1] 34 (0,0)) qz15_):gb102≠gb103));replace NB103_102:=am_ ((by rw [hg];exact Nat.ne_of_gt (zar (g:=gb102) (o:=.cells #[.int .i64 a1_0,.int .i64 a1_1] 34 (0,0)) qz15_):gb103≠gb102));replace BK102:=am_ (zak (g:=gb102) (o:=.cells #[.int .i64 a1_0,.int .i64 a1_1] 34 (0,0)) qz15_ hb);clear hb hbox hg))
 replace BK101:=am_ (zaf BK101.out)
 replace BK102:=am_ (zaf BK102.out)
 replace BK103:=am_ (zaf BK103.out)
 replace HB:=am_ (zat HB.out)
 refine zcb (n:=12) (S:=fun w'=>w'.cell? ⟨gb101,0,none⟩=some (.int .i64 a0_0)∧w'.cell? ⟨gb101,1,none⟩=some (.int .i64 a0_1)∧w'.cell? ⟨gb102,0,none⟩=some (.int .i64 a1_0)∧w'.cell? ⟨gb102,1,none⟩=some (.int .i64 a1_1)) (ds:=[]) (bs_ 12 0) (by kernel_rfl) rfl rfl ⟨(zaa BK101.out 0).trans rfl,(zaa BK101.out 1).trans rfl,(zaa BK102.out 0).trans rfl,(zaa BK102.out 1).trans rfl⟩ (fun hHeld=>?_);refine zcr zct.tab1 zct.bits1 (fun HT_ HW_=>?_)
 generalize w7.drew=w8 at BK101 BK102 BK103 HB hHeld ⊢
 refine pt_ HT_.out 0 5 (bs_ 12 1) ?_
 refine pt_ HT_.out 2 7 (bs_ 12 5) ?_
 refine pt_ HT_.out 5 10 (bs_ 12 37) ?_
 refine pt_ HT_.out 7 12 (bs_ 12 165) ?_
 refine take_ (i:=1) (N:=some 6) (v:=?_) (a':=?_) (bs_ 12 167) rfl rfl (zba HT_.out HW_.out (by kernel_rfl)) (fun _ _ _ h=>h) (Or.inl ⟨(by rfl),?_⟩) hHeld ?_ ?_
 rotate_left
 ·
  rintro w' ⟨s0,s1,s2,s3⟩
  go_simp
  with_reducible rfl
 rotate_left
 ·
  exact ap_
 refine take_ (i:=3) (N:=some 8) (v:=?_) (a':=?_) (bs_ 12 175) rfl rfl (zba HT_.out HW_.out (by kernel_rfl)) (fun _ _ _ h=>h) (Or.inl ⟨(by rfl),?_⟩) hHeld ?_ ?_
 rotate_left
 ·
  rintro w' ⟨s0,s1,s2,s3⟩
  go_simp
  with_reducible rfl
 rotate_left
 ·
  exact ap_
 refine take_ (i:=6) (N:=some 11) (v:=?_) (a':=?_) (bs_ 12 239) rfl rfl (zba HT_.out HW_.out (by kernel_rfl)) (fun _ _ _ h=>h) (Or.inl ⟨(by rfl),?_⟩) hHeld ?_ ?_
 rotate_left
 ·
  rintro w' ⟨s0,s1,s2,s3⟩
  go_simp
  with_reducible rfl
 rotate_left
 ·
  exact ap_
 refine take_ (i:=8) (N:=some 13) (v:=?_) (a':=?_) (bs_ 12 495) rfl rfl (zba HT_.out HW_.out (by kernel_rfl)) (fun _ _ _ h=>h) (Or.inl ⟨(by rfl),?_⟩) hHeld ?_ ?_
 rotate_left
 ·
  rintro w' ⟨s0,s1,s2,s3⟩
  go_simp
  with_reducible rfl
 rotate_left
 ·
  exact ap_
 refine one_ (i:=4) (N:=some 9) (bs_ 12 511) rfl rfl (zbx HT_.out (by kernel_rfl)) (by decide) (fun K hK=>?_)
 refine goes_ Try.func152 (by kernel_rfl) rfl #[.int .i64 a0_0,.int .i64 a1_0] (by rfl) rfl rfl qz18_ ?_
 with_reducible refine(zcs.calls a0_0 a1_0 t104 _ A3.out).mono ?_
 rintro e w' ⟨rfl,⟨nd,rfl⟩⟩
 refine⟨_,rfl,?_⟩
 refine hK.out _ _ ⟨(zaa BK101.out 0).trans rfl,(zaa BK101.out 1).trans rfl,(zaa BK102.out 0).trans rfl,(zaa BK102.out 1).trans rfl⟩ (fun hHeld=>?_)
 clear hK K
 refine norm_ (a':=?_) ?_ ?_
 rotate_left
 ·
  show Act.put _ (some 9) _=_
  exact ap_
 refine one_ (i:=9) (N:=some 14) (bs_ 12 1023) rfl rfl (zbx HT_.out (by kernel_rfl)) (by decide) (fun K hK=>?_)
 refine goes_ Try.func152 (by kernel_rfl) rfl #[.int .i64 a0_1,.int .i64 a1_1] (by rfl) rfl rfl qz18_ ?_
 with_reducible refine(zcs.calls a0_1 a1_1 t105 _ A4.out).mono ?_
 rintro e w' ⟨rfl,⟨nd,rfl⟩⟩
 refine⟨_,rfl,?_⟩
 refine hK.out _ _ ⟨(zaa BK101.out 0).trans rfl,(zaa BK101.out 1).trans rfl,(zaa BK102.out 0).trans rfl,(zaa BK102.out 1).trans rfl⟩ (fun hHeld=>?_)
 clear hK K
 refine norm_ (a':=?_) ?_ ?_
 rotate_left
 ·
  show Act.put _ (some 14) _=_
  exact ap_
 refine pt_ HT_.out 10 15 (bs_ 12 2047) ?_
 refine one_ (i:=11) (N:=none) (bs_ 12 4095) rfl rfl (zbx HT_.out (by kernel_rfl)) (by decide) (fun K hK=>?_)
 have hs9:w8.cell? ⟨gb103,0,none⟩=some (.int .i64 0):=(zaa BK103.out 0).trans rfl
 have hfs9:=zab BK103.out 0
 have hns9_0:=NB101_103.out
 have hns9_1:=NB102_103.out
 have hms9_0:=NB103_101.out
 have hms9_1:=NB103_102.out
 have hs10:w8.cell? ⟨gb103,1,none⟩=some (.int .i64 0):=(zaa BK103.out 1).trans rfl
 have hfs10:=zab BK103.out 1
 have hns10_0:=NB101_103.out
 have hns10_1:=NB102_103.out
 have hms10_0:=NB103_101.out
 have hms10_1:=NB103_102.out
 refine skip_ (w1:=?_) (by rfl) rfl ?_ ?_
 rotate_left
 ·
  go_simp
  rfl
 refine hK.out _ _ ⟨((cell_far (p:=⟨gb103,_,none⟩) NB101_103.out _).trans (((cell_far (p:=⟨gb103,_,none⟩) NB101_103.out _).trans (hHeld.1)))),((cell_far (p:=⟨gb103,_,none⟩) NB101_103.out _).trans (((cell_far (p:=⟨gb103,_,none⟩) NB101_103.out _).trans (hHeld.2.1)))),((cell_far (p:=⟨gb103,_,none⟩) NB102_103.out _).trans (((cell_far (p:=⟨gb103,_,none⟩) NB102_103.out _).trans (hHeld.2.2.1)))),((cell_far (p:=⟨gb103,_,none⟩) NB102_103.out _).trans (((cell_far (p:=⟨gb103,_,none⟩) NB102_103.out _).trans (hHeld.2.2.2))))⟩ (fun hHeld=>?_)
 clear hK K
 refine done_ (zej HT_.out (by kernel_rfl)) ?_
 try go_wp2
 refine bodyPost_ret (results_cell_row rfl _ _ gb103 34 #[.int .i64 t104,.int .i64 t105] (0,0) _ rfl qz23_ Try.underlying34 rfl (by kernel_rfl)) rfl ?_
 exact⟨qz8_,qz17_⟩
def za6.f (a0:Int) (a1:Int):Option (Int):=some (Int.tmod (wrap64 (a0 * a1)) 2130706433)
theorem za6.calls (a0:Int) (a1:Int) (r:Int) (w:World) (h:za6.f a0 a1=some r) :
  Calls Try.prog 151 #[.int .i64 a0,.int .i64 a1] w fun e w'=>e=.returned (.int .i64 r)∧zbr w w':=by
 have H:(some (Int.tmod (wrap64 (a0 * a1)) 2130706433))=some r:=h
 clear h
 obtain rfl:=Option.some.inj H
 go_enter Try.func151,Try.ntmps151
 go_wp2
 go_ret
 exact⟨qz10_,qz2_⟩
end Go.Proofs.Ytgookagndlfehaa.PT
end
