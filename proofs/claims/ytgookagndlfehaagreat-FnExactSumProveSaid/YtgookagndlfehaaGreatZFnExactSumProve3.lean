/- Part 3 of the proof of FnExactSumProve: what functions compute, shown step by step, and what that says (the claim's last text states the law). -/
import Derived.Test.YtgookagndlfehaaGreatZFnExactSumProve2
set_option maxRecDepth 100000
set_option maxHeartbeats 8000000
section
namespace Go.Proofs.YtgookagndlfehaaGreat.PT
open Go.RowKit Go.Proofs.YtgookagndlfehaaGreatW.PrintWords Go.Proofs.YtgookagndlfehaaGreatW.PrintLast Go.Proofs.YtgookagndlfehaaGreatW.PrintMore
attribute [local go_sem] zez zey zfh zff zed zd9 zex zew   -- for this text's walks alone
set_option linter.unusedVariables false
set_option linter.unusedSimpArgs false
def zay.f (k:Nat) (l0_0:List (S32)) (a0_1:Int) (a0_2:ByteArray) (a0_3:Int):Option ((List (S32)) × Int × ByteArray × Int × Int × Int):=if (l0_0.length:Int)>0 then(if (l0_0.length:Int)=0 then(none) else(if 0≤(Int.tmod a0_1 (l0_0.length:Int)) then(if (Int.tmod a0_1 (l0_0.length:Int))<(l0_0.length:Int) then(some (l0_0,wrap64 (a0_1 + 1),a0_2,a0_3,(zac l0_0 (Int.tmod a0_1 (l0_0.length:Int))).f0,(zac l0_0 (Int.tmod a0_1 (l0_0.length:Int))).f1)) else(none)) else(none))) else(if a0_2.size + 4≤9223372036854775807 then((zau.f k a0_3 4).bind fun t106=>(if (a0_2++(⟨#[100,114,97,119]⟩:ByteArray)).size + (strOfNums t106).size≤9223372036854775807 then((zcv.f ((a0_2++(⟨#[100,114,97,119]⟩:ByteArray))++(strOfNums t106))).bind fun t109=>(if 0≤8 then(if 8≤(t109.size:Int) then((zbj.f k (t109.extract 0 8)).bind fun t110=>(if 8≤16 then(if 16≤(t109.size:Int) then((zbj.f k (t109.extract 8 16)).bind fun t111=>(some (l0_0,a0_1,a0_2,wrap64 (a0_3 + 1),t110,t111))) else(none)) else(none))) else(none)) else(none))) else(none))) else(none))
def zay.T2:Bool × List (List Nat × List Nat):=(true,[([],[]),([0],[0]),([],[]),([2],[2]),([],[]),([4],[4]),([5],[5]),([3,6],[3,6]),([1,7],[1,7]),([8],[8]),([],[]),([10,9,0,1,2,3,4,5,6,7,8,9,10],[9,10])])
def zay.B2:List Nat:=[0,1,0,4,0,16,48,124,255,511,0,2047]
theorem zay.tab2:rtab .any (opsOf Tryz.f64 2)=zay.T2:=by kernel_rfl
theorem zay.bits2:zcu zay.T2.2 zay.B2=true:=by kernel_rfl
def zay.T5:Bool × List (List Nat × List Nat):=(true,[([],[]),([0],[0]),([1],[1]),([],[]),([3],[3]),([4],[4]),([5],[5]),([2,6],[2,6]),([7,5],[7]),([8,8,0,1,2,3,4,5,6,7,8],[8])])
def zay.B5:List Nat:=[0,1,3,0,8,24,56,127,255,511]
theorem zay.tab5:rtab .any (opsOf Tryz.f64 5)=zay.T5:=by kernel_rfl
theorem zay.bits5:zcu zay.T5.2 zay.B5=true:=by kernel_rfl
def zay.T7:Bool × List (List Nat × List Nat):=(true,[([],[]),([],[]),([1],[1]),([2],[2]),([],[]),([4],[4]),([5,3],[5]),([3,6],[3,6]),([0,6,0],[0]),([7,8,0,1,2,3,4,5,6,7,8],[7])])
def zay.B7:List Nat:=[0,0,2,6,0,16,62,126,127,511]
theorem zay.tab7:rtab .any (opsOf Tryz.f64 7)=zay.T7:=by kernel_rfl
theorem zay.bits7:zcu zay.T7.2 zay.B7=true:=by kernel_rfl
theorem zay.calls (k:Nat) (P0_0_:Nat→Prop) (u9000_:Value) (l0_0:List (S32)) (a0_1:Int) (a0_2:ByteArray) (a0_3:Int) (r1:List (S32)) (r2:Int) (r3:ByteArray) (r4:Int) (r5:Int) (r6:Int) (w0 w:World) (hB:Below w0.heap.size w0 w) (ho0_0:Kd.R k32 32 w w0.heap.size P0_0_ u9000_ l0_0) (h:zay.f k l0_0 a0_1 a0_2 a0_3=some (r1,r2,r3,r4,r5,r6)) :
  Calls Tryz.prog 64 #[.agg #[u9000_,.int .i64 a0_1,.string a0_2,.int .i64 a0_3]] w fun e w'=>∃ v0_:Value,e=.returned (.tuple #[.agg #[v0_,.int .i64 r2,.string r3,.int .i64 r4],.agg #[.int .i64 r5,.int .i64 r6]])∧Kd.R k32 32 w' w0.heap.size (fun k_=>(P0_0_ k_∨w.heap.size≤k_)) v0_ r1∧Below w0.heap.size w0 w'∧Kept w w' (fun k_=>P0_0_ k_):=by
 have hu38:=Tryz.underlying38
 have hu32:=Tryz.underlying32
 have HO0_0:=am_ (show Kd.R k32 32 w w0.heap.size (fun k_=>(P0_0_ k_∨w.heap.size≤k_)) u9000_ l0_0 from Kd.zba ho0_0 (fun k_ hk=>(.inl hk)))
 have HK:=am_ (Kept.refl w (fun k_=>P0_0_ k_))
 have HW0:=am_ hB.size
 have HB:=am_ hB
 clear hB
 have H:(if (l0_0.length:Int)>0 then(if (l0_0.length:Int)=0 then(none) else(if 0≤(Int.tmod a0_1 (l0_0.length:Int)) then(if (Int.tmod a0_1 (l0_0.length:Int))<(l0_0.length:Int) then(some (l0_0,wrap64 (a0_1 + 1),a0_2,a0_3,(zac l0_0 (Int.tmod a0_1 (l0_0.length:Int))).f0,(zac l0_0 (Int.tmod a0_1 (l0_0.length:Int))).f1)) else(none)) else(none))) else(if a0_2.size + 4≤9223372036854775807 then((zau.f k a0_3 4).bind fun t106=>(if (a0_2++(⟨#[100,114,97,119]⟩:ByteArray)).size + (strOfNums t106).size≤9223372036854775807 then((zcv.f ((a0_2++(⟨#[100,114,97,119]⟩:ByteArray))++(strOfNums t106))).bind fun t109=>(if 0≤8 then(if 8≤(t109.size:Int) then((zbj.f k (t109.extract 0 8)).bind fun t110=>(if 8≤16 then(if 16≤(t109.size:Int) then((zbj.f k (t109.extract 8 16)).bind fun t111=>(some (l0_0,a0_1,a0_2,wrap64 (a0_3 + 1),t110,t111))) else(none)) else(none))) else(none)) else(none))) else(none))) else(none)))=some (r1,r2,r3,r4,r5,r6):=h
 clear h
 by_cases c2:(l0_0.length:Int)>0
 ·
  rw [if_pos c2] at H
  have c2b0:decide (0<(l0_0.length:Int))=true:=decide_eq_true c2
  have c2b1:decide (0<l0_0.length)=true:=decide_eq_true (by omega)
  clear c2
  by_cases c3:(l0_0.length:Int)=0
  ·
   rw [if_pos c3] at H
   exact absurd H (by simp)
  ·
   rw [if_neg c3] at H
   have c3b0:((l0_0.length:Int) == 0)=false:=beq_eq_false_iff_ne.mpr c3
   have c3b1:((l0_0.length:Int) != 0)=true:=bne_iff_ne.mpr c3
   have c3b2:¬(l0_0=[]):=fun h_=>c3 (by rw [h_];rfl)
   obtain⟨ji4,hji4⟩:∃ j_:Int,(Int.tmod a0_1 (l0_0.length:Int))=j_:=⟨_,rfl⟩
   replace H:(if 0≤(ji4) then(if (ji4)<(l0_0.length:Int) then(some (l0_0,wrap64 (a0_1 + 1),a0_2,a0_3,(zac l0_0 (ji4)).f0,(zac l0_0 (ji4)).f1)) else(none)) else(none))=some (r1,r2,r3,r4,r5,r6):=by first|(rw [hji4] at H;exact H)|(simp only [hji4] at H ⊢;exact H)
   by_cases c5:0≤(ji4)
   ·
    rw [if_pos c5] at H
    have c5b0:decide (0≤(ji4))=true:=decide_eq_true c5
    clear c5
    by_cases c6:(ji4)<(l0_0.length:Int)
    ·
     rw [if_pos c6] at H
     have c6b0:decide ((ji4)<(l0_0.length:Int))=true:=decide_eq_true c6
     clear c6
     simp only [Option.some.injEq,Prod.mk.injEq] at H
     obtain⟨rfl,rfl,rfl,rfl,rfl,rfl⟩:=H
     obtain⟨Ao7,co7,eo7⟩:=Kd.zcb HO0_0.out
     subst eo7
     go_enter Tryz.func64,Tryz.ntmps64
     try go_wp2_with (first|((with_reducible refine zad (N:=1) rfl ?_);refine zaj rfl (N:=1) rfl (cs:=#[.slice Ao7 l0_0.length co7,.int .i64 a0_1,.string a0_2,.int .i64 a0_3]) (t:=38) bx_ ?_;intro gb101 hg w8 hbox hb;replace HO0_0:=am_ (Kd.zct qz16_ hb);replace BK101:=am_ (hbox);replace GW101:=am_ ((by rw [hg];exact qz17_:w.heap.size≤gb101));replace HK:=am_ (Kept.below (S:=(fun k_=>P0_0_ k_)) qz15_ hb);replace GE101:=am_ ((by rw [hg];exact(zaf qz2_):w0.heap.size≤gb101));replace HB:=am_ (zab qz2_ hb);clear hb hbox hg)|((with_reducible refine zad (N:=2) rfl ?_);refine zaj rfl (N:=2) rfl (cs:=#[.slice none 0 0,.int .i64 0,.string (⟨#[]⟩:ByteArray),.int .i64 0]) (t:=38) bx_ ?_;intro gb102 hg w9 hbox hb;replace HO0_0:=am_ (Kd.zct qz16_ hb);replace BK102:=am_ (hbox);replace GW102:=am_ ((by rw [hg];exact qz42_:w.heap.size≤gb102));replace HK:=am_ (Kept.below (S:=(fun k_=>P0_0_ k_)) qz18_ hb);replace GE102:=am_ ((by rw [hg];exact(zaf qz5_):w0.heap.size≤gb102));replace HB:=am_ (zab qz5_ hb);replace NB101_102:=am_ ((by rw [hg];exact Nat.ne_of_lt (zar (g:=gb101) (o:=.cells #[.slice Ao7 l0_0.length co7,.int .i64 a0_1,.string a0_2,.int .i64 a0_3] 38 (0,0)) qz6_):gb101≠gb102));replace NB102_101:=am_ ((by rw [hg];exact Nat.ne_of_gt (zar (g:=gb101) (o:=.cells #[.slice Ao7 l0_0.length co7,.int .i64 a0_1,.string a0_2,.int .i64 a0_3] 38 (0,0)) qz6_):gb102≠gb101));replace BK101:=am_ (zak (g:=gb101) (o:=.cells #[.slice Ao7 l0_0.length co7,.int .i64 a0_1,.string a0_2,.int .i64 a0_3] 38 (0,0)) qz6_ hb);clear hb hbox hg)|((with_reducible refine zad (N:=3) rfl ?_);refine zaj rfl (N:=3) rfl (cs:=#[.int .i64 0,.int .i64 0]) (t:=32) bx_ ?_;intro gb103 hg w10 hbox hb;replace HO0_0:=am_ (Kd.zct (Kd.zk9 qz16_ gb103 (Nat.le_of_eq hg.symm)) hb);replace BK103:=am_ (hbox);replace GW103:=am_ ((by rw [hg];exact qz43_:w.heap.size≤gb103));replace HK:=am_ (Kept.below (S:=(fun k_=>P0_0_ k_)) qz44_ hb);replace GE103:=am_ ((by rw [hg];exact(zaf qz8_):w0.heap.size≤gb103));replace HB:=am_ (zab qz8_ hb);replace NB101_103:=am_ ((by rw [hg];exact Nat.ne_of_lt (zar (g:=gb101) (o:=.cells #[.slice Ao7 l0_0.length co7,.int .i64 a0_1,.string a0_2,.int .i64 a0_3] 38 (0,0)) qz6_):gb101≠gb103));replace NB103_101:=am_ ((by rw [hg];exact Nat.ne_of_gt (zar (g:=gb101) (o:=.cells #[.slice Ao7 l0_0.length co7,.int .i64 a0_1,.string a0_2,.int .i64 a0_3] 38 (0,0)) qz6_):gb103≠gb101));replace BK101:=am_ (zak (g:=gb101) (o:=.cells #[.slice Ao7 l0_0.length co7,.int .i64 a0_1,.string a0_2,.int .i64 a0_3] 38 (0,0)) qz6_ hb);replace NB102_103:=am_ ((by rw [hg];exact Nat.ne_of_lt (zar (g:=gb102) (o:=.cells #[.slice none 0 0,.int .i64 0,.string (⟨#[]⟩:ByteArray),.int .i64 0] 38 (0,0)) qz7_):gb102≠gb103));replace NB103_102:=am_ ((by rw [hg];exact Nat.ne_of_gt (zar (g:=gb102) (o:=.cells #[.slice none 0 0,.int .i64 0,.string (⟨#[]⟩:ByteArray),.int .i64 0] 38 (0,0)) qz7_):gb103≠gb102));replace BK102:=am_ (zak (g:=gb102) (o:=.cells #[.slice none 0 0,.int .i64 0,.string (⟨#[]⟩:ByteArray),.int .i64 0] 38 (0,0)) qz7_ hb);clear hb hbox hg;have hnb11:=NB101_102.out;have hnc11:=NB102_101.out;have hnb12:=NB101_103.out;have hnc12:=NB103_101.out;obtain⟨hcz13_0,hcz13_1,hcz13_2,hcz13_3,hfz13_0,hfz13_1,hfz13_2,hfz13_3⟩:=bf4_ BK101.out))
     replace HO0_0:=am_ (Kd.zbt HO0_0.out)
     replace BK101:=am_ (zae BK101.out)
     replace BK102:=am_ (zae BK102.out)
     replace BK103:=am_ (zae BK103.out)
     replace HK:=am_ (Kept.drew HK.out)
     replace HB:=am_ (zao HB.out)
     have p104:0≤((ji4):Int):=of_decide_eq_true qz10_
     have q104:(ji4)<(l0_0.length:Int):=of_decide_eq_true qz10_
     obtain⟨ad104,e104,hx104_0,hx104_1⟩:=zdf (Kd.R_reads' HO0_0.out).2.2 (ji4) p104 q104
     cases e104
     replace p104:=eq_true p104
     replace q104:=eq_true q104
     refine zcn (n:=12) (S:=fun w'=>w'.cell? ⟨gb101,0,none⟩=some (.slice (some ad104) l0_0.length co7)∧w'.cell? ⟨gb101,1,none⟩=some (.int .i64 a0_1)∧w'.cell? ⟨gb101,2,none⟩=some (.string a0_2)∧w'.cell? ⟨gb101,3,none⟩=some (.int .i64 a0_3)∧w'.cell? (ad104.add (((ji4)).toNat * 2))=some (.int .i64 ((zac l0_0 (ji4)).f0))∧w'.cell? ⟨(ad104.add (((ji4)).toNat * 2)).block,(ad104.add (((ji4)).toNat * 2)).off + 1,none⟩=some (.int .i64 ((zac l0_0 (ji4)).f1))) (ds:=[]) (bs_ 12 0) (by kernel_rfl) rfl rfl ⟨(zaa BK101.out 0).trans rfl,(zaa BK101.out 1).trans rfl,(zaa BK101.out 2).trans rfl,(zaa BK101.out 3).trans rfl,hx104_0,hx104_1⟩ (fun hHeld=>?_);refine zcj zay.tab2 zay.bits2 (fun HT_ HW_=>?_)
     generalize w10.drew=w14 at HO0_0 BK101 BK102 BK103 HK HB hx104_0 hx104_1 hHeld ⊢
     refine pt_ HT_.out 0 10 (bs_ 12 1) ?_
     refine pt_ HT_.out 2 12 (bs_ 12 5) ?_
     refine pt_ HT_.out 4 14 (bs_ 12 21) ?_
     refine tt_ HT_ HW_ 1 (bs_ 12 23) hHeld ?_
     refine tt_ HT_ HW_ 3 (bs_ 12 31) hHeld ?_
     refine tt_ HT_ HW_ 5 (bs_ 12 63) hHeld ?_
     refine pt_ HT_.out 6 16 (bs_ 12 127) ?_
     refine pt_ HT_.out 7 17 (bs_ 12 255) ?_
     refine pt_ HT_.out 8 18 (bs_ 12 511) ?_
     refine tt_ HT_ HW_ 9 (bs_ 12 1023) hHeld ?_
     refine ot_ HT_ 10 (some 4) (bs_ 12 2047) (fun K hK=>?_)
     refine box_step ?hg (N:=4) ?hd (cs:=#[.int .i64 0,.int .i64 0]) (t:=32) ?hr ?_;(case hd=>rfl);(case hg=>rfl);(case hr=>first|(go_simp;done)|(go_simp;rfl))
     intro gb105 hg w15 hbox hb
     have HS4_:=(hb.cell (World.block_lt_of_cell? _ _ (hHeld.2.2.2.2.1))).trans (hHeld.2.2.2.2.1)
     have HS5_:=(hb.cell (World.block_lt_of_cell? _ _ (hHeld.2.2.2.2.2))).trans (hHeld.2.2.2.2.2)
     replace HO0_0:=am_ (Kd.zct (Kd.zk9 qz16_ gb105 (Nat.le_of_eq hg.symm)) hb)
     replace BK105:=am_ (hbox)
     replace GW105:=am_ ((by rw [hg];exact(by first|exact HK.out.1|exact(show Kept w _ (fun k_=>P0_0_ k_) from by repeat(first|(with_reducible first|exact HK.out|apply Kept.alloc|apply Kept.drewN|apply Kept.drew|refine Kept.setCell ?_ (.inr GW101.out) _|refine Kept.setCell ?_ (.inr GW102.out) _|refine Kept.setCell ?_ (.inr GW103.out) _)|exact HK.out)).1):w.heap.size≤gb105))
     replace HK:=am_ (Kept.below (S:=(fun k_=>P0_0_ k_)) qz45_ hb)
     replace GE105:=am_ ((by rw [hg];exact(zaf qz9_):w0.heap.size≤gb105))
     replace HB:=am_ (zab qz9_ hb)
     replace NB101_105:=am_ ((by rw [hg];exact Nat.ne_of_lt (zar (g:=gb101) (o:=.cells #[.slice (some ad104) l0_0.length co7,.int .i64 a0_1,.string a0_2,.int .i64 a0_3] 38 (0,0)) qz6_):gb101≠gb105))
     replace NB105_101:=am_ ((by rw [hg];exact Nat.ne_of_gt (zar (g:=gb101) (o:=.cells #[.slice (some ad104) l0_0.length co7,.int .i64 a0_1,.string a0_2,.int .i64 a0_3] 38 (0,0)) qz6_):gb105≠gb101))
     replace BK101:=am_ (zak (g:=gb101) (o:=.cells #[.slice (some ad104) l0_0.length co7,.int .i64 a0_1,.string a0_2,.int .i64 a0_3] 38 (0,0)) qz6_ hb)
     replace NB102_105:=am_ ((by rw [hg];exact Nat.ne_of_lt (zar (g:=gb102) (o:=.cells #[.slice none 0 0,.int .i64 0,.string (⟨#[]⟩:ByteArray),.int .i64 0] 38 (0,0)) qz7_):gb102≠gb105))
     replace NB105_102:=am_ ((by rw [hg];exact Nat.ne_of_gt (zar (g:=gb102) (o:=.cells #[.slice none 0 0,.int .i64 0,.string (⟨#[]⟩:ByteArray),.int .i64 0] 38 (0,0)) qz7_):gb105≠gb102))
     replace BK102:=am_ (zak (g:=gb102) (o:=.cells #[.slice none 0 0,.int .i64 0,.string (⟨#[]⟩:ByteArray),.int .i64 0] 38 (0,0)) qz7_ hb)
     replace NB103_105:=am_ ((by rw [hg];exact Nat.ne_of_lt (zar (g:=gb103) (o:=.cells #[.int .i64 0,.int .i64 0] 32 (0,0)) qz14_):gb103≠gb105))
     replace NB105_103:=am_ ((by rw [hg];exact Nat.ne_of_gt (zar (g:=gb103) (o:=.cells #[.int .i64 0,.int .i64 0] 32 (0,0)) qz14_):gb105≠gb103))
     replace BK103:=am_ (zak (g:=gb103) (o:=.cells #[.int .i64 0,.int .i64 0] 32 (0,0)) qz14_ hb)
     clear hb hbox hg
     refine hK.out _ _ ⟨(zaa BK101.out 0).trans rfl,(zaa BK101.out 1).trans rfl,(zaa BK101.out 2).trans rfl,(zaa BK101.out 3).trans rfl,HS4_,HS5_⟩ (fun hHeld=>?_)
     clear hK K
     refine nm_ 4 ?_
     refine ot_ HT_ 11 none (bs_ 12 4095) (fun K hK=>?_)
     obtain⟨hs16,hfs16⟩:=bi_ BK105.out 0
     have hns16_0:=NB101_105.out
     have hns16_1:=NB102_105.out
     have hns16_2:=NB103_105.out
     have hms16_0:=NB105_101.out
     have hms16_1:=NB105_102.out
     have hms16_2:=NB105_103.out
     obtain⟨hs17,hfs17⟩:=bi_ BK105.out 1
     have hns17_0:=NB101_105.out
     have hns17_1:=NB102_105.out
     have hns17_2:=NB103_105.out
     have hms17_0:=NB105_101.out
     have hms17_1:=NB105_102.out
     have hms17_2:=NB105_103.out
     refine skip_ (w1:=?_) (by rfl) rfl ?_ ?_
     rotate_left
     ·
      go_simp
      rfl
     refine hK.out _ _ ⟨((cell_far (p:=⟨gb105,_,none⟩) NB101_105.out _).trans (((cell_far (p:=⟨gb105,_,none⟩) NB101_105.out _).trans (hHeld.1)))),((cell_far (p:=⟨gb105,_,none⟩) NB101_105.out _).trans (((cell_far (p:=⟨gb105,_,none⟩) NB101_105.out _).trans (hHeld.2.1)))),((cell_far (p:=⟨gb105,_,none⟩) NB101_105.out _).trans (((cell_far (p:=⟨gb105,_,none⟩) NB101_105.out _).trans (hHeld.2.2.1)))),((cell_far (p:=⟨gb105,_,none⟩) NB101_105.out _).trans (((cell_far (p:=⟨gb105,_,none⟩) NB101_105.out _).trans (hHeld.2.2.2.1)))),((cell_far (p:=⟨gb105,_,none⟩) qz46_ _).trans (((cell_far (p:=⟨gb105,_,none⟩) qz46_ _).trans (hHeld.2.2.2.2.1)))),((cell_far (p:=⟨gb105,_,none⟩) qz46_ _).trans (((cell_far (p:=⟨gb105,_,none⟩) qz46_ _).trans (hHeld.2.2.2.2.2))))⟩ (fun hHeld=>?_)
     clear hK K
     refine done_ (zdr HT_.out (by kernel_rfl)) ?_
     have hnb18:=NB101_105.out
     have hnc18:=NB105_101.out
     obtain⟨hcz19_0,hcz19_1,hcz19_2,hcz19_3,hfz19_0,hfz19_1,hfz19_2,hfz19_3⟩:=bf4_ BK101.out
     try go_wp2
     have n0_:zal (Kd.R k32 32 (((w15.setCell ⟨gb105,0,none⟩ (.int .i64 ((zac l0_0 (ji4)).f0))).setCell ⟨gb105,1,none⟩ (.int .i64 ((zac l0_0 (ji4)).f1))).setCell ⟨gb101,1,none⟩ (.int .i64 (wrap64 (a0_1 + 1)))) w0.heap.size (fun k_=>(P0_0_ k_∨w.heap.size≤k_)∧k_≠gb103∧k_≠gb105) (.slice (some ad104) l0_0.length co7) l0_0):=⟨by(with_reducible repeat(first|apply Kd.zbm|apply Kd.zbl|apply Kd.zbt));exact Kd.zba (Kd.R_far (p:=⟨gb101,1,none⟩) (Kd.R_far (p:=⟨gb105,1,none⟩) (Kd.R_far (p:=⟨gb105,0,none⟩) (Kd.zeq (Kd.zba HO0_0.out (fun k_ hk=>(⟨hk,hk.2⟩:_∧k_≠gb105))) BK101.out (by decide)) (fun _ hk=>hk.1.2) (.int .i64 ((zac l0_0 (ji4)).f0))) (fun _ hk=>hk.1.2) (.int .i64 ((zac l0_0 (ji4)).f1))) (fun _ hk=>hk.2) (.int .i64 (wrap64 (a0_1 + 1)))) (fun _ hk=>⟨hk.1.1.1.1,⟨hk.1.1.1.2,hk.1.1.2⟩⟩)⟩
     have n1_:zal ((((w15.setCell ⟨gb105,0,none⟩ (.int .i64 ((zac l0_0 (ji4)).f0))).setCell ⟨gb105,1,none⟩ (.int .i64 ((zac l0_0 (ji4)).f1))).setCell ⟨gb101,1,none⟩ (.int .i64 (wrap64 (a0_1 + 1)))).heap[gb101]?=some (.cells #[.slice (some ad104) l0_0.length co7,.int .i64 (wrap64 (a0_1 + 1)),.string a0_2,.int .i64 a0_3] 38 (0,0))):=⟨(by(with_reducible repeat(first|refine zah ?_ _|refine zae ?_|refine zai ?_ _));refine za9 (cs:=#[.slice (some ad104) l0_0.length co7,.int .i64 a0_1,.string a0_2,.int .i64 a0_3]) ?_ 1 _ rfl;(with_reducible repeat(first|refine zah ?_ _|refine zae ?_|refine zai ?_ _));refine zb8 ?_ NB101_105.out _;(with_reducible repeat(first|refine zah ?_ _|refine zae ?_|refine zai ?_ _));refine zb8 ?_ NB101_105.out _;(with_reducible repeat(first|refine zah ?_ _|refine zae ?_|refine zai ?_ _));exact BK101.out)⟩
     have n2_:zal ((((w15.setCell ⟨gb105,0,none⟩ (.int .i64 ((zac l0_0 (ji4)).f0))).setCell ⟨gb105,1,none⟩ (.int .i64 ((zac l0_0 (ji4)).f1))).setCell ⟨gb101,1,none⟩ (.int .i64 (wrap64 (a0_1 + 1)))).heap[gb102]?=some (.cells #[.slice none 0 0,.int .i64 0,.string (⟨#[]⟩:ByteArray),.int .i64 0] 38 (0,0))):=⟨(by(with_reducible repeat(first|refine zah ?_ _|refine zae ?_|refine zai ?_ _));refine zb8 ?_ NB102_101.out _;(with_reducible repeat(first|refine zah ?_ _|refine zae ?_|refine zai ?_ _));refine zb8 ?_ NB102_105.out _;(with_reducible repeat(first|refine zah ?_ _|refine zae ?_|refine zai ?_ _));refine zb8 ?_ NB102_105.out _;(with_reducible repeat(first|refine zah ?_ _|refine zae ?_|refine zai ?_ _));exact BK102.out)⟩
     have n3_:zal ((((w15.setCell ⟨gb105,0,none⟩ (.int .i64 ((zac l0_0 (ji4)).f0))).setCell ⟨gb105,1,none⟩ (.int .i64 ((zac l0_0 (ji4)).f1))).setCell ⟨gb101,1,none⟩ (.int .i64 (wrap64 (a0_1 + 1)))).heap[gb103]?=some (.cells #[.int .i64 0,.int .i64 0] 32 (0,0))):=⟨(by(with_reducible repeat(first|refine zah ?_ _|refine zae ?_|refine zai ?_ _));refine zb8 ?_ NB103_101.out _;(with_reducible repeat(first|refine zah ?_ _|refine zae ?_|refine zai ?_ _));refine zb8 ?_ NB103_105.out _;(with_reducible repeat(first|refine zah ?_ _|refine zae ?_|refine zai ?_ _));refine zb8 ?_ NB103_105.out _;(with_reducible repeat(first|refine zah ?_ _|refine zae ?_|refine zai ?_ _));exact BK103.out)⟩
     have n4_:zal ((((w15.setCell ⟨gb105,0,none⟩ (.int .i64 ((zac l0_0 (ji4)).f0))).setCell ⟨gb105,1,none⟩ (.int .i64 ((zac l0_0 (ji4)).f1))).setCell ⟨gb101,1,none⟩ (.int .i64 (wrap64 (a0_1 + 1)))).heap[gb105]?=some (.cells #[.int .i64 ((zac l0_0 (ji4)).f0),.int .i64 ((zac l0_0 (ji4)).f1)] 32 (0,0))):=⟨(by(with_reducible repeat(first|refine zah ?_ _|refine zae ?_|refine zai ?_ _));refine zb8 ?_ NB105_101.out _;(with_reducible repeat(first|refine zah ?_ _|refine zae ?_|refine zai ?_ _));refine za9 (cs:=#[.int .i64 ((zac l0_0 (ji4)).f0),.int .i64 0]) ?_ 1 _ rfl;(with_reducible repeat(first|refine zah ?_ _|refine zae ?_|refine zai ?_ _));refine za9 (cs:=#[.int .i64 0,.int .i64 0]) ?_ 0 _ rfl;(with_reducible repeat(first|refine zah ?_ _|refine zae ?_|refine zai ?_ _));exact BK105.out)⟩
     have n5_:zal (Kept w (((w15.setCell ⟨gb105,0,none⟩ (.int .i64 ((zac l0_0 (ji4)).f0))).setCell ⟨gb105,1,none⟩ (.int .i64 ((zac l0_0 (ji4)).f1))).setCell ⟨gb101,1,none⟩ (.int .i64 (wrap64 (a0_1 + 1)))) (fun k_=>P0_0_ k_)):=⟨(by repeat(first|(with_reducible first|exact HK.out|apply Kept.alloc|apply Kept.drewN|apply Kept.drew|refine Kept.setCell ?_ (.inr GW101.out) _|refine Kept.setCell ?_ (.inr GW102.out) _|refine Kept.setCell ?_ (.inr GW103.out) _|refine Kept.setCell ?_ (.inr GW105.out) _)|exact HK.out))⟩
     have n6_:zal (Below w0.heap.size w0 (((w15.setCell ⟨gb105,0,none⟩ (.int .i64 ((zac l0_0 (ji4)).f0))).setCell ⟨gb105,1,none⟩ (.int .i64 ((zac l0_0 (ji4)).f1))).setCell ⟨gb101,1,none⟩ (.int .i64 (wrap64 (a0_1 + 1))))):=⟨(by repeat(first|(with_reducible first|exact HB.out|apply za5|apply zaw|apply zao|refine za6 ?_ GE101.out|refine za6 ?_ GE102.out|refine za6 ?_ GE103.out|refine za6 ?_ GE105.out)|exact HB.out))⟩
     (try clear HO0_0)
     (try clear BK101)
     (try clear BK102)
     (try clear BK103)
     (try clear BK105)
     (try clear HK)
     (try clear HB)
     generalize (((w15.setCell ⟨gb105,0,none⟩ (.int .i64 ((zac l0_0 (ji4)).f0))).setCell ⟨gb105,1,none⟩ (.int .i64 ((zac l0_0 (ji4)).f1))).setCell ⟨gb101,1,none⟩ (.int .i64 (wrap64 (a0_1 + 1))))=w20 at n0_ n1_ n2_ n3_ n4_ n5_ n6_ ⊢
     have HO0_0:=n0_
     have BK101:=n1_
     have BK102:=n2_
     have BK103:=n3_
     have BK105:=n4_
     have HK:=n5_
     have HB:=n6_
     clear n0_ n1_ n2_ n3_ n4_ n5_ n6_
     replace HO0_0:=am_ (Kd.zbt HO0_0.out)
     replace BK101:=am_ (zae BK101.out)
     replace BK102:=am_ (zae BK102.out)
     replace BK103:=am_ (zae BK103.out)
     replace BK105:=am_ (zae BK105.out)
     replace HK:=am_ (Kept.drew HK.out)
     replace HB:=am_ (zao HB.out)
     refine zcn (n:=4) (S:=fun w'=>w'.cell? ⟨gb101,0,none⟩=some (.slice (some ad104) l0_0.length co7)∧w'.cell? ⟨gb101,1,none⟩=some (.int .i64 (wrap64 (a0_1 + 1)))∧w'.cell? ⟨gb101,2,none⟩=some (.string a0_2)∧w'.cell? ⟨gb101,3,none⟩=some (.int .i64 a0_3)∧w'.cell? ⟨gb105,0,none⟩=some (.int .i64 ((zac l0_0 (ji4)).f0))∧w'.cell? ⟨gb105,1,none⟩=some (.int .i64 ((zac l0_0 (ji4)).f1))) (ds:=[]) (bs_ 4 0) (by kernel_rfl) rfl rfl ⟨(zaa BK101.out 0).trans rfl,(zaa BK101.out 1).trans rfl,(zaa BK101.out 2).trans rfl,(zaa BK101.out 3).trans rfl,(zaa BK105.out 0).trans rfl,(zaa BK105.out 1).trans rfl⟩ (fun hHeld=>?_)
     generalize w20.drew=w21 at HO0_0 BK101 BK102 BK103 BK105 HK HB hHeld ⊢
     refine tk_ 0 (bs_ 4 1) hHeld ?_
     refine tk_ 1 (bs_ 4 3) hHeld ?_
     refine on_ 2 none (bs_ 4 7) (fun K hK=>?_)
     obtain⟨hs22,hfs22⟩:=bi_ BK102.out 0
     have hns22_0:=NB101_102.out
     have hns22_2:=NB103_102.out
     have hns22_3:=NB105_102.out
     have hms22_0:=NB102_101.out
     have hms22_2:=NB102_103.out
     have hms22_3:=NB102_105.out
     obtain⟨hs23,hfs23⟩:=bi_ BK102.out 1
     have hns23_0:=NB101_102.out
     have hns23_2:=NB103_102.out
     have hns23_3:=NB105_102.out
     have hms23_0:=NB102_101.out
     have hms23_2:=NB102_103.out
     have hms23_3:=NB102_105.out
     obtain⟨hs24,hfs24⟩:=bi_ BK102.out 2
     have hns24_0:=NB101_102.out
     have hns24_2:=NB103_102.out
     have hns24_3:=NB105_102.out
     have hms24_0:=NB102_101.out
     have hms24_2:=NB102_103.out
     have hms24_3:=NB102_105.out
     obtain⟨hs25,hfs25⟩:=bi_ BK102.out 3
     have hns25_0:=NB101_102.out
     have hns25_2:=NB103_102.out
     have hns25_3:=NB105_102.out
     have hms25_0:=NB102_101.out
     have hms25_2:=NB102_103.out
     have hms25_3:=NB102_105.out
     refine skip_ (w1:=?_) (by rfl) rfl ?_ ?_
     rotate_left
     ·
      go_simp
      rfl
     refine hK.out _ _ ⟨((cell_far (p:=⟨gb102,_,none⟩) NB101_102.out _).trans (((cell_far (p:=⟨gb102,_,none⟩) NB101_102.out _).trans (((cell_far (p:=⟨gb102,_,none⟩) NB101_102.out _).trans (((cell_far (p:=⟨gb102,_,none⟩) NB101_102.out _).trans (hHeld.1)))))))),((cell_far (p:=⟨gb102,_,none⟩) NB101_102.out _).trans (((cell_far (p:=⟨gb102,_,none⟩) NB101_102.out _).trans (((cell_far (p:=⟨gb102,_,none⟩) NB101_102.out _).trans (((cell_far (p:=⟨gb102,_,none⟩) NB101_102.out _).trans (hHeld.2.1)))))))),((cell_far (p:=⟨gb102,_,none⟩) NB101_102.out _).trans (((cell_far (p:=⟨gb102,_,none⟩) NB101_102.out _).trans (((cell_far (p:=⟨gb102,_,none⟩) NB101_102.out _).trans (((cell_far (p:=⟨gb102,_,none⟩) NB101_102.out _).trans (hHeld.2.2.1)))))))),((cell_far (p:=⟨gb102,_,none⟩) NB101_102.out _).trans (((cell_far (p:=⟨gb102,_,none⟩) NB101_102.out _).trans (((cell_far (p:=⟨gb102,_,none⟩) NB101_102.out _).trans (((cell_far (p:=⟨gb102,_,none⟩) NB101_102.out _).trans (hHeld.2.2.2.1)))))))),((cell_far (p:=⟨gb102,_,none⟩) NB105_102.out _).trans (((cell_far (p:=⟨gb102,_,none⟩) NB105_102.out _).trans (((cell_far (p:=⟨gb102,_,none⟩) NB105_102.out _).trans (((cell_far (p:=⟨gb102,_,none⟩) NB105_102.out _).trans (hHeld.2.2.2.2.1)))))))),((cell_far (p:=⟨gb102,_,none⟩) NB105_102.out _).trans (((cell_far (p:=⟨gb102,_,none⟩) NB105_102.out _).trans (((cell_far (p:=⟨gb102,_,none⟩) NB105_102.out _).trans (((cell_far (p:=⟨gb102,_,none⟩) NB105_102.out _).trans (hHeld.2.2.2.2.2))))))))⟩ (fun hHeld=>?_)
     clear hK K
     refine on_ 3 none (bs_ 4 15) (fun K hK=>?_)
     obtain⟨hs26,hfs26⟩:=bi_ BK103.out 0
     have hns26_0:=NB101_103.out
     have hns26_1:=NB102_103.out
     have hns26_3:=NB105_103.out
     have hms26_0:=NB103_101.out
     have hms26_1:=NB103_102.out
     have hms26_3:=NB103_105.out
     obtain⟨hs27,hfs27⟩:=bi_ BK103.out 1
     have hns27_0:=NB101_103.out
     have hns27_1:=NB102_103.out
     have hns27_3:=NB105_103.out
     have hms27_0:=NB103_101.out
     have hms27_1:=NB103_102.out
     have hms27_3:=NB103_105.out
     refine skip_ (w1:=?_) (by rfl) rfl ?_ ?_
     rotate_left
     ·
      go_simp
      rfl
     refine hK.out _ _ ⟨((cell_far (p:=⟨gb103,_,none⟩) NB101_103.out _).trans (((cell_far (p:=⟨gb103,_,none⟩) NB101_103.out _).trans (hHeld.1)))),((cell_far (p:=⟨gb103,_,none⟩) NB101_103.out _).trans (((cell_far (p:=⟨gb103,_,none⟩) NB101_103.out _).trans (hHeld.2.1)))),((cell_far (p:=⟨gb103,_,none⟩) NB101_103.out _).trans (((cell_far (p:=⟨gb103,_,none⟩) NB101_103.out _).trans (hHeld.2.2.1)))),((cell_far (p:=⟨gb103,_,none⟩) NB101_103.out _).trans (((cell_far (p:=⟨gb103,_,none⟩) NB101_103.out _).trans (hHeld.2.2.2.1)))),((cell_far (p:=⟨gb103,_,none⟩) NB105_103.out _).trans (((cell_far (p:=⟨gb103,_,none⟩) NB105_103.out _).trans (hHeld.2.2.2.2.1)))),((cell_far (p:=⟨gb103,_,none⟩) NB105_103.out _).trans (((cell_far (p:=⟨gb103,_,none⟩) NB105_103.out _).trans (hHeld.2.2.2.2.2))))⟩ (fun hHeld=>?_)
     clear hK K
     refine done_ (by kernel_rfl) ?_
     try go_wp2
     refine bodyPost_ret (zkm rfl _ _ gb102 gb103 38 32 #[.slice (some ad104) l0_0.length co7,.int .i64 (wrap64 (a0_1 + 1)),.string a0_2,.int .i64 a0_3] #[.int .i64 ((zac l0_0 (ji4)).f0),.int .i64 ((zac l0_0 (ji4)).f1)] (0,0) (0,0) _ _ rfl (by(with_reducible repeat(first|refine zah ?_ _|refine zae ?_|refine zai ?_ _));refine zb8 ?_ NB102_103.out _;(with_reducible repeat(first|refine zah ?_ _|refine zae ?_|refine zai ?_ _));refine zb8 ?_ NB102_103.out _;(with_reducible repeat(first|refine zah ?_ _|refine zae ?_|refine zai ?_ _));refine za9 (cs:=#[.slice (some ad104) l0_0.length co7,.int .i64 (wrap64 (a0_1 + 1)),.string a0_2,.int .i64 0]) ?_ 3 _ rfl;(with_reducible repeat(first|refine zah ?_ _|refine zae ?_|refine zai ?_ _));refine za9 (cs:=#[.slice (some ad104) l0_0.length co7,.int .i64 (wrap64 (a0_1 + 1)),.string (⟨#[]⟩:ByteArray),.int .i64 0]) ?_ 2 _ rfl;(with_reducible repeat(first|refine zah ?_ _|refine zae ?_|refine zai ?_ _));refine za9 (cs:=#[.slice (some ad104) l0_0.length co7,.int .i64 0,.string (⟨#[]⟩:ByteArray),.int .i64 0]) ?_ 1 _ rfl;(with_reducible repeat(first|refine zah ?_ _|refine zae ?_|refine zai ?_ _));refine za9 (cs:=#[.slice none 0 0,.int .i64 0,.string (⟨#[]⟩:ByteArray),.int .i64 0]) ?_ 0 _ rfl;(with_reducible repeat(first|refine zah ?_ _|refine zae ?_|refine zai ?_ _));exact BK102.out) Tryz.underlying38 rfl (by kernel_rfl) rfl (by(with_reducible repeat(first|refine zah ?_ _|refine zae ?_|refine zai ?_ _));refine za9 (cs:=#[.int .i64 ((zac l0_0 (ji4)).f0),.int .i64 0]) ?_ 1 _ rfl;(with_reducible repeat(first|refine zah ?_ _|refine zae ?_|refine zai ?_ _));refine za9 (cs:=#[.int .i64 0,.int .i64 0]) ?_ 0 _ rfl;(with_reducible repeat(first|refine zah ?_ _|refine zae ?_|refine zai ?_ _));refine zb8 ?_ NB103_102.out _;(with_reducible repeat(first|refine zah ?_ _|refine zae ?_|refine zai ?_ _));refine zb8 ?_ NB103_102.out _;(with_reducible repeat(first|refine zah ?_ _|refine zae ?_|refine zai ?_ _));refine zb8 ?_ NB103_102.out _;(with_reducible repeat(first|refine zah ?_ _|refine zae ?_|refine zai ?_ _));refine zb8 ?_ NB103_102.out _;(with_reducible repeat(first|refine zah ?_ _|refine zae ?_|refine zai ?_ _));exact BK103.out) Tryz.underlying32 rfl (by kernel_rfl)) rfl ?_
     exact⟨_,by first|rfl|(simp [zc9,zda] <;> rfl)|(simp only [←hji4];first|rfl|(simp [zc9,zda] <;> rfl))|(simp [*,zc9,zda] <;> rfl),by(with_reducible repeat(first|apply Kd.zbm|apply Kd.zbl|apply Kd.zbt));exact Kd.zba (Kd.R_far (p:=⟨gb103,1,none⟩) (Kd.R_far (p:=⟨gb103,0,none⟩) (Kd.R_far (p:=⟨gb102,3,none⟩) (Kd.R_far (p:=⟨gb102,2,none⟩) (Kd.R_far (p:=⟨gb102,1,none⟩) (Kd.R_far (p:=⟨gb102,0,none⟩) (Kd.zba (Kd.zeq HO0_0.out BK102.out (by decide)) (fun k_ hk=>(⟨hk,hk.1.2.1⟩:_∧k_≠gb103))) (fun _ hk=>hk.1.2) (.slice (some ad104) l0_0.length co7)) (fun _ hk=>hk.1.2) (.int .i64 (wrap64 (a0_1 + 1)))) (fun _ hk=>hk.1.2) (.string a0_2)) (fun _ hk=>hk.1.2) (.int .i64 a0_3)) (fun _ hk=>hk.2) (.int .i64 ((zac l0_0 (ji4)).f0))) (fun _ hk=>hk.2) (.int .i64 ((zac l0_0 (ji4)).f1))) (fun _ hk=>hk.1.1.1),by repeat(first|(with_reducible first|exact HB.out|apply za5|apply zaw|apply zao|refine za6 ?_ GE101.out|refine za6 ?_ GE102.out|refine za6 ?_ GE103.out|refine za6 ?_ GE105.out)|exact HB.out),by repeat(first|(with_reducible first|exact HK.out|apply Kept.alloc|apply Kept.drewN|apply Kept.drew|refine Kept.setCell ?_ (.inr GW101.out) _|refine Kept.setCell ?_ (.inr GW102.out) _|refine Kept.setCell ?_ (.inr GW103.out) _|refine Kept.setCell ?_ (.inr GW105.out) _)|exact HK.out)⟩
    ·
     rw [if_neg c6] at H
     exact absurd H (by simp)
   ·
    rw [if_neg c5] at H
    exact absurd H (by simp)
 ·
  rw [if_neg c2] at H
  have c2b0:decide (0<(l0_0.length:Int))=false:=decide_eq_false c2
  have c2b1:decide (0<l0_0.length)=false:=decide_eq_false (by omega)
  clear c2
  by_cases c28:a0_2.size + 4≤9223372036854775807
  ·
   rw [if_pos c28] at H
   have c28b0:=eq_true c28
   have c28b1:decide (a0_2.size + 4≤9223372036854775807)=true:=decide_eq_true c28
   try have c28b2:(9223372036854775807<a0_2.size + 4)=False:=eq_false (Nat.not_lt.2 c28)
   replace H:=Option.bind_eq_some_iff.mp H
   obtain⟨t106,A290,H⟩:=H
   replace H:(if (a0_2++(⟨#[100,114,97,119]⟩:ByteArray)).size + (strOfNums t106).size≤9223372036854775807 then((zcv.f ((a0_2++(⟨#[100,114,97,119]⟩:ByteArray))++(strOfNums t106))).bind fun t109=>(if 0≤8 then(if 8≤(t109.size:Int) then((zbj.f k (t109.extract 0 8)).bind fun t110=>(if 8≤16 then(if 16≤(t109.size:Int) then((zbj.f k (t109.extract 8 16)).bind fun t111=>(some (l0_0,a0_1,a0_2,wrap64 (a0_3 + 1),t110,t111))) else(none)) else(none))) else(none)) else(none))) else(none))=some (r1,r2,r3,r4,r5,r6):=H
   have A29:=am_ A290
   clear A290
   by_cases c30:(a0_2++(⟨#[100,114,97,119]⟩:ByteArray)).size + (strOfNums t106).size≤9223372036854775807
   ·
    rw [if_pos c30] at H
    have c30b0:=eq_true c30
    have c30b1:decide ((a0_2++(⟨#[100,114,97,119]⟩:ByteArray)).size + (strOfNums t106).size≤9223372036854775807)=true:=decide_eq_true c30
    try have c30b2:(9223372036854775807<(a0_2++(⟨#[100,114,97,119]⟩:ByteArray)).size + (strOfNums t106).size)=False:=eq_false (Nat.not_lt.2 c30)
    try have c30b3:(9223372036854775807<a0_2.size + 4 + (strOfNums t106).size)=False:=eq_false (Nat.not_lt.2 (by have h_:=c30;simp only [ByteArray.size_append] at h_;exact h_))
    replace H:=Option.bind_eq_some_iff.mp H
    obtain⟨t109,A310,H⟩:=H
    replace H:(if 0≤8 then(if 8≤(t109.size:Int) then((zbj.f k (t109.extract 0 8)).bind fun t110=>(if 8≤16 then(if 16≤(t109.size:Int) then((zbj.f k (t109.extract 8 16)).bind fun t111=>(some (l0_0,a0_1,a0_2,wrap64 (a0_3 + 1),t110,t111))) else(none)) else(none))) else(none)) else(none))=some (r1,r2,r3,r4,r5,r6):=H
    have A31:=am_ A310
    clear A310
    by_cases c32:0≤8
    ·
     rw [if_pos c32] at H
     have c32b0:=eq_true c32
     have c32b1:decide (0≤8)=true:=decide_eq_true c32
     clear c32
     by_cases c33:8≤(t109.size:Int)
     ·
      rw [if_pos c33] at H
      have c33b0:=eq_true c33
      have c33b1:decide (8≤(t109.size:Int))=true:=decide_eq_true c33
      clear c33
      replace H:=Option.bind_eq_some_iff.mp H
      obtain⟨t110,A340,H⟩:=H
      replace H:(if 8≤16 then(if 16≤(t109.size:Int) then((zbj.f k (t109.extract 8 16)).bind fun t111=>(some (l0_0,a0_1,a0_2,wrap64 (a0_3 + 1),t110,t111))) else(none)) else(none))=some (r1,r2,r3,r4,r5,r6):=H
      have A34:=am_ A340
      clear A340
      by_cases c35:8≤16
      ·
       rw [if_pos c35] at H
       have c35b0:=eq_true c35
       have c35b1:decide (8≤16)=true:=decide_eq_true c35
       clear c35
       by_cases c36:16≤(t109.size:Int)
       ·
        rw [if_pos c36] at H
        have c36b0:=eq_true c36
        have c36b1:decide (16≤(t109.size:Int))=true:=decide_eq_true c36
        clear c36
        replace H:=Option.bind_eq_some_iff.mp H
        obtain⟨t111,A370,H⟩:=H
        replace H:(some (l0_0,a0_1,a0_2,wrap64 (a0_3 + 1),t110,t111))=some (r1,r2,r3,r4,r5,r6):=H
        have A37:=am_ A370
        clear A370
        simp only [Option.some.injEq,Prod.mk.injEq] at H
        obtain⟨rfl,rfl,rfl,rfl,rfl,rfl⟩:=H
        obtain⟨Ao38,co38,eo38⟩:=Kd.zcb HO0_0.out
        subst eo38
        go_enter Tryz.func64,Tryz.ntmps64
        try go_wp2_with (first|((with_reducible refine zad (N:=1) rfl ?_);refine zaj rfl (N:=1) rfl (cs:=#[.slice Ao38 l0_0.length co38,.int .i64 a0_1,.string a0_2,.int .i64 a0_3]) (t:=38) bx_ ?_;intro gb101 hg w39 hbox hb;replace HO0_0:=am_ (Kd.zct qz16_ hb);replace BK101:=am_ (hbox);replace GW101:=am_ ((by rw [hg];exact qz17_:w.heap.size≤gb101));replace HK:=am_ (Kept.below (S:=(fun k_=>P0_0_ k_)) qz15_ hb);replace GE101:=am_ ((by rw [hg];exact(zaf qz2_):w0.heap.size≤gb101));replace HB:=am_ (zab qz2_ hb);clear hb hbox hg)|((with_reducible refine zad (N:=2) rfl ?_);refine zaj rfl (N:=2) rfl (cs:=#[.slice none 0 0,.int .i64 0,.string (⟨#[]⟩:ByteArray),.int .i64 0]) (t:=38) bx_ ?_;intro gb102 hg w40 hbox hb;replace HO0_0:=am_ (Kd.zct qz16_ hb);replace BK102:=am_ (hbox);replace GW102:=am_ ((by rw [hg];exact qz42_:w.heap.size≤gb102));replace HK:=am_ (Kept.below (S:=(fun k_=>P0_0_ k_)) qz18_ hb);replace GE102:=am_ ((by rw [hg];exact(zaf qz5_):w0.heap.size≤gb102));replace HB:=am_ (zab qz5_ hb);replace NB101_102:=am_ ((by rw [hg];exact Nat.ne_of_lt (zar (g:=gb101) (o:=.cells #[.slice Ao38 l0_0.length co38,.int .i64 a0_1,.string a0_2,.int .i64 a0_3] 38 (0,0)) qz6_):gb101≠gb102));replace NB102_101:=am_ ((by rw [hg];exact Nat.ne_of_gt (zar (g:=gb101) (o:=.cells #[.slice Ao38 l0_0.length co38,.int .i64 a0_1,.string a0_2,.int .i64 a0_3] 38 (0,0)) qz6_):gb102≠gb101));replace BK101:=am_ (zak (g:=gb101) (o:=.cells #[.slice Ao38 l0_0.length co38,.int .i64 a0_1,.string a0_2,.int .i64 a0_3] 38 (0,0)) qz6_ hb);clear hb hbox hg)|((with_reducible refine zad (N:=3) rfl ?_);refine zaj rfl (N:=3) rfl (cs:=#[.int .i64 0,.int .i64 0]) (t:=32) bx_ ?_;intro gb103 hg w41 hbox hb;replace HO0_0:=am_ (Kd.zct (Kd.zk9 qz16_ gb103 (Nat.le_of_eq hg.symm)) hb);replace BK103:=am_ (hbox);replace GW103:=am_ ((by rw [hg];exact qz43_:w.heap.size≤gb103));replace HK:=am_ (Kept.below (S:=(fun k_=>P0_0_ k_)) qz44_ hb);replace GE103:=am_ ((by rw [hg];exact(zaf qz8_):w0.heap.size≤gb103));replace HB:=am_ (zab qz8_ hb);replace NB101_103:=am_ ((by rw [hg];exact Nat.ne_of_lt (zar (g:=gb101) (o:=.cells #[.slice Ao38 l0_0.length co38,.int .i64 a0_1,.string a0_2,.int .i64 a0_3] 38 (0,0)) qz6_):gb101≠gb103));replace NB103_101:=am_ ((by rw [hg];exact Nat.ne_of_gt (zar (g:=gb101) (o:=.cells #[.slice Ao38 l0_0.length co38,.int .i64 a0_1,.string a0_2,.int .i64 a0_3] 38 (0,0)) qz6_):gb103≠gb101));replace BK101:=am_ (zak (g:=gb101) (o:=.cells #[.slice Ao38 l0_0.length co38,.int .i64 a0_1,.string a0_2,.int .i64 a0_3] 38 (0,0)) qz6_ hb);replace NB102_103:=am_ ((by rw [hg];exact Nat.ne_of_lt (zar (g:=gb102) (o:=.cells #[.slice none 0 0,.int .i64 0,.string (⟨#[]⟩:ByteArray),.int .i64 0] 38 (0,0)) qz7_):gb102≠gb103));replace NB103_102:=am_ ((by rw [hg];exact Nat.ne_of_gt (zar (g:=gb102) (o:=.cells #[.slice none 0 0,.int .i64 0,.string (⟨#[]⟩:ByteArray),.int .i64 0] 38 (0,0)) qz7_):gb103≠gb102));replace BK102:=am_ (zak (g:=gb102) (o:=.cells #[.slice none 0 0,.int .i64 0,.string (⟨#[]⟩:ByteArray),.int .i64 0] 38 (0,0)) qz7_ hb);clear hb hbox hg;have hnb42:=NB101_102.out;have hnc42:=NB102_101.out;have hnb43:=NB101_103.out;have hnc43:=NB103_101.out;obtain⟨hcz44_0,hcz44_1,hcz44_2,hcz44_3,hfz44_0,hfz44_1,hfz44_2,hfz44_3⟩:=bf4_ BK101.out))
        replace HO0_0:=am_ (Kd.zbt HO0_0.out)
        replace BK101:=am_ (zae BK101.out)
        replace BK102:=am_ (zae BK102.out)
        replace BK103:=am_ (zae BK103.out)
        replace HK:=am_ (Kept.drew HK.out)
        replace HB:=am_ (zao HB.out)
        refine zcn (n:=10) (S:=fun w'=>w'.cell? ⟨gb101,0,none⟩=some (.slice Ao38 l0_0.length co38)∧w'.cell? ⟨gb101,1,none⟩=some (.int .i64 a0_1)∧w'.cell? ⟨gb101,2,none⟩=some (.string a0_2)∧w'.cell? ⟨gb101,3,none⟩=some (.int .i64 a0_3)) (ds:=[]) (bs_ 10 0) (by kernel_rfl) rfl rfl ⟨(zaa BK101.out 0).trans rfl,(zaa BK101.out 1).trans rfl,(zaa BK101.out 2).trans rfl,(zaa BK101.out 3).trans rfl⟩ (fun hHeld=>?_);refine zcj zay.tab5 zay.bits5 (fun HT_ HW_=>?_)
        generalize w41.drew=w45 at HO0_0 BK101 BK102 BK103 HK HB hHeld ⊢
        refine pt_ HT_.out 0 26 (bs_ 10 1) ?_
        refine pt_ HT_.out 3 29 (bs_ 10 9) ?_
        refine tt_ HT_ HW_ 1 (bs_ 10 11) hHeld ?_
        refine pt_ HT_.out 2 28 (bs_ 10 15) ?_
        refine tt_ HT_ HW_ 4 (bs_ 10 31) hHeld ?_
        refine ot_ HT_ 5 (some 31) (bs_ 10 63) (fun K hK=>?_)
        refine go_ Tryz.func71 #[.int .i64 a0_3,.int .i64 4] ?_
        with_reducible refine(zau.calls k a0_3 4 t106 _ A29.out).mono ?_
        rintro e w46 ⟨v107,rfl,ho0,hb⟩
        refine⟨_,rfl,?_⟩
        replace HO0_0:=am_ (Kd.zct qz16_ hb)
        replace HO108:=am_ (Kd.zcw (Kd.zn3 (M:=fun k_=>(P0_0_ k_∨w.heap.size≤k_)) ho0 (by first|exact HK.out.1|exact(show Kept w _ (fun k_=>P0_0_ k_) from by repeat(first|(with_reducible first|exact HK.out|apply Kept.alloc|apply Kept.drewN|apply Kept.drew|refine Kept.setCell ?_ (.inr GW101.out) _|refine Kept.setCell ?_ (.inr GW102.out) _|refine Kept.setCell ?_ (.inr GW103.out) _)|exact HK.out)).1) (fun k_ h_=>.inr h_)) (zaf qz9_))
        replace BK101:=am_ (zak (g:=gb101) (o:=.cells #[.slice Ao38 l0_0.length co38,.int .i64 a0_1,.string a0_2,.int .i64 a0_3] 38 (0,0)) qz6_ hb)
        replace BK102:=am_ (zak (g:=gb102) (o:=.cells #[.slice none 0 0,.int .i64 0,.string (⟨#[]⟩:ByteArray),.int .i64 0] 38 (0,0)) qz7_ hb)
        replace BK103:=am_ (zak (g:=gb103) (o:=.cells #[.int .i64 0,.int .i64 0] 32 (0,0)) qz14_ hb)
        replace HK:=am_ (Kept.below (S:=(fun k_=>P0_0_ k_)) qz45_ hb)
        replace HB:=am_ (zab qz9_ hb)
        (try clear hb)
        (try clear hb2)
        (try clear hk)
        (try clear hi)
        (try clear ho0)
        refine hK.out _ _ ⟨(zaa BK101.out 0).trans rfl,(zaa BK101.out 1).trans rfl,(zaa BK101.out 2).trans rfl,(zaa BK101.out 3).trans rfl⟩ (fun hHeld=>?_)
        clear hK K
        refine nm_ 31 ?_
        refine ot_ HT_ 6 (some 32) (bs_ 10 127) (fun K hK=>?_)
        have hcv47:=zh7 (P:=Tryz.prog) Tryz.underlying101 Tryz.underlying5 Tryz.underlying9 (Kd.zh4 HO108.out)
        refine zbg (w1:=?_) (v:=?_) (by rfl) rfl ?_ ?_
        rotate_left 2
        ·
         go_simp
         constructor
         ·
          rfl
         ·
          rfl
        clear hcv47
        refine hK.out _ _ ⟨(zaa BK101.out 0).trans rfl,(zaa BK101.out 1).trans rfl,(zaa BK101.out 2).trans rfl,(zaa BK101.out 3).trans rfl⟩ (fun hHeld=>?_)
        clear hK K
        refine nm_ 32 ?_
        refine pt_ HT_.out 7 33 (bs_ 10 255) ?_
        refine ot_ HT_ 8 (some 34) (bs_ 10 511) (fun K hK=>?_)
        refine go_ Tryz.func116 #[.string ((a0_2++(⟨#[100,114,97,119]⟩:ByteArray))++(strOfNums t106))] ?_
        with_reducible refine(zcv.calls ((a0_2++(⟨#[100,114,97,119]⟩:ByteArray))++(strOfNums t106)) t109 _ A31.out).mono ?_
        rintro e w48 ⟨rfl,hb⟩
        refine⟨_,rfl,?_⟩
        replace HO0_0:=am_ (Kd.zct qz16_ hb)
        replace HO108:=am_ (Kd.zct (by(with_reducible repeat(first|apply Kd.zbm|apply Kd.zbl|apply Kd.zbt));exact HO108.out) hb)
        replace BK101:=am_ (zak (g:=gb101) (o:=.cells #[.slice Ao38 l0_0.length co38,.int .i64 a0_1,.string a0_2,.int .i64 a0_3] 38 (0,0)) qz6_ hb)
        replace BK102:=am_ (zak (g:=gb102) (o:=.cells #[.slice none 0 0,.int .i64 0,.string (⟨#[]⟩:ByteArray),.int .i64 0] 38 (0,0)) qz7_ hb)
        replace BK103:=am_ (zak (g:=gb103) (o:=.cells #[.int .i64 0,.int .i64 0] 32 (0,0)) qz14_ hb)
        replace HK:=am_ (Kept.below (S:=(fun k_=>P0_0_ k_)) qz45_ hb)
        replace HB:=am_ (zab qz9_ hb)
        (try clear hb)
        (try clear hb2)
        (try clear hk)
        (try clear hi)
        refine hK.out _ _ ⟨(zaa BK101.out 0).trans rfl,(zaa BK101.out 1).trans rfl,(zaa BK101.out 2).trans rfl,(zaa BK101.out 3).trans rfl⟩ (fun hHeld=>?_)
        clear hK K
        refine nm_ 34 ?_
        refine pt_ HT_.out 9 5 (bs_ 10 1023) ?_
        refine done_ (zdr HT_.out (by kernel_rfl)) ?_
        obtain⟨hcz49_0,hcz49_1,hcz49_2,hcz49_3,hfz49_0,hfz49_1,hfz49_2,hfz49_3⟩:=bf4_ BK101.out
        try go_wp2
        have n0_:zal (Kd.R k32 32 (w48.setCell ⟨gb101,3,none⟩ (.int .i64 (wrap64 (a0_3 + 1)))) w0.heap.size (fun k_=>(P0_0_ k_∨w.heap.size≤k_)∧k_≠gb103) (.slice Ao38 l0_0.length co38) l0_0):=⟨by(with_reducible repeat(first|apply Kd.zbm|apply Kd.zbl|apply Kd.zbt));exact Kd.zba (Kd.R_far (p:=⟨gb101,3,none⟩) (Kd.zeq HO0_0.out BK101.out (by decide)) (fun _ hk=>hk.2) (.int .i64 (wrap64 (a0_3 + 1)))) (fun _ hk=>⟨hk.1.1,hk.1.2⟩)⟩
        have n1_:zal (Kd.R (Kd.int .u8) 5 (w48.setCell ⟨gb101,3,none⟩ (.int .i64 (wrap64 (a0_3 + 1)))) w0.heap.size (fun k_=>(P0_0_ k_∨w.heap.size≤k_)) v107 t106):=⟨by(with_reducible repeat(first|apply Kd.zbm|apply Kd.zbl|apply Kd.zbt));exact Kd.zba (Kd.R_far (p:=⟨gb101,3,none⟩) (Kd.zeq HO108.out BK101.out (by decide)) (fun _ hk=>hk.2) (.int .i64 (wrap64 (a0_3 + 1)))) (fun _ hk=>hk.1.1)⟩
        have n2_:zal ((w48.setCell ⟨gb101,3,none⟩ (.int .i64 (wrap64 (a0_3 + 1)))).heap[gb101]?=some (.cells #[.slice Ao38 l0_0.length co38,.int .i64 a0_1,.string a0_2,.int .i64 (wrap64 (a0_3 + 1))] 38 (0,0))):=⟨(by(with_reducible repeat(first|refine zah ?_ _|refine zae ?_|refine zai ?_ _));refine za9 (cs:=#[.slice Ao38 l0_0.length co38,.int .i64 a0_1,.string a0_2,.int .i64 a0_3]) ?_ 3 _ rfl;(with_reducible repeat(first|refine zah ?_ _|refine zae ?_|refine zai ?_ _));exact BK101.out)⟩
        have n3_:zal ((w48.setCell ⟨gb101,3,none⟩ (.int .i64 (wrap64 (a0_3 + 1)))).heap[gb102]?=some (.cells #[.slice none 0 0,.int .i64 0,.string (⟨#[]⟩:ByteArray),.int .i64 0] 38 (0,0))):=⟨(by(with_reducible repeat(first|refine zah ?_ _|refine zae ?_|refine zai ?_ _));refine zb8 ?_ NB102_101.out _;(with_reducible repeat(first|refine zah ?_ _|refine zae ?_|refine zai ?_ _));exact BK102.out)⟩
        have n4_:zal ((w48.setCell ⟨gb101,3,none⟩ (.int .i64 (wrap64 (a0_3 + 1)))).heap[gb103]?=some (.cells #[.int .i64 0,.int .i64 0] 32 (0,0))):=⟨(by(with_reducible repeat(first|refine zah ?_ _|refine zae ?_|refine zai ?_ _));refine zb8 ?_ NB103_101.out _;(with_reducible repeat(first|refine zah ?_ _|refine zae ?_|refine zai ?_ _));exact BK103.out)⟩
        have n5_:zal (Kept w (w48.setCell ⟨gb101,3,none⟩ (.int .i64 (wrap64 (a0_3 + 1)))) (fun k_=>P0_0_ k_)):=⟨qz45_⟩
        have n6_:zal (Below w0.heap.size w0 (w48.setCell ⟨gb101,3,none⟩ (.int .i64 (wrap64 (a0_3 + 1))))):=⟨qz9_⟩
        (try clear HO0_0)
        (try clear HO108)
        (try clear BK101)
        (try clear BK102)
        (try clear BK103)
        (try clear HK)
        (try clear HB)
        generalize (w48.setCell ⟨gb101,3,none⟩ (.int .i64 (wrap64 (a0_3 + 1))))=w50 at n0_ n1_ n2_ n3_ n4_ n5_ n6_ ⊢
        have HO0_0:=n0_
        have HO108:=n1_
        have BK101:=n2_
        have BK102:=n3_
        have BK103:=n4_
        have HK:=n5_
        have HB:=n6_
        clear n0_ n1_ n2_ n3_ n4_ n5_ n6_
        replace HO0_0:=am_ (Kd.zbt HO0_0.out)
        replace HO108:=am_ (Kd.zbt HO108.out)
        replace BK101:=am_ (zae BK101.out)
        replace BK102:=am_ (zae BK102.out)
        replace BK103:=am_ (zae BK103.out)
        replace HK:=am_ (Kept.drew HK.out)
        replace HB:=am_ (zao HB.out)
        refine zcn (n:=10) (S:=fun w'=>w'.cell? ⟨gb101,0,none⟩=some (.slice Ao38 l0_0.length co38)∧w'.cell? ⟨gb101,1,none⟩=some (.int .i64 a0_1)∧w'.cell? ⟨gb101,2,none⟩=some (.string a0_2)∧w'.cell? ⟨gb101,3,none⟩=some (.int .i64 (wrap64 (a0_3 + 1)))) (ds:=[]) (bs_ 10 0) (by kernel_rfl) rfl rfl ⟨(zaa BK101.out 0).trans rfl,(zaa BK101.out 1).trans rfl,(zaa BK101.out 2).trans rfl,(zaa BK101.out 3).trans rfl⟩ (fun hHeld=>?_);refine zcj zay.tab7 zay.bits7 (fun HT_ HW_=>?_)
        generalize w50.drew=w51 at HO0_0 HO108 BK101 BK102 BK103 HK HB hHeld ⊢
        refine pt_ HT_.out 1 40 (bs_ 10 2) ?_
        refine pt_ HT_.out 2 41 (bs_ 10 6) ?_
        refine pt_ HT_.out 4 43 (bs_ 10 22) ?_
        refine pt_ HT_.out 5 44 (bs_ 10 54) ?_
        refine tt_ HT_ HW_ 0 (bs_ 10 55) hHeld ?_
        refine ot_ HT_ 3 (some 42) (bs_ 10 63) (fun K hK=>?_)
        refine go_ Tryz.func117 #[.string (t109.extract 0 8)] ?_
        with_reducible refine(zbj.calls k (t109.extract 0 8) t110 _ A34.out).mono ?_
        rintro e w' ⟨rfl,⟨nd,rfl⟩⟩
        refine⟨_,rfl,?_⟩
        refine hK.out _ _ ⟨(zaa BK101.out 0).trans rfl,(zaa BK101.out 1).trans rfl,(zaa BK101.out 2).trans rfl,(zaa BK101.out 3).trans rfl⟩ (fun hHeld=>?_)
        clear hK K
        refine nm_ 42 ?_
        refine ot_ HT_ 6 (some 45) (bs_ 10 127) (fun K hK=>?_)
        refine go_ Tryz.func117 #[.string (t109.extract 8 16)] ?_
        with_reducible refine(zbj.calls k (t109.extract 8 16) t111 _ A37.out).mono ?_
        rintro e w' ⟨rfl,⟨nd,rfl⟩⟩
        refine⟨_,rfl,?_⟩
        refine hK.out _ _ ⟨(zaa BK101.out 0).trans rfl,(zaa BK101.out 1).trans rfl,(zaa BK101.out 2).trans rfl,(zaa BK101.out 3).trans rfl⟩ (fun hHeld=>?_)
        clear hK K
        refine nm_ 45 ?_
        refine pt_ HT_.out 7 46 (bs_ 10 255) ?_
        refine ot_ HT_ 8 none (bs_ 10 511) (fun K hK=>?_)
        obtain⟨hs52,hfs52⟩:=bi_ BK102.out 0
        have hns52_0:=NB101_102.out
        have hns52_2:=NB103_102.out
        have hms52_0:=NB102_101.out
        have hms52_2:=NB102_103.out
        obtain⟨hs53,hfs53⟩:=bi_ BK102.out 1
        have hns53_0:=NB101_102.out
        have hns53_2:=NB103_102.out
        have hms53_0:=NB102_101.out
        have hms53_2:=NB102_103.out
        obtain⟨hs54,hfs54⟩:=bi_ BK102.out 2
        have hns54_0:=NB101_102.out
        have hns54_2:=NB103_102.out
        have hms54_0:=NB102_101.out
        have hms54_2:=NB102_103.out
        obtain⟨hs55,hfs55⟩:=bi_ BK102.out 3
        have hns55_0:=NB101_102.out
        have hns55_2:=NB103_102.out
        have hms55_0:=NB102_101.out
        have hms55_2:=NB102_103.out
        refine skip_ (w1:=?_) (by rfl) rfl ?_ ?_
        rotate_left
        ·
         go_simp
         rfl
        refine hK.out _ _ ⟨((cell_far (p:=⟨gb102,_,none⟩) NB101_102.out _).trans (((cell_far (p:=⟨gb102,_,none⟩) NB101_102.out _).trans (((cell_far (p:=⟨gb102,_,none⟩) NB101_102.out _).trans (((cell_far (p:=⟨gb102,_,none⟩) NB101_102.out _).trans (hHeld.1)))))))),((cell_far (p:=⟨gb102,_,none⟩) NB101_102.out _).trans (((cell_far (p:=⟨gb102,_,none⟩) NB101_102.out _).trans (((cell_far (p:=⟨gb102,_,none⟩) NB101_102.out _).trans (((cell_far (p:=⟨gb102,_,none⟩) NB101_102.out _).trans (hHeld.2.1)))))))),((cell_far (p:=⟨gb102,_,none⟩) NB101_102.out _).trans (((cell_far (p:=⟨gb102,_,none⟩) NB101_102.out _).trans (((cell_far (p:=⟨gb102,_,none⟩) NB101_102.out _).trans (((cell_far (p:=⟨gb102,_,none⟩) NB101_102.out _).trans (hHeld.2.2.1)))))))),((cell_far (p:=⟨gb102,_,none⟩) NB101_102.out _).trans (((cell_far (p:=⟨gb102,_,none⟩) NB101_102.out _).trans (((cell_far (p:=⟨gb102,_,none⟩) NB101_102.out _).trans (((cell_far (p:=⟨gb102,_,none⟩) NB101_102.out _).trans (hHeld.2.2.2))))))))⟩ (fun hHeld=>?_)
        clear hK K
        refine ot_ HT_ 9 none (bs_ 10 1023) (fun K hK=>?_)
        obtain⟨hs56,hfs56⟩:=bi_ BK103.out 0
        have hns56_0:=NB101_103.out
        have hns56_1:=NB102_103.out
        have hms56_0:=NB103_101.out
        have hms56_1:=NB103_102.out
        obtain⟨hs57,hfs57⟩:=bi_ BK103.out 1
        have hns57_0:=NB101_103.out
        have hns57_1:=NB102_103.out
        have hms57_0:=NB103_101.out
        have hms57_1:=NB103_102.out
        refine skip_ (w1:=?_) (by rfl) rfl ?_ ?_
        rotate_left
        ·
         go_simp
         rfl
        refine hK.out _ _ ⟨((cell_far (p:=⟨gb103,_,none⟩) NB101_103.out _).trans (((cell_far (p:=⟨gb103,_,none⟩) NB101_103.out _).trans (hHeld.1)))),((cell_far (p:=⟨gb103,_,none⟩) NB101_103.out _).trans (((cell_far (p:=⟨gb103,_,none⟩) NB101_103.out _).trans (hHeld.2.1)))),((cell_far (p:=⟨gb103,_,none⟩) NB101_103.out _).trans (((cell_far (p:=⟨gb103,_,none⟩) NB101_103.out _).trans (hHeld.2.2.1)))),((cell_far (p:=⟨gb103,_,none⟩) NB101_103.out _).trans (((cell_far (p:=⟨gb103,_,none⟩) NB101_103.out _).trans (hHeld.2.2.2))))⟩ (fun hHeld=>?_)
        clear hK K
        refine done_ (zdr HT_.out (by kernel_rfl)) ?_
        try go_wp2
        refine bodyPost_ret (zkm rfl _ _ gb102 gb103 38 32 #[.slice Ao38 l0_0.length co38,.int .i64 a0_1,.string a0_2,.int .i64 (wrap64 (a0_3 + 1))] #[.int .i64 t110,.int .i64 t111] (0,0) (0,0) _ _ rfl (by(with_reducible repeat(first|refine zah ?_ _|refine zae ?_|refine zai ?_ _));refine zb8 ?_ NB102_103.out _;(with_reducible repeat(first|refine zah ?_ _|refine zae ?_|refine zai ?_ _));refine zb8 ?_ NB102_103.out _;(with_reducible repeat(first|refine zah ?_ _|refine zae ?_|refine zai ?_ _));refine za9 (cs:=#[.slice Ao38 l0_0.length co38,.int .i64 a0_1,.string a0_2,.int .i64 0]) ?_ 3 _ rfl;(with_reducible repeat(first|refine zah ?_ _|refine zae ?_|refine zai ?_ _));refine za9 (cs:=#[.slice Ao38 l0_0.length co38,.int .i64 a0_1,.string (⟨#[]⟩:ByteArray),.int .i64 0]) ?_ 2 _ rfl;(with_reducible repeat(first|refine zah ?_ _|refine zae ?_|refine zai ?_ _));refine za9 (cs:=#[.slice Ao38 l0_0.length co38,.int .i64 0,.string (⟨#[]⟩:ByteArray),.int .i64 0]) ?_ 1 _ rfl;(with_reducible repeat(first|refine zah ?_ _|refine zae ?_|refine zai ?_ _));refine za9 (cs:=#[.slice none 0 0,.int .i64 0,.string (⟨#[]⟩:ByteArray),.int .i64 0]) ?_ 0 _ rfl;(with_reducible repeat(first|refine zah ?_ _|refine zae ?_|refine zai ?_ _));exact BK102.out) Tryz.underlying38 rfl (by kernel_rfl) rfl (by(with_reducible repeat(first|refine zah ?_ _|refine zae ?_|refine zai ?_ _));refine za9 (cs:=#[.int .i64 t110,.int .i64 0]) ?_ 1 _ rfl;(with_reducible repeat(first|refine zah ?_ _|refine zae ?_|refine zai ?_ _));refine za9 (cs:=#[.int .i64 0,.int .i64 0]) ?_ 0 _ rfl;(with_reducible repeat(first|refine zah ?_ _|refine zae ?_|refine zai ?_ _));refine zb8 ?_ NB103_102.out _;(with_reducible repeat(first|refine zah ?_ _|refine zae ?_|refine zai ?_ _));refine zb8 ?_ NB103_102.out _;(with_reducible repeat(first|refine zah ?_ _|refine zae ?_|refine zai ?_ _));refine zb8 ?_ NB103_102.out _;(with_reducible repeat(first|refine zah ?_ _|refine zae ?_|refine zai ?_ _));refine zb8 ?_ NB103_102.out _;(with_reducible repeat(first|refine zah ?_ _|refine zae ?_|refine zai ?_ _));exact BK103.out) Tryz.underlying32 rfl (by kernel_rfl)) rfl ?_
        exact⟨_,by first|rfl|(simp [zc9,zda] <;> rfl)|(simp [*,zc9,zda] <;> rfl),by(with_reducible repeat(first|apply Kd.zbm|apply Kd.zbl|apply Kd.zbt));exact Kd.zba (Kd.R_far (p:=⟨gb103,1,none⟩) (Kd.R_far (p:=⟨gb103,0,none⟩) (Kd.R_far (p:=⟨gb102,3,none⟩) (Kd.R_far (p:=⟨gb102,2,none⟩) (Kd.R_far (p:=⟨gb102,1,none⟩) (Kd.R_far (p:=⟨gb102,0,none⟩) (Kd.zba (Kd.zeq HO0_0.out BK102.out (by decide)) (fun k_ hk=>(⟨hk,hk.1.2⟩:_∧k_≠gb103))) (fun _ hk=>hk.1.2) (.slice Ao38 l0_0.length co38)) (fun _ hk=>hk.1.2) (.int .i64 a0_1)) (fun _ hk=>hk.1.2) (.string a0_2)) (fun _ hk=>hk.1.2) (.int .i64 (wrap64 (a0_3 + 1)))) (fun _ hk=>hk.2) (.int .i64 t110)) (fun _ hk=>hk.2) (.int .i64 t111)) (fun _ hk=>hk.1.1.1),by repeat(first|(with_reducible first|exact HB.out|apply za5|apply zaw|apply zao|refine za6 ?_ GE101.out|refine za6 ?_ GE102.out|refine za6 ?_ GE103.out)|exact HB.out),by repeat(first|(with_reducible first|exact HK.out|apply Kept.alloc|apply Kept.drewN|apply Kept.drew|refine Kept.setCell ?_ (.inr GW101.out) _|refine Kept.setCell ?_ (.inr GW102.out) _|refine Kept.setCell ?_ (.inr GW103.out) _)|exact HK.out)⟩
       ·
        rw [if_neg c36] at H
        exact absurd H (by simp)
      ·
       rw [if_neg c35] at H
       exact absurd H (by simp)
     ·
      rw [if_neg c33] at H
      exact absurd H (by simp)
    ·
     rw [if_neg c32] at H
     exact absurd H (by simp)
   ·
    rw [if_neg c30] at H
    exact absurd H (by simp)
  ·
   rw [if_neg c28] at H
   exact absurd H (by simp)
end Go.Proofs.YtgookagndlfehaaGreat.PT
end
section
namespace Go.Proofs.YtgookagndlfehaaGreat.PT
open Go Go.RowKit Go.Proofs.YtgookagndlfehaaGreatW.PrintWords Go.Proofs.YtgookagndlfehaaGreatW.PrintLast Go.Proofs.YtgookagndlfehaaGreatW.PrintMore
set_option linter.unusedVariables false
set_option linter.unusedSimpArgs false
theorem Inv.ownKept {α:Type} {d:Kd α} {e b:Nat} {w0 w W:World} {P:Nat→Prop} {F:World→Prop} {L:List Grp} {v:Value} {xs:List α} {S:Nat→Prop} (h:Inv w0 P w (row d e b v xs S::L) F) (hk:Kept w W (fun k=>S k)) (x:Grp) (hx:x∈L):x.A W:=
 h.own x (List.mem_cons_of_mem _ hx) W (fun k hk2=>hk.2 k (h.lt x (List.mem_cons_of_mem _ hx) k hk2) (fun e=>(List.pairwise_cons.1 h.dis).1 x hx k e hk2))
theorem zon {α:Type} (a b c d e:α):[a,b,c,d,e].Perm [a,b,c,e,d]:=(((List.Perm.swap _ _ _).cons _).cons _).cons _
theorem zps {α:Type} (a b c d e:α):[a,b,c,d,e].Perm [b,a,d,c,e]:=(List.Perm.swap _ _ _).trans (((List.Perm.swap _ _ _).cons _).cons _)
theorem zmm {P:Program} {fn:Func} {p u v x:Tmp} {ty:TypeId} (h:fn.results=#[.tmp u,.tmp v,.tmp x,.cell p ty]) (tmps:Array Value) (w:World) (g:Nat) (t:TypeId) (cs:Array Value) (fr:Nat × Nat) (d:TypeDesc)
  (hp:tmps.getD p undef=.pointer (some ⟨g,0,none⟩)) (hg:w.heap[g]?=some (.cells cs t fr))
  (hu:P.underlying ty=some d) (hd:(match d with|.struct _|.array _ _=>true|_=>false)=true) (hi:(P.info? ty).map (·.size)=some cs.size) :
  (results fn tmps).run P w=.ok (.tuple #[tmps.getD u undef,tmps.getD v undef,tmps.getD x undef,.agg cs]) w:=by
 have hp':tmps[p]?.getD undef=.pointer (some ⟨g,0,none⟩):=by simpa using hp
 simp [results,h,hp',asAddr,run_loadVar_row w g t ty cs fr d hg hu hd hi]
def pvs_ (k:Nat) (kind:Int):Nat→List (List S32)→List (List S32)→List S32→List S32→Int→ByteArray→Int→Option (List (List S32) × List S32 × List S32 × List S32 × Int × ByteArray × Int)
 | 0,_,_,_,_,_,_,_=>none
 | n + 1,l,rs,pt,u0,u1,u2,u3=>if 0<l.length then(if 1<(l.getD 0 []).length then((zbs.f k kind l).bind fun r=>(zet.f k u0 u1 u2 u3 r).bind fun a=>(zay.f k a.1 a.2.1 a.2.2.1 a.2.2.2).bind fun e=>(za3.f k l e.2.2.2.2.1 e.2.2.2.2.2).bind fun L=>if rs.length≤100000∧pt.length≤100000 then pvs_ k kind n L (rs++[r]) (pt++[⟨e.2.2.2.2.1,e.2.2.2.2.2⟩]) e.1 e.2.1 e.2.2.1 e.2.2.2.1 else none) else(lastOf l).bind fun la=>some (rs,pt,la,u0,u1,u2,u3)) else none
theorem zk8.calls (k n:Nat) (kind:Int) (A2:Option Addr) (c2:Nat) (l2:List (List S32)) (Az:Option Addr) (cz:Nat) (z0:List S32) (z1:Int) (z2:ByteArray) (z3:Int) (r1:List (List S32)) (r2 r3 r4:List S32) (r5:Int) (r6:ByteArray) (r7:Int) (PO:Nat→Prop) (wb w:World) (hB:Below wb.heap.size wb w) (ho:Kd.R k32 32 w wb.heap.size PO (.slice Az z0.length cz) z0) (hr2:∀ W_,Agr w W_ (fun k=>some k=(Value.slice Az z0.length cz).ownBlock)→Kd.C (Kd.slice 32 k32) W_ A2 l2.length l2) (hc2:l2.length≤c2) (h:pvs_ k kind n l2 [] [] z0 z1 z2 z3=some (r1,r2,r3,r4,r5,r6,r7)) :
  Calls Tryz.prog 52 #[.int .i64 kind,.slice A2 l2.length c2,.agg #[.slice Az z0.length cz,.int .i64 z1,.string z2,.int .i64 z3]] w fun e w'=>∃ v0_ v1_ v2_ v3_:Value,e=.returned (.tuple #[v0_,v1_,v2_,.agg #[v3_,.int .i64 r5,.string r6,.int .i64 r7]])∧Kd.S (Kd.slice 32 k32) 36 w' w.heap.size (fun k=>some k≠v1_.ownBlock∧some k≠v2_.ownBlock∧some k≠v3_.ownBlock) v0_ r1∧Kd.R k32 32 w' w.heap.size (fun k=>some k≠v2_.ownBlock∧some k≠v3_.ownBlock) v1_ r2∧Kd.R k32 32 w' w.heap.size (fun k=>some k≠v1_.ownBlock∧some k≠v3_.ownBlock) v2_ r3∧Kd.R k32 32 w' wb.heap.size (fun k=>(some k=(Value.slice Az z0.length cz).ownBlock∨w.heap.size≤k)∧some k≠v1_.ownBlock∧some k≠v2_.ownBlock) v3_ r4∧Below wb.heap.size wb w'∧Kept w w' (fun k=>some k=(Value.slice Az z0.length cz).ownBlock):=by
 have hu32:=Tryz.underlying32
 have hu38:=Tryz.underlying38
 have HB:=am_ hB
 have HPW:=am_ (show ∀ k,some k=(Value.slice Az z0.length cz).ownBlock→wb.heap.size≤k from fun k hk=>Kd.zf8 ho k hk.symm)
 have HVS:=am_ h
 have HC2:=am_ hc2
 have HI:=am_ (Inv.startR (d:=k32) rfl ho (fun w2=>Kd.C (Kd.slice 32 k32) w2 A2 l2.length l2) hr2)
 clear hB ho hr2 hc2 h
 go_enter Tryz.func52,Tryz.ntmps52
 go_wp2_with (first|((with_reducible refine zad (N:=5) rfl ?_);refine zaj rfl (N:=5) rfl (cs:=#[.slice Az z0.length cz,.int .i64 z1,.string z2,.int .i64 z3]) (t:=38) bx_ ?_;intro g5 hg w5_ hbox hb;replace HI:=am_ ((HI.out).box hg hbox hb);clear hb hbox hg)|((with_reducible refine zad (N:=9) rfl ?_);refine zaj rfl (N:=9) rfl (cs:=#[.slice none 0 0,.int .i64 0,.string (⟨#[]⟩:ByteArray),.int .i64 0]) (t:=38) bx_ ?_;intro g9 hg w9_ hbox hb;replace HI:=am_ ((HI.out).box hg hbox hb);clear hb hbox hg)|((with_reducible refine zad (N:=17) rfl ?_);refine Kd.S_lit (Kd.slice 32 k32) (w0:=_) _ 36 ?hg (N:=17) ?hd (xs:=([]:List (List S32))) (inner:=[]) (ok:=fun _=>True) (okp:=fun _=>True) ?hr ?hp (fun _ hk=>hk) trivial (Below.refl _ _) (Nat.le_refl _) (by simp) ?_;(case hd=>rfl);(case hg=>rfl);(case hr=>first|(go_simp;done)|(go_simp;rfl));(case hp=>exact(Reps.none _ _));intro V10 w17 hR hb hg hat;replace HI:=am_ (HI.out.zfj hb hR);clear hR hb hg hat)|((with_reducible refine zad (N:=18) rfl ?_);refine Kd.R_lit k32 (w0:=_) _ 32 ?hg (N:=18) ?hd (xs:=([]:List S32)) (inner:=[]) (ok:=fun _=>True) (okp:=fun _=>True) ?hr ?hp (fun _ hk=>hk) trivial (Below.refl _ _) (Nat.le_refl _) (by simp) ?_;(case hd=>rfl);(case hg=>rfl);(case hr=>first|(go_simp;done)|(go_simp;rfl));(case hp=>exact(Reps.none _ _));intro V11 w18 hR hb hg hat;replace HI:=am_ ((HI.out).zd7 hb hR);clear hR hb hg hat))
 replace HI:zal (Inv w _ _ [rowS (Kd.slice 32 k32) 36 w.heap.size V10 [] _,row k32 32 w.heap.size V11 [] _,blk g5 38 #[.slice Az z0.length cz,.int .i64 z1,.string z2,.int .i64 z3],blk g9 38 #[.slice none 0 0,.int .i64 0,.string (⟨#[]⟩:ByteArray),.int .i64 0],row k32 32 wb.heap.size (.slice Az z0.length cz) z0 _] (fun w2=>Kd.C (Kd.slice 32 k32) w2 A2 l2.length l2)):=⟨HI.out.perm (zps ..)⟩
 go_loopg [1,10,11] n (fun kq v1 v10 v11 w'=>∃ (A2:Option Addr) (c2:Nat) (l2:List (List S32)) (rs:List (List S32)) (pt:List S32) (u0:List S32) (u1:Int) (u2:ByteArray) (u3:Int) (Au:Option Addr) (cu:Nat) (S10 S11 SU:Nat→Prop),v1=.slice A2 l2.length c2∧zal (l2.length≤c2)∧zal (pvs_ k kind kq l2 rs pt u0 u1 u2 u3=some (r1,r2,r3,r4,r5,r6,r7))∧zal (Inv w (fun k=>some k=(Value.slice Az z0.length cz).ownBlock) w' [rowS (Kd.slice 32 k32) 36 w.heap.size v10 rs S10,row k32 32 w.heap.size v11 pt S11,blk g5 38 #[.slice Au u0.length cu,.int .i64 u1,.string u2,.int .i64 u3],blk g9 38 #[.slice none 0 0,.int .i64 0,.string (⟨#[]⟩:ByteArray),.int .i64 0],row k32 32 wb.heap.size (.slice Au u0.length cu) u0 SU] (fun w2=>Kd.C (Kd.slice 32 k32) w2 A2 l2.length l2)))
 case atStart=>exact⟨A2,c2,l2,[],[],z0,z1,z2,z3,Az,cz,_,_,_,rfl,HC2,HVS,HI⟩
 case round=>
  clear HI HVS HC2
  obtain⟨A2,c2,l2,rs,pt,u0,u1,u2,u3,Au,cu,S10,S11,SU,rfl,HC2,HVS,HI⟩:=hrel
  cases gk with
  | zero=>exact absurd HVS.out (by simp [pvs_])
  | succ k1=>
   have h:=HVS.out
   clear HVS
   rw [pvs_] at h
   obtain⟨hl0,h⟩:=zgj h
   obtain⟨ad3,B,cB,eA,hBl,hrow⟩:=ziy (S:=InL _) (fun W' hW=>HI.out.facts W' hW) 0 hl0
   subst eA
   have hx:=(hrow _ (Agr.refl _ _)).1
   rw [zma] at hx
   have p6:=eq_true (show (0:Int)<(l2.length:Int) by omega)
   have p6n:=eq_true hl0
   clear hrow hBl hl0
   by_cases c1:1<(l2.getD 0 []).length
   ·
    rw [if_pos c1] at h
    have d1:decide (((l2.getD 0 []).length:Int)>1)=true:=decide_eq_true (by omega)
    have d2:decide (1<((l2.getD 0 []).length:Int))=true:=decide_eq_true (by omega)
    have d3:decide (1<(l2.getD 0 []).length)=true:=decide_eq_true c1
    clear c1
    generalize l2.getD 0 []=q at hx d1 d2 d3
    replace h:=Option.bind_eq_some_iff.1 h
    obtain⟨r,hrd,h⟩:=h
    replace h:=Option.bind_eq_some_iff.1 h
    obtain⟨⟨a0,a1,a2,a3⟩,hae,h⟩:=h
    replace h:=Option.bind_eq_some_iff.1 h
    obtain⟨⟨e0,e1,e2,e3,y0,y1⟩,hdw,h⟩:=h
    replace h:=Option.bind_eq_some_iff.1 h
    obtain⟨L2,hbd,h⟩:=h
    have HRD:=am_ hrd
    have HAE:=am_ (show zet.f k u0 u1 u2 u3 r=some (a0,a1,a2,a3) from hae)
    have HDW:=am_ (show zay.f k a0 a1 a2 a3=some (e0,e1,e2,e3,y0,y1) from hdw)
    have HBD:=am_ (show za3.f k l2 y0 y1=some L2 from hbd)
    obtain⟨hll,h⟩:=zgj h
    have HRS:=am_ hll.1
    have HPT:=am_ hll.2
    have HVS:=am_ (show pvs_ k kind k1 L2 (rs++[r]) (pt++([(⟨y0,y1⟩:S32)]:List S32)) e0 e1 e2 e3=some (r1,r2,r3,r4,r5,r6,r7) from h)
    clear hrd hae hdw hbd hll h
    go_wp2_with (first|(go_at_call 62;(refine(zbs.calls k kind (some ad3) c2 l2 r _ HI.out.now HC2.out HRD.out).mono ?_);rintro e w28 ⟨v28,rfl,hR,hb⟩;obtain⟨A28,c28,e28⟩:=Kd.zcb hR;subst e28;replace HI:zal (Inv w _ _ [row k32 32 w.heap.size (.slice A28 r.length c28) r _,rowS (Kd.slice 32 k32) 36 w.heap.size u10 rs S10,row k32 32 w.heap.size u11 pt S11,blk g5 38 #[.slice Au u0.length cu,.int .i64 u1,.string u2,.int .i64 u3],blk g9 38 #[.slice none 0 0,.int .i64 0,.string (⟨#[]⟩:ByteArray),.int .i64 0],row k32 32 wb.heap.size (.slice Au u0.length cu) u0 SU] (fun w2=>Kd.C (Kd.slice 32 k32) w2 (some ad3) l2.length l2)):=⟨HI.out.zd7 hb hR⟩;clear hR hb;clear hx)|((with_reducible refine zad (N:=27) rfl ?_);go_must (refine wpList_load_row rfl 38 _ rfl g5 rfl 38 (#[.slice Au u0.length cu,.int .i64 u1,.string u2,.int .i64 u3]) (0,0) _ ((HI.out.get 3 rfl)) hu38 rfl (by kernel_rfl) ?_))|(go_at_call 63;replace HI:zal (Inv w _ _ [row k32 32 wb.heap.size (.slice Au u0.length cu) u0 SU,row k32 32 w.heap.size (.slice A28 r.length c28) r _,rowS (Kd.slice 32 k32) 36 w.heap.size u10 rs S10,row k32 32 w.heap.size u11 pt S11,blk g5 38 #[.slice Au u0.length cu,.int .i64 u1,.string u2,.int .i64 u3],blk g9 38 #[.slice none 0 0,.int .i64 0,.string (⟨#[]⟩:ByteArray),.int .i64 0]] (fun w2=>Kd.C (Kd.slice 32 k32) w2 (some ad3) l2.length l2)):=⟨HI.out.front 5 rfl⟩;(refine(zet.calls k _ (.slice Au u0.length cu) u0 u1 u2 u3 A28 c28 r a0 a1 a2 a3 wb _ (HI.out.zgr HB.out HPW.out) HI.out.row0 (fun W_ hk=>(rowC (Inv.ownKept HI.out hk (row k32 32 w.heap.size (.slice A28 r.length c28) r _) (by repeat(first|exact List.mem_cons_self|apply List.mem_cons_of_mem)))).2.2) (rowC (HI.out.get 1 rfl)).2.1 HAE.out).mono ?_);rintro e w59 ⟨va,rfl,hR,hB2,hk⟩;obtain⟨Aa,ca,ea⟩:=Kd.zcb hR;subst ea;replace HI:=am_ (Inv.keptP HI.out (HI.out.zgr HB.out HPW.out) hB2 hk hR (fun _ h=>h));clear hR hB2 hk)|((with_reducible refine za7 (p:=5) (v:=(.tmp 29)) (t:=38) rfl ?_);go_must (refine wpList_store_row rfl 38 _ _ rfl g5 (#[.slice Aa a0.length ca,.int .i64 a1,.string a2,.int .i64 a3]) rfl qz36_ 38 (#[.slice Au u0.length cu,.int .i64 u1,.string u2,.int .i64 u3]) (HI.out.get 4 rfl) (by kernel_rfl) rfl qz39_ ?_;replace HI:zal (Inv w _ _ [blk g5 38 #[.slice Aa a0.length ca,.int .i64 a1,.string a2,.int .i64 a3],row k32 32 wb.heap.size (.slice Aa a0.length ca) a0 _,row k32 32 w.heap.size (.slice A28 r.length c28) r _,rowS (Kd.slice 32 k32) 36 w.heap.size u10 rs S10,row k32 32 w.heap.size u11 pt S11,blk g9 38 #[.slice none 0 0,.int .i64 0,.string (⟨#[]⟩:ByteArray),.int .i64 0]] (fun w2=>Kd.C (Kd.slice 32 k32) w2 (some ad3) l2.length l2)):=⟨(HI.out.front 4 rfl).put0 (#[.slice Aa a0.length ca,.int .i64 a1,.string a2,.int .i64 a3])⟩;generalize World.setRow _ g5 (#[.slice Aa a0.length ca,.int .i64 a1,.string a2,.int .i64 a3])=wz29 at HI ⊢))|((with_reducible refine zad (N:=31) rfl ?_);go_must (refine wpList_load_row rfl 38 _ rfl g5 rfl 38 (#[.slice Aa a0.length ca,.int .i64 a1,.string a2,.int .i64 a3]) (0,0) _ (HI.out.blk0) hu38 rfl (by kernel_rfl) ?_))|(go_at_call 64;replace HI:zal (Inv w _ _ [row k32 32 wb.heap.size (.slice Aa a0.length ca) a0 _,blk g5 38 #[.slice Aa a0.length ca,.int .i64 a1,.string a2,.int .i64 a3],row k32 32 w.heap.size (.slice A28 r.length c28) r _,rowS (Kd.slice 32 k32) 36 w.heap.size u10 rs S10,row k32 32 w.heap.size u11 pt S11,blk g9 38 #[.slice none 0 0,.int .i64 0,.string (⟨#[]⟩:ByteArray),.int .i64 0]] (fun w2=>Kd.C (Kd.slice 32 k32) w2 (some ad3) l2.length l2)):=⟨HI.out.front 1 rfl⟩;(refine(zay.calls k _ (.slice Aa a0.length ca) a0 a1 a2 a3 e0 e1 e2 e3 y0 y1 wb _ (HI.out.zgr HB.out HPW.out) HI.out.row0 HDW.out).mono ?_);rintro e w62 ⟨ve,rfl,hR,hB2,hk⟩;obtain⟨Ae,ce,ee⟩:=Kd.zcb hR;subst ee;replace HI:=am_ (Inv.keptP HI.out (HI.out.zgr HB.out HPW.out) hB2 hk hR (fun _ h=>h));clear hR hB2 hk)|((with_reducible refine zad (N:=13) rfl ?_);refine zaj rfl (N:=13) rfl (cs:=#[.slice none 0 0,.int .i64 0,.string (⟨#[]⟩:ByteArray),.int .i64 0]) (t:=38) bx_ ?_;intro g13 hg w13_ hbox hb;replace HI:=am_ ((HI.out).box hg hbox hb);clear hb hbox hg)|((with_reducible refine zad (N:=14) rfl ?_);refine zaj rfl (N:=14) rfl (cs:=#[.int .i64 0,.int .i64 0]) (t:=32) bx_ ?_;intro g14 hg w14_ hbox hb;replace HI:=am_ ((HI.out).box hg hbox hb);clear hb hbox hg)|((with_reducible refine za7 (p:=13) (v:=(.tmp 33)) (t:=38) rfl ?_);go_must (refine wpList_store_row rfl 38 _ _ rfl g13 (#[.slice Ae e0.length ce,.int .i64 e1,.string e2,.int .i64 e3]) rfl qz36_ 38 (#[.slice none 0 0,.int .i64 0,.string (⟨#[]⟩:ByteArray),.int .i64 0]) (HI.out.get 1 rfl) (by kernel_rfl) rfl qz39_ ?_;replace HI:zal (Inv w _ _ [blk g13 38 #[.slice Ae e0.length ce,.int .i64 e1,.string e2,.int .i64 e3],blk g14 32 #[.int .i64 0,.int .i64 0],row k32 32 wb.heap.size (.slice Ae e0.length ce) e0 _,blk g5 38 #[.slice Aa a0.length ca,.int .i64 a1,.string a2,.int .i64 a3],row k32 32 w.heap.size (.slice A28 r.length c28) r _,rowS (Kd.slice 32 k32) 36 w.heap.size u10 rs S10,row k32 32 w.heap.size u11 pt S11,blk g9 38 #[.slice none 0 0,.int .i64 0,.string (⟨#[]⟩:ByteArray),.int .i64 0]] (fun w2=>Kd.C (Kd.slice 32 k32) w2 (some ad3) l2.length l2)):=⟨(HI.out.front 1 rfl).put0 (#[.slice Ae e0.length ce,.int .i64 e1,.string e2,.int .i64 e3])⟩;generalize World.setRow _ g13 (#[.slice Ae e0.length ce,.int .i64 e1,.string e2,.int .i64 e3])=wz33 at HI ⊢))|((with_reducible refine za7 (p:=14) (v:=(.tmp 34)) (t:=32) rfl ?_);go_must (refine wpList_store_row rfl 32 _ _ rfl g14 (#[.int .i64 y0,.int .i64 y1]) rfl qz36_ 32 (#[.int .i64 0,.int .i64 0]) (HI.out.get 1 rfl) (zfx y0 y1) (zla y0 y1) (zk4 y0 y1) ?_;replace HI:zal (Inv w _ _ [blk g14 32 #[.int .i64 y0,.int .i64 y1],blk g13 38 #[.slice Ae e0.length ce,.int .i64 e1,.string e2,.int .i64 e3],row k32 32 wb.heap.size (.slice Ae e0.length ce) e0 _,blk g5 38 #[.slice Aa a0.length ca,.int .i64 a1,.string a2,.int .i64 a3],row k32 32 w.heap.size (.slice A28 r.length c28) r _,rowS (Kd.slice 32 k32) 36 w.heap.size u10 rs S10,row k32 32 w.heap.size u11 pt S11,blk g9 38 #[.slice none 0 0,.int .i64 0,.string (⟨#[]⟩:ByteArray),.int .i64 0]] (fun w2=>Kd.C (Kd.slice 32 k32) w2 (some ad3) l2.length l2)):=⟨(HI.out.front 1 rfl).put0 (#[.int .i64 y0,.int .i64 y1])⟩;generalize World.setRow _ g14 (#[.int .i64 y0,.int .i64 y1])=wz34 at HI ⊢))|((with_reducible refine zad (N:=35) rfl ?_);go_must (refine wpList_load_row rfl 38 _ rfl g13 rfl 38 (#[.slice Ae e0.length ce,.int .i64 e1,.string e2,.int .i64 e3]) (0,0) _ ((HI.out.get 1 rfl)) hu38 rfl (by kernel_rfl) ?_))|((with_reducible refine za7 (p:=5) (v:=(.tmp 35)) (t:=38) rfl ?_);go_must (refine wpList_store_row rfl 38 _ _ rfl g5 (#[.slice Ae e0.length ce,.int .i64 e1,.string e2,.int .i64 e3]) rfl qz36_ 38 (#[.slice Aa a0.length ca,.int .i64 a1,.string a2,.int .i64 a3]) (HI.out.get 3 rfl) (by kernel_rfl) rfl qz39_ ?_;replace HI:zal (Inv w _ _ [blk g5 38 #[.slice Ae e0.length ce,.int .i64 e1,.string e2,.int .i64 e3],blk g14 32 #[.int .i64 y0,.int .i64 y1],blk g13 38 #[.slice Ae e0.length ce,.int .i64 e1,.string e2,.int .i64 e3],row k32 32 wb.heap.size (.slice Ae e0.length ce) e0 _,row k32 32 w.heap.size (.slice A28 r.length c28) r _,rowS (Kd.slice 32 k32) 36 w.heap.size u10 rs S10,row k32 32 w.heap.size u11 pt S11,blk g9 38 #[.slice none 0 0,.int .i64 0,.string (⟨#[]⟩:ByteArray),.int .i64 0]] (fun w2=>Kd.C (Kd.slice 32 k32) w2 (some ad3) l2.length l2)):=⟨(HI.out.front 3 rfl).put0 (#[.slice Ae e0.length ce,.int .i64 e1,.string e2,.int .i64 e3])⟩;generalize World.setRow _ g5 (#[.slice Ae e0.length ce,.int .i64 e1,.string e2,.int .i64 e3])=wz35 at HI ⊢))|((with_reducible refine zad (N:=37) rfl ?_);go_must (refine wpList_load_row rfl 32 _ rfl g14 rfl 32 (#[.int .i64 y0,.int .i64 y1]) (0,0) _ ((HI.out.get 1 rfl)) hu32 rfl (zfx y0 y1) ?_))|(go_at_call 65;(refine(za3.calls k (some ad3) c2 l2 y0 y1 L2 _ HI.out.now HC2.out HBD.out).mono ?_);rintro e w36 ⟨v36,rfl,hS,hb⟩;obtain⟨A36,c36,rfl,hc36,HI_⟩:=HI.out.znw hb hS;have HC3:=am_ hc36;clear HI;have HI:=am_ (HI_.weaken (G:=(fun w2=>Kd.C (Kd.slice 32 k32) w2 A36 L2.length L2)) (fun _ h=>h.1));clear HI_ hS hb hc36;replace HI:zal (Inv w _ _ [rowS (Kd.slice 32 k32) 36 w.heap.size u10 rs S10,row k32 32 w.heap.size (.slice A28 r.length c28) r _,blk g5 38 #[.slice Ae e0.length ce,.int .i64 e1,.string e2,.int .i64 e3],blk g14 32 #[.int .i64 y0,.int .i64 y1],blk g13 38 #[.slice Ae e0.length ce,.int .i64 e1,.string e2,.int .i64 e3],row k32 32 wb.heap.size (.slice Ae e0.length ce) e0 _,row k32 32 w.heap.size u11 pt S11,blk g9 38 #[.slice none 0 0,.int .i64 0,.string (⟨#[]⟩:ByteArray),.int .i64 0]] (fun w2=>Kd.C (Kd.slice 32 k32) w2 A36 L2.length L2)):=⟨((HI.out.front 4 rfl).front 5 rfl)⟩)|((with_reducible refine zb5 (b:=.append) (xs:=#[.tmp 39,.tmp 41]) rfl ?_);at_builtin;have HB_:=am_ (HI.out.zhu 36 #[.slice A28 r.length c28]);refine Inv.appS HB_.out.drop rfl (.tmp 39) (.tmp 41) 29 24 _ 1 rfl Tryz.underlying29 zmf (by decide) rfl rfl ((zaa HB_.out.blk0 0).trans rfl) HB_.out.agr.size ?aL ?_;(case aL=>have:=HRS.out;omega);intro v42 w42 HI4;clear HI HB_;have HI:=am_ HI4;clear HI4;replace HI:zal (Inv w _ _ [row k32 32 w.heap.size u11 pt S11,rowS (Kd.slice 32 k32) 36 w.heap.size v42 (rs++[r]) _,blk g5 38 #[.slice Ae e0.length ce,.int .i64 e1,.string e2,.int .i64 e3],blk g14 32 #[.int .i64 y0,.int .i64 y1],blk g13 38 #[.slice Ae e0.length ce,.int .i64 e1,.string e2,.int .i64 e3],row k32 32 wb.heap.size (.slice Ae e0.length ce) e0 _,blk g9 38 #[.slice none 0 0,.int .i64 0,.string (⟨#[]⟩:ByteArray),.int .i64 0]] (fun w2=>Kd.C (Kd.slice 32 k32) w2 A36 L2.length L2)):=⟨HI.out.front 5 rfl⟩)|((with_reducible refine zad (N:=44) rfl ?_);go_must (refine wpList_load_row rfl 32 _ rfl g14 rfl 32 (#[.int .i64 y0,.int .i64 y1]) (0,0) _ ((HI.out.get 3 rfl)) hu32 rfl (zfx y0 y1) ?_))|((with_reducible refine zb5 (b:=.append) (xs:=#[.tmp 43,.tmp 45]) rfl ?_);at_builtin;refine Kd.zev k32 (w0:=_) w.heap.size rfl (.tmp 43) (.tmp 45) 36 32 (.agg #[(.int .i64 0),(.int .i64 0)]) 16 rfl Tryz.underlying36 zgb rfl (by decide) (by omega) _ pt (⟨y0,y1⟩:S32) [.int .i64 y0,.int .i64 y1] _ (fun _=>False) rfl rfl ?aP (fun _ hk=>hk.elim) ?aF (Inv.row0W HI.out) (Below.refl _ _) HI.out.agr.size ?aL ?_;(case aP=>exact ze8 _ _ _ (⟨y0,y1⟩:S32));(case aF=>exact(fun _ hk=>.inr hk));(case aL=>have:=HPT.out;omega);intro v46 w46 hR hb hg hat;replace HI:=am_ (HI.out.zkd hb hR (fun _ hk _=>hk) hg);clear hR hb hg hat))
    replace HI:zal (Inv w _ _ [rowS (Kd.slice 32 k32) 36 w.heap.size v42 (rs++[r]) _,row k32 32 w.heap.size v46 (pt++([(⟨y0,y1⟩:S32)]:List S32)) _,blk g5 38 #[.slice Ae e0.length ce,.int .i64 e1,.string e2,.int .i64 e3],row k32 32 wb.heap.size (.slice Ae e0.length ce) e0 _,blk g9 38 #[.slice none 0 0,.int .i64 0,.string (⟨#[]⟩:ByteArray),.int .i64 0]] (fun w2=>Kd.C (Kd.slice 32 k32) w2 A36 L2.length L2)):=⟨(HI.out.subL (L':=[row k32 32 w.heap.size v46 (pt++([(⟨y0,y1⟩:S32)]:List S32)) _,rowS (Kd.slice 32 k32) 36 w.heap.size v42 (rs++[r]) _,blk g5 38 #[.slice Ae e0.length ce,.int .i64 e1,.string e2,.int .i64 e3],row k32 32 wb.heap.size (.slice Ae e0.length ce) e0 _,blk g9 38 #[.slice none 0 0,.int .i64 0,.string (⟨#[]⟩:ByteArray),.int .i64 0]]) qz41_).swap⟩
    go_roundg k1
    case measure=>omega
    case rel=>exact⟨A36,c36,L2,_,_,e0,e1,e2,e3,Ae,ce,_,_,_,rfl,⟨HC3.out⟩,HVS,⟨(HI.out.perm (zon ..))⟩⟩
   ·
    rw [if_neg c1] at h
    have d1:decide (((l2.getD 0 []).length:Int)>1)=false:=decide_eq_false (by omega)
    have d2:decide (1<((l2.getD 0 []).length:Int))=false:=decide_eq_false (by omega)
    have d3:decide (1<(l2.getD 0 []).length)=false:=decide_eq_false c1
    clear c1
    generalize l2.getD 0 []=q at hx d1 d2 d3
    replace h:=Option.bind_eq_some_iff.1 h
    obtain⟨la0,hla,h⟩:=h
    simp only [Option.some.injEq,Prod.mk.injEq] at h
    obtain⟨rfl,rfl,rfl,rfl,rfl,rfl,rfl⟩:=h
    unfold lastOf at hla
    obtain⟨hll,hla⟩:=zgj hla
    have hl0:=Option.some.inj hla
    subst hl0
    have HLL:=am_ hll.1
    have HLP:=am_ hll.2
    clear hll hla
    go_wp2_with (first|((with_reducible refine zad (N:=47) rfl ?_);refine Kd.R_lit k32 (w0:=_) _ 32 ?hg (N:=47) ?hd (xs:=([]:List S32)) (inner:=[]) (ok:=fun _=>True) (okp:=fun _=>True) ?hr ?hp (fun _ hk=>hk) trivial (Below.refl _ _) (Nat.le_refl _) (by simp) ?_;(case hd=>rfl);(case hg=>rfl);(case hr=>first|(go_simp;done)|(go_simp;rfl));(case hp=>exact(Reps.none _ _));intro V15 w47 hR hb hg hat;replace HI:=am_ ((HI.out).zd7 hb hR);clear hR hb hg hat))
    clear hx
    have HE_:∃ (S15:Nat→Prop),Inv w _ _ [row k32 32 w.heap.size V15 [] S15,rowS (Kd.slice 32 k32) 36 w.heap.size u10 rs S10,row k32 32 w.heap.size u11 pt S11,blk g5 38 #[.slice Au u0.length cu,.int .i64 u1,.string u2,.int .i64 u3],blk g9 38 #[.slice none 0 0,.int .i64 0,.string (⟨#[]⟩:ByteArray),.int .i64 0],row k32 32 wb.heap.size (.slice Au u0.length cu) u0 SU] (fun w2=>Kd.C (Kd.slice 32 k32) w2 (some ad3) l2.length l2):=⟨_,HI.out⟩
    clear HI
    obtain⟨S15,HI_⟩:=HE_
    have HI:=am_ HI_
    clear HI_
    go_loopg [15,16] l2.length (fun kq v15 v16 w'=>∃ (j:Nat) (la:List S32) (S15:Nat→Prop),v16=.int .i64 j∧zal (j + kq=l2.length)∧zal (la.length=j)∧zal (la++(l2.drop j).map (fun r=>zac r 0)=l2.map (fun r=>zac r 0))∧zal (Inv w (fun k=>some k=(Value.slice Az z0.length cz).ownBlock) w' [row k32 32 w.heap.size v15 la S15,rowS (Kd.slice 32 k32) 36 w.heap.size u10 rs S10,row k32 32 w.heap.size u11 pt S11,blk g5 38 #[.slice Au u0.length cu,.int .i64 u1,.string u2,.int .i64 u3],blk g9 38 #[.slice none 0 0,.int .i64 0,.string (⟨#[]⟩:ByteArray),.int .i64 0],row k32 32 wb.heap.size (.slice Au u0.length cu) u0 SU] (fun w2=>Kd.C (Kd.slice 32 k32) w2 (some ad3) l2.length l2)))
    case atStart=>exact⟨0,[],S15,rfl,⟨(by omega)⟩,⟨rfl⟩,⟨rfl⟩,HI⟩
    case round=>
     clear HI
     obtain⟨j,la,S15,rfl,HJ,HLA,HLE,HI⟩:=hrel
     have hj:=HJ.out
     cases gk with
     | zero=>
      have he:=HLE.out
      rw [List.drop_eq_nil_of_le (by omega),List.map_nil,List.append_nil] at he
      subst he
      have d1:decide ((j:Int)<(l2.length:Int))=false:=decide_eq_false (by omega)
      have d2:decide (j<l2.length)=false:=decide_eq_false (by omega)
      clear hj HJ HLE HLA
      go_wp2
      refine zcn (n:=8) (S:=fun w'=>w'.cell? ⟨g5,0,none⟩=some (.slice Au u0.length cu)∧w'.cell? ⟨g5,1,none⟩=some (.int .i64 u1)∧w'.cell? ⟨g5,2,none⟩=some (.string u2)∧w'.cell? ⟨g5,3,none⟩=some (.int .i64 u3)) (ds:=[7]) (bs_ 8 0) (by kernel_rfl) rfl rfl ⟨(zaa ((HI.out.drew).get 3 rfl) 0).trans rfl,(zaa ((HI.out.drew).get 3 rfl) 1).trans rfl,(zaa ((HI.out.drew).get 3 rfl) 2).trans rfl,(zaa ((HI.out.drew).get 3 rfl) 3).trans rfl⟩ (fun hHeld=>?_)
      replace HI:=am_ (HI.out.drew)
      generalize World.drew _=wd0 at HI hHeld ⊢
      refine pu_ 0 63 (bs_ 8 1) ?_
      refine pu_ 1 64 (bs_ 8 3) ?_
      refine pu_ 2 65 (bs_ 8 7) ?_
      refine tk_ 3 (bs_ 8 15) hHeld ?_
      refine pu_ 4 6 (bs_ 8 31) ?_
      refine pu_ 5 7 (bs_ 8 63) ?_
      refine pu_ 6 8 (bs_ 8 127) ?_
      refine last_ (i:=7) (N:=none) (bs_ 8 255) rfl rfl (by kernel_rfl) (by decide) (fun K hK=>?_)
      rw [if_pos (by rfl)]
      refine wp_store_row 38 _ _ rfl g9 (#[.slice Au u0.length cu,.int .i64 u1,.string u2,.int .i64 u3]) rfl qz36_ 38 (#[.slice none 0 0,.int .i64 0,.string (⟨#[]⟩:ByteArray),.int .i64 0]) (HI.out.get 4 rfl) (by kernel_rfl) rfl qz39_ ?_
      replace HI:=am_ ((HI.out.front 4 rfl).put0 (#[.slice Au u0.length cu,.int .i64 u1,.string u2,.int .i64 u3]))
      generalize World.setRow _ g9 (#[.slice Au u0.length cu,.int .i64 u1,.string u2,.int .i64 u3])=w13 at HI ⊢
      refine hK.out _ _ ?_
      clear hK K
      refine done_ (by kernel_rfl) ?_
      try go_wp2
      replace HI:=am_ ((((HI.out.front 5 rfl).front 2 rfl).front 4 rfl).front 4 rfl)
      refine bodyPost_ret (zmm rfl _ _ g9 38 #[.slice Au u0.length cu,.int .i64 u1,.string u2,.int .i64 u3] (0,0) _ rfl (HI.out.get 4 rfl) hu38 rfl (by kernel_rfl)) rfl ?_
      have q0:=HI.out.get 0 rfl
      have q1:=HI.out.get 1 rfl
      have q2:=HI.out.get 2 rfl
      have hn_:=HI.out.newAt 3 rfl
      have q3:=HI.out.get 3 rfl
      have d01:=HI.out.disj 0 1 (by decide) rfl rfl
      have d02:=HI.out.disj 0 2 (by decide) rfl rfl
      have d03:=HI.out.disj 0 3 (by decide) rfl rfl
      have d12:=HI.out.disj 1 2 (by decide) rfl rfl
      have d13:=HI.out.disj 1 3 (by decide) rfl rfl
      have d23:=HI.out.disj 2 3 (by decide) rfl rfl
      exact⟨_,_,_,_,rfl,Kd.ze3 q0 (fun k hk=>⟨fun e=>d01 k hk ((rowR q1).1 k e.symm),fun e=>d02 k hk ((rowR q2).1 k e.symm),fun e=>d03 k hk ((rowR q3).1 k e.symm)⟩),Kd.zba q1 (fun k hk=>⟨fun e=>d12 k hk ((rowR q2).1 k e.symm),fun e=>d13 k hk ((rowR q3).1 k e.symm)⟩),Kd.zba q2 (fun k hk=>⟨fun e=>d12 k ((rowR q1).1 k e.symm) hk,fun e=>d23 k hk ((rowR q3).1 k e.symm)⟩),Kd.zba q3 (fun k hk=>⟨(hn_ k hk).symm,fun e=>d13 k ((rowR q1).1 k e.symm) hk,fun e=>d23 k ((rowR q2).1 k e.symm) hk⟩),HI.out.zgr HB.out HPW.out,⟨HI.out.agr.size,HI.out.agr.block⟩⟩
     | succ k1=>
      have hjl:j<l2.length:=by omega
      have he:=HLE.out
      clear HLE
      rw [zkf l2 j [] hjl,List.map_cons] at he
      obtain⟨ad4,B,cB,eA,hBl,hrow⟩:=ziy (S:=InL _) (fun W' hW=>HI.out.facts W' hW) j hjl
      injection eA with eA
      subst eA
      have hpos:0<(l2.getD j []).length:=HLP.out _ (by rw [List.getD_eq_getElem?_getD,List.getElem?_eq_getElem hjl];exact List.getElem_mem hjl)
      generalize l2.getD j []=r at he hBl hrow hpos
      have hN:=hrow _ (Agr.refl _ _)
      have hx:=hN.1
      obtain⟨ad,eB⟩:=zki hN.2 hpos
      subst eB
      have hx0:=(ziv hN.2 hpos).1
      have hx1:=(ziv hN.2 hpos).2
      clear hN hrow
      generalize zac r 0=x at he hx0 hx1
      have HLE:=am_ (show (la++[x])++(l2.drop (j + 1)).map (fun r=>zac r 0)=l2.map (fun r=>zac r 0) by rw [List.append_assoc];exact he)
      clear he
      have d1:decide ((j:Int)<(l2.length:Int))=true:=decide_eq_true (by omega)
      have d2:decide (j<l2.length)=true:=decide_eq_true hjl
      have p6:=eq_true (show 0≤(j:Int) by omega)
      have q6:=eq_true (show (j:Int)<(l2.length:Int) by omega)
      have q6n:=eq_true hjl
      have p7:=eq_true (show (0:Int)<(r.length:Int) by omega)
      have p7n:=eq_true hpos
      have HLL_:=HLL.out
      have HWJ:=am_ (show wrap64 ((j:Int) + 1)=((j + 1:Nat):Int) by unfold wrap64;omega)
      have HJ2:=am_ (show j + 1 + k1=l2.length by omega)
      clear hBl hj HJ hjl HLL_ hpos
      go_wp2_with (first|((with_reducible refine zb5 (b:=.append) (xs:=#[.tmp 54,.tmp 61]) rfl ?_);at_builtin;refine Kd.zev k32 (w0:=_) w.heap.size rfl (.tmp 54) (.tmp 61) 36 32 (.agg #[(.int .i64 0),(.int .i64 0)]) 16 rfl Tryz.underlying36 zgb rfl (by decide) (by omega) _ la x [.int .i64 x.f0,.int .i64 x.f1] _ (fun _=>False) rfl rfl ?aP (fun _ hk=>hk.elim) ?aF (Inv.row0W HI.out) (Below.refl _ _) HI.out.agr.size ?aL ?_;(case aP=>exact ze8 _ _ _ x);(case aF=>exact(fun _ hk=>.inr hk));(case aL=>have:=HLA.out;have:=HJ2.out;have:=HLL.out;omega);intro v59 w59 hR hb hg hat;replace HI:=am_ (HI.out.zkd hb hR (fun _ hk _=>hk) hg);clear hR hb hg hat))
      go_roundg k1
      case measure=>omega
      case rel=>exact⟨j + 1,la++[x],_,by first|rfl|(rw [HWJ.out]),HJ2,⟨(by have:=HLA.out;simp;omega)⟩,HLE,HI⟩
def zc2.f (a0:Int):Option (Bool):=(zcz.f a0 0 2130706432).bind fun t101=>(some t101)
theorem zc2.calls (a0:Int) (r:Bool) (w:World) (h:zc2.f a0=some r) :
  Calls Tryz.prog 126 #[.int .i64 a0] w fun e w'=>e=.returned (.bool r)∧zbx w w':=by
 have H:((zcz.f a0 0 2130706432).bind fun t101=>(some t101))=some r:=h
 clear h
 replace H:=Option.bind_eq_some_iff.mp H
 obtain⟨t101,A20,H⟩:=H
 replace H:(some t101)=some r:=H
 have A2:=am_ A20
 clear A20
 obtain rfl:=Option.some.inj H
 go_enter Tryz.func126,Tryz.ntmps126
 go_wp2_with (first|((with_reducible refine zan (f:=78) rfl ?_);refine gl_ (some 4) Tryz.func78 #[.int .i64 a0,.int .i64 0,.int .i64 2130706432] ?_;(with_reducible refine(zcz.calls a0 0 2130706432 t101 _ A2.out).mono ?_);rintro e w' ⟨rfl,⟨nd,rfl⟩⟩;refine⟨_,rfl,?_⟩))
 go_ret
 exact⟨qz0_,qz1_⟩
def zel.f (a0_0:Int) (a0_1:Int):Option (Bool):=(zc2.f a0_0).bind fun t102=>(if t102=true then((zc2.f a0_1).bind fun t103=>(some t103)) else(some false))
theorem zel.calls (a0_0:Int) (a0_1:Int) (r:Bool) (w:World) (h:zel.f a0_0 a0_1=some r) :
  Calls Tryz.prog 77 #[.agg #[.int .i64 a0_0,.int .i64 a0_1]] w fun e w'=>e=.returned (.bool r)∧Below w.heap.size w w':=by
 have hu32:=Tryz.underlying32
 have HB:=am_ (Below.refl w.heap.size w)
 have H:((zc2.f a0_0).bind fun t102=>(if t102=true then((zc2.f a0_1).bind fun t103=>(some t103)) else(some false)))=some r:=h
 clear h
 replace H:=Option.bind_eq_some_iff.mp H
 obtain⟨t102,A20,H⟩:=H
 replace H:(if t102=true then((zc2.f a0_1).bind fun t103=>(some t103)) else(some false))=some r:=H
 have A2:=am_ A20
 clear A20
 by_cases c3:t102=true
 ·
  subst c3
  have H1:((zc2.f a0_1).bind fun t103=>(some t103))=some r:=by rw [if_pos rfl] at H;exact H
  clear H
  have H:=H1
  clear H1
  replace H:=Option.bind_eq_some_iff.mp H
  obtain⟨t103,A40,H⟩:=H
  replace H:(some t103)=some r:=H
  have A4:=am_ A40
  clear A40
  obtain rfl:=Option.some.inj H
  go_enter Tryz.func77,Tryz.ntmps77
  go_wp2_with (first|((with_reducible refine zad (N:=1) rfl ?_);refine zaj rfl (N:=1) rfl (cs:=#[.int .i64 a0_0,.int .i64 a0_1]) (t:=32) bx_ ?_;intro gb101 hg w5 hbox hb;replace BK101:=am_ (hbox);replace GW101:=am_ ((by rw [hg];exact(zaf qz2_):w.heap.size≤gb101));replace GE101:=GW101;replace HB:=am_ (zab qz2_ hb);clear hb hbox hg;obtain⟨hcz6_0,hcz6_1,hfz6_0,hfz6_1⟩:=bf2_ BK101.out)|((with_reducible refine zan (f:=126) rfl ?_);refine gl_ (some 5) Tryz.func126 #[.int .i64 a0_0] ?_;(with_reducible refine(zc2.calls a0_0 true _ A2.out).mono ?_);rintro e w' ⟨rfl,⟨nd,rfl⟩⟩;refine⟨_,rfl,?_⟩)|(go_at_call 126;(with_reducible refine(zc2.calls a0_1 t103 _ A4.out).mono ?_);rintro e w' ⟨rfl,⟨nd,rfl⟩⟩))
  go_ret
  exact⟨qz4_,qz5_⟩
 ·
  replace c3:=Bool.eq_false_iff.mpr c3
  subst c3
  have H1:(some false)=some r:=by rw [if_neg (show ¬(false=true) by decide)] at H;exact H
  clear H
  have H:=H1
  clear H1
  obtain rfl:=Option.some.inj H
  go_enter Tryz.func77,Tryz.ntmps77
  go_wp2_with (first|((with_reducible refine zad (N:=1) rfl ?_);refine zaj rfl (N:=1) rfl (cs:=#[.int .i64 a0_0,.int .i64 a0_1]) (t:=32) bx_ ?_;intro gb101 hg w7 hbox hb;replace BK101:=am_ (hbox);replace GW101:=am_ ((by rw [hg];exact(zaf qz2_):w.heap.size≤gb101));replace GE101:=GW101;replace HB:=am_ (zab qz2_ hb);clear hb hbox hg;obtain⟨hcz8_0,hcz8_1,hfz8_0,hfz8_1⟩:=bf2_ BK101.out)|((with_reducible refine zan (f:=126) rfl ?_);refine gl_ (some 5) Tryz.func126 #[.int .i64 a0_0] ?_;(with_reducible refine(zc2.calls a0_0 false _ A2.out).mono ?_);rintro e w' ⟨rfl,⟨nd,rfl⟩⟩;refine⟨_,rfl,?_⟩))
  go_ret
  exact⟨qz4_,qz5_⟩
end Go.Proofs.YtgookagndlfehaaGreat.PT
end
section
namespace Go.Proofs.YtgookagndlfehaaGreat.PT
open Go.RowKit Go.Proofs.YtgookagndlfehaaGreatW.PrintWords Go.Proofs.YtgookagndlfehaaGreatW.PrintLast Go.Proofs.YtgookagndlfehaaGreatW.PrintMore
attribute [local go_sem] zez zey zfh zff zed zd9 zex zew   -- for this text's walks alone
set_option linter.unusedVariables false
set_option linter.unusedSimpArgs false
def zam.p (x:S32):Bool:=(zel.f (x).f0 (x).f1).getD false
theorem zam.p_some (x:S32):zel.f (x).f0 (x).f1=some (zam.p x):=by
 unfold zam.p
 have:∃ b,zel.f (x).f0 (x).f1=some b:=by
  simp only [zel.f,zc2.f,zcz.f]
  repeat' (first|exact⟨_,rfl⟩|(split <;> try exact⟨_,rfl⟩)|(simp only [Option.bind_some]))
 obtain⟨b,hb⟩:=this
 rw [hb];rfl
theorem zam.clo (x:S32) (r:Bool) (hr:zel.f (x).f0 (x).f1=some r) (g:Nat) (w:World) (hg:w.cell? ⟨g,0,none⟩=some (.func (.func 77) #[] #[])) :
  Calls Tryz.prog 125 #[.agg #[.int .i64 ((x).f0),.int .i64 ((x).f1)],.pointer (some ⟨g,0,none⟩)] w fun e w'=>e=.returned (.bool (!r))∧Below w.heap.size w w':=by
 have hlt:g<w.heap.size:=World.block_lt_of_cell? w _ hg
 have HB:=am_ (Below.refl w.heap.size w)
 go_enter Tryz.func125,Tryz.ntmps125
 go_wp2_with (go_at_call 77;(refine(zel.calls (x).f0 (x).f1 r _ hr).mono ?_);rintro e w' ⟨rfl,hb⟩)
 go_ret
 exact⟨(by first|rfl|simp),(by repeat(first|(with_reducible first|exact HB.out|apply za5|apply zaw|apply zao)|exact HB.out|refine zab ?_ hb))⟩
def zam.Idx (l:List (S32)) (w:World) (e:Ending) (w':World):Prop:=∃ j:Int,e=.returned (.int .i64 j)∧(decide (0≤j)=!(l.all zam.p))∧Below w.heap.size w w'
theorem zam.all_snoc (l:List (S32)) (k:Nat) (hk:k<l.length) (h:(l.take k).all zam.p=true) (h2:zam.p (l.getD k z32)=true):(l.take (k + 1)).all zam.p=true:=by
 rw [List.take_succ_eq_append_getElem hk,List.all_append,h]
 simp [List.getD_eq_getElem?_getD,hk] at h2
 simp [h2]
theorem zam.all_not (l:List (S32)) (k:Nat) (hk:k<l.length) (h2:zam.p (l.getD k z32)=false):l.all zam.p=false:=by
 rw [List.all_eq_false]
 simp [List.getD_eq_getElem?_getD,hk] at h2
 exact⟨l[k],List.getElem_mem hk,(by simp [h2])⟩
theorem zam.idx (A0:Option Addr) (c0:Nat) (l0:List (S32)) (g:Nat) (w:World) (hr0:Kd.C k32 w A0 l0.length l0) (hc0:l0.length≤c0) (hm:l0.length≤9223372036854775807) (hg:w.cell? ⟨g,0,none⟩=some (.func (.func 77) #[] #[])) :
  Calls Tryz.prog 156 #[.slice A0 l0.length c0,.func (.func 125) #[] #[.pointer (some ⟨g,0,none⟩)]] w (zam.Idx l0 w):=by
 have HR0:=am_ hr0
 have HC0:=am_ hc0
 have HG:=am_ hg
 clear hr0 hc0 hg
 have HB:=am_ (Below.refl w.heap.size w)
 go_enter Tryz.func156,Tryz.ntmps156
 go_wp2
 go_loopg [8] l0.length (fun kq v8 w'=>∃ k:Nat,k + kq=l0.length∧v8=.int .i64 k∧zal ((l0.take k).all zam.p=true)∧zal (Below w.heap.size w w'))
 case atStart=>exact⟨0,by omega,by first|rfl|simp,⟨rfl⟩,⟨qz2_⟩⟩
 case round=>
  obtain⟨k,hk,rfl,HA,HB⟩:=hrel
  cases gk with
  | zero=>
   have hge:decide ((k:Int)<(l0.length:Int))=false:=decide_eq_false (by omega)
   have hge2:decide (k<l0.length)=false:=decide_eq_false (by omega)
   have hkk:l0.take k=l0:=List.take_of_length_le (by omega)
   have HA2:=am_ (hkk ▸ HA.out)
   clear HA hkk
   go_wp2
   go_ret
   refine⟨-1,rfl,?_,qz2_⟩
   rw [HA2.out]
   rfl
  | succ k1=>
   have hlt:decide ((k:Int)<(l0.length:Int))=true:=decide_eq_true (by omega)
   have hlt2:decide (k<l0.length)=true:=decide_eq_true (by omega)
   have p_:0≤(k:Int):=by omega
   have q_:(k:Int)<(l0.length:Int):=by omega
   obtain⟨ad,e_,hx_0,hx_1⟩:=zdf HR0.out k p_ q_
   cases e_
   replace hx_0:=(HB.out.cell (World.block_lt_of_cell? w _ hx_0)).trans hx_0
   replace hx_1:=(HB.out.cell (World.block_lt_of_cell? w _ hx_1)).trans hx_1
   simp only [Int.toNat_natCast] at hx_0 hx_1
   have hgc:=am_ ((HB.out.cell (World.block_lt_of_cell? w _ HG.out)).trans HG.out)
   have hkl:k<l0.length:=by omega
   have hrd:(zac l0 (k:Int))=l0.getD k z32:=rfl
   by_cases hp:zam.p (zac l0 (k:Int))=true
   ·
    have hs:=am_ ((zam.p_some (zac l0 (k:Int))).trans (congrArg some hp))
    have HA2:=am_ (zam.all_snoc l0 k hkl HA.out (hrd ▸ hp))
    clear hp HA hrd
    go_wp2_with (go_at_call 125;(refine(zam.clo (zac l0 (k:Int)) true hs.out g _ hgc.out).mono ?_);rintro e w' ⟨rfl,hb⟩;replace HB:=am_ (zab qz2_ hb);clear hb)
    go_roundg k1
    case measure=>omega
    case rel=>exact⟨k + 1,by omega,by first|rfl|go_num,HA2,⟨qz2_⟩⟩
   ·
    replace hp:=Bool.eq_false_iff.mpr hp
    have hs:=am_ ((zam.p_some (zac l0 (k:Int))).trans (congrArg some hp))
    have HA2:=am_ (zam.all_not l0 k hkl (hrd ▸ hp))
    clear hp HA hrd
    go_wp2_with (go_at_call 125;(refine(zam.clo (zac l0 (k:Int)) false hs.out g _ hgc.out).mono ?_);rintro e w' ⟨rfl,hb⟩;replace HB:=am_ (zab qz2_ hb);clear hb)
    go_ret
    exact⟨(k:Int),rfl,(by rw [HA2.out];simp),qz2_⟩
theorem zam.con (A0:Option Addr) (c0:Nat) (l0:List (S32)) (g:Nat) (w:World) (hr0:Kd.C k32 w A0 l0.length l0) (hc0:l0.length≤c0) (hm:l0.length≤9223372036854775807) (hg:w.cell? ⟨g,0,none⟩=some (.func (.func 77) #[] #[])) :
  Calls Tryz.prog 124 #[.slice A0 l0.length c0,.func (.func 125) #[] #[.pointer (some ⟨g,0,none⟩)]] w fun e w'=>e=.returned (.bool (!(l0.all zam.p)))∧Below w.heap.size w w':=by
 have HR0:=am_ hr0
 have HC0:=am_ hc0
 have HG:=am_ hg
 clear hr0 hc0 hg
 go_enter Tryz.func124,Tryz.ntmps124
 go_wp2_with (go_at_call 156;(refine(zam.idx A0 c0 l0 g _ HR0.out HC0.out hm HG.out).mono ?_);rintro e w' ⟨j,rfl,hj,hb⟩;have HJ:=am_ hj;clear hj)
 go_ret
 exact⟨(by rw [←HJ.out];rfl),(by repeat(first|exact hb|exact Below.refl _ _|apply za5|apply zaw|apply zao))⟩
def zam.f (l1:List (S32)):Option (Bool):=some (l1.all zam.p)
theorem zam.calls (A1:Option Addr) (c1:Nat) (l1:List (S32)) (r:Bool) (w:World) (hr1:Kd.C k32 w A1 l1.length l1) (hc1:l1.length≤c1) (h:zam.f l1=some r) :
  Calls Tryz.prog 76 #[(Value.func (.func 77) #[] #[]),.slice A1 l1.length c1] w fun e w'=>e=.returned (.bool r)∧Below w.heap.size w w':=by
 unfold zam.f at h
 have hm:l1.length≤9223372036854775807:=hr1.2.1
 ·
  obtain rfl:=Option.some.inj h
  have HR1:=am_ hr1
  have HC1:=am_ hc1
  clear hr1 hc1 h
  have HB:=am_ (Below.refl w.heap.size w)
  go_enter Tryz.func76,Tryz.ntmps76
  go_wp2_with (go_at_call 124;(refine(zam.con A1 c1 l1 w.heap.size _ (Kd.zbi HR1.out qz2_) HC1.out hm (by first|rfl|simp)).mono ?_);rintro e w' ⟨rfl,hb⟩;replace HB:=am_ (zab qz2_ hb);clear hb)
  go_ret
  exact⟨(by first|rfl|simp),qz2_⟩
def zd6.f (a0:ByteArray):Option (Bool):=some ((a0.size:Int) == 32)
theorem zd6.calls (a0:ByteArray) (r:Bool) (w:World) (h:zd6.f a0=some r) :
  Calls Tryz.prog 79 #[.string a0] w fun e w'=>e=.returned (.bool r)∧zbx w w':=by
 have H:(some ((a0.size:Int) == 32))=some r:=h
 clear h
 obtain rfl:=Option.some.inj H
 go_enter Tryz.func79,Tryz.ntmps79
 go_wp2
 go_ret
 exact⟨qz0_,qz1_⟩
def zd4.f (l0_0:List (S32)) (a0_1:Int) (a0_2:ByteArray) (a0_3:Int):Option (Bool):=if (l0_0.length:Int)≤64 then((zam.f l0_0).bind fun t102=>(if t102=true then((zd6.f a0_2).bind fun t103=>(if t103=true then((zcz.f a0_1 0 1000000).bind fun t104=>(if t104=true then((zcz.f a0_3 0 1000000).bind fun t105=>(some t105)) else(some false))) else(some false))) else(some false))) else(some false)
theorem zd4.calls (A0_0:Option Addr) (c0_0:Nat) (l0_0:List (S32)) (a0_1:Int) (a0_2:ByteArray) (a0_3:Int) (r:Bool) (w:World) (hr0_0:Kd.C k32 w A0_0 l0_0.length l0_0) (hc0_0:l0_0.length≤c0_0) (h:zd4.f l0_0 a0_1 a0_2 a0_3=some r) :
  Calls Tryz.prog 40 #[.agg #[.slice A0_0 l0_0.length c0_0,.int .i64 a0_1,.string a0_2,.int .i64 a0_3]] w fun e w'=>e=.returned (.bool r)∧Below w.heap.size w w':=by
 have hu38:=Tryz.underlying38
 have HR0_0:=am_ hr0_0
 have HC0_0:=am_ hc0_0
 clear hr0_0 hc0_0
 have HB:=am_ (Below.refl w.heap.size w)
 have H:(if (l0_0.length:Int)≤64 then((zam.f l0_0).bind fun t102=>(if t102=true then((zd6.f a0_2).bind fun t103=>(if t103=true then((zcz.f a0_1 0 1000000).bind fun t104=>(if t104=true then((zcz.f a0_3 0 1000000).bind fun t105=>(some t105)) else(some false))) else(some false))) else(some false))) else(some false))=some r:=h
 clear h
 by_cases c2:(l0_0.length:Int)≤64
 ·
  rw [if_pos c2] at H
  have c2b0:decide ((l0_0.length:Int)≤64)=true:=decide_eq_true c2
  have c2b1:decide (l0_0.length≤64)=true:=decide_eq_true (by omega)
  clear c2
  replace H:=Option.bind_eq_some_iff.mp H
  obtain⟨t102,A30,H⟩:=H
  replace H:(if t102=true then((zd6.f a0_2).bind fun t103=>(if t103=true then((zcz.f a0_1 0 1000000).bind fun t104=>(if t104=true then((zcz.f a0_3 0 1000000).bind fun t105=>(some t105)) else(some false))) else(some false))) else(some false))=some r:=H
  have A3:=am_ A30
  clear A30
  by_cases c4:t102=true
  ·
   subst c4
   have H1:((zd6.f a0_2).bind fun t103=>(if t103=true then((zcz.f a0_1 0 1000000).bind fun t104=>(if t104=true then((zcz.f a0_3 0 1000000).bind fun t105=>(some t105)) else(some false))) else(some false)))=some r:=by rw [if_pos rfl] at H;exact H
   clear H
   have H:=H1
   clear H1
   replace H:=Option.bind_eq_some_iff.mp H
   obtain⟨t103,A50,H⟩:=H
   replace H:(if t103=true then((zcz.f a0_1 0 1000000).bind fun t104=>(if t104=true then((zcz.f a0_3 0 1000000).bind fun t105=>(some t105)) else(some false))) else(some false))=some r:=H
   have A5:=am_ A50
   clear A50
   by_cases c6:t103=true
   ·
    subst c6
    have H1:((zcz.f a0_1 0 1000000).bind fun t104=>(if t104=true then((zcz.f a0_3 0 1000000).bind fun t105=>(some t105)) else(some false)))=some r:=by rw [if_pos rfl] at H;exact H
    clear H
    have H:=H1
    clear H1
    replace H:=Option.bind_eq_some_iff.mp H
    obtain⟨t104,A70,H⟩:=H
    replace H:(if t104=true then((zcz.f a0_3 0 1000000).bind fun t105=>(some t105)) else(some false))=some r:=H
    have A7:=am_ A70
    clear A70
    by_cases c8:t104=true
    ·
     subst c8
     have H1:((zcz.f a0_3 0 1000000).bind fun t105=>(some t105))=some r:=by rw [if_pos rfl] at H;exact H
     clear H
     have H:=H1
     clear H1
     replace H:=Option.bind_eq_some_iff.mp H
     obtain⟨t105,A90,H⟩:=H
     replace H:(some t105)=some r:=H
     have A9:=am_ A90
     clear A90
     obtain rfl:=Option.some.inj H
     go_enter Tryz.func40,Tryz.ntmps40
     go_wp2_with (first|((with_reducible refine zad (N:=1) rfl ?_);refine zaj rfl (N:=1) rfl (cs:=#[.slice A0_0 l0_0.length c0_0,.int .i64 a0_1,.string a0_2,.int .i64 a0_3]) (t:=38) bx_ ?_;intro gb101 hg w10 hbox hb;replace BK101:=am_ (hbox);replace GW101:=am_ ((by rw [hg];exact(zaf qz2_):w.heap.size≤gb101));replace GE101:=GW101;replace HB:=am_ (zab qz2_ hb);clear hb hbox hg;obtain⟨hcz11_0,hcz11_1,hcz11_2,hcz11_3,hfz11_0,hfz11_1,hfz11_2,hfz11_3⟩:=bf4_ BK101.out)|(go_at_call 76;(with_reducible refine(zam.calls  _ _ l0_0 true _ ?side1 ?side2 A3.out).mono ?_);(case side1=>exact qc_ (Kd.zbi HR0_0.out HB.out));(case side2=>exact HC0_0.out);rintro e w12 ⟨rfl,hb⟩;replace BK101:=am_ (zak (g:=gb101) (o:=.cells #[.slice A0_0 l0_0.length c0_0,.int .i64 a0_1,.string a0_2,.int .i64 a0_3] 38 (0,0)) qz6_ hb);replace HB:=am_ (zab qz5_ hb);(try clear hb);(try clear hb2);(try clear hk);(try clear hi);obtain⟨hcz13_0,hcz13_1,hcz13_2,hcz13_3,hfz13_0,hfz13_1,hfz13_2,hfz13_3⟩:=bf4_ BK101.out)|(go_at_call 79;(with_reducible refine(zd6.calls a0_2 true _ A5.out).mono ?_);rintro e w' ⟨rfl,⟨nd,rfl⟩⟩)|(go_at_call 78;(with_reducible refine(zcz.calls a0_1 0 1000000 true _ A7.out).mono ?_);rintro e w' ⟨rfl,⟨nd,rfl⟩⟩)|(go_at_call 78;(with_reducible refine(zcz.calls a0_3 0 1000000 t105 _ A9.out).mono ?_);rintro e w' ⟨rfl,⟨nd,rfl⟩⟩))
     go_ret
     exact⟨qz4_,qz5_⟩
    ·
     replace c8:=Bool.eq_false_iff.mpr c8
     subst c8
     have H1:(some false)=some r:=by rw [if_neg (show ¬(false=true) by decide)] at H;exact H
     clear H
     have H:=H1
     clear H1
     obtain rfl:=Option.some.inj H
     go_enter Tryz.func40,Tryz.ntmps40
     go_wp2_with (first|((with_reducible refine zad (N:=1) rfl ?_);refine zaj rfl (N:=1) rfl (cs:=#[.slice A0_0 l0_0.length c0_0,.int .i64 a0_1,.string a0_2,.int .i64 a0_3]) (t:=38) bx_ ?_;intro gb101 hg w14 hbox hb;replace BK101:=am_ (hbox);replace GW101:=am_ ((by rw [hg];exact(zaf qz2_):w.heap.size≤gb101));replace GE101:=GW101;replace HB:=am_ (zab qz2_ hb);clear hb hbox hg;obtain⟨hcz15_0,hcz15_1,hcz15_2,hcz15_3,hfz15_0,hfz15_1,hfz15_2,hfz15_3⟩:=bf4_ BK101.out)|(go_at_call 76;(with_reducible refine(zam.calls  _ _ l0_0 true _ ?side1 ?side2 A3.out).mono ?_);(case side1=>exact qc_ (Kd.zbi HR0_0.out HB.out));(case side2=>exact HC0_0.out);rintro e w16 ⟨rfl,hb⟩;replace BK101:=am_ (zak (g:=gb101) (o:=.cells #[.slice A0_0 l0_0.length c0_0,.int .i64 a0_1,.string a0_2,.int .i64 a0_3] 38 (0,0)) qz6_ hb);replace HB:=am_ (zab qz5_ hb);(try clear hb);(try clear hb2);(try clear hk);(try clear hi);obtain⟨hcz17_0,hcz17_1,hcz17_2,hcz17_3,hfz17_0,hfz17_1,hfz17_2,hfz17_3⟩:=bf4_ BK101.out)|(go_at_call 79;(with_reducible refine(zd6.calls a0_2 true _ A5.out).mono ?_);rintro e w' ⟨rfl,⟨nd,rfl⟩⟩)|(go_at_call 78;(with_reducible refine(zcz.calls a0_1 0 1000000 false _ A7.out).mono ?_);rintro e w' ⟨rfl,⟨nd,rfl⟩⟩))
     go_ret
     exact⟨qz4_,qz5_⟩
   ·
    replace c6:=Bool.eq_false_iff.mpr c6
    subst c6
    have H1:(some false)=some r:=by rw [if_neg (show ¬(false=true) by decide)] at H;exact H
    clear H
    have H:=H1
    clear H1
    obtain rfl:=Option.some.inj H
    go_enter Tryz.func40,Tryz.ntmps40
    go_wp2_with (first|((with_reducible refine zad (N:=1) rfl ?_);refine zaj rfl (N:=1) rfl (cs:=#[.slice A0_0 l0_0.length c0_0,.int .i64 a0_1,.string a0_2,.int .i64 a0_3]) (t:=38) bx_ ?_;intro gb101 hg w18 hbox hb;replace BK101:=am_ (hbox);replace GW101:=am_ ((by rw [hg];exact(zaf qz2_):w.heap.size≤gb101));replace GE101:=GW101;replace HB:=am_ (zab qz2_ hb);clear hb hbox hg;obtain⟨hcz19_0,hcz19_1,hcz19_2,hcz19_3,hfz19_0,hfz19_1,hfz19_2,hfz19_3⟩:=bf4_ BK101.out)|(go_at_call 76;(with_reducible refine(zam.calls  _ _ l0_0 true _ ?side1 ?side2 A3.out).mono ?_);(case side1=>exact qc_ (Kd.zbi HR0_0.out HB.out));(case side2=>exact HC0_0.out);rintro e w20 ⟨rfl,hb⟩;replace BK101:=am_ (zak (g:=gb101) (o:=.cells #[.slice A0_0 l0_0.length c0_0,.int .i64 a0_1,.string a0_2,.int .i64 a0_3] 38 (0,0)) qz6_ hb);replace HB:=am_ (zab qz5_ hb);(try clear hb);(try clear hb2);(try clear hk);(try clear hi);obtain⟨hcz21_0,hcz21_1,hcz21_2,hcz21_3,hfz21_0,hfz21_1,hfz21_2,hfz21_3⟩:=bf4_ BK101.out)|(go_at_call 79;(with_reducible refine(zd6.calls a0_2 false _ A5.out).mono ?_);rintro e w' ⟨rfl,⟨nd,rfl⟩⟩))
    go_ret
    exact⟨qz4_,qz5_⟩
  ·
   replace c4:=Bool.eq_false_iff.mpr c4
   subst c4
   have H1:(some false)=some r:=by rw [if_neg (show ¬(false=true) by decide)] at H;exact H
   clear H
   have H:=H1
   clear H1
   obtain rfl:=Option.some.inj H
   go_enter Tryz.func40,Tryz.ntmps40
   go_wp2_with (first|((with_reducible refine zad (N:=1) rfl ?_);refine zaj rfl (N:=1) rfl (cs:=#[.slice A0_0 l0_0.length c0_0,.int .i64 a0_1,.string a0_2,.int .i64 a0_3]) (t:=38) bx_ ?_;intro gb101 hg w22 hbox hb;replace BK101:=am_ (hbox);replace GW101:=am_ ((by rw [hg];exact(zaf qz2_):w.heap.size≤gb101));replace GE101:=GW101;replace HB:=am_ (zab qz2_ hb);clear hb hbox hg;obtain⟨hcz23_0,hcz23_1,hcz23_2,hcz23_3,hfz23_0,hfz23_1,hfz23_2,hfz23_3⟩:=bf4_ BK101.out)|(go_at_call 76;(with_reducible refine(zam.calls  _ _ l0_0 false _ ?side1 ?side2 A3.out).mono ?_);(case side1=>exact qc_ (Kd.zbi HR0_0.out HB.out));(case side2=>exact HC0_0.out);rintro e w24 ⟨rfl,hb⟩;replace BK101:=am_ (zak (g:=gb101) (o:=.cells #[.slice A0_0 l0_0.length c0_0,.int .i64 a0_1,.string a0_2,.int .i64 a0_3] 38 (0,0)) qz6_ hb);replace HB:=am_ (zab qz5_ hb);(try clear hb);(try clear hb2);(try clear hk);(try clear hi)))
   go_ret
   exact⟨qz4_,qz5_⟩
 ·
  rw [if_neg c2] at H
  have c2b0:decide ((l0_0.length:Int)≤64)=false:=decide_eq_false c2
  have c2b1:decide (l0_0.length≤64)=false:=decide_eq_false (by omega)
  clear c2
  obtain rfl:=Option.some.inj H
  go_enter Tryz.func40,Tryz.ntmps40
  go_wp2_with (first|((with_reducible refine zad (N:=1) rfl ?_);refine zaj rfl (N:=1) rfl (cs:=#[.slice A0_0 l0_0.length c0_0,.int .i64 a0_1,.string a0_2,.int .i64 a0_3]) (t:=38) bx_ ?_;intro gb101 hg w25 hbox hb;replace BK101:=am_ (hbox);replace GW101:=am_ ((by rw [hg];exact(zaf qz2_):w.heap.size≤gb101));replace GE101:=GW101;replace HB:=am_ (zab qz2_ hb);clear hb hbox hg;obtain⟨hcz26_0,hcz26_1,hcz26_2,hcz26_3,hfz26_0,hfz26_1,hfz26_2,hfz26_3⟩:=bf4_ BK101.out))
  go_ret
  exact⟨qz4_,qz5_⟩
def zdn.f (l0_0:List (S32)) (a0_1:Int) (a0_2:ByteArray) (a0_3:Int):Option (Int):=some (wrap64 (1000000 - (mx a0_1 a0_3)))
theorem zdn.calls (A0_0:Option Addr) (c0_0:Nat) (l0_0:List (S32)) (a0_1:Int) (a0_2:ByteArray) (a0_3:Int) (r:Int) (w:World) (hr0_0:Kd.C k32 w A0_0 l0_0.length l0_0) (hc0_0:l0_0.length≤c0_0) (h:zdn.f l0_0 a0_1 a0_2 a0_3=some r) :
  Calls Tryz.prog 41 #[.agg #[.slice A0_0 l0_0.length c0_0,.int .i64 a0_1,.string a0_2,.int .i64 a0_3]] w fun e w'=>e=.returned (.int .i64 r)∧Below w.heap.size w w':=by
 have hu38:=Tryz.underlying38
 have HR0_0:=am_ hr0_0
 have HC0_0:=am_ hc0_0
 clear hr0_0 hc0_0
 have HB:=am_ (Below.refl w.heap.size w)
 have H:(some (wrap64 (1000000 - (mx a0_1 a0_3))))=some r:=h
 clear h
 obtain⟨ji2,hji2⟩:∃ j_:Int,(mx a0_1 a0_3)=j_:=⟨_,rfl⟩
 replace H:(some (wrap64 (1000000 - (ji2))))=some r:=by first|(rw [hji2] at H;exact H)|(simp only [hji2] at H ⊢;exact H)
 have hji2_:(if a0_1<a0_3 then a0_3 else a0_1)=ji2:=hji2
 have hmx : max a0_1 a0_3 = ji2 := by rw [← hji2]; unfold mx; omega
 obtain rfl:=Option.some.inj H
 go_enter Tryz.func41,Tryz.ntmps41
 go_wp2_with (first|((with_reducible refine zad (N:=1) rfl ?_);refine zaj rfl (N:=1) rfl (cs:=#[.slice A0_0 l0_0.length c0_0,.int .i64 a0_1,.string a0_2,.int .i64 a0_3]) (t:=38) bx_ ?_;intro gb101 hg w3 hbox hb;replace BK101:=am_ (hbox);replace GW101:=am_ ((by rw [hg];exact(zaf qz2_):w.heap.size≤gb101));replace GE101:=GW101;replace HB:=am_ (zab qz2_ hb);clear hb hbox hg;obtain⟨hcz4_0,hcz4_1,hcz4_2,hcz4_3,hfz4_0,hfz4_1,hfz4_2,hfz4_3⟩:=bf4_ BK101.out))
 go_ret
 exact⟨(by first|rfl|(simp [zc9,zda] <;> rfl)|(simp only [←hji2];first|rfl|(simp [zc9,zda] <;> rfl))|(simp [*,zc9,zda] <;> rfl)),qz5_⟩
def ze5.f (l0:List (S32)):Option (List (S32)):=if l0.length<8796093022208 then some l0 else none
theorem ze5.calls (A0:Option Addr) (c0:Nat) (l0:List (S32)) (r:List (S32)) (w:World) (hr0:Kd.C k32 w A0 l0.length l0) (hc0:l0.length≤c0) (h:ze5.f l0=some r) :
  Calls Tryz.prog 80 #[.slice A0 l0.length c0] w fun e w'=>∃ v0_:Value,e=.returned (v0_)∧Kd.R k32 32 w' w.heap.size (fun _=>True) v0_ r∧Below w.heap.size w w':=by
 unfold ze5.f at h
 by_cases c4:l0.length<8796093022208
 ·
  rw [if_pos c4] at h
  obtain rfl:=Option.some.inj h
  clear h
  have LMc4:=am_ c4
  clear c4
  cases A0 with
  | none=>
   have hl:l0=[]:=by
    cases l0 with
    | nil=>rfl
    | cons x t=>obtain⟨ad,h1,_⟩:=hr0.2.2 (by simp);cases h1
   subst hl
   have HB:=am_ (Below.refl w.heap.size w)
   have hq:∀ W:World,(binOp .eql 36 (.slice none 0 c0) (.slice none 0 0)).run Tryz.prog W=.ok (.bool true) W:=fun W=>Lib.run_eql_slice_nil_nil W 0 c0 Tryz.underlying36
   go_enter Tryz.func80,Tryz.ntmps80
   go_wp2
   go_ret
   exact⟨_,(by first|rfl|(simp;done)),Kd.R_nil _ _ _ _ _,qz2_⟩
  | some ad0=>
   have HR0:=am_ hr0
   have HC0:=am_ hc0
   clear hr0 hc0
   have hq:∀ W:World,(binOp .eql 36 (.slice (some ad0) l0.length c0) (.slice none 0 0)).run Tryz.prog W=.ok (.bool false) W:=fun W=>Lib.run_eql_slice_nil W 36 32 (some ad0) l0.length c0 0 0 Tryz.underlying36
   have HB:=am_ (Below.refl w.heap.size w)
   obtain⟨y101,hy101⟩:∃ y_:List (S32),y_=([]:List (S32)):=⟨_,rfl⟩
   have Ny101:=am_ hy101
   obtain⟨y104,hy104⟩:∃ y_:List (S32),y_=y101++l0:=⟨_,rfl⟩
   have Ny104:=am_ hy104
   have Nend:=am_ (show y104=l0 by rw [hy104,hy101];rfl)
   have Nlim:=am_ (show y101.length + l0.length<8796093022208 by rw [hy101];simpa using LMc4.out)
   clear hy101 hy104
   go_enter Tryz.func80,Tryz.ntmps80
   go_wp2_with (first|((with_reducible refine zad (N:=5) rfl ?_);refine Kd.R_lit k32 _ 32 ?hg (N:=5) ?hd (xs:=([]:List (S32))) (inner:=[]) (ok:=fun _=>True) (okp:=fun _=>True) ?hr ?hp (fun _ hk=>hk) trivial (Below.refl _ _) (Nat.le_refl _) (by simp) ?_;(case hd=>rfl);(case hg=>rfl);(case hr=>first|(go_simp;done)|(go_simp;rfl));(case hp=>exact(Reps.none _ _));intro v102 w5 ho6 hb hg_ hnew_;clear hg_ hnew_;(first|rw [←Ny101.out] at ho6|(simp only [Int.reduceToNat] at ho6;rw [←Ny101.out] at ho6));replace HO103:=am_ (Kd.zcw ho6 (zaf qz2_));replace HB:=am_ (zab qz2_ hb);clear hb ho6)|((with_reducible refine zb5 (b:=.append) (xs:=#[.tmp 5,.tmp 6]) rfl ?_);at_builtin;refine Kd.ze0 k32 (w0:=w) w.heap.size rfl (.tmp 5) (.tmp 6) 36 32 (.agg #[(.int .i64 0),(.int .i64 0)]) 16 rfl Tryz.underlying36 zgb rfl (by decide) (by omega) v102 y101 l0 _ _ _ (fun _=>True) (fun _=>False) rfl rfl ?aO ?aR (fun _ _ h=>h) (fun _ h=>h.elim) ?aF ?aB ?aS ?aL ?_;(case aR=>exact qc_ (Kd.zbi HR0.out HB.out));(case aB=>exact qz2_);(case aF=>exact(fun _ _=>trivial));(case aO=>exact qz11_);(case aS=>exact(zaf qz2_));(case aL=>have:=Nlim.out;omega);intro v105 w7 ho hb hg hat;rw [←Ny104.out] at ho;replace HB:=am_ (hb);replace HO106:=am_ (ho);clear HO103;clear ho hb hg hat))
   go_ret
   exact⟨_,(by first|rfl|(simp;done)),(by rw [←Nend.out];(with_reducible repeat(first|apply Kd.zbm|apply Kd.zbl|apply Kd.zbt));exact HO106.out),qz2_⟩
 ·
  rw [if_neg c4] at h;exact absurd h (by simp)
def zdm.f (l0_0:List (S32)) (a0_1:Int) (a0_2:ByteArray) (a0_3:Int):Option ((List (S32)) × Int × ByteArray × Int):=(ze5.f l0_0).bind fun t103=>(some (t103,a0_1,a0_2,a0_3))
theorem zdm.calls (A0_0:Option Addr) (c0_0:Nat) (l0_0:List (S32)) (a0_1:Int) (a0_2:ByteArray) (a0_3:Int) (r1:List (S32)) (r2:Int) (r3:ByteArray) (r4:Int) (w:World) (hr0_0:Kd.C k32 w A0_0 l0_0.length l0_0) (hc0_0:l0_0.length≤c0_0) (h:zdm.f l0_0 a0_1 a0_2 a0_3=some (r1,r2,r3,r4)) :
  Calls Tryz.prog 42 #[.agg #[.slice A0_0 l0_0.length c0_0,.int .i64 a0_1,.string a0_2,.int .i64 a0_3]] w fun e w'=>∃ v0_:Value,e=.returned (.agg #[v0_,.int .i64 r2,.string r3,.int .i64 r4])∧Kd.R k32 32 w' w.heap.size (fun _=>True) v0_ r1∧Below w.heap.size w w':=by
 have hu38:=Tryz.underlying38
 have HR0_0:=am_ hr0_0
 have HC0_0:=am_ hc0_0
 clear hr0_0 hc0_0
 have HB:=am_ (Below.refl w.heap.size w)
 have H:((ze5.f l0_0).bind fun t103=>(some (t103,a0_1,a0_2,a0_3)))=some (r1,r2,r3,r4):=h
 clear h
 replace H:=Option.bind_eq_some_iff.mp H
 obtain⟨t103,A20,H⟩:=H
 replace H:(some (t103,a0_1,a0_2,a0_3))=some (r1,r2,r3,r4):=H
 have A2:=am_ A20
 clear A20
 simp only [Option.some.injEq,Prod.mk.injEq] at H
 obtain⟨rfl,rfl,rfl,rfl⟩:=H
 go_enter Tryz.func42,Tryz.ntmps42
 go_wp2_with (first|((with_reducible refine zad (N:=1) rfl ?_);refine zaj rfl (N:=1) rfl (cs:=#[.slice A0_0 l0_0.length c0_0,.int .i64 a0_1,.string a0_2,.int .i64 a0_3]) (t:=38) bx_ ?_;intro gb101 hg w3 hbox hb;replace BK101:=am_ (hbox);replace GW101:=am_ ((by rw [hg];exact(zaf qz2_):w.heap.size≤gb101));replace GE101:=GW101;replace HB:=am_ (zab qz2_ hb);clear hb hbox hg)|((with_reducible refine zad (N:=2) rfl ?_);refine zaj rfl (N:=2) rfl (cs:=#[.slice none 0 0,.int .i64 0,.string (⟨#[]⟩:ByteArray),.int .i64 0]) (t:=38) bx_ ?_;intro gb102 hg w4 hbox hb;replace BK102:=am_ (hbox);replace GW102:=am_ ((by rw [hg];exact(zaf qz5_):w.heap.size≤gb102));replace GE102:=GW102;replace HB:=am_ (zab qz5_ hb);replace NB101_102:=am_ ((by rw [hg];exact Nat.ne_of_lt (zar (g:=gb101) (o:=.cells #[.slice A0_0 l0_0.length c0_0,.int .i64 a0_1,.string a0_2,.int .i64 a0_3] 38 (0,0)) qz6_):gb101≠gb102));replace NB102_101:=am_ ((by rw [hg];exact Nat.ne_of_gt (zar (g:=gb101) (o:=.cells #[.slice A0_0 l0_0.length c0_0,.int .i64 a0_1,.string a0_2,.int .i64 a0_3] 38 (0,0)) qz6_):gb102≠gb101));replace BK101:=am_ (zak (g:=gb101) (o:=.cells #[.slice A0_0 l0_0.length c0_0,.int .i64 a0_1,.string a0_2,.int .i64 a0_3] 38 (0,0)) qz6_ hb);clear hb hbox hg;have hnb5:=NB101_102.out;have hnc5:=NB102_101.out;obtain⟨hcz6_0,hcz6_1,hcz6_2,hcz6_3,hfz6_0,hfz6_1,hfz6_2,hfz6_3⟩:=bf4_ BK101.out)|((with_reducible refine zan (f:=80) rfl ?_);refine gl_ (some 5) Tryz.func80 #[.slice A0_0 l0_0.length c0_0] ?_;(with_reducible refine(ze5.calls _ _ l0_0 t103 _ ?side1 ?side2 A2.out).mono ?_);(case side1=>exact qc_ (Kd.zbi HR0_0.out HB.out));(case side2=>exact HC0_0.out);rintro e w7 ⟨v104,rfl,ho0,hb⟩;refine⟨_,rfl,?_⟩;replace HO105:=am_ (Kd.zcw ho0 (zaf qz8_));replace BK101:=am_ (zak (g:=gb101) (o:=.cells #[.slice A0_0 l0_0.length c0_0,.int .i64 a0_1,.string a0_2,.int .i64 a0_3] 38 (0,0)) qz6_ hb);replace BK102:=am_ (zak (g:=gb102) (o:=.cells #[.slice none 0 0,.int .i64 0,.string (⟨#[]⟩:ByteArray),.int .i64 0] 38 (0,0)) qz7_ hb);replace HB:=am_ (zab qz8_ hb);(try clear hb);(try clear hb2);(try clear hk);(try clear hi);(try clear ho0);obtain⟨Ao8,co8,eo8⟩:=Kd.zcb HO105.out;subst eo8;obtain⟨hcz9_0,hcz9_1,hcz9_2,hcz9_3,hfz9_0,hfz9_1,hfz9_2,hfz9_3⟩:=bf4_ BK101.out;obtain⟨hcz10_0,hcz10_1,hcz10_2,hcz10_3,hfz10_0,hfz10_1,hfz10_2,hfz10_3⟩:=bf4_ BK102.out))
 refine bodyPost_ret (results_cell_row rfl _ _ gb102 38 #[.slice Ao8 t103.length co8,.int .i64 a0_1,.string a0_2,.int .i64 a0_3] (0,0) _ rfl (by(with_reducible repeat(first|refine zah ?_ _|refine zae ?_|refine zai ?_ _));refine za9 (cs:=#[.slice Ao8 t103.length co8,.int .i64 a0_1,.string a0_2,.int .i64 0]) ?_ 3 _ rfl;(with_reducible repeat(first|refine zah ?_ _|refine zae ?_|refine zai ?_ _));refine za9 (cs:=#[.slice Ao8 t103.length co8,.int .i64 a0_1,.string (⟨#[]⟩:ByteArray),.int .i64 0]) ?_ 2 _ rfl;(with_reducible repeat(first|refine zah ?_ _|refine zae ?_|refine zai ?_ _));refine za9 (cs:=#[.slice Ao8 t103.length co8,.int .i64 0,.string (⟨#[]⟩:ByteArray),.int .i64 0]) ?_ 1 _ rfl;(with_reducible repeat(first|refine zah ?_ _|refine zae ?_|refine zai ?_ _));refine za9 (cs:=#[.slice none 0 0,.int .i64 0,.string (⟨#[]⟩:ByteArray),.int .i64 0]) ?_ 0 _ rfl;(with_reducible repeat(first|refine zah ?_ _|refine zae ?_|refine zai ?_ _));refine zb8 ?_ NB102_101.out _;(with_reducible repeat(first|refine zah ?_ _|refine zae ?_|refine zai ?_ _));exact BK102.out) Tryz.underlying38 rfl (by kernel_rfl)) rfl ?_
 exact⟨_,by first|rfl|(simp [zc9,zda] <;> rfl)|(simp [*,zc9,zda] <;> rfl),by(with_reducible repeat(first|apply Kd.zbm|apply Kd.zbl|apply Kd.zbt));exact Kd.zba (Kd.R_far (p:=⟨gb102,3,none⟩) (Kd.R_far (p:=⟨gb102,2,none⟩) (Kd.R_far (p:=⟨gb102,1,none⟩) (Kd.R_far (p:=⟨gb102,0,none⟩) (Kd.R_far (p:=⟨gb101,0,none⟩) (Kd.zeq (Kd.zeq HO105.out BK101.out (by decide)) BK102.out (by decide)) (fun _ hk=>hk.1.2) (.slice Ao8 t103.length co8)) (fun _ hk=>hk.2) (.slice Ao8 t103.length co8)) (fun _ hk=>hk.2) (.int .i64 a0_1)) (fun _ hk=>hk.2) (.string a0_2)) (fun _ hk=>hk.2) (.int .i64 a0_3)) (fun _ hk=>trivial),by repeat(first|(with_reducible first|exact HB.out|apply za5|apply zaw|apply zao|refine za6 ?_ GE101.out|refine za6 ?_ GE102.out)|exact HB.out)⟩
def zee.f (a0:Int) (a1:Int):Option (Bool):=(zcz.f a0 1 a1).bind fun t101=>(if t101=true then(some ((Go.bits .and .i64 a0 (wrap64 (a0 - 1))) == 0)) else(some false))
theorem zee.calls (a0:Int) (a1:Int) (r:Bool) (w:World) (h:zee.f a0 a1=some r) :
  Calls Tryz.prog 75 #[.int .i64 a0,.int .i64 a1] w fun e w'=>e=.returned (.bool r)∧zbx w w':=by
 have H:((zcz.f a0 1 a1).bind fun t101=>(if t101=true then(some ((Go.bits .and .i64 a0 (wrap64 (a0 - 1))) == 0)) else(some false)))=some r:=h
 clear h
 replace H:=Option.bind_eq_some_iff.mp H
 obtain⟨t101,A30,H⟩:=H
 replace H:(if t101=true then(some ((Go.bits .and .i64 a0 (wrap64 (a0 - 1))) == 0)) else(some false))=some r:=H
 have A3:=am_ A30
 clear A30
 by_cases c4:t101=true
 ·
  subst c4
  have H1:(some ((Go.bits .and .i64 a0 (wrap64 (a0 - 1))) == 0))=some r:=by rw [if_pos rfl] at H;exact H
  clear H
  have H:=H1
  clear H1
  obtain rfl:=Option.some.inj H
  go_enter Tryz.func75,Tryz.ntmps75
  go_wp2_with (first|((with_reducible refine zan (f:=78) rfl ?_);refine gl_ (some 7) Tryz.func78 #[.int .i64 a0,.int .i64 1,.int .i64 a1] ?_;(with_reducible refine(zcz.calls a0 1 a1 true _ A3.out).mono ?_);rintro e w' ⟨rfl,⟨nd,rfl⟩⟩;refine⟨_,rfl,?_⟩))
  go_ret
  exact⟨qz0_,qz1_⟩
 ·
  replace c4:=Bool.eq_false_iff.mpr c4
  subst c4
  have H1:(some false)=some r:=by rw [if_neg (show ¬(false=true) by decide)] at H;exact H
  clear H
  have H:=H1
  clear H1
  obtain rfl:=Option.some.inj H
  go_enter Tryz.func75,Tryz.ntmps75
  go_wp2_with (first|((with_reducible refine zan (f:=78) rfl ?_);refine gl_ (some 7) Tryz.func78 #[.int .i64 a0,.int .i64 1,.int .i64 a1] ?_;(with_reducible refine(zcz.calls a0 1 a1 false _ A3.out).mono ?_);rintro e w' ⟨rfl,⟨nd,rfl⟩⟩;refine⟨_,rfl,?_⟩))
  go_ret
  exact⟨qz0_,qz1_⟩
def zef.f (l0:List (S32)):Option (Bool):=(zee.f (l0.length:Int) 64).bind fun t101=>(if t101=true then((zam.f l0).bind fun t102=>(some t102)) else(some false))
theorem zef.calls (A0:Option Addr) (c0:Nat) (l0:List (S32)) (r:Bool) (w:World) (hr0:Kd.C k32 w A0 l0.length l0) (hc0:l0.length≤c0) (h:zef.f l0=some r) :
  Calls Tryz.prog 37 #[.slice A0 l0.length c0] w fun e w'=>e=.returned (.bool r)∧Below w.heap.size w w':=by
 have HR0:=am_ hr0
 have HC0:=am_ hc0
 clear hr0 hc0
 have HB:=am_ (Below.refl w.heap.size w)
 have H:((zee.f (l0.length:Int) 64).bind fun t101=>(if t101=true then((zam.f l0).bind fun t102=>(some t102)) else(some false)))=some r:=h
 clear h
 replace H:=Option.bind_eq_some_iff.mp H
 obtain⟨t101,A20,H⟩:=H
 replace H:(if t101=true then((zam.f l0).bind fun t102=>(some t102)) else(some false))=some r:=H
 have A2:=am_ A20
 clear A20
 by_cases c3:t101=true
 ·
  subst c3
  have H1:((zam.f l0).bind fun t102=>(some t102))=some r:=by rw [if_pos rfl] at H;exact H
  clear H
  have H:=H1
  clear H1
  replace H:=Option.bind_eq_some_iff.mp H
  obtain⟨t102,A40,H⟩:=H
  replace H:(some t102)=some r:=H
  have A4:=am_ A40
  clear A40
  obtain rfl:=Option.some.inj H
  go_enter Tryz.func37,Tryz.ntmps37
  go_wp2_with (first|((with_reducible refine zan (f:=75) rfl ?_);refine gl_ (some 5) Tryz.func75 #[.int .i64 (l0.length:Int),.int .i64 64] ?_;(with_reducible refine(zee.calls (l0.length:Int) 64 true _ A2.out).mono ?_);rintro e w' ⟨rfl,⟨nd,rfl⟩⟩;refine⟨_,rfl,?_⟩)|(go_at_call 76;(with_reducible refine(zam.calls  _ _ l0 t102 _ ?side1 ?side2 A4.out).mono ?_);(case side1=>exact qc_ HR0.out);(case side2=>exact HC0.out);rintro e w5 ⟨rfl,hb⟩;replace HB:=am_ (zab qz2_ hb);(try clear hb);(try clear hb2);(try clear hk);(try clear hi)))
  go_ret
  exact⟨qz4_,qz2_⟩
 ·
  replace c3:=Bool.eq_false_iff.mpr c3
  subst c3
  have H1:(some false)=some r:=by rw [if_neg (show ¬(false=true) by decide)] at H;exact H
  clear H
  have H:=H1
  clear H1
  obtain rfl:=Option.some.inj H
  go_enter Tryz.func37,Tryz.ntmps37
  go_wp2_with (first|((with_reducible refine zan (f:=75) rfl ?_);refine gl_ (some 5) Tryz.func75 #[.int .i64 (l0.length:Int),.int .i64 64] ?_;(with_reducible refine(zee.calls (l0.length:Int) 64 false _ A2.out).mono ?_);rintro e w' ⟨rfl,⟨nd,rfl⟩⟩;refine⟨_,rfl,?_⟩))
  go_ret
  exact⟨qz4_,qz2_⟩
def zds.f (a0:Int):Option (Int):=some (wrap64 (2 * a0))
theorem zds.calls (a0:Int) (r:Int) (w:World) (h:zds.f a0=some r) :
  Calls Tryz.prog 102 #[.int .i64 a0] w fun e w'=>e=.returned (.int .i64 r)∧zbx w w':=by
 have H:(some (wrap64 (2 * a0)))=some r:=h
 clear h
 obtain rfl:=Option.some.inj H
 go_enter Tryz.func102,Tryz.ntmps102
 go_wp2
 go_ret
 exact⟨qz0_,qz1_⟩
def zaz.l0:Nat→List (List (S32))→List (List (S32))→Int→Int→Option (Int)
 | 0,_,_,_,_=>none
 | k + 1,x1,x22,x23,x24=>if x24<x23 then(if 0≤x24 then(if x24<(x22.length:Int) then((zef.f (rd_L3 x22 x24)).bind fun t104=>(if t104=true then(if 0<(x1.length:Int) then(if ((rd_L3 x22 x24).length:Int)=((rd_L3 x1 0).length:Int) then(zaz.l0 k x1 x22 x23 (wrap64 (x24 + 1))) else(some 8)) else(none)) else(some 1))) else(none)) else(none)) else(some 0)
def zaz.f (k:Nat) (a0:Int) (l1:List (List (S32))):Option (Int):=if (l1.length:Int)>4096 then(some 2) else((zcl.f a0).bind fun t101=>(if t101=0 then(some 4) else((zds.f a0).bind fun t102=>(if (l1.length:Int)=t102 then(zaz.l0 k l1 l1 (l1.length:Int) 0) else(some 4)))))
theorem zaz.calls (k:Nat) (a0:Int) (A1:Option Addr) (c1:Nat) (l1:List (List (S32))) (r:Int) (w:World) (hr1:Kd.C (Kd.slice 32 k32) w A1 l1.length l1) (hc1:l1.length≤c1) (h:zaz.f k a0 l1=some r) :
  Calls Tryz.prog 53 #[.int .i64 a0,.slice A1 l1.length c1] w fun e w'=>e=.returned (.int .i64 r)∧Below w.heap.size w w':=by
 have HR1:=am_ hr1
 have HC1:=am_ hc1
 clear hr1 hc1
 have HB:=am_ (Below.refl w.heap.size w)
 have H:(if (l1.length:Int)>4096 then(some 2) else((zcl.f a0).bind fun t101=>(if t101=0 then(some 4) else((zds.f a0).bind fun t102=>(if (l1.length:Int)=t102 then(zaz.l0 k l1 l1 (l1.length:Int) 0) else(some 4))))))=some r:=h
 clear h
 by_cases c3:(l1.length:Int)>4096
 ·
  rw [if_pos c3] at H
  have c3b0:decide (4096<(l1.length:Int))=true:=decide_eq_true c3
  have c3b1:decide (4096<l1.length)=true:=decide_eq_true (by omega)
  clear c3
  obtain rfl:=Option.some.inj H
  go_enter Tryz.func53,Tryz.ntmps53
  go_wp2
  go_ret
  exact⟨qz4_,qz2_⟩
 ·
  rw [if_neg c3] at H
  have c3b0:decide (4096<(l1.length:Int))=false:=decide_eq_false c3
  have c3b1:decide (4096<l1.length)=false:=decide_eq_false (by omega)
  clear c3
  replace H:=Option.bind_eq_some_iff.mp H
  obtain⟨t101,A40,H⟩:=H
  replace H:(if t101=0 then(some 4) else((zds.f a0).bind fun t102=>(if (l1.length:Int)=t102 then(zaz.l0 k l1 l1 (l1.length:Int) 0) else(some 4))))=some r:=H
  have A4:=am_ A40
  clear A40
  by_cases c5:t101=0
  ·
   rw [if_pos c5] at H
   have c5b0:(t101 == 0)=true:=beq_iff_eq.mpr c5
   have c5b1:(t101 != 0)=false:=bne_eq_false_iff_eq.mpr c5
   clear c5
   obtain rfl:=Option.some.inj H
   go_enter Tryz.func53,Tryz.ntmps53
   go_wp2_with (first|((with_reducible refine zan (f:=101) rfl ?_);refine gl_ (some 13) Tryz.func101 #[.int .i64 a0] ?_;(with_reducible refine(zcl.calls a0 t101 _ A4.out).mono ?_);rintro e w' ⟨rfl,⟨nd,rfl⟩⟩;refine⟨_,rfl,?_⟩))
   go_ret
   exact⟨qz4_,qz2_⟩
  ·
   rw [if_neg c5] at H
   have c5b0:(t101 == 0)=false:=beq_eq_false_iff_ne.mpr c5
   have c5b1:(t101 != 0)=true:=bne_iff_ne.mpr c5
   replace H:=Option.bind_eq_some_iff.mp H
   obtain⟨t102,A60,H⟩:=H
   replace H:(if (l1.length:Int)=t102 then(zaz.l0 k l1 l1 (l1.length:Int) 0) else(some 4))=some r:=H
   have A6:=am_ A60
   clear A60
   by_cases c7:(l1.length:Int)=t102
   ·
    rw [if_pos c7] at H
    have c7b0:((l1.length:Int) == t102)=true:=beq_iff_eq.mpr c7
    have c7b1:((l1.length:Int) != t102)=false:=bne_eq_false_iff_eq.mpr c7
    clear c7
    have H':=am_ H
    clear H
    go_enter Tryz.func53,Tryz.ntmps53
    go_wp2_with (first|((with_reducible refine zan (f:=101) rfl ?_);refine gl_ (some 13) Tryz.func101 #[.int .i64 a0] ?_;(with_reducible refine(zcl.calls a0 t101 _ A4.out).mono ?_);rintro e w' ⟨rfl,⟨nd,rfl⟩⟩;refine⟨_,rfl,?_⟩)|(go_at_call 102;(with_reducible refine(zds.calls a0 t102 _ A6.out).mono ?_);rintro e w' ⟨rfl,⟨nd,rfl⟩⟩))
    go_loopg [24] k (fun kq v24 w'=>∃ (x24_1:Int),v24=.int .i64 x24_1∧zal (zaz.l0 kq l1 l1 (l1.length:Int) x24_1=some r)∧zal (kq≤k)∧zal (Below w.heap.size w w'))
    case atStart=>exact⟨(0),qz0_,H',⟨Nat.le_refl _⟩,⟨qz2_⟩⟩
    case round=>
     clear H'
     try clear c1
     try clear p2
     try clear c3
     try clear c3b0
     try clear c3b1
     try clear c5
     try clear c5b0
     try clear c5b1
     try clear c7
     try clear c7b0
     try clear c7b1
     obtain⟨x24_1,rfl,HA,HK1,HB⟩:=hrel
     cases gk with
     | zero=>exact absurd HA.out (by simp [zaz.l0])
     | succ k1=>
      have H:=HA.out
      clear HA
      simp only [zaz.l0] at H
      by_cases c8:x24_1<(l1.length:Int)
      ·
       rw [if_pos c8] at H
       have c8b0:decide (x24_1<(l1.length:Int))=true:=decide_eq_true c8
       clear c8
       by_cases c9:0≤x24_1
       ·
        rw [if_pos c9] at H
        have c9b0:decide (0≤x24_1)=true:=decide_eq_true c9
        clear c9
        by_cases c10:x24_1<(l1.length:Int)
        ·
         rw [if_pos c10] at H
         have c10b0:decide (x24_1<(l1.length:Int))=true:=decide_eq_true c10
         clear c10
         replace H:=Option.bind_eq_some_iff.mp H
         obtain⟨t104,A110,H⟩:=H
         replace H:(if t104=true then(if 0<(l1.length:Int) then(if ((rd_L3 l1 x24_1).length:Int)=((rd_L3 l1 0).length:Int) then(zaz.l0 k1 l1 l1 (l1.length:Int) (wrap64 (x24_1 + 1))) else(some 8)) else(none)) else(some 1))=some r:=H
         have A11:=am_ A110
         clear A110
         by_cases c12:t104=true
         ·
          subst c12
          have H1:(if 0<(l1.length:Int) then(if ((rd_L3 l1 x24_1).length:Int)=((rd_L3 l1 0).length:Int) then(zaz.l0 k1 l1 l1 (l1.length:Int) (wrap64 (x24_1 + 1))) else(some 8)) else(none))=some r:=by rw [if_pos rfl] at H;exact H
          clear H
          have H:=H1
          clear H1
          by_cases c13:0<(l1.length:Int)
          ·
           rw [if_pos c13] at H
           have c13b0:decide (0<(l1.length:Int))=true:=decide_eq_true c13
           have c13b1:decide (0<l1.length)=true:=decide_eq_true (by omega)
           clear c13
           by_cases c14:((rd_L3 l1 x24_1).length:Int)=((rd_L3 l1 0).length:Int)
           ·
            rw [if_pos c14] at H
            have c14b0:(((rd_L3 l1 x24_1).length:Int) == ((rd_L3 l1 0).length:Int))=true:=beq_iff_eq.mpr c14
            have c14b1:(((rd_L3 l1 x24_1).length:Int) != ((rd_L3 l1 0).length:Int))=false:=bne_eq_false_iff_eq.mpr c14
            have c14b2:((rd_L3 l1 x24_1).length == (rd_L3 l1 0).length)=true:=by first|simpa using c14|(simp at c14 ⊢;omega)
            clear c14
            have H':=am_ H
            clear H
            have p103:0≤(x24_1:Int):=of_decide_eq_true qz10_
            have q103:x24_1<(l1.length:Int):=of_decide_eq_true qz10_
            obtain⟨ad103,A103_0,c103_0,e103,hx103_0,hl103_0,hi103_0⟩:=at_L3 HR1.out x24_1 p103 q103
            cases e103
            replace hx103_0:=(HB.out.cell (World.block_lt_of_cell? w _ hx103_0)).trans hx103_0
            have HR103_0:=am_ hi103_0
            have HC103_0:=am_ hl103_0
            clear hi103_0 hl103_0
            replace p103:=eq_true p103
            replace q103:=eq_true q103
            go_wp2_with (first|((with_reducible refine zan (f:=37) rfl ?_);refine gl_ (some 30) Tryz.func37 #[.slice A103_0 (rd_L3 l1 x24_1).length c103_0] ?_;(with_reducible refine(zef.calls _ _ (rd_L3 l1 x24_1) true _ ?side1 ?side2 A11.out).mono ?_);(case side1=>exact qc_ (Kd.zbi HR103_0.out HB.out));(case side2=>exact HC103_0.out);rintro e w15 ⟨rfl,hb⟩;refine⟨_,rfl,?_⟩;replace HB:=am_ (zab qz2_ hb);(try clear hb);(try clear hb2);(try clear hk);(try clear hi);have p105:0≤(0:Int):=(by omega);have q105:0<(l1.length:Int):=of_decide_eq_true qz10_;obtain⟨ad105,A105_0,c105_0,e105,hx105_0,hl105_0,hi105_0⟩:=at_L3 HR1.out 0 p105 q105;obtain rfl:ad103=ad105:=(by injection e105);have qi105:(0<l1.length)=True:=eq_true (by omega);(try rw [show ((0:Int)).toNat=0 from rfl] at hx105_0);(try rw [Addr.add_zero'] at hx105_0);replace hx105_0:=(HB.out.cell (World.block_lt_of_cell? w _ hx105_0)).trans hx105_0;have HR105_0:=am_ hi105_0;have HC105_0:=am_ hl105_0;clear hi105_0 hl105_0;replace p105:=eq_true p105;replace q105:=eq_true q105))
            go_roundg k1
            case measure=>have:=HK1.out;omega
            case rel=>exact⟨(wrap64 (x24_1 + 1)),qz0_,H',⟨qz13_⟩,⟨qz2_⟩⟩
           ·
            rw [if_neg c14] at H
            have c14b0:(((rd_L3 l1 x24_1).length:Int) == ((rd_L3 l1 0).length:Int))=false:=beq_eq_false_iff_ne.mpr c14
            have c14b1:(((rd_L3 l1 x24_1).length:Int) != ((rd_L3 l1 0).length:Int))=true:=bne_iff_ne.mpr c14
            have c14b2:((rd_L3 l1 x24_1).length == (rd_L3 l1 0).length)=false:=by first|simpa using c14|(simp at c14 ⊢;omega)
            obtain rfl:=Option.some.inj H
            have p103:0≤(x24_1:Int):=of_decide_eq_true qz10_
            have q103:x24_1<(l1.length:Int):=of_decide_eq_true qz10_
            obtain⟨ad103,A103_0,c103_0,e103,hx103_0,hl103_0,hi103_0⟩:=at_L3 HR1.out x24_1 p103 q103
            cases e103
            replace hx103_0:=(HB.out.cell (World.block_lt_of_cell? w _ hx103_0)).trans hx103_0
            have HR103_0:=am_ hi103_0
            have HC103_0:=am_ hl103_0
            clear hi103_0 hl103_0
            replace p103:=eq_true p103
            replace q103:=eq_true q103
            go_wp2_with (first|((with_reducible refine zan (f:=37) rfl ?_);refine gl_ (some 30) Tryz.func37 #[.slice A103_0 (rd_L3 l1 x24_1).length c103_0] ?_;(with_reducible refine(zef.calls _ _ (rd_L3 l1 x24_1) true _ ?side1 ?side2 A11.out).mono ?_);(case side1=>exact qc_ (Kd.zbi HR103_0.out HB.out));(case side2=>exact HC103_0.out);rintro e w16 ⟨rfl,hb⟩;refine⟨_,rfl,?_⟩;replace HB:=am_ (zab qz2_ hb);(try clear hb);(try clear hb2);(try clear hk);(try clear hi);have p105:0≤(0:Int):=(by omega);have q105:0<(l1.length:Int):=of_decide_eq_true qz10_;obtain⟨ad105,A105_0,c105_0,e105,hx105_0,hl105_0,hi105_0⟩:=at_L3 HR1.out 0 p105 q105;obtain rfl:ad103=ad105:=(by injection e105);have qi105:(0<l1.length)=True:=eq_true (by omega);(try rw [show ((0:Int)).toNat=0 from rfl] at hx105_0);(try rw [Addr.add_zero'] at hx105_0);replace hx105_0:=(HB.out.cell (World.block_lt_of_cell? w _ hx105_0)).trans hx105_0;have HR105_0:=am_ hi105_0;have HC105_0:=am_ hl105_0;clear hi105_0 hl105_0;replace p105:=eq_true p105;replace q105:=eq_true q105))
            go_ret
            exact⟨qz4_,qz2_⟩
          ·
           rw [if_neg c13] at H
           exact absurd H (by simp)
         ·
          replace c12:=Bool.eq_false_iff.mpr c12
          subst c12
          have H1:(some 1)=some r:=by rw [if_neg (show ¬(false=true) by decide)] at H;exact H
          clear H
          have H:=H1
          clear H1
          obtain rfl:=Option.some.inj H
          have p103:0≤(x24_1:Int):=of_decide_eq_true qz10_
          have q103:x24_1<(l1.length:Int):=of_decide_eq_true qz10_
          obtain⟨ad103,A103_0,c103_0,e103,hx103_0,hl103_0,hi103_0⟩:=at_L3 HR1.out x24_1 p103 q103
          cases e103
          replace hx103_0:=(HB.out.cell (World.block_lt_of_cell? w _ hx103_0)).trans hx103_0
          have HR103_0:=am_ hi103_0
          have HC103_0:=am_ hl103_0
          clear hi103_0 hl103_0
          replace p103:=eq_true p103
          replace q103:=eq_true q103
          go_wp2_with (first|((with_reducible refine zan (f:=37) rfl ?_);refine gl_ (some 30) Tryz.func37 #[.slice A103_0 (rd_L3 l1 x24_1).length c103_0] ?_;(with_reducible refine(zef.calls _ _ (rd_L3 l1 x24_1) false _ ?side1 ?side2 A11.out).mono ?_);(case side1=>exact qc_ (Kd.zbi HR103_0.out HB.out));(case side2=>exact HC103_0.out);rintro e w17 ⟨rfl,hb⟩;refine⟨_,rfl,?_⟩;replace HB:=am_ (zab qz2_ hb);(try clear hb);(try clear hb2);(try clear hk);(try clear hi)))
          go_ret
          exact⟨qz4_,qz2_⟩
        ·
         rw [if_neg c10] at H
         exact absurd H (by simp)
       ·
        rw [if_neg c9] at H
        exact absurd H (by simp)
      ·
       rw [if_neg c8] at H
       have c8b0:decide (x24_1<(l1.length:Int))=false:=decide_eq_false c8
       clear c8
       obtain rfl:=Option.some.inj H
       go_wp2
       go_ret
       exact⟨qz4_,qz2_⟩
   ·
    rw [if_neg c7] at H
    have c7b0:((l1.length:Int) == t102)=false:=beq_eq_false_iff_ne.mpr c7
    have c7b1:((l1.length:Int) != t102)=true:=bne_iff_ne.mpr c7
    obtain rfl:=Option.some.inj H
    go_enter Tryz.func53,Tryz.ntmps53
    go_wp2_with (first|((with_reducible refine zan (f:=101) rfl ?_);refine gl_ (some 13) Tryz.func101 #[.int .i64 a0] ?_;(with_reducible refine(zcl.calls a0 t101 _ A4.out).mono ?_);rintro e w' ⟨rfl,⟨nd,rfl⟩⟩;refine⟨_,rfl,?_⟩)|(go_at_call 102;(with_reducible refine(zds.calls a0 t102 _ A6.out).mono ?_);rintro e w' ⟨rfl,⟨nd,rfl⟩⟩))
    go_ret
    exact⟨qz4_,qz2_⟩
end Go.Proofs.YtgookagndlfehaaGreat.PT
end
section
namespace Go.Proofs.YtgookagndlfehaaGreat.PT
open Go Go.RowKit Go.Proofs.YtgookagndlfehaaGreatW.PrintWords Go.Proofs.YtgookagndlfehaaGreatW.PrintLast Go.Proofs.YtgookagndlfehaaGreatW.PrintMore
set_option linter.unusedVariables false
set_option linter.unusedSimpArgs false
def zck.f (k:Nat) (kind:Int) (l2:List (List S32)) (q0:List S32) (q1:Int) (q2:ByteArray) (q3:Int):Option (List (List S32) × List S32 × List S32 × List S32 × Int × ByteArray × Int × Int):=
 (zaz.f k kind l2).bind fun c=>if c=0 then((zd4.f q0 q1 q2 q3).bind fun b2=>if b2=false then some ([],[],[],[],0,(⟨#[]⟩:ByteArray),0,1) else(zdn.f q0 q1 q2 q3).bind fun t=>if t<6 then some ([],[],[],[],0,(⟨#[]⟩:ByteArray),0,6) else
  (zdm.f q0 q1 q2 q3).bind fun s=>(pv_ k kind s.1 k l2 [] [] s.2.1 s.2.2.1 s.2.2.2).bind fun v=>some (v.1,v.2.1,v.2.2.1,s.1,v.2.2.2.1,v.2.2.2.2.1,v.2.2.2.2.2,0)) else some ([],[],[],[],0,(⟨#[]⟩:ByteArray),0,c)
theorem zdq {P:Program} {fn:Func} {p u v x y:Tmp} {ty:TypeId} (h:fn.results=#[.tmp u,.tmp v,.tmp x,.cell p ty,.tmp y]) (tmps:Array Value) (w:World) (g:Nat) (t:TypeId) (cs:Array Value) (fr:Nat × Nat) (d:TypeDesc)
  (hp:tmps.getD p undef=.pointer (some ⟨g,0,none⟩)) (hg:w.heap[g]?=some (.cells cs t fr))
  (hu:P.underlying ty=some d) (hd:(match d with|.struct _|.array _ _=>true|_=>false)=true) (hi:(P.info? ty).map (·.size)=some cs.size) :
  (results fn tmps).run P w=.ok (.tuple #[tmps.getD u undef,tmps.getD v undef,tmps.getD x undef,.agg cs,tmps.getD y undef]) w:=by
 have hp':tmps[p]?.getD undef=.pointer (some ⟨g,0,none⟩):=by simpa using hp
 simp [results,h,hp',asAddr,run_loadVar_row w g t ty cs fr d hg hu hd hi]
theorem zck.calls (k:Nat) (kind:Int) (A2:Option Addr) (c2:Nat) (l2:List (List S32)) (A4:Option Addr) (c4:Nat) (q0:List S32) (q1:Int) (q2:ByteArray) (q3:Int) (r1:List (List S32)) (r2 r3 r4:List S32) (r5:Int) (r6:ByteArray) (r7 r8:Int) (w:World) (hr2:Kd.C (Kd.slice 32 k32) w A2 l2.length l2) (hc2:l2.length≤c2) (hr4:Kd.C k32 w A4 q0.length q0) (hc4:q0.length≤c4) (h:zck.f k kind l2 q0 q1 q2 q3=some (r1,r2,r3,r4,r5,r6,r7,r8)) :
  Calls Tryz.prog 23 #[.int .i64 kind,.slice A2 l2.length c2,.agg #[.slice A4 q0.length c4,.int .i64 q1,.string q2,.int .i64 q3]] w fun e w'=>∃ v0_ v1_ v2_ v3_:Value,e=.returned (.tuple #[v0_,v1_,v2_,.agg #[v3_,.int .i64 r5,.string r6,.int .i64 r7],.int .i64 r8])∧Kd.S (Kd.slice 32 k32) 36 w' w.heap.size (fun k=>some k≠v1_.ownBlock∧some k≠v2_.ownBlock∧some k≠v3_.ownBlock) v0_ r1∧Kd.R k32 32 w' w.heap.size (fun k=>some k≠v2_.ownBlock∧some k≠v3_.ownBlock) v1_ r2∧Kd.R k32 32 w' w.heap.size (fun k=>some k≠v1_.ownBlock∧some k≠v3_.ownBlock) v2_ r3∧Kd.R k32 32 w' w.heap.size (fun k=>some k≠v1_.ownBlock∧some k≠v2_.ownBlock) v3_ r4∧Below w.heap.size w w':=by
 have hu38:=Tryz.underlying38
 have HC2:=am_ hc2
 have HC4:=am_ hc4
 have HI:=am_ (Inv.start w (fun w2=>Kd.C k32 w2 A4 q0.length q0∧Kd.C (Kd.slice 32 k32) w2 A2 l2.length l2) (fun w' hb=>⟨Kd.zbi hr4 hb,Kd.zbi hr2 hb⟩))
 clear hr2 hr4 hc2 hc4
 unfold zck.f at h
 replace h:=Option.bind_eq_some_iff.1 h
 obtain⟨c,htc_,h⟩:=h
 have HTC:=am_ htc_
 clear htc_
 by_cases cc:c=0
 ·
  rw [if_pos cc] at h
  subst cc
  replace h:=Option.bind_eq_some_iff.1 h
  obtain⟨b2,hso_,h⟩:=h
  have HSO:=am_ hso_
  clear hso_
  cases b2 with
  | false=>
   rw [if_pos rfl] at h
   simp only [Option.some.injEq,Prod.mk.injEq] at h
   obtain⟨rfl,rfl,rfl,rfl,rfl,rfl,rfl,rfl⟩:=h
   go_enter Tryz.func23,Tryz.ntmps23
   go_wp2_with (first|((with_reducible refine zad (N:=5) rfl ?_);refine zaj rfl (N:=5) rfl (cs:=#[.slice A4 q0.length c4,.int .i64 q1,.string q2,.int .i64 q3]) (t:=38) bx_ ?_;intro g5 hg w5_ hbox hb;replace HI:=am_ ((HI.out).box hg hbox hb);clear hb hbox hg)|((with_reducible refine zad (N:=9) rfl ?_);refine zaj rfl (N:=9) rfl (cs:=#[.slice none 0 0,.int .i64 0,.string (⟨#[]⟩:ByteArray),.int .i64 0]) (t:=38) bx_ ?_;intro g9 hg w9_ hbox hb;replace HI:=am_ ((HI.out).box hg hbox hb);clear hb hbox hg)|(go_at_call 53;(refine(zaz.calls k kind A2 c2 l2 _ _ HI.out.now.2 HC2.out HTC.out).mono ?_);rintro e w18 ⟨rfl,hb⟩;replace HI:=am_ (HI.out.grow hb);clear hb)|((with_reducible refine zad (N:=23) rfl ?_);go_must (refine wpList_load_row rfl 38 _ rfl g5 rfl 38 (#[.slice A4 q0.length c4,.int .i64 q1,.string q2,.int .i64 q3]) (0,0) _ ((HI.out.get 1 rfl)) hu38 rfl (by kernel_rfl) ?_))|(go_at_call 40;(refine(zd4.calls A4 c4 q0 q1 q2 q3 _ _ HI.out.now.1 HC4.out HSO.out).mono ?_);rintro e w24 ⟨rfl,hb⟩;replace HI:=am_ (HI.out.grow hb);clear hb)|((with_reducible refine za7 (p:=9) (v:=(.tmp 32)) (t:=38) rfl ?_);go_must (refine wpList_store_row rfl 38 _ _ rfl g9 (#[.slice none 0 0,.int .i64 0,.string (⟨#[]⟩:ByteArray),.int .i64 0]) rfl qz36_ 38 (#[.slice none 0 0,.int .i64 0,.string (⟨#[]⟩:ByteArray),.int .i64 0]) (Inv.blk0 (HI.out)) (by kernel_rfl) (by rfl) qz39_ ?_;replace HI:=am_ (Inv.put0 (HI.out) (#[.slice none 0 0,.int .i64 0,.string (⟨#[]⟩:ByteArray),.int .i64 0]));generalize World.setRow _ g9 (#[.slice none 0 0,.int .i64 0,.string (⟨#[]⟩:ByteArray),.int .i64 0])=w32 at HI ⊢)))
   refine bodyPost_ret (zdq rfl _ _ g9 38 #[.slice none 0 0,.int .i64 0,.string (⟨#[]⟩:ByteArray),.int .i64 0] (0,0) _ rfl (HI.out.get 0 rfl) hu38 rfl (by kernel_rfl)) rfl ?_
   exact⟨_,_,_,_,rfl,Kd.S_nil _ _ _ _ _,Kd.R_nil _ _ _ _ _,Kd.R_nil _ _ _ _ _,Kd.R_nil _ _ _ _ _,HI.out.below⟩
  | true=>
   rw [if_neg (by decide)] at h
   replace h:=Option.bind_eq_some_iff.1 h
   obtain⟨t,hlf_,h⟩:=h
   have HLF:=am_ hlf_
   clear hlf_
   by_cases ct:t<6
   ·
    rw [if_pos ct] at h
    have f2:decide (t<6)=true:=decide_eq_true ct
    clear ct
    simp only [Option.some.injEq,Prod.mk.injEq] at h
    obtain⟨rfl,rfl,rfl,rfl,rfl,rfl,rfl,rfl⟩:=h
    go_enter Tryz.func23,Tryz.ntmps23
    go_wp2_with (first|((with_reducible refine zad (N:=5) rfl ?_);refine zaj rfl (N:=5) rfl (cs:=#[.slice A4 q0.length c4,.int .i64 q1,.string q2,.int .i64 q3]) (t:=38) bx_ ?_;intro g5 hg w5_ hbox hb;replace HI:=am_ ((HI.out).box hg hbox hb);clear hb hbox hg)|((with_reducible refine zad (N:=9) rfl ?_);refine zaj rfl (N:=9) rfl (cs:=#[.slice none 0 0,.int .i64 0,.string (⟨#[]⟩:ByteArray),.int .i64 0]) (t:=38) bx_ ?_;intro g9 hg w9_ hbox hb;replace HI:=am_ ((HI.out).box hg hbox hb);clear hb hbox hg)|(go_at_call 53;(refine(zaz.calls k kind A2 c2 l2 _ _ HI.out.now.2 HC2.out HTC.out).mono ?_);rintro e w18 ⟨rfl,hb⟩;replace HI:=am_ (HI.out.grow hb);clear hb)|((with_reducible refine zad (N:=23) rfl ?_);go_must (refine wpList_load_row rfl 38 _ rfl g5 rfl 38 (#[.slice A4 q0.length c4,.int .i64 q1,.string q2,.int .i64 q3]) (0,0) _ ((HI.out.get 1 rfl)) hu38 rfl (by kernel_rfl) ?_))|(go_at_call 40;(refine(zd4.calls A4 c4 q0 q1 q2 q3 _ _ HI.out.now.1 HC4.out HSO.out).mono ?_);rintro e w24 ⟨rfl,hb⟩;replace HI:=am_ (HI.out.grow hb);clear hb)|((with_reducible refine zad (N:=27) rfl ?_);go_must (refine wpList_load_row rfl 38 _ rfl g5 rfl 38 (#[.slice A4 q0.length c4,.int .i64 q1,.string q2,.int .i64 q3]) (0,0) _ ((HI.out.get 1 rfl)) hu38 rfl (by kernel_rfl) ?_))|(go_at_call 41;(refine(zdn.calls A4 c4 q0 q1 q2 q3 _ _ HI.out.now.1 HC4.out HLF.out).mono ?_);rintro e w28 ⟨rfl,hb⟩;replace HI:=am_ (HI.out.grow hb);clear hb)|((with_reducible refine za7 (p:=9) (v:=(.tmp 32)) (t:=38) rfl ?_);go_must (refine wpList_store_row rfl 38 _ _ rfl g9 (#[.slice none 0 0,.int .i64 0,.string (⟨#[]⟩:ByteArray),.int .i64 0]) rfl qz36_ 38 (#[.slice none 0 0,.int .i64 0,.string (⟨#[]⟩:ByteArray),.int .i64 0]) (Inv.blk0 (HI.out)) (by kernel_rfl) (by rfl) qz39_ ?_;replace HI:=am_ (Inv.put0 (HI.out) (#[.slice none 0 0,.int .i64 0,.string (⟨#[]⟩:ByteArray),.int .i64 0]));generalize World.setRow _ g9 (#[.slice none 0 0,.int .i64 0,.string (⟨#[]⟩:ByteArray),.int .i64 0])=w32 at HI ⊢)))
    refine bodyPost_ret (zdq rfl _ _ g9 38 #[.slice none 0 0,.int .i64 0,.string (⟨#[]⟩:ByteArray),.int .i64 0] (0,0) _ rfl (HI.out.get 0 rfl) hu38 rfl (by kernel_rfl)) rfl ?_
    exact⟨_,_,_,_,rfl,Kd.S_nil _ _ _ _ _,Kd.R_nil _ _ _ _ _,Kd.R_nil _ _ _ _ _,Kd.R_nil _ _ _ _ _,HI.out.below⟩
   ·
    rw [if_neg ct] at h
    have f2:decide (t<6)=false:=decide_eq_false ct
    clear ct
    replace h:=Option.bind_eq_some_iff.1 h
    obtain⟨⟨s0,s1,s2,s3⟩,hcp_,h⟩:=h
    have HCP:=am_ hcp_
    clear hcp_
    replace h:=Option.bind_eq_some_iff.1 h
    obtain⟨⟨v1,v2,v3,v5,v6,v7⟩,hvf_,h⟩:=h
    have HVF:=am_ (show pv_ k kind s0 k l2 [] [] s1 s2 s3=some (v1,v2,v3,v5,v6,v7) from hvf_)
    clear hvf_
    simp only [Option.some.injEq,Prod.mk.injEq] at h
    obtain⟨rfl,rfl,rfl,rfl,rfl,rfl,rfl,rfl⟩:=h
    go_enter Tryz.func23,Tryz.ntmps23
    go_wp2_with (first|((with_reducible refine zad (N:=5) rfl ?_);refine zaj rfl (N:=5) rfl (cs:=#[.slice A4 q0.length c4,.int .i64 q1,.string q2,.int .i64 q3]) (t:=38) bx_ ?_;intro g5 hg w5_ hbox hb;replace HI:=am_ ((HI.out).box hg hbox hb);clear hb hbox hg)|((with_reducible refine zad (N:=9) rfl ?_);refine zaj rfl (N:=9) rfl (cs:=#[.slice none 0 0,.int .i64 0,.string (⟨#[]⟩:ByteArray),.int .i64 0]) (t:=38) bx_ ?_;intro g9 hg w9_ hbox hb;replace HI:=am_ ((HI.out).box hg hbox hb);clear hb hbox hg)|(go_at_call 53;(refine(zaz.calls k kind A2 c2 l2 _ _ HI.out.now.2 HC2.out HTC.out).mono ?_);rintro e w18 ⟨rfl,hb⟩;replace HI:=am_ (HI.out.grow hb);clear hb)|((with_reducible refine zad (N:=23) rfl ?_);go_must (refine wpList_load_row rfl 38 _ rfl g5 rfl 38 (#[.slice A4 q0.length c4,.int .i64 q1,.string q2,.int .i64 q3]) (0,0) _ ((HI.out.get 1 rfl)) hu38 rfl (by kernel_rfl) ?_))|(go_at_call 40;(refine(zd4.calls A4 c4 q0 q1 q2 q3 _ _ HI.out.now.1 HC4.out HSO.out).mono ?_);rintro e w24 ⟨rfl,hb⟩;replace HI:=am_ (HI.out.grow hb);clear hb)|((with_reducible refine zad (N:=27) rfl ?_);go_must (refine wpList_load_row rfl 38 _ rfl g5 rfl 38 (#[.slice A4 q0.length c4,.int .i64 q1,.string q2,.int .i64 q3]) (0,0) _ ((HI.out.get 1 rfl)) hu38 rfl (by kernel_rfl) ?_))|(go_at_call 41;(refine(zdn.calls A4 c4 q0 q1 q2 q3 _ _ HI.out.now.1 HC4.out HLF.out).mono ?_);rintro e w28 ⟨rfl,hb⟩;replace HI:=am_ (HI.out.grow hb);clear hb)|((with_reducible refine zad (N:=34) rfl ?_);go_must (refine wpList_load_row rfl 38 _ rfl g5 rfl 38 (#[.slice A4 q0.length c4,.int .i64 q1,.string q2,.int .i64 q3]) (0,0) _ ((HI.out.get 1 rfl)) hu38 rfl (by kernel_rfl) ?_))|(go_at_call 42;(refine(zdm.calls A4 c4 q0 q1 q2 q3 s0 s1 s2 s3 _ HI.out.now.1 HC4.out HCP.out).mono ?_);rintro e w59 ⟨v0,rfl,hR59,hb59⟩;obtain⟨Ao,co,eo⟩:=Kd.zcb hR59;subst eo;replace HI:=am_ (HI.out.zd7 hb59 hR59);have HR59:=am_ (Kd.R_reads' hR59).2.2;have HJ:=am_ (Inv.start w59 (fun w2=>Kd.C k32 w2 Ao s0.length s0) (fun w' hb=>Kd.zbi HR59.out hb));clear hR59 hb59)|((with_reducible refine zad (N:=12) rfl ?_);refine zaj rfl (N:=12) rfl (cs:=#[.slice none 0 0,.int .i64 0,.string (⟨#[]⟩:ByteArray),.int .i64 0]) (t:=38) bx_ ?_;intro go hg wo hbox hb;replace HI:=am_ ((HI.out).box hg hbox hb);have HJ_:=am_ (HJ.out.box hg hbox hb);clear HJ;have HJ:=HJ_;clear HJ_;clear hb hbox hg)|((with_reducible refine za7 (p:=12) (v:=(.tmp 35)) (t:=38) rfl ?_);go_must (refine wpList_store_row rfl 38 _ _ rfl go (#[.slice Ao s0.length co,.int .i64 s1,.string s2,.int .i64 s3]) rfl qz36_ 38 (#[.slice none 0 0,.int .i64 0,.string (⟨#[]⟩:ByteArray),.int .i64 0]) (Inv.blk0 (HI.out)) (by kernel_rfl) (by rfl) qz39_ ?_;replace HI:=am_ (Inv.put0 (HI.out) (#[.slice Ao s0.length co,.int .i64 s1,.string s2,.int .i64 s3]));have HJ_:=am_ (Inv.put0 (HJ.out) (#[.slice Ao s0.length co,.int .i64 s1,.string s2,.int .i64 s3]));clear HJ;have HJ:=HJ_;clear HJ_;generalize World.setRow _ go (#[.slice Ao s0.length co,.int .i64 s1,.string s2,.int .i64 s3])=w15 at HI HJ ⊢))|(go_at_call 54;(refine(zdi.calls k k go s0 s1 s2 s3 kind A2 c2 l2 v1 v2 v3 v5 v6 v7 {w59 with drawn:=codeA Ao co} w15 ⟨Ao,co,HJ.out.blk0,⟨HJ.out.ge0,rfl⟩,HR59.out⟩ ⟨HJ.out.below.os,HJ.out.below.tape,HJ.out.below.output,HJ.out.below.size,HJ.out.below.block⟩ (fun W_ hk=>(Inv.zof HI.out hk).2) HC2.out HVF.out).mono ?_);rintro e wd ⟨vp0,vp1,vp2,rfl,hS0,hR1,hR2,⟨Aq_,cq_,hbq,⟨_,hdq⟩,_⟩,hBq,hkq⟩;obtain⟨e1,e2⟩:=zjo hdq;subst e1 e2;replace HI:=am_ (Inv.zi5 (b3:=blk go 38 #[.slice Ao s0.length co,.int .i64 v5,.string v6,.int .i64 v7]) rfl HI.out (Agr.zk5 hkq (w0:={w59 with drawn:=codeA Ao co}) ⟨HJ.out.below.os,HJ.out.below.tape,HJ.out.below.output,HJ.out.below.size,HJ.out.below.block⟩ hBq) hS0 (fun _ h=>h) hR1 (fun _ h=>h) hR2 (fun k hk=>⟨.inl hk,(by obtain rfl:k=go:=hk;exact zar hbq)⟩) (fun w' hw=>(hw go rfl).trans hbq) (fun k hk hl=>absurd (by obtain rfl:k=go:=hk;exact zar HI.out.blk0) (Nat.not_lt.2 hl)));clear HJ hbq hdq hBq hkq hS0 hR1 hR2))
    refine zcn (n:=9) (S:=fun w'=>w'.cell? ⟨go,0,none⟩=some (.slice Ao s0.length co)∧w'.cell? ⟨go,1,none⟩=some (.int .i64 v5)∧w'.cell? ⟨go,2,none⟩=some (.string v6)∧w'.cell? ⟨go,3,none⟩=some (.int .i64 v7)) (ds:=[7]) (bs_ 9 0) (by kernel_rfl) rfl rfl ⟨(zaa ((HI.out.drew).get 3 rfl) 0).trans rfl,(zaa ((HI.out.drew).get 3 rfl) 1).trans rfl,(zaa ((HI.out.drew).get 3 rfl) 2).trans rfl,(zaa ((HI.out.drew).get 3 rfl) 3).trans rfl⟩ (fun hHeld=>?_)
    replace HI:=am_ (HI.out.drew)
    generalize World.drew _=wd0 at HI hHeld ⊢
    refine pu_ 0 43 (bs_ 9 1) ?_
    refine pu_ 1 44 (bs_ 9 3) ?_
    refine pu_ 2 45 (bs_ 9 7) ?_
    refine tk_ 3 (bs_ 9 15) hHeld ?_
    refine pu_ 4 6 (bs_ 9 31) ?_
    refine pu_ 5 7 (bs_ 9 63) ?_
    refine pu_ 6 8 (bs_ 9 127) ?_
    refine last_ (i:=7) (N:=none) (bs_ 9 255) rfl rfl (by kernel_rfl) (by decide) (fun K hK=>?_)
    rw [if_pos (by rfl)]
    refine wp_store_row 38 _ _ rfl g9 (#[.slice Ao s0.length co,.int .i64 v5,.string v6,.int .i64 v7]) rfl qz36_ 38 (#[.slice none 0 0,.int .i64 0,.string (⟨#[]⟩:ByteArray),.int .i64 0]) (HI.out.get 5 rfl) (by kernel_rfl) rfl qz39_ ?_
    replace HI:=am_ ((HI.out.front 5 rfl).put0 (#[.slice Ao s0.length co,.int .i64 v5,.string v6,.int .i64 v7]))
    generalize World.setRow _ g9 (#[.slice Ao s0.length co,.int .i64 v5,.string v6,.int .i64 v7])=w13 at HI ⊢
    refine hK.out _ _ ?_
    clear hK K
    refine pu_ 8 10 (bs_ 9 511) ?_
    refine done_ (by kernel_rfl) ?_
    try go_wp2
    refine bodyPost_ret (zdq rfl _ _ g9 38 #[.slice Ao s0.length co,.int .i64 v5,.string v6,.int .i64 v7] (0,0) _ rfl (HI.out.get 0 rfl) hu38 rfl (by kernel_rfl)) rfl ?_
    have q0:=HI.out.get 1 rfl
    have q1:=HI.out.get 2 rfl
    have q2:=HI.out.get 3 rfl
    have q3:=HI.out.get 5 rfl
    have d01:=HI.out.disj 1 2 (by decide) rfl rfl
    have d02:=HI.out.disj 1 3 (by decide) rfl rfl
    have d03:=HI.out.disj 1 5 (by decide) rfl rfl
    have d12:=HI.out.disj 2 3 (by decide) rfl rfl
    have d13:=HI.out.disj 2 5 (by decide) rfl rfl
    have d23:=HI.out.disj 3 5 (by decide) rfl rfl
    exact⟨_,_,_,_,rfl,Kd.ze3 q0 (fun k hk=>⟨fun e=>d01 k hk ((rowR q1).1 k e.symm),fun e=>d02 k hk ((rowR q2).1 k e.symm),fun e=>d03 k hk ((rowR q3).1 k e.symm)⟩),Kd.zba q1 (fun k hk=>⟨fun e=>d12 k hk ((rowR q2).1 k e.symm),fun e=>d13 k hk ((rowR q3).1 k e.symm)⟩),Kd.zba q2 (fun k hk=>⟨fun e=>d12 k ((rowR q1).1 k e.symm) hk,fun e=>d23 k hk ((rowR q3).1 k e.symm)⟩),Kd.zba q3 (fun k hk=>⟨fun e=>d13 k ((rowR q1).1 k e.symm) hk,fun e=>d23 k ((rowR q2).1 k e.symm) hk⟩),HI.out.below⟩
 ·
  rw [if_neg cc] at h
  have f0:=eq_false (cc)
  have f1:(c == 0)=false:=beq_eq_false_iff_ne.mpr cc
  have f1c:(c != 0)=true:=bne_iff_ne.mpr cc
  clear cc
  simp only [Option.some.injEq,Prod.mk.injEq] at h
  obtain⟨rfl,rfl,rfl,rfl,rfl,rfl,rfl,rfl⟩:=h
  go_enter Tryz.func23,Tryz.ntmps23
  go_wp2_with (first|((with_reducible refine zad (N:=5) rfl ?_);refine zaj rfl (N:=5) rfl (cs:=#[.slice A4 q0.length c4,.int .i64 q1,.string q2,.int .i64 q3]) (t:=38) bx_ ?_;intro g5 hg w5_ hbox hb;replace HI:=am_ ((HI.out).box hg hbox hb);clear hb hbox hg)|((with_reducible refine zad (N:=9) rfl ?_);refine zaj rfl (N:=9) rfl (cs:=#[.slice none 0 0,.int .i64 0,.string (⟨#[]⟩:ByteArray),.int .i64 0]) (t:=38) bx_ ?_;intro g9 hg w9_ hbox hb;replace HI:=am_ ((HI.out).box hg hbox hb);clear hb hbox hg)|(go_at_call 53;(refine(zaz.calls k kind A2 c2 l2 _ _ HI.out.now.2 HC2.out HTC.out).mono ?_);rintro e w18 ⟨rfl,hb⟩;replace HI:=am_ (HI.out.grow hb);clear hb)|((with_reducible refine za7 (p:=9) (v:=(.tmp 32)) (t:=38) rfl ?_);go_must (refine wpList_store_row rfl 38 _ _ rfl g9 (#[.slice none 0 0,.int .i64 0,.string (⟨#[]⟩:ByteArray),.int .i64 0]) rfl qz36_ 38 (#[.slice none 0 0,.int .i64 0,.string (⟨#[]⟩:ByteArray),.int .i64 0]) (Inv.blk0 (HI.out)) (by kernel_rfl) (by rfl) qz39_ ?_;replace HI:=am_ (Inv.put0 (HI.out) (#[.slice none 0 0,.int .i64 0,.string (⟨#[]⟩:ByteArray),.int .i64 0]));generalize World.setRow _ g9 (#[.slice none 0 0,.int .i64 0,.string (⟨#[]⟩:ByteArray),.int .i64 0])=w32 at HI ⊢)))
  refine bodyPost_ret (zdq rfl _ _ g9 38 #[.slice none 0 0,.int .i64 0,.string (⟨#[]⟩:ByteArray),.int .i64 0] (0,0) _ rfl (HI.out.get 0 rfl) hu38 rfl (by kernel_rfl)) rfl ?_
  exact⟨_,_,_,_,rfl,Kd.S_nil _ _ _ _ _,Kd.R_nil _ _ _ _ _,Kd.R_nil _ _ _ _ _,Kd.R_nil _ _ _ _ _,HI.out.below⟩
def zcp.f (a0:Int) (a1:Int) (a2:Int):Option (Bool):=if a1≤a0 then(some (decide (a0≤a2))) else(some false)
theorem zcp.calls (a0:Int) (a1:Int) (a2:Int) (r:Bool) (w:World) (h:zcp.f a0 a1 a2=some r) :
  Calls Tryz.prog 58 #[.int .i64 a0,.int .i64 a1,.int .i64 a2] w fun e w'=>e=.returned (.bool r)∧zbx w w':=by
 have H:(if a1≤a0 then(some (decide (a0≤a2))) else(some false))=some r:=h
 clear h
 by_cases c4:a1≤a0
 ·
  rw [if_pos c4] at H
  have c4b0:decide (a1≤a0)=true:=decide_eq_true c4
  clear c4
  obtain rfl:=Option.some.inj H
  go_enter Tryz.func58,Tryz.ntmps58
  go_wp2
  go_ret
  exact⟨qz0_,qz1_⟩
 ·
  rw [if_neg c4] at H
  have c4b0:decide (a1≤a0)=false:=decide_eq_false c4
  clear c4
  obtain rfl:=Option.some.inj H
  go_enter Tryz.func58,Tryz.ntmps58
  go_wp2
  go_ret
  exact⟨qz0_,qz1_⟩
def zc8.f (a0:Int):Option (Bool):=(zcp.f a0 0 2130706432).bind fun t101=>(some t101)
theorem zc8.calls (a0:Int) (r:Bool) (w:World) (h:zc8.f a0=some r) :
  Calls Tryz.prog 142 #[.int .i64 a0] w fun e w'=>e=.returned (.bool r)∧zbx w w':=by
 have H:((zcp.f a0 0 2130706432).bind fun t101=>(some t101))=some r:=h
 clear h
 replace H:=Option.bind_eq_some_iff.mp H
 obtain⟨t101,A20,H⟩:=H
 replace H:(some t101)=some r:=H
 have A2:=am_ A20
 clear A20
 obtain rfl:=Option.some.inj H
 go_enter Tryz.func142,Tryz.ntmps142
 go_wp2_with (first|((with_reducible refine zan (f:=58) rfl ?_);refine gl_ (some 4) Tryz.func58 #[.int .i64 a0,.int .i64 0,.int .i64 2130706432] ?_;(with_reducible refine(zcp.calls a0 0 2130706432 t101 _ A2.out).mono ?_);rintro e w' ⟨rfl,⟨nd,rfl⟩⟩;refine⟨_,rfl,?_⟩))
 go_ret
 exact⟨qz0_,qz1_⟩
def zfg.f (a0_0:Int) (a0_1:Int):Option (Bool):=(zc8.f a0_0).bind fun t102=>(if t102=true then((zc8.f a0_1).bind fun t103=>(some t103)) else(some false))
theorem zfg.calls (a0_0:Int) (a0_1:Int) (r:Bool) (w:World) (h:zfg.f a0_0 a0_1=some r) :
  Calls Tryz.prog 106 #[.agg #[.int .i64 a0_0,.int .i64 a0_1]] w fun e w'=>e=.returned (.bool r)∧Below w.heap.size w w':=by
 have hu32:=Tryz.underlying32
 have HB:=am_ (Below.refl w.heap.size w)
 have H:((zc8.f a0_0).bind fun t102=>(if t102=true then((zc8.f a0_1).bind fun t103=>(some t103)) else(some false)))=some r:=h
 clear h
 replace H:=Option.bind_eq_some_iff.mp H
 obtain⟨t102,A20,H⟩:=H
 replace H:(if t102=true then((zc8.f a0_1).bind fun t103=>(some t103)) else(some false))=some r:=H
 have A2:=am_ A20
 clear A20
 by_cases c3:t102=true
 ·
  subst c3
  have H1:((zc8.f a0_1).bind fun t103=>(some t103))=some r:=by rw [if_pos rfl] at H;exact H
  clear H
  have H:=H1
  clear H1
  replace H:=Option.bind_eq_some_iff.mp H
  obtain⟨t103,A40,H⟩:=H
  replace H:(some t103)=some r:=H
  have A4:=am_ A40
  clear A40
  obtain rfl:=Option.some.inj H
  go_enter Tryz.func106,Tryz.ntmps106
  go_wp2_with (first|((with_reducible refine zad (N:=1) rfl ?_);refine zaj rfl (N:=1) rfl (cs:=#[.int .i64 a0_0,.int .i64 a0_1]) (t:=32) bx_ ?_;intro gb101 hg w5 hbox hb;replace BK101:=am_ (hbox);replace GW101:=am_ ((by rw [hg];exact(zaf qz2_):w.heap.size≤gb101));replace GE101:=GW101;replace HB:=am_ (zab qz2_ hb);clear hb hbox hg;obtain⟨hcz6_0,hcz6_1,hfz6_0,hfz6_1⟩:=bf2_ BK101.out)|((with_reducible refine zan (f:=142) rfl ?_);refine gl_ (some 5) Tryz.func142 #[.int .i64 a0_0] ?_;(with_reducible refine(zc8.calls a0_0 true _ A2.out).mono ?_);rintro e w' ⟨rfl,⟨nd,rfl⟩⟩;refine⟨_,rfl,?_⟩)|(go_at_call 142;(with_reducible refine(zc8.calls a0_1 t103 _ A4.out).mono ?_);rintro e w' ⟨rfl,⟨nd,rfl⟩⟩))
  go_ret
  exact⟨qz4_,qz5_⟩
 ·
  replace c3:=Bool.eq_false_iff.mpr c3
  subst c3
  have H1:(some false)=some r:=by rw [if_neg (show ¬(false=true) by decide)] at H;exact H
  clear H
  have H:=H1
  clear H1
  obtain rfl:=Option.some.inj H
  go_enter Tryz.func106,Tryz.ntmps106
  go_wp2_with (first|((with_reducible refine zad (N:=1) rfl ?_);refine zaj rfl (N:=1) rfl (cs:=#[.int .i64 a0_0,.int .i64 a0_1]) (t:=32) bx_ ?_;intro gb101 hg w7 hbox hb;replace BK101:=am_ (hbox);replace GW101:=am_ ((by rw [hg];exact(zaf qz2_):w.heap.size≤gb101));replace GE101:=GW101;replace HB:=am_ (zab qz2_ hb);clear hb hbox hg;obtain⟨hcz8_0,hcz8_1,hfz8_0,hfz8_1⟩:=bf2_ BK101.out)|((with_reducible refine zan (f:=142) rfl ?_);refine gl_ (some 5) Tryz.func142 #[.int .i64 a0_0] ?_;(with_reducible refine(zc8.calls a0_0 false _ A2.out).mono ?_);rintro e w' ⟨rfl,⟨nd,rfl⟩⟩;refine⟨_,rfl,?_⟩))
  go_ret
  exact⟨qz4_,qz5_⟩
def zbk.l0:Nat→List (S32)→Int→Option (Bool)
 | 0,_,_=>none
 | k + 1,x0,x3=>if x3<(x0.length:Int) then(if 0≤x3 then((zfg.f ((zac x0 x3).f0) ((zac x0 x3).f1)).bind fun t102=>(if t102=true then(zbk.l0 k x0 (wrap64 (x3 + 1))) else(some false))) else(none)) else(some true)
def zbk.f (k:Nat) (l0:List (S32)):Option (Bool):=zbk.l0 k l0 0
theorem zbk.calls (k:Nat) (A0:Option Addr) (c0:Nat) (l0:List (S32)) (r:Bool) (w:World) (hr0:Kd.C k32 w A0 l0.length l0) (hc0:l0.length≤c0) (h:zbk.f k l0=some r) :
  Calls Tryz.prog 57 #[.slice A0 l0.length c0] w fun e w'=>e=.returned (.bool r)∧Below w.heap.size w w':=by
 have hu32:=Tryz.underlying32
 have HR0:=am_ hr0
 have HC0:=am_ hc0
 clear hr0 hc0
 have HB:=am_ (Below.refl w.heap.size w)
 have H:(zbk.l0 k l0 0)=some r:=h
 clear h
 have H':=am_ H
 clear H
 go_enter Tryz.func57,Tryz.ntmps57
 go_wp2
 go_loopg [3] k (fun kq v3 w'=>∃ (x3_1:Int),v3=.int .i64 x3_1∧zal (zbk.l0 kq l0 x3_1=some r)∧zal (kq≤k)∧zal (Below w.heap.size w w'))
 case atStart=>exact⟨(0),qz0_,H',⟨Nat.le_refl _⟩,⟨qz2_⟩⟩
 case round=>
  clear H'
  obtain⟨x3_1,rfl,HA,HK1,HB⟩:=hrel
  cases gk with
  | zero=>exact absurd HA.out (by simp [zbk.l0])
  | succ k1=>
   have H:=HA.out
   clear HA
   simp only [zbk.l0] at H
   by_cases c2:x3_1<(l0.length:Int)
   ·
    rw [if_pos c2] at H
    have c2b0:decide (x3_1<(l0.length:Int))=true:=decide_eq_true c2
    clear c2
    by_cases c3:0≤x3_1
    ·
     rw [if_pos c3] at H
     have c3b0:decide (0≤x3_1)=true:=decide_eq_true c3
     clear c3
     replace H:=Option.bind_eq_some_iff.mp H
     obtain⟨t102,A40,H⟩:=H
     replace H:(if t102=true then(zbk.l0 k1 l0 (wrap64 (x3_1 + 1))) else(some false))=some r:=H
     have A4:=am_ A40
     clear A40
     by_cases c5:t102=true
     ·
      subst c5
      have H1:(zbk.l0 k1 l0 (wrap64 (x3_1 + 1)))=some r:=by rw [if_pos rfl] at H;exact H
      clear H
      have H:=H1
      clear H1
      have H':=am_ H
      clear H
      have p101:0≤(x3_1:Int):=of_decide_eq_true qz10_
      have q101:x3_1<(l0.length:Int):=of_decide_eq_true qz10_
      obtain⟨ad101,e101,hx101_0,hx101_1⟩:=zdf HR0.out x3_1 p101 q101
      cases e101
      replace hx101_0:=(HB.out.cell (World.block_lt_of_cell? w _ hx101_0)).trans hx101_0
      replace hx101_1:=(HB.out.cell (World.block_lt_of_cell? w _ hx101_1)).trans hx101_1
      replace p101:=eq_true p101
      replace q101:=eq_true q101
      go_wp2_with (first|((with_reducible refine zan (f:=106) rfl ?_);refine gl_ (some 14) Tryz.func106 #[.agg #[.int .i64 ((zac l0 x3_1).f0),.int .i64 ((zac l0 x3_1).f1)]] ?_;(with_reducible refine(zfg.calls ((zac l0 x3_1).f0) ((zac l0 x3_1).f1) true _ A4.out).mono ?_);rintro e w6 ⟨rfl,hb⟩;refine⟨_,rfl,?_⟩;replace HB:=am_ (zab qz2_ hb);(try clear hb);(try clear hb2);(try clear hk);(try clear hi)))
      go_roundg k1
      case measure=>have:=HK1.out;omega
      case rel=>exact⟨(wrap64 (x3_1 + 1)),qz0_,H',⟨qz13_⟩,⟨qz2_⟩⟩
     ·
      replace c5:=Bool.eq_false_iff.mpr c5
      subst c5
      have H1:(some false)=some r:=by rw [if_neg (show ¬(false=true) by decide)] at H;exact H
      clear H
      have H:=H1
      clear H1
      obtain rfl:=Option.some.inj H
      have p101:0≤(x3_1:Int):=of_decide_eq_true qz10_
      have q101:x3_1<(l0.length:Int):=of_decide_eq_true qz10_
      obtain⟨ad101,e101,hx101_0,hx101_1⟩:=zdf HR0.out x3_1 p101 q101
      cases e101
      replace hx101_0:=(HB.out.cell (World.block_lt_of_cell? w _ hx101_0)).trans hx101_0
      replace hx101_1:=(HB.out.cell (World.block_lt_of_cell? w _ hx101_1)).trans hx101_1
      replace p101:=eq_true p101
      replace q101:=eq_true q101
      go_wp2_with (first|((with_reducible refine zan (f:=106) rfl ?_);refine gl_ (some 14) Tryz.func106 #[.agg #[.int .i64 ((zac l0 x3_1).f0),.int .i64 ((zac l0 x3_1).f1)]] ?_;(with_reducible refine(zfg.calls ((zac l0 x3_1).f0) ((zac l0 x3_1).f1) false _ A4.out).mono ?_);rintro e w7 ⟨rfl,hb⟩;refine⟨_,rfl,?_⟩;replace HB:=am_ (zab qz2_ hb);(try clear hb);(try clear hb2);(try clear hk);(try clear hi)))
      go_ret
      exact⟨qz4_,qz2_⟩
    ·
     rw [if_neg c3] at H
     exact absurd H (by simp)
   ·
    rw [if_neg c2] at H
    have c2b0:decide (x3_1<(l0.length:Int))=false:=decide_eq_false c2
    clear c2
    obtain rfl:=Option.some.inj H
    go_wp2
    go_ret
    exact⟨qz4_,qz2_⟩
def zdz.f (k:Nat) (l0_0:List (S32)) (a0_1:Int) (a0_2:ByteArray) (a0_3:Int):Option (Bool):=if (l0_0.length:Int)≤64 then((zbk.f k l0_0).bind fun t102=>(if t102=true then((zcp.f a0_1 0 1000000).bind fun t103=>(if t103=true then(if (a0_2.size:Int)=32 then((zcp.f a0_3 0 1000000).bind fun t104=>(some t104)) else(some false)) else(some false))) else(some false))) else(some false)
theorem zdz.calls (k:Nat) (A0_0:Option Addr) (c0_0:Nat) (l0_0:List (S32)) (a0_1:Int) (a0_2:ByteArray) (a0_3:Int) (r:Bool) (w:World) (hr0_0:Kd.C k32 w A0_0 l0_0.length l0_0) (hc0_0:l0_0.length≤c0_0) (h:zdz.f k l0_0 a0_1 a0_2 a0_3=some r) :
  Calls Tryz.prog 31 #[.agg #[.slice A0_0 l0_0.length c0_0,.int .i64 a0_1,.string a0_2,.int .i64 a0_3]] w fun e w'=>e=.returned (.bool r)∧Below w.heap.size w w':=by
 have hu38:=Tryz.underlying38
 have HR0_0:=am_ hr0_0
 have HC0_0:=am_ hc0_0
 clear hr0_0 hc0_0
 have HB:=am_ (Below.refl w.heap.size w)
 have H:(if (l0_0.length:Int)≤64 then((zbk.f k l0_0).bind fun t102=>(if t102=true then((zcp.f a0_1 0 1000000).bind fun t103=>(if t103=true then(if (a0_2.size:Int)=32 then((zcp.f a0_3 0 1000000).bind fun t104=>(some t104)) else(some false)) else(some false))) else(some false))) else(some false))=some r:=h
 clear h
 by_cases c2:(l0_0.length:Int)≤64
 ·
  rw [if_pos c2] at H
  have c2b0:decide ((l0_0.length:Int)≤64)=true:=decide_eq_true c2
  have c2b1:decide (l0_0.length≤64)=true:=decide_eq_true (by omega)
  clear c2
  replace H:=Option.bind_eq_some_iff.mp H
  obtain⟨t102,A30,H⟩:=H
  replace H:(if t102=true then((zcp.f a0_1 0 1000000).bind fun t103=>(if t103=true then(if (a0_2.size:Int)=32 then((zcp.f a0_3 0 1000000).bind fun t104=>(some t104)) else(some false)) else(some false))) else(some false))=some r:=H
  have A3:=am_ A30
  clear A30
  by_cases c4:t102=true
  ·
   subst c4
   have H1:((zcp.f a0_1 0 1000000).bind fun t103=>(if t103=true then(if (a0_2.size:Int)=32 then((zcp.f a0_3 0 1000000).bind fun t104=>(some t104)) else(some false)) else(some false)))=some r:=by rw [if_pos rfl] at H;exact H
   clear H
   have H:=H1
   clear H1
   replace H:=Option.bind_eq_some_iff.mp H
   obtain⟨t103,A50,H⟩:=H
   replace H:(if t103=true then(if (a0_2.size:Int)=32 then((zcp.f a0_3 0 1000000).bind fun t104=>(some t104)) else(some false)) else(some false))=some r:=H
   have A5:=am_ A50
   clear A50
   by_cases c6:t103=true
   ·
    subst c6
    have H1:(if (a0_2.size:Int)=32 then((zcp.f a0_3 0 1000000).bind fun t104=>(some t104)) else(some false))=some r:=by rw [if_pos rfl] at H;exact H
    clear H
    have H:=H1
    clear H1
    by_cases c7:(a0_2.size:Int)=32
    ·
     rw [if_pos c7] at H
     have c7b0:((a0_2.size:Int) == 32)=true:=beq_iff_eq.mpr c7
     have c7b1:((a0_2.size:Int) != 32)=false:=bne_eq_false_iff_eq.mpr c7
     clear c7
     replace H:=Option.bind_eq_some_iff.mp H
     obtain⟨t104,A80,H⟩:=H
     replace H:(some t104)=some r:=H
     have A8:=am_ A80
     clear A80
     obtain rfl:=Option.some.inj H
     go_enter Tryz.func31,Tryz.ntmps31
     go_wp2_with (first|((with_reducible refine zad (N:=1) rfl ?_);(try(refine zf7 (by rfl) ?_;dsimp only));refine zaj rfl (N:=1) rfl (cs:=#[.slice A0_0 l0_0.length c0_0,.int .i64 a0_1,.string a0_2,.int .i64 a0_3]) (t:=38) bx_ ?_;intro gb101 hg w9 hbox hb;replace BK101:=am_ (hbox);replace GW101:=am_ ((by rw [hg];exact(zaf qz2_):w.heap.size≤gb101));replace GE101:=GW101;replace HB:=am_ (zab qz2_ hb);clear hb hbox hg;obtain⟨hcz10_0,hcz10_1,hcz10_2,hcz10_3,hfz10_0,hfz10_1,hfz10_2,hfz10_3⟩:=bf4_ BK101.out)|(go_at_call 57;(with_reducible refine(zbk.calls k _ _ l0_0 true _ ?side1 ?side2 A3.out).mono ?_);(case side1=>exact qc_ (Kd.zbi HR0_0.out HB.out));(case side2=>exact HC0_0.out);rintro e w11 ⟨rfl,hb⟩;replace BK101:=am_ (zak (g:=gb101) (o:=.cells #[.slice A0_0 l0_0.length c0_0,.int .i64 a0_1,.string a0_2,.int .i64 a0_3] 38 (0,0)) qz6_ hb);replace HB:=am_ (zab qz5_ hb);(try clear hb);(try clear hb2);(try clear hk);(try clear hi);obtain⟨hcz12_0,hcz12_1,hcz12_2,hcz12_3,hfz12_0,hfz12_1,hfz12_2,hfz12_3⟩:=bf4_ BK101.out)|(go_at_call 58;(with_reducible refine(zcp.calls a0_1 0 1000000 true _ A5.out).mono ?_);rintro e w' ⟨rfl,⟨nd,rfl⟩⟩)|(go_at_call 58;(with_reducible refine(zcp.calls a0_3 0 1000000 t104 _ A8.out).mono ?_);rintro e w' ⟨rfl,⟨nd,rfl⟩⟩))
     go_ret
     exact⟨qz4_,qz5_⟩
    ·
     rw [if_neg c7] at H
     have c7b0:((a0_2.size:Int) == 32)=false:=beq_eq_false_iff_ne.mpr c7
     have c7b1:((a0_2.size:Int) != 32)=true:=bne_iff_ne.mpr c7
     obtain rfl:=Option.some.inj H
     go_enter Tryz.func31,Tryz.ntmps31
     go_wp2_with (first|((with_reducible refine zad (N:=1) rfl ?_);(try(refine zf7 (by rfl) ?_;dsimp only));refine zaj rfl (N:=1) rfl (cs:=#[.slice A0_0 l0_0.length c0_0,.int .i64 a0_1,.string a0_2,.int .i64 a0_3]) (t:=38) bx_ ?_;intro gb101 hg w13 hbox hb;replace BK101:=am_ (hbox);replace GW101:=am_ ((by rw [hg];exact(zaf qz2_):w.heap.size≤gb101));replace GE101:=GW101;replace HB:=am_ (zab qz2_ hb);clear hb hbox hg;obtain⟨hcz14_0,hcz14_1,hcz14_2,hcz14_3,hfz14_0,hfz14_1,hfz14_2,hfz14_3⟩:=bf4_ BK101.out)|(go_at_call 57;(with_reducible refine(zbk.calls k _ _ l0_0 true _ ?side1 ?side2 A3.out).mono ?_);(case side1=>exact qc_ (Kd.zbi HR0_0.out HB.out));(case side2=>exact HC0_0.out);rintro e w15 ⟨rfl,hb⟩;replace BK101:=am_ (zak (g:=gb101) (o:=.cells #[.slice A0_0 l0_0.length c0_0,.int .i64 a0_1,.string a0_2,.int .i64 a0_3] 38 (0,0)) qz6_ hb);replace HB:=am_ (zab qz5_ hb);(try clear hb);(try clear hb2);(try clear hk);(try clear hi);obtain⟨hcz16_0,hcz16_1,hcz16_2,hcz16_3,hfz16_0,hfz16_1,hfz16_2,hfz16_3⟩:=bf4_ BK101.out)|(go_at_call 58;(with_reducible refine(zcp.calls a0_1 0 1000000 true _ A5.out).mono ?_);rintro e w' ⟨rfl,⟨nd,rfl⟩⟩))
     go_ret
     exact⟨qz4_,qz5_⟩
   ·
    replace c6:=Bool.eq_false_iff.mpr c6
    subst c6
    have H1:(some false)=some r:=by rw [if_neg (show ¬(false=true) by decide)] at H;exact H
    clear H
    have H:=H1
    clear H1
    obtain rfl:=Option.some.inj H
    go_enter Tryz.func31,Tryz.ntmps31
    go_wp2_with (first|((with_reducible refine zad (N:=1) rfl ?_);(try(refine zf7 (by rfl) ?_;dsimp only));refine zaj rfl (N:=1) rfl (cs:=#[.slice A0_0 l0_0.length c0_0,.int .i64 a0_1,.string a0_2,.int .i64 a0_3]) (t:=38) bx_ ?_;intro gb101 hg w17 hbox hb;replace BK101:=am_ (hbox);replace GW101:=am_ ((by rw [hg];exact(zaf qz2_):w.heap.size≤gb101));replace GE101:=GW101;replace HB:=am_ (zab qz2_ hb);clear hb hbox hg;obtain⟨hcz18_0,hcz18_1,hcz18_2,hcz18_3,hfz18_0,hfz18_1,hfz18_2,hfz18_3⟩:=bf4_ BK101.out)|(go_at_call 57;(with_reducible refine(zbk.calls k _ _ l0_0 true _ ?side1 ?side2 A3.out).mono ?_);(case side1=>exact qc_ (Kd.zbi HR0_0.out HB.out));(case side2=>exact HC0_0.out);rintro e w19 ⟨rfl,hb⟩;replace BK101:=am_ (zak (g:=gb101) (o:=.cells #[.slice A0_0 l0_0.length c0_0,.int .i64 a0_1,.string a0_2,.int .i64 a0_3] 38 (0,0)) qz6_ hb);replace HB:=am_ (zab qz5_ hb);(try clear hb);(try clear hb2);(try clear hk);(try clear hi);obtain⟨hcz20_0,hcz20_1,hcz20_2,hcz20_3,hfz20_0,hfz20_1,hfz20_2,hfz20_3⟩:=bf4_ BK101.out)|(go_at_call 58;(with_reducible refine(zcp.calls a0_1 0 1000000 false _ A5.out).mono ?_);rintro e w' ⟨rfl,⟨nd,rfl⟩⟩))
    go_ret
    exact⟨qz4_,qz5_⟩
  ·
   replace c4:=Bool.eq_false_iff.mpr c4
   subst c4
   have H1:(some false)=some r:=by rw [if_neg (show ¬(false=true) by decide)] at H;exact H
   clear H
   have H:=H1
   clear H1
   obtain rfl:=Option.some.inj H
   go_enter Tryz.func31,Tryz.ntmps31
   go_wp2_with (first|((with_reducible refine zad (N:=1) rfl ?_);(try(refine zf7 (by rfl) ?_;dsimp only));refine zaj rfl (N:=1) rfl (cs:=#[.slice A0_0 l0_0.length c0_0,.int .i64 a0_1,.string a0_2,.int .i64 a0_3]) (t:=38) bx_ ?_;intro gb101 hg w21 hbox hb;replace BK101:=am_ (hbox);replace GW101:=am_ ((by rw [hg];exact(zaf qz2_):w.heap.size≤gb101));replace GE101:=GW101;replace HB:=am_ (zab qz2_ hb);clear hb hbox hg;obtain⟨hcz22_0,hcz22_1,hcz22_2,hcz22_3,hfz22_0,hfz22_1,hfz22_2,hfz22_3⟩:=bf4_ BK101.out)|(go_at_call 57;(with_reducible refine(zbk.calls k _ _ l0_0 false _ ?side1 ?side2 A3.out).mono ?_);(case side1=>exact qc_ (Kd.zbi HR0_0.out HB.out));(case side2=>exact HC0_0.out);rintro e w23 ⟨rfl,hb⟩;replace BK101:=am_ (zak (g:=gb101) (o:=.cells #[.slice A0_0 l0_0.length c0_0,.int .i64 a0_1,.string a0_2,.int .i64 a0_3] 38 (0,0)) qz6_ hb);replace HB:=am_ (zab qz5_ hb);(try clear hb);(try clear hb2);(try clear hk);(try clear hi)))
   go_ret
   exact⟨qz4_,qz5_⟩
 ·
  rw [if_neg c2] at H
  have c2b0:decide ((l0_0.length:Int)≤64)=false:=decide_eq_false c2
  have c2b1:decide (l0_0.length≤64)=false:=decide_eq_false (by omega)
  clear c2
  obtain rfl:=Option.some.inj H
  go_enter Tryz.func31,Tryz.ntmps31
  go_wp2_with (first|((with_reducible refine zad (N:=1) rfl ?_);(try(refine zf7 (by rfl) ?_;dsimp only));refine zaj rfl (N:=1) rfl (cs:=#[.slice A0_0 l0_0.length c0_0,.int .i64 a0_1,.string a0_2,.int .i64 a0_3]) (t:=38) bx_ ?_;intro gb101 hg w24 hbox hb;replace BK101:=am_ (hbox);replace GW101:=am_ ((by rw [hg];exact(zaf qz2_):w.heap.size≤gb101));replace GE101:=GW101;replace HB:=am_ (zab qz2_ hb);clear hb hbox hg;obtain⟨hcz25_0,hcz25_1,hcz25_2,hcz25_3,hfz25_0,hfz25_1,hfz25_2,hfz25_3⟩:=bf4_ BK101.out))
  go_ret
  exact⟨qz4_,qz5_⟩
end Go.Proofs.YtgookagndlfehaaGreat.PT
end
section
namespace Go.Proofs.YtgookagndlfehaaGreat.PT
open Go.RowKit Go.Proofs.YtgookagndlfehaaGreatW.PrintWords Go.Proofs.YtgookagndlfehaaGreatW.PrintLast Go.Proofs.YtgookagndlfehaaGreatW.PrintMore
attribute [local go_sem] zez zey zfh zff zed zd9 zex zew   -- for this text's walks alone
set_option linter.unusedVariables false
set_option linter.unusedSimpArgs false
def zeh.f (l0_0:List (S32)) (a0_1:Int) (a0_2:ByteArray) (a0_3:Int) (a1:Int):Option (Bool):=if a0_1>(wrap64 (1000000 - a1)) then(some true) else(some (decide (a0_3>(wrap64 (1000000 - a1)))))
theorem zeh.calls (A0_0:Option Addr) (c0_0:Nat) (l0_0:List (S32)) (a0_1:Int) (a0_2:ByteArray) (a0_3:Int) (a1:Int) (r:Bool) (w:World) (hr0_0:Kd.C k32 w A0_0 l0_0.length l0_0) (hc0_0:l0_0.length≤c0_0) (h:zeh.f l0_0 a0_1 a0_2 a0_3 a1=some r) :
  Calls Tryz.prog 33 #[.agg #[.slice A0_0 l0_0.length c0_0,.int .i64 a0_1,.string a0_2,.int .i64 a0_3],.int .i64 a1] w fun e w'=>e=.returned (.bool r)∧Below w.heap.size w w':=by
 have hu38:=Tryz.underlying38
 have HR0_0:=am_ hr0_0
 have HC0_0:=am_ hc0_0
 clear hr0_0 hc0_0
 have HB:=am_ (Below.refl w.heap.size w)
 have H:(if a0_1>(wrap64 (1000000 - a1)) then(some true) else(some (decide (a0_3>(wrap64 (1000000 - a1))))))=some r:=h
 clear h
 by_cases c3:a0_1>(wrap64 (1000000 - a1))
 ·
  rw [if_pos c3] at H
  have c3b0:decide ((wrap64 (1000000 - a1))<a0_1)=true:=decide_eq_true c3
  clear c3
  obtain rfl:=Option.some.inj H
  go_enter Tryz.func33,Tryz.ntmps33
  go_wp2_with (first|((with_reducible refine zad (N:=2) rfl ?_);refine zaj rfl (N:=2) rfl (cs:=#[.slice A0_0 l0_0.length c0_0,.int .i64 a0_1,.string a0_2,.int .i64 a0_3]) (t:=38) bx_ ?_;intro gb101 hg w4 hbox hb;replace BK101:=am_ (hbox);replace GW101:=am_ ((by rw [hg];exact(zaf qz2_):w.heap.size≤gb101));replace GE101:=GW101;replace HB:=am_ (zab qz2_ hb);clear hb hbox hg;obtain⟨hcz5_0,hcz5_1,hcz5_2,hcz5_3,hfz5_0,hfz5_1,hfz5_2,hfz5_3⟩:=bf4_ BK101.out))
  go_ret
  exact⟨qz4_,qz5_⟩
 ·
  rw [if_neg c3] at H
  have c3b0:decide ((wrap64 (1000000 - a1))<a0_1)=false:=decide_eq_false c3
  clear c3
  obtain rfl:=Option.some.inj H
  go_enter Tryz.func33,Tryz.ntmps33
  go_wp2_with (first|((with_reducible refine zad (N:=2) rfl ?_);refine zaj rfl (N:=2) rfl (cs:=#[.slice A0_0 l0_0.length c0_0,.int .i64 a0_1,.string a0_2,.int .i64 a0_3]) (t:=38) bx_ ?_;intro gb101 hg w6 hbox hb;replace BK101:=am_ (hbox);replace GW101:=am_ ((by rw [hg];exact(zaf qz2_):w.heap.size≤gb101));replace GE101:=GW101;replace HB:=am_ (zab qz2_ hb);clear hb hbox hg;obtain⟨hcz7_0,hcz7_1,hcz7_2,hcz7_3,hfz7_0,hfz7_1,hfz7_2,hfz7_3⟩:=bf4_ BK101.out))
  go_ret
  exact⟨qz4_,qz5_⟩
def zfe.f (l0_0:List (S32)) (a0_1:Int) (a0_2:ByteArray) (a0_3:Int):Option ((List (S32)) × Int × ByteArray × Int):=(some (([]:List (S32)):List (S32))).bind fun y103=>(if y103.length + l0_0.length<8796093022208 then(some ((y103++l0_0),a0_1,a0_2,a0_3)) else(none))
theorem zfe.calls (A0_0:Option Addr) (c0_0:Nat) (l0_0:List (S32)) (a0_1:Int) (a0_2:ByteArray) (a0_3:Int) (r1:List (S32)) (r2:Int) (r3:ByteArray) (r4:Int) (w:World) (hr0_0:Kd.C k32 w A0_0 l0_0.length l0_0) (hc0_0:l0_0.length≤c0_0) (h:zfe.f l0_0 a0_1 a0_2 a0_3=some (r1,r2,r3,r4)) :
  Calls Tryz.prog 35 #[.agg #[.slice A0_0 l0_0.length c0_0,.int .i64 a0_1,.string a0_2,.int .i64 a0_3]] w fun e w'=>∃ v0_:Value,e=.returned (.agg #[v0_,.int .i64 r2,.string r3,.int .i64 r4])∧Kd.R k32 32 w' w.heap.size (fun _=>True) v0_ r1∧Below w.heap.size w w':=by
 have hu38:=Tryz.underlying38
 have HR0_0:=am_ hr0_0
 have HC0_0:=am_ hc0_0
 clear hr0_0 hc0_0
 have HB:=am_ (Below.refl w.heap.size w)
 have H:((some (([]:List (S32)):List (S32))).bind fun y103=>(if y103.length + l0_0.length<8796093022208 then(some ((y103++l0_0),a0_1,a0_2,a0_3)) else(none)))=some (r1,r2,r3,r4):=h
 clear h
 obtain⟨y103,hy103⟩:∃ y_:List (S32),y_=(([]:List (S32))):=⟨_,rfl⟩
 replace H:(if y103.length + l0_0.length<8796093022208 then(some ((y103++l0_0),a0_1,a0_2,a0_3)) else(none))=some (r1,r2,r3,r4):=by first|(rw [hy103];with_reducible exact H)|(have H2_:=(Option.bind_some _ _).symm.trans H;rw [hy103];with_reducible exact H2_)|(have H2_:=(Option.bind_some _ _).symm.trans H;with_reducible exact H2_)|with_reducible exact H|(rw [hy103];exact H)|exact H
 have Ny103:=am_ hy103
 clear hy103
 by_cases c2:y103.length + l0_0.length<8796093022208
 ·
  rw [if_pos c2] at H
  have LMc2:=am_ c2
  clear c2
  obtain⟨y106,hy106⟩:∃ y_:List (S32),y_=(y103++l0_0):=⟨_,rfl⟩
  replace H:(some (y106,a0_1,a0_2,a0_3))=some (r1,r2,r3,r4):=by first|(rw [hy106];with_reducible exact H)|(have H2_:=(Option.bind_some _ _).symm.trans H;rw [hy106];with_reducible exact H2_)|(have H2_:=(Option.bind_some _ _).symm.trans H;with_reducible exact H2_)|with_reducible exact H|(rw [hy106];exact H)|exact H
  have Ny106:=am_ hy106
  clear hy106
  simp only [Option.some.injEq,Prod.mk.injEq] at H
  obtain⟨rfl,rfl,rfl,rfl⟩:=H
  go_enter Tryz.func35,Tryz.ntmps35
  go_wp2_with (first|((with_reducible refine zad (N:=1) rfl ?_);refine zaj rfl (N:=1) rfl (cs:=#[.slice A0_0 l0_0.length c0_0,.int .i64 a0_1,.string a0_2,.int .i64 a0_3]) (t:=38) bx_ ?_;intro gb101 hg w3 hbox hb;replace BK101:=am_ (hbox);replace GW101:=am_ ((by rw [hg];exact(zaf qz2_):w.heap.size≤gb101));replace GE101:=GW101;replace HB:=am_ (zab qz2_ hb);clear hb hbox hg)|((with_reducible refine zad (N:=2) rfl ?_);refine zaj rfl (N:=2) rfl (cs:=#[.slice none 0 0,.int .i64 0,.string (⟨#[]⟩:ByteArray),.int .i64 0]) (t:=38) bx_ ?_;intro gb102 hg w4 hbox hb;replace BK102:=am_ (hbox);replace GW102:=am_ ((by rw [hg];exact(zaf qz5_):w.heap.size≤gb102));replace GE102:=GW102;replace HB:=am_ (zab qz5_ hb);replace NB101_102:=am_ ((by rw [hg];exact Nat.ne_of_lt (zar (g:=gb101) (o:=.cells #[.slice A0_0 l0_0.length c0_0,.int .i64 a0_1,.string a0_2,.int .i64 a0_3] 38 (0,0)) qz6_):gb101≠gb102));replace NB102_101:=am_ ((by rw [hg];exact Nat.ne_of_gt (zar (g:=gb101) (o:=.cells #[.slice A0_0 l0_0.length c0_0,.int .i64 a0_1,.string a0_2,.int .i64 a0_3] 38 (0,0)) qz6_):gb102≠gb101));replace BK101:=am_ (zak (g:=gb101) (o:=.cells #[.slice A0_0 l0_0.length c0_0,.int .i64 a0_1,.string a0_2,.int .i64 a0_3] 38 (0,0)) qz6_ hb);clear hb hbox hg)|((with_reducible refine zad (N:=3) rfl ?_);refine Kd.R_lit k32 _ 32 ?hg (N:=3) ?hd (xs:=([]:List (S32))) (inner:=[]) (ok:=fun _=>True) (okp:=fun _=>True) ?hr ?hp (fun _ hk=>hk) trivial (Below.refl _ _) (Nat.le_refl _) (by simp) ?_;(case hd=>rfl);(case hg=>rfl);(case hr=>first|(go_simp;done)|(go_simp;rfl));(case hp=>exact(Reps.none _ _));intro v104 w5 ho6 hb hg_ hnew_;clear hg_ hnew_;(first|rw [←Ny103.out] at ho6|(simp only [Int.reduceToNat] at ho6;rw [←Ny103.out] at ho6));replace HO105:=am_ (Kd.zcw ho6 (zaf qz8_));replace BK101:=am_ (zak (g:=gb101) (o:=.cells #[.slice A0_0 l0_0.length c0_0,.int .i64 a0_1,.string a0_2,.int .i64 a0_3] 38 (0,0)) qz6_ hb);replace BK102:=am_ (zak (g:=gb102) (o:=.cells #[.slice none 0 0,.int .i64 0,.string (⟨#[]⟩:ByteArray),.int .i64 0] 38 (0,0)) qz7_ hb);replace HB:=am_ (zab qz8_ hb);clear hb ho6;have hnb7:=NB101_102.out;have hnc7:=NB102_101.out;obtain⟨hcz8_0,hcz8_1,hcz8_2,hcz8_3,hfz8_0,hfz8_1,hfz8_2,hfz8_3⟩:=bf4_ BK101.out)|((with_reducible refine zb5 (b:=.append) (xs:=#[.tmp 3,.tmp 5]) rfl ?_);at_builtin;refine Kd.ze0 k32 (w0:=w) w.heap.size rfl (.tmp 3) (.tmp 5) 36 32 (.agg #[(.int .i64 0),(.int .i64 0)]) 16 rfl Tryz.underlying36 zgb rfl (by decide) (by omega) v104 y103 l0_0 _ _ _ (fun _=>True) (fun _=>False) rfl rfl ?aO ?aR (fun _ _ h=>h) (fun _ h=>h.elim) ?aF ?aB ?aS ?aL ?_;(case aR=>exact qc_ (Kd.zbi HR0_0.out HB.out));(case aB=>exact qz8_);(case aF=>exact(fun _ _=>trivial));(case aO=>exact(by(with_reducible repeat(first|apply Kd.zbm|apply Kd.zbl|apply Kd.zbt));exact HO105.out));(case aS=>exact(zaf qz8_));(case aL=>have:=LMc2.out;omega);intro v107 w9 ho hb hg hat;rw [←Ny106.out] at ho;replace BK101:=am_ (ze2 (g:=gb101) (o:=.cells #[.slice A0_0 l0_0.length c0_0,.int .i64 a0_1,.string a0_2,.int .i64 a0_3] 38 (0,0)) qz6_ hg (Kd.R_ne HO105.out BK101.out (by decide)));replace BK102:=am_ (ze2 (g:=gb102) (o:=.cells #[.slice none 0 0,.int .i64 0,.string (⟨#[]⟩:ByteArray),.int .i64 0] 38 (0,0)) qz7_ hg (Kd.R_ne HO105.out BK102.out (by decide)));replace HB:=am_ (hb);replace HO108:=am_ (ho);clear HO105;clear ho hb hg hat;obtain⟨Ao10,co10,eo10⟩:=Kd.zcb HO108.out;subst eo10;obtain⟨hcz11_0,hcz11_1,hcz11_2,hcz11_3,hfz11_0,hfz11_1,hfz11_2,hfz11_3⟩:=bf4_ BK101.out;obtain⟨hcz12_0,hcz12_1,hcz12_2,hcz12_3,hfz12_0,hfz12_1,hfz12_2,hfz12_3⟩:=bf4_ BK102.out))
  refine bodyPost_ret (results_cell_row rfl _ _ gb102 38 #[.slice Ao10 y106.length co10,.int .i64 a0_1,.string a0_2,.int .i64 a0_3] (0,0) _ rfl (by(with_reducible repeat(first|refine zah ?_ _|refine zae ?_|refine zai ?_ _));refine za9 (cs:=#[.slice Ao10 y106.length co10,.int .i64 a0_1,.string a0_2,.int .i64 0]) ?_ 3 _ rfl;(with_reducible repeat(first|refine zah ?_ _|refine zae ?_|refine zai ?_ _));refine za9 (cs:=#[.slice Ao10 y106.length co10,.int .i64 a0_1,.string (⟨#[]⟩:ByteArray),.int .i64 0]) ?_ 2 _ rfl;(with_reducible repeat(first|refine zah ?_ _|refine zae ?_|refine zai ?_ _));refine za9 (cs:=#[.slice Ao10 y106.length co10,.int .i64 0,.string (⟨#[]⟩:ByteArray),.int .i64 0]) ?_ 1 _ rfl;(with_reducible repeat(first|refine zah ?_ _|refine zae ?_|refine zai ?_ _));refine za9 (cs:=#[.slice none 0 0,.int .i64 0,.string (⟨#[]⟩:ByteArray),.int .i64 0]) ?_ 0 _ rfl;(with_reducible repeat(first|refine zah ?_ _|refine zae ?_|refine zai ?_ _));refine zb8 ?_ NB102_101.out _;(with_reducible repeat(first|refine zah ?_ _|refine zae ?_|refine zai ?_ _));exact BK102.out) Tryz.underlying38 rfl (by kernel_rfl)) rfl ?_
  exact⟨_,by first|rfl|(simp [zc9,zda] <;> rfl)|(simp [*,zc9,zda] <;> rfl),by(with_reducible repeat(first|apply Kd.zbm|apply Kd.zbl|apply Kd.zbt));exact Kd.zba (Kd.R_far (p:=⟨gb102,3,none⟩) (Kd.R_far (p:=⟨gb102,2,none⟩) (Kd.R_far (p:=⟨gb102,1,none⟩) (Kd.R_far (p:=⟨gb102,0,none⟩) (Kd.R_far (p:=⟨gb101,0,none⟩) (Kd.zeq (Kd.zeq HO108.out BK101.out (by decide)) BK102.out (by decide)) (fun _ hk=>hk.1.2) (.slice Ao10 y106.length co10)) (fun _ hk=>hk.2) (.slice Ao10 y106.length co10)) (fun _ hk=>hk.2) (.int .i64 a0_1)) (fun _ hk=>hk.2) (.string a0_2)) (fun _ hk=>hk.2) (.int .i64 a0_3)) (fun _ hk=>trivial),by repeat(first|(with_reducible first|exact HB.out|apply za5|apply zaw|apply zao|refine za6 ?_ GE101.out|refine za6 ?_ GE102.out)|exact HB.out)⟩
 ·
  rw [if_neg c2] at H
  exact absurd H (by simp)
def zb9.l0:Nat→Int→Int→Int→Option (Bool)
 | 0,_,_,_=>none
 | k + 1,x0,x1,x5=>if x5≤x1 then(if x0=x5 then(some true) else(zb9.l0 k x0 x1 (wrap64 (x5 * 2)))) else(some false)
def zb9.f (k:Nat) (a0:Int) (a1:Int):Option (Bool):=zb9.l0 k a0 a1 1
theorem zb9.calls (k:Nat) (a0:Int) (a1:Int) (r:Bool) (w:World) (h:zb9.f k a0 a1=some r) :
  Calls Tryz.prog 59 #[.int .i64 a0,.int .i64 a1] w fun e w'=>e=.returned (.bool r)∧zbx w w':=by
 have H:(zb9.l0 k a0 a1 1)=some r:=h
 clear h
 have H':=am_ H
 clear H
 go_enter Tryz.func59,Tryz.ntmps59
 go_wp2
 go_loopg [5] k (fun kq v5 w'=>∃ (x5_1:Int),v5=.int .i64 x5_1∧zal (zb9.l0 kq a0 a1 x5_1=some r)∧zal (kq≤k)∧zbx w w')
 case atStart=>exact⟨(1),qz0_,H',⟨Nat.le_refl _⟩,by repeat(first|exact zbx.refl _|apply zbx.step)⟩
 case round=>
  clear H'
  try clear p2
  obtain⟨x5_1,rfl,HA,HK1,⟨m1,rfl⟩⟩:=hrel
  cases gk with
  | zero=>exact absurd HA.out (by simp [zb9.l0])
  | succ k1=>
   have H:=HA.out
   clear HA
   simp only [zb9.l0] at H
   by_cases c3:x5_1≤a1
   ·
    rw [if_pos c3] at H
    have c3b0:decide (x5_1≤a1)=true:=decide_eq_true c3
    clear c3
    by_cases c4:a0=x5_1
    ·
     rw [if_pos c4] at H
     have c4b0:(a0 == x5_1)=true:=beq_iff_eq.mpr c4
     have c4b1:(a0 != x5_1)=false:=bne_eq_false_iff_eq.mpr c4
     clear c4
     obtain rfl:=Option.some.inj H
     go_wp2
     go_ret
     exact⟨qz0_,qz1_⟩
    ·
     rw [if_neg c4] at H
     have c4b0:(a0 == x5_1)=false:=beq_eq_false_iff_ne.mpr c4
     have c4b1:(a0 != x5_1)=true:=bne_iff_ne.mpr c4
     have H':=am_ H
     clear H
     go_wp2
     go_roundg k1
     case measure=>have:=HK1.out;omega
     case rel=>exact⟨(wrap64 (x5_1 * 2)),qz0_,H',⟨qz13_⟩,by repeat(first|exact zbx.refl _|apply zbx.step)⟩
   ·
    rw [if_neg c3] at H
    have c3b0:decide (x5_1≤a1)=false:=decide_eq_false c3
    clear c3
    obtain rfl:=Option.some.inj H
    go_wp2
    go_ret
    exact⟨qz0_,qz1_⟩
def zd5.f (k:Nat) (a0:Int):Option (Bool):=(zb9.f k a0 64).bind fun t101=>(some t101)
theorem zd5.calls (k:Nat) (a0:Int) (r:Bool) (w:World) (h:zd5.f k a0=some r) :
  Calls Tryz.prog 56 #[.int .i64 a0] w fun e w'=>e=.returned (.bool r)∧zbx w w':=by
 have H:((zb9.f k a0 64).bind fun t101=>(some t101))=some r:=h
 clear h
 replace H:=Option.bind_eq_some_iff.mp H
 obtain⟨t101,A20,H⟩:=H
 replace H:(some t101)=some r:=H
 have A2:=am_ A20
 clear A20
 obtain rfl:=Option.some.inj H
 go_enter Tryz.func56,Tryz.ntmps56
 go_wp2_with (first|((with_reducible refine zan (f:=59) rfl ?_);refine gl_ (some 4) Tryz.func59 #[.int .i64 a0,.int .i64 64] ?_;(with_reducible refine(zb9.calls k a0 64 t101 _ A2.out).mono ?_);rintro e w' ⟨rfl,⟨nd,rfl⟩⟩;refine⟨_,rfl,?_⟩))
 go_ret
 exact⟨qz0_,qz1_⟩
def zc0.f (k:Nat) (l0:List (S32)):Option (Bool):=if (l0.length:Int)>4096 then(some false) else((zd5.f k (l0.length:Int)).bind fun t101=>(if t101=true then((zbk.f k l0).bind fun t102=>(some t102)) else(some false)))
theorem zc0.calls (k:Nat) (A0:Option Addr) (c0:Nat) (l0:List (S32)) (r:Bool) (w:World) (hr0:Kd.C k32 w A0 l0.length l0) (hc0:l0.length≤c0) (h:zc0.f k l0=some r) :
  Calls Tryz.prog 28 #[.slice A0 l0.length c0] w fun e w'=>e=.returned (.bool r)∧Below w.heap.size w w':=by
 have HR0:=am_ hr0
 have HC0:=am_ hc0
 clear hr0 hc0
 have HB:=am_ (Below.refl w.heap.size w)
 have H:(if (l0.length:Int)>4096 then(some false) else((zd5.f k (l0.length:Int)).bind fun t101=>(if t101=true then((zbk.f k l0).bind fun t102=>(some t102)) else(some false))))=some r:=h
 clear h
 by_cases c2:(l0.length:Int)>4096
 ·
  rw [if_pos c2] at H
  have c2b0:decide (4096<(l0.length:Int))=true:=decide_eq_true c2
  have c2b1:decide (4096<l0.length)=true:=decide_eq_true (by omega)
  clear c2
  obtain rfl:=Option.some.inj H
  go_enter Tryz.func28,Tryz.ntmps28
  go_wp2
  go_ret
  exact⟨qz4_,qz2_⟩
 ·
  rw [if_neg c2] at H
  have c2b0:decide (4096<(l0.length:Int))=false:=decide_eq_false c2
  have c2b1:decide (4096<l0.length)=false:=decide_eq_false (by omega)
  clear c2
  replace H:=Option.bind_eq_some_iff.mp H
  obtain⟨t101,A30,H⟩:=H
  replace H:(if t101=true then((zbk.f k l0).bind fun t102=>(some t102)) else(some false))=some r:=H
  have A3:=am_ A30
  clear A30
  by_cases c4:t101=true
  ·
   subst c4
   have H1:((zbk.f k l0).bind fun t102=>(some t102))=some r:=by rw [if_pos rfl] at H;exact H
   clear H
   have H:=H1
   clear H1
   replace H:=Option.bind_eq_some_iff.mp H
   obtain⟨t102,A50,H⟩:=H
   replace H:(some t102)=some r:=H
   have A5:=am_ A50
   clear A50
   obtain rfl:=Option.some.inj H
   go_enter Tryz.func28,Tryz.ntmps28
   go_wp2_with (first|((with_reducible refine zan (f:=56) rfl ?_);refine gl_ (some 8) Tryz.func56 #[.int .i64 (l0.length:Int)] ?_;(with_reducible refine(zd5.calls k (l0.length:Int) true _ A3.out).mono ?_);rintro e w' ⟨rfl,⟨nd,rfl⟩⟩;refine⟨_,rfl,?_⟩)|(go_at_call 57;(with_reducible refine(zbk.calls k _ _ l0 t102 _ ?side1 ?side2 A5.out).mono ?_);(case side1=>exact qc_ HR0.out);(case side2=>exact HC0.out);rintro e w6 ⟨rfl,hb⟩;replace HB:=am_ (zab qz2_ hb);(try clear hb);(try clear hb2);(try clear hk);(try clear hi)))
   go_ret
   exact⟨qz4_,qz2_⟩
  ·
   replace c4:=Bool.eq_false_iff.mpr c4
   subst c4
   have H1:(some false)=some r:=by rw [if_neg (show ¬(false=true) by decide)] at H;exact H
   clear H
   have H:=H1
   clear H1
   obtain rfl:=Option.some.inj H
   go_enter Tryz.func28,Tryz.ntmps28
   go_wp2_with (first|((with_reducible refine zan (f:=56) rfl ?_);refine gl_ (some 8) Tryz.func56 #[.int .i64 (l0.length:Int)] ?_;(with_reducible refine(zd5.calls k (l0.length:Int) false _ A3.out).mono ?_);rintro e w' ⟨rfl,⟨nd,rfl⟩⟩;refine⟨_,rfl,?_⟩))
   go_ret
   exact⟨qz4_,qz2_⟩
def zdb.f (a0:Int):Option (Bool):=if a0=1 then(some true) else(some (a0 == 2))
theorem zdb.calls (a0:Int) (r:Bool) (w:World) (h:zdb.f a0=some r) :
  Calls Tryz.prog 99 #[.int .i64 a0] w fun e w'=>e=.returned (.bool r)∧zbx w w':=by
 have H:(if a0=1 then(some true) else(some (a0 == 2)))=some r:=h
 clear h
 by_cases c2:a0=1
 ·
  rw [if_pos c2] at H
  have c2b0:(a0 == 1)=true:=beq_iff_eq.mpr c2
  have c2b1:(a0 != 1)=false:=bne_eq_false_iff_eq.mpr c2
  clear c2
  obtain rfl:=Option.some.inj H
  go_enter Tryz.func99,Tryz.ntmps99
  go_wp2
  go_ret
  exact⟨qz0_,qz1_⟩
 ·
  rw [if_neg c2] at H
  have c2b0:(a0 == 1)=false:=beq_eq_false_iff_ne.mpr c2
  have c2b1:(a0 != 1)=true:=bne_iff_ne.mpr c2
  obtain rfl:=Option.some.inj H
  go_enter Tryz.func99,Tryz.ntmps99
  go_wp2
  go_ret
  exact⟨qz0_,qz1_⟩
def zc3.f (a0:Int):Option (Int):=some (wrap64 (2 * a0))
theorem zc3.calls (a0:Int) (r:Int) (w:World) (h:zc3.f a0=some r) :
  Calls Tryz.prog 100 #[.int .i64 a0] w fun e w'=>e=.returned (.int .i64 r)∧zbx w w':=by
 have H:(some (wrap64 (2 * a0)))=some r:=h
 clear h
 obtain rfl:=Option.some.inj H
 go_enter Tryz.func100,Tryz.ntmps100
 go_wp2
 go_ret
 exact⟨qz0_,qz1_⟩
mutual
def zax.j0:Nat→List (List (S32))→Bool→Option (Int)
 | 0,_,_=>none
 | k + 1,x1,x18=>if x18=true then(some 4) else(zax.l0 k x1 0)
def zax.l0:Nat→List (List (S32))→Int→Option (Int)
 | 0,_,_=>none
 | k + 1,x1,x5=>if x5<(x1.length:Int) then(if 0≤x5 then((zc0.f k (rd_L3 x1 x5)).bind fun t104=>(if t104=true then(if 0<(x1.length:Int) then(if ((rd_L3 x1 x5).length:Int)=((rd_L3 x1 0).length:Int) then(zax.l0 k x1 (wrap64 (x5 + 1))) else(some 8)) else(none)) else(some 1))) else(none)) else(some 0)
end
def zax.f (k:Nat) (a0:Int) (l1:List (List (S32))):Option (Int):=if (l1.length:Int)>4096 then(some 2) else((zdb.f a0).bind fun t101=>(if t101=true then((zc3.f a0).bind fun t102=>(zax.j0 k l1 ((l1.length:Int) != t102))) else(zax.j0 k l1 true)))
theorem zax.calls (k:Nat) (a0:Int) (A1:Option Addr) (c1:Nat) (l1:List (List (S32))) (r:Int) (w:World) (hr1:Kd.C (Kd.slice 32 k32) w A1 l1.length l1) (hc1:l1.length≤c1) (h:zax.f k a0 l1=some r) :
  Calls Tryz.prog 51 #[.int .i64 a0,.slice A1 l1.length c1] w fun e w'=>e=.returned (.int .i64 r)∧Below w.heap.size w w':=by
 have HR1:=am_ hr1
 have HC1:=am_ hc1
 clear hr1 hc1
 have HB:=am_ (Below.refl w.heap.size w)
 have H:(if (l1.length:Int)>4096 then(some 2) else((zdb.f a0).bind fun t101=>(if t101=true then((zc3.f a0).bind fun t102=>(zax.j0 k l1 ((l1.length:Int) != t102))) else(zax.j0 k l1 true))))=some r:=h
 clear h
 by_cases c3:(l1.length:Int)>4096
 ·
  rw [if_pos c3] at H
  have c3b0:decide (4096<(l1.length:Int))=true:=decide_eq_true c3
  have c3b1:decide (4096<l1.length)=true:=decide_eq_true (by omega)
  clear c3
  obtain rfl:=Option.some.inj H
  go_enter Tryz.func51,Tryz.ntmps51
  go_wp2
  repeat(go_quiet (fail);try go_wp2)
  go_ret
  exact⟨qz4_,qz2_⟩
 ·
  rw [if_neg c3] at H
  have c3b0:decide (4096<(l1.length:Int))=false:=decide_eq_false c3
  have c3b1:decide (4096<l1.length)=false:=decide_eq_false (by omega)
  clear c3
  have HC4:=am_ H
  clear H
  go_enter Tryz.func51,Tryz.ntmps51
  go_upto_region 3 with (fail)
  repeat(go_quiet (fail);go_upto_region 3 with (fail))
  go_cut [18] (fun v18 wc=>∃ (kq:Nat) (x18_3:Bool),v18=.bool x18_3∧zal (zax.j0 kq l1 x18_3=some r)∧zal (kq≤k)∧zal (Below w.heap.size w wc))
  case first=>
   have H:=HC4.out
   clear HC4
   replace H:=Option.bind_eq_some_iff.mp H
   obtain⟨t101,A50,H⟩:=H
   replace H:(if t101=true then((zc3.f a0).bind fun t102=>(zax.j0 k l1 ((l1.length:Int) != t102))) else(zax.j0 k l1 true))=some r:=H
   have A5:=am_ A50
   clear A50
   by_cases c6:t101=true
   ·
    subst c6
    have H1:((zc3.f a0).bind fun t102=>(zax.j0 k l1 ((l1.length:Int) != t102)))=some r:=by rw [if_pos rfl] at H;exact H
    clear H
    have H:=H1
    clear H1
    replace H:=Option.bind_eq_some_iff.mp H
    obtain⟨t102,A70,H⟩:=H
    replace H:(zax.j0 k l1 ((l1.length:Int) != t102))=some r:=H
    have A7:=am_ A70
    clear A70
    have H':=am_ H
    clear H
    go_wp2_with (first|(go_at_call 99;(with_reducible refine(zdb.calls a0 true _ A5.out).mono ?_);rintro e w' ⟨rfl,⟨nd,rfl⟩⟩;(try first|exact⟨rfl,_,qd1_⟩|exact⟨rfl,_,qd2_⟩))|(go_at_call 100;(with_reducible refine(zc3.calls a0 t102 _ A7.out).mono ?_);rintro e w' ⟨rfl,⟨nd,rfl⟩⟩;(try first|exact⟨rfl,_,qd1_⟩|exact⟨rfl,_,qd2_⟩)))
    repeat(go_quiet (first|(go_at_call 99;(with_reducible refine(zdb.calls a0 true _ A5.out).mono ?_);rintro e w' ⟨rfl,⟨nd,rfl⟩⟩;(try first|exact⟨rfl,_,qd1_⟩|exact⟨rfl,_,qd2_⟩))|(go_at_call 100;(with_reducible refine(zc3.calls a0 t102 _ A7.out).mono ?_);rintro e w' ⟨rfl,⟨nd,rfl⟩⟩;(try first|exact⟨rfl,_,qd1_⟩|exact⟨rfl,_,qd2_⟩)));try go_wp2_with (first|(go_at_call 99;(with_reducible refine(zdb.calls a0 true _ A5.out).mono ?_);rintro e w' ⟨rfl,⟨nd,rfl⟩⟩;(try first|exact⟨rfl,_,qd1_⟩|exact⟨rfl,_,qd2_⟩))|(go_at_call 100;(with_reducible refine(zc3.calls a0 t102 _ A7.out).mono ?_);rintro e w' ⟨rfl,⟨nd,rfl⟩⟩;(try first|exact⟨rfl,_,qd1_⟩|exact⟨rfl,_,qd2_⟩))))
    go_meet
    case rel=>exact⟨_,(((l1.length:Int) != t102)),qz0_,H',⟨(by first|omega|exact Nat.le_refl _)⟩,⟨qz2_⟩⟩
   ·
    replace c6:=Bool.eq_false_iff.mpr c6
    subst c6
    have H1:(zax.j0 k l1 true)=some r:=by rw [if_neg (show ¬(false=true) by decide)] at H;exact H
    clear H
    have H:=H1
    clear H1
    have H':=am_ H
    clear H
    go_wp2_with (first|(go_at_call 99;(with_reducible refine(zdb.calls a0 false _ A5.out).mono ?_);rintro e w' ⟨rfl,⟨nd,rfl⟩⟩;(try first|exact⟨rfl,_,qd1_⟩|exact⟨rfl,_,qd2_⟩)))
    repeat(go_quiet (first|(go_at_call 99;(with_reducible refine(zdb.calls a0 false _ A5.out).mono ?_);rintro e w' ⟨rfl,⟨nd,rfl⟩⟩;(try first|exact⟨rfl,_,qd1_⟩|exact⟨rfl,_,qd2_⟩)));try go_wp2_with (first|(go_at_call 99;(with_reducible refine(zdb.calls a0 false _ A5.out).mono ?_);rintro e w' ⟨rfl,⟨nd,rfl⟩⟩;(try first|exact⟨rfl,_,qd1_⟩|exact⟨rfl,_,qd2_⟩))))
    go_meet
    case rel=>exact⟨_,(true),qz0_,H',⟨(by first|omega|exact Nat.le_refl _)⟩,⟨qz2_⟩⟩
  case rest=>
   clear HC4
   try clear c1
   try clear p2
   try clear c3
   try clear c3b0
   try clear c3b1
   try clear c5
   try clear c6
   obtain⟨kq,x18_3,rfl,HA,HJ3,HB⟩:=hcut
   cases kq with
   | zero=>exact absurd HA.out (by simp [zax.j0])
   | succ kj3=>
    have H:=HA.out
    clear HA
    simp only [zax.j0] at H
    by_cases c8:x18_3=true
    ·
     subst c8
     have H1:(some 4)=some r:=by rw [if_pos rfl] at H;exact H
     clear H
     have H:=H1
     clear H1
     obtain rfl:=Option.some.inj H
     go_wp2
     repeat(go_quiet (fail);try go_wp2)
     go_ret
     exact⟨qz4_,qz2_⟩
    ·
     replace c8:=Bool.eq_false_iff.mpr c8
     subst c8
     have H1:(zax.l0 kj3 l1 0)=some r:=by rw [if_neg (show ¬(false=true) by decide)] at H;exact H
     clear H
     have H:=H1
     clear H1
     have H':=am_ H
     clear H
     go_wp2
     repeat(go_quiet (fail);try go_wp2)
     go_loopg [5] kj3 (fun kq v5 w'=>∃ (x5_2:Int),v5=.int .i64 x5_2∧zal (zax.l0 kq l1 x5_2=some r)∧zal (kq≤kj3)∧zal (Below w.heap.size w w'))
     case atStart=>exact⟨(0),qz0_,H',⟨Nat.le_refl _⟩,⟨qz2_⟩⟩
     case round=>
      clear H'
      try clear c1
      try clear p2
      try clear c3
      try clear c3b0
      try clear c3b1
      try clear c5
      try clear c6
      try clear c8
      try clear p2
      obtain⟨x5_2,rfl,HA,HK2,HB⟩:=hrel
      cases gk with
      | zero=>exact absurd HA.out (by simp [zax.l0])
      | succ k2=>
       have H:=HA.out
       clear HA
       simp only [zax.l0] at H
       by_cases c9:x5_2<(l1.length:Int)
       ·
        rw [if_pos c9] at H
        have c9b0:decide (x5_2<(l1.length:Int))=true:=decide_eq_true c9
        clear c9
        by_cases c10:0≤x5_2
        ·
         rw [if_pos c10] at H
         have c10b0:decide (0≤x5_2)=true:=decide_eq_true c10
         clear c10
         replace H:=Option.bind_eq_some_iff.mp H
         obtain⟨t104,A110,H⟩:=H
         replace H:(if t104=true then(if 0<(l1.length:Int) then(if ((rd_L3 l1 x5_2).length:Int)=((rd_L3 l1 0).length:Int) then(zax.l0 k2 l1 (wrap64 (x5_2 + 1))) else(some 8)) else(none)) else(some 1))=some r:=H
         have A11:=am_ A110
         clear A110
         by_cases c12:t104=true
         ·
          subst c12
          have H1:(if 0<(l1.length:Int) then(if ((rd_L3 l1 x5_2).length:Int)=((rd_L3 l1 0).length:Int) then(zax.l0 k2 l1 (wrap64 (x5_2 + 1))) else(some 8)) else(none))=some r:=by rw [if_pos rfl] at H;exact H
          clear H
          have H:=H1
          clear H1
          by_cases c13:0<(l1.length:Int)
          ·
           rw [if_pos c13] at H
           have c13b0:decide (0<(l1.length:Int))=true:=decide_eq_true c13
           have c13b1:decide (0<l1.length)=true:=decide_eq_true (by omega)
           clear c13
           by_cases c14:((rd_L3 l1 x5_2).length:Int)=((rd_L3 l1 0).length:Int)
           ·
            rw [if_pos c14] at H
            have c14b0:(((rd_L3 l1 x5_2).length:Int) == ((rd_L3 l1 0).length:Int))=true:=beq_iff_eq.mpr c14
            have c14b1:(((rd_L3 l1 x5_2).length:Int) != ((rd_L3 l1 0).length:Int))=false:=bne_eq_false_iff_eq.mpr c14
            have c14b2:((rd_L3 l1 x5_2).length == (rd_L3 l1 0).length)=true:=by first|simpa using c14|(simp at c14 ⊢;omega)
            clear c14
            have H':=am_ H
            clear H
            have p103:0≤(x5_2:Int):=of_decide_eq_true qz10_
            have q103:x5_2<(l1.length:Int):=of_decide_eq_true qz10_
            obtain⟨ad103,A103_0,c103_0,e103,hx103_0,hl103_0,hi103_0⟩:=at_L3 HR1.out x5_2 p103 q103
            cases e103
            replace hx103_0:=(HB.out.cell (World.block_lt_of_cell? w _ hx103_0)).trans hx103_0
            have HR103_0:=am_ hi103_0
            have HC103_0:=am_ hl103_0
            clear hi103_0 hl103_0
            replace p103:=eq_true p103
            replace q103:=eq_true q103
            go_wp2_with (first|(go_at_call 28;(with_reducible refine(zc0.calls k2 _ _ (rd_L3 l1 x5_2) true _ ?side1 ?side2 A11.out).mono ?_);(case side1=>exact qc_ (Kd.zbi HR103_0.out HB.out));(case side2=>exact HC103_0.out);rintro e w15 ⟨rfl,hb⟩;replace HB:=am_ (zab qz2_ hb);(try clear hb);(try clear hb2);(try clear hk);(try clear hi);have p105:0≤(x5_2:Int):=of_decide_eq_true qz10_;have q105:x5_2<(l1.length:Int):=of_decide_eq_true qz10_;obtain⟨ad105,A105_0,c105_0,e105,hx105_0,hl105_0,hi105_0⟩:=at_L3 HR1.out x5_2 p105 q105;obtain rfl:ad103=ad105:=(by injection e105);replace hx105_0:=(HB.out.cell (World.block_lt_of_cell? w _ hx105_0)).trans hx105_0;have HR105_0:=am_ hi105_0;have HC105_0:=am_ hl105_0;clear hi105_0 hl105_0;replace p105:=eq_true p105;replace q105:=eq_true q105;have p106:0≤(0:Int):=(by omega);have q106:0<(l1.length:Int):=of_decide_eq_true qz10_;obtain⟨ad106,A106_0,c106_0,e106,hx106_0,hl106_0,hi106_0⟩:=at_L3 HR1.out 0 p106 q106;obtain rfl:ad103=ad106:=(by injection e106);have qi106:(0<l1.length)=True:=eq_true (by omega);(try rw [show ((0:Int)).toNat=0 from rfl] at hx106_0);(try rw [Addr.add_zero'] at hx106_0);replace hx106_0:=(HB.out.cell (World.block_lt_of_cell? w _ hx106_0)).trans hx106_0;have HR106_0:=am_ hi106_0;have HC106_0:=am_ hl106_0;clear hi106_0 hl106_0;replace p106:=eq_true p106;replace q106:=eq_true q106))
            repeat(go_quiet (first|(go_at_call 28;(with_reducible refine(zc0.calls k2 _ _ (rd_L3 l1 x5_2) true _ ?side1 ?side2 A11.out).mono ?_);(case side1=>exact qc_ (Kd.zbi HR103_0.out HB.out));(case side2=>exact HC103_0.out);rintro e w15 ⟨rfl,hb⟩;replace HB:=am_ (zab qz2_ hb);(try clear hb);(try clear hb2);(try clear hk);(try clear hi);have p105:0≤(x5_2:Int):=of_decide_eq_true qz10_;have q105:x5_2<(l1.length:Int):=of_decide_eq_true qz10_;obtain⟨ad105,A105_0,c105_0,e105,hx105_0,hl105_0,hi105_0⟩:=at_L3 HR1.out x5_2 p105 q105;obtain rfl:ad103=ad105:=(by injection e105);replace hx105_0:=(HB.out.cell (World.block_lt_of_cell? w _ hx105_0)).trans hx105_0;have HR105_0:=am_ hi105_0;have HC105_0:=am_ hl105_0;clear hi105_0 hl105_0;replace p105:=eq_true p105;replace q105:=eq_true q105;have p106:0≤(0:Int):=(by omega);have q106:0<(l1.length:Int):=of_decide_eq_true qz10_;obtain⟨ad106,A106_0,c106_0,e106,hx106_0,hl106_0,hi106_0⟩:=at_L3 HR1.out 0 p106 q106;obtain rfl:ad103=ad106:=(by injection e106);have qi106:(0<l1.length)=True:=eq_true (by omega);(try rw [show ((0:Int)).toNat=0 from rfl] at hx106_0);(try rw [Addr.add_zero'] at hx106_0);replace hx106_0:=(HB.out.cell (World.block_lt_of_cell? w _ hx106_0)).trans hx106_0;have HR106_0:=am_ hi106_0;have HC106_0:=am_ hl106_0;clear hi106_0 hl106_0;replace p106:=eq_true p106;replace q106:=eq_true q106));try go_wp2_with (first|(go_at_call 28;(with_reducible refine(zc0.calls k2 _ _ (rd_L3 l1 x5_2) true _ ?side1 ?side2 A11.out).mono ?_);(case side1=>exact qc_ (Kd.zbi HR103_0.out HB.out));(case side2=>exact HC103_0.out);rintro e w15 ⟨rfl,hb⟩;replace HB:=am_ (zab qz2_ hb);(try clear hb);(try clear hb2);(try clear hk);(try clear hi);have p105:0≤(x5_2:Int):=of_decide_eq_true qz10_;have q105:x5_2<(l1.length:Int):=of_decide_eq_true qz10_;obtain⟨ad105,A105_0,c105_0,e105,hx105_0,hl105_0,hi105_0⟩:=at_L3 HR1.out x5_2 p105 q105;obtain rfl:ad103=ad105:=(by injection e105);replace hx105_0:=(HB.out.cell (World.block_lt_of_cell? w _ hx105_0)).trans hx105_0;have HR105_0:=am_ hi105_0;have HC105_0:=am_ hl105_0;clear hi105_0 hl105_0;replace p105:=eq_true p105;replace q105:=eq_true q105;have p106:0≤(0:Int):=(by omega);have q106:0<(l1.length:Int):=of_decide_eq_true qz10_;obtain⟨ad106,A106_0,c106_0,e106,hx106_0,hl106_0,hi106_0⟩:=at_L3 HR1.out 0 p106 q106;obtain rfl:ad103=ad106:=(by injection e106);have qi106:(0<l1.length)=True:=eq_true (by omega);(try rw [show ((0:Int)).toNat=0 from rfl] at hx106_0);(try rw [Addr.add_zero'] at hx106_0);replace hx106_0:=(HB.out.cell (World.block_lt_of_cell? w _ hx106_0)).trans hx106_0;have HR106_0:=am_ hi106_0;have HC106_0:=am_ hl106_0;clear hi106_0 hl106_0;replace p106:=eq_true p106;replace q106:=eq_true q106)))
            go_roundg k2
            case measure=>have:=HJ3.out;have:=HK2.out;omega
            case rel=>exact⟨(wrap64 (x5_2 + 1)),qz0_,H',⟨(by have:=HJ3.out;have:=HK2.out;omega)⟩,⟨qz2_⟩⟩
           ·
            rw [if_neg c14] at H
            have c14b0:(((rd_L3 l1 x5_2).length:Int) == ((rd_L3 l1 0).length:Int))=false:=beq_eq_false_iff_ne.mpr c14
            have c14b1:(((rd_L3 l1 x5_2).length:Int) != ((rd_L3 l1 0).length:Int))=true:=bne_iff_ne.mpr c14
            have c14b2:((rd_L3 l1 x5_2).length == (rd_L3 l1 0).length)=false:=by first|simpa using c14|(simp at c14 ⊢;omega)
            obtain rfl:=Option.some.inj H
            have p103:0≤(x5_2:Int):=of_decide_eq_true qz10_
            have q103:x5_2<(l1.length:Int):=of_decide_eq_true qz10_
            obtain⟨ad103,A103_0,c103_0,e103,hx103_0,hl103_0,hi103_0⟩:=at_L3 HR1.out x5_2 p103 q103
            cases e103
            replace hx103_0:=(HB.out.cell (World.block_lt_of_cell? w _ hx103_0)).trans hx103_0
            have HR103_0:=am_ hi103_0
            have HC103_0:=am_ hl103_0
            clear hi103_0 hl103_0
            replace p103:=eq_true p103
            replace q103:=eq_true q103
            go_wp2_with (first|(go_at_call 28;(with_reducible refine(zc0.calls k2 _ _ (rd_L3 l1 x5_2) true _ ?side1 ?side2 A11.out).mono ?_);(case side1=>exact qc_ (Kd.zbi HR103_0.out HB.out));(case side2=>exact HC103_0.out);rintro e w16 ⟨rfl,hb⟩;replace HB:=am_ (zab qz2_ hb);(try clear hb);(try clear hb2);(try clear hk);(try clear hi);have p105:0≤(x5_2:Int):=of_decide_eq_true qz10_;have q105:x5_2<(l1.length:Int):=of_decide_eq_true qz10_;obtain⟨ad105,A105_0,c105_0,e105,hx105_0,hl105_0,hi105_0⟩:=at_L3 HR1.out x5_2 p105 q105;obtain rfl:ad103=ad105:=(by injection e105);replace hx105_0:=(HB.out.cell (World.block_lt_of_cell? w _ hx105_0)).trans hx105_0;have HR105_0:=am_ hi105_0;have HC105_0:=am_ hl105_0;clear hi105_0 hl105_0;replace p105:=eq_true p105;replace q105:=eq_true q105;have p106:0≤(0:Int):=(by omega);have q106:0<(l1.length:Int):=of_decide_eq_true qz10_;obtain⟨ad106,A106_0,c106_0,e106,hx106_0,hl106_0,hi106_0⟩:=at_L3 HR1.out 0 p106 q106;obtain rfl:ad103=ad106:=(by injection e106);have qi106:(0<l1.length)=True:=eq_true (by omega);(try rw [show ((0:Int)).toNat=0 from rfl] at hx106_0);(try rw [Addr.add_zero'] at hx106_0);replace hx106_0:=(HB.out.cell (World.block_lt_of_cell? w _ hx106_0)).trans hx106_0;have HR106_0:=am_ hi106_0;have HC106_0:=am_ hl106_0;clear hi106_0 hl106_0;replace p106:=eq_true p106;replace q106:=eq_true q106))
            repeat(go_quiet (first|(go_at_call 28;(with_reducible refine(zc0.calls k2 _ _ (rd_L3 l1 x5_2) true _ ?side1 ?side2 A11.out).mono ?_);(case side1=>exact qc_ (Kd.zbi HR103_0.out HB.out));(case side2=>exact HC103_0.out);rintro e w16 ⟨rfl,hb⟩;replace HB:=am_ (zab qz2_ hb);(try clear hb);(try clear hb2);(try clear hk);(try clear hi);have p105:0≤(x5_2:Int):=of_decide_eq_true qz10_;have q105:x5_2<(l1.length:Int):=of_decide_eq_true qz10_;obtain⟨ad105,A105_0,c105_0,e105,hx105_0,hl105_0,hi105_0⟩:=at_L3 HR1.out x5_2 p105 q105;obtain rfl:ad103=ad105:=(by injection e105);replace hx105_0:=(HB.out.cell (World.block_lt_of_cell? w _ hx105_0)).trans hx105_0;have HR105_0:=am_ hi105_0;have HC105_0:=am_ hl105_0;clear hi105_0 hl105_0;replace p105:=eq_true p105;replace q105:=eq_true q105;have p106:0≤(0:Int):=(by omega);have q106:0<(l1.length:Int):=of_decide_eq_true qz10_;obtain⟨ad106,A106_0,c106_0,e106,hx106_0,hl106_0,hi106_0⟩:=at_L3 HR1.out 0 p106 q106;obtain rfl:ad103=ad106:=(by injection e106);have qi106:(0<l1.length)=True:=eq_true (by omega);(try rw [show ((0:Int)).toNat=0 from rfl] at hx106_0);(try rw [Addr.add_zero'] at hx106_0);replace hx106_0:=(HB.out.cell (World.block_lt_of_cell? w _ hx106_0)).trans hx106_0;have HR106_0:=am_ hi106_0;have HC106_0:=am_ hl106_0;clear hi106_0 hl106_0;replace p106:=eq_true p106;replace q106:=eq_true q106));try go_wp2_with (first|(go_at_call 28;(with_reducible refine(zc0.calls k2 _ _ (rd_L3 l1 x5_2) true _ ?side1 ?side2 A11.out).mono ?_);(case side1=>exact qc_ (Kd.zbi HR103_0.out HB.out));(case side2=>exact HC103_0.out);rintro e w16 ⟨rfl,hb⟩;replace HB:=am_ (zab qz2_ hb);(try clear hb);(try clear hb2);(try clear hk);(try clear hi);have p105:0≤(x5_2:Int):=of_decide_eq_true qz10_;have q105:x5_2<(l1.length:Int):=of_decide_eq_true qz10_;obtain⟨ad105,A105_0,c105_0,e105,hx105_0,hl105_0,hi105_0⟩:=at_L3 HR1.out x5_2 p105 q105;obtain rfl:ad103=ad105:=(by injection e105);replace hx105_0:=(HB.out.cell (World.block_lt_of_cell? w _ hx105_0)).trans hx105_0;have HR105_0:=am_ hi105_0;have HC105_0:=am_ hl105_0;clear hi105_0 hl105_0;replace p105:=eq_true p105;replace q105:=eq_true q105;have p106:0≤(0:Int):=(by omega);have q106:0<(l1.length:Int):=of_decide_eq_true qz10_;obtain⟨ad106,A106_0,c106_0,e106,hx106_0,hl106_0,hi106_0⟩:=at_L3 HR1.out 0 p106 q106;obtain rfl:ad103=ad106:=(by injection e106);have qi106:(0<l1.length)=True:=eq_true (by omega);(try rw [show ((0:Int)).toNat=0 from rfl] at hx106_0);(try rw [Addr.add_zero'] at hx106_0);replace hx106_0:=(HB.out.cell (World.block_lt_of_cell? w _ hx106_0)).trans hx106_0;have HR106_0:=am_ hi106_0;have HC106_0:=am_ hl106_0;clear hi106_0 hl106_0;replace p106:=eq_true p106;replace q106:=eq_true q106)))
            go_ret
            exact⟨qz4_,qz2_⟩
          ·
           rw [if_neg c13] at H
           exact absurd H (by simp)
         ·
          replace c12:=Bool.eq_false_iff.mpr c12
          subst c12
          have H1:(some 1)=some r:=by rw [if_neg (show ¬(false=true) by decide)] at H;exact H
          clear H
          have H:=H1
          clear H1
          obtain rfl:=Option.some.inj H
          have p103:0≤(x5_2:Int):=of_decide_eq_true qz10_
          have q103:x5_2<(l1.length:Int):=of_decide_eq_true qz10_
          obtain⟨ad103,A103_0,c103_0,e103,hx103_0,hl103_0,hi103_0⟩:=at_L3 HR1.out x5_2 p103 q103
          cases e103
          replace hx103_0:=(HB.out.cell (World.block_lt_of_cell? w _ hx103_0)).trans hx103_0
          have HR103_0:=am_ hi103_0
          have HC103_0:=am_ hl103_0
          clear hi103_0 hl103_0
          replace p103:=eq_true p103
          replace q103:=eq_true q103
          go_wp2_with (first|(go_at_call 28;(with_reducible refine(zc0.calls k2 _ _ (rd_L3 l1 x5_2) false _ ?side1 ?side2 A11.out).mono ?_);(case side1=>exact qc_ (Kd.zbi HR103_0.out HB.out));(case side2=>exact HC103_0.out);rintro e w17 ⟨rfl,hb⟩;replace HB:=am_ (zab qz2_ hb);(try clear hb);(try clear hb2);(try clear hk);(try clear hi)))
          repeat(go_quiet (first|(go_at_call 28;(with_reducible refine(zc0.calls k2 _ _ (rd_L3 l1 x5_2) false _ ?side1 ?side2 A11.out).mono ?_);(case side1=>exact qc_ (Kd.zbi HR103_0.out HB.out));(case side2=>exact HC103_0.out);rintro e w17 ⟨rfl,hb⟩;replace HB:=am_ (zab qz2_ hb);(try clear hb);(try clear hb2);(try clear hk);(try clear hi)));try go_wp2_with (first|(go_at_call 28;(with_reducible refine(zc0.calls k2 _ _ (rd_L3 l1 x5_2) false _ ?side1 ?side2 A11.out).mono ?_);(case side1=>exact qc_ (Kd.zbi HR103_0.out HB.out));(case side2=>exact HC103_0.out);rintro e w17 ⟨rfl,hb⟩;replace HB:=am_ (zab qz2_ hb);(try clear hb);(try clear hb2);(try clear hk);(try clear hi))))
          go_ret
          exact⟨qz4_,qz2_⟩
        ·
         rw [if_neg c10] at H
         exact absurd H (by simp)
       ·
        rw [if_neg c9] at H
        have c9b0:decide (x5_2<(l1.length:Int))=false:=decide_eq_false c9
        clear c9
        obtain rfl:=Option.some.inj H
        go_wp2
        repeat(go_quiet (fail);try go_wp2)
        go_ret
        exact⟨qz4_,qz2_⟩
end Go.Proofs.YtgookagndlfehaaGreat.PT
end
section
namespace Go.Proofs.YtgookagndlfehaaGreat.PT
open Go Go.RowKit Go.Proofs.YtgookagndlfehaaGreatW.PrintWords Go.Proofs.YtgookagndlfehaaGreatW.PrintLast Go.Proofs.YtgookagndlfehaaGreatW.PrintMore
set_option linter.unusedVariables false
set_option linter.unusedSimpArgs false
def zcs.f (k:Nat) (kind:Int) (l2:List (List S32)) (z0:List S32) (z1:Int) (z2:ByteArray) (z3:Int):Option (List (List S32) × List S32 × List S32 × List S32 × Int × ByteArray × Int × Int):=
 if (l2.length:Int)>4096 then some ([],[],[],[],0,(⟨#[]⟩:ByteArray),0,2) else(zax.f k kind l2).bind fun c=>if c=0 then((zdz.f k z0 z1 z2 z3).bind fun b2=>if b2=false then some ([],[],[],[],0,(⟨#[]⟩:ByteArray),0,1) else(zeh.f z0 z1 z2 z3 6).bind fun b5=>if b5=false then
  ((pvs_ k kind k l2 [] [] z0 z1 z2 z3).bind fun v=>(zfe.f v.2.2.2.1 v.2.2.2.2.1 v.2.2.2.2.2.1 v.2.2.2.2.2.2).bind fun o=>some (v.1,v.2.1,v.2.2.1,o.1,o.2.1,o.2.2.1,o.2.2.2,0)) else some ([],[],[],[],0,(⟨#[]⟩:ByteArray),0,6)) else some ([],[],[],[],0,(⟨#[]⟩:ByteArray),0,c)
theorem zcs.calls (k:Nat) (kind:Int) (A2:Option Addr) (c2:Nat) (l2:List (List S32)) (Az:Option Addr) (cz:Nat) (z0:List S32) (z1:Int) (z2:ByteArray) (z3:Int) (r1:List (List S32)) (r2 r3 r4:List S32) (r5:Int) (r6:ByteArray) (r7 r8:Int) (PO:Nat→Prop) (wb w:World) (hB:Below wb.heap.size wb w) (ho:Kd.R k32 32 w wb.heap.size PO (.slice Az z0.length cz) z0) (hr2:∀ W_,Agr w W_ (fun k=>some k=(Value.slice Az z0.length cz).ownBlock)→Kd.C (Kd.slice 32 k32) W_ A2 l2.length l2) (hc2:l2.length≤c2) (h:zcs.f k kind l2 z0 z1 z2 z3=some (r1,r2,r3,r4,r5,r6,r7,r8)) :
  Calls Tryz.prog 21 #[.int .i64 kind,.slice A2 l2.length c2,.agg #[.slice Az z0.length cz,.int .i64 z1,.string z2,.int .i64 z3]] w fun e w'=>∃ v0_ v1_ v2_ v3_:Value,e=.returned (.tuple #[v0_,v1_,v2_,.agg #[v3_,.int .i64 r5,.string r6,.int .i64 r7],.int .i64 r8])∧Kd.S (Kd.slice 32 k32) 36 w' w.heap.size (fun k=>some k≠v1_.ownBlock∧some k≠v2_.ownBlock∧some k≠v3_.ownBlock) v0_ r1∧Kd.R k32 32 w' w.heap.size (fun k=>some k≠v2_.ownBlock∧some k≠v3_.ownBlock) v1_ r2∧Kd.R k32 32 w' w.heap.size (fun k=>some k≠v1_.ownBlock∧some k≠v3_.ownBlock) v2_ r3∧Kd.R k32 32 w' w.heap.size (fun k=>some k≠v1_.ownBlock∧some k≠v2_.ownBlock) v3_ r4∧Below wb.heap.size wb w'∧Kept w w' (fun k=>some k=(Value.slice Az z0.length cz).ownBlock):=by
 have hu38:=Tryz.underlying38
 have HB:=am_ hB
 have HPW:=am_ (show ∀ k,some k=(Value.slice Az z0.length cz).ownBlock→wb.heap.size≤k from fun k hk=>Kd.zf8 ho k hk.symm)
 have HC2:=am_ hc2
 have HI:=am_ (Inv.startR (d:=k32) rfl ho (fun w2=>Kd.C (Kd.slice 32 k32) w2 A2 l2.length l2) hr2)
 clear hB ho hr2 hc2
 unfold zcs.f at h
 by_cases cx4:(l2.length:Int)>4096
 ·
  rw [if_pos cx4] at h
  have f0:decide ((l2.length:Int)>4096)=true:=decide_eq_true cx4
  have f0b:decide (4096<(l2.length:Int))=true:=decide_eq_true cx4
  have f0c:decide (4096<l2.length)=true:=decide_eq_true (by omega)
  clear cx4
  simp only [Option.some.injEq,Prod.mk.injEq] at h
  obtain⟨rfl,rfl,rfl,rfl,rfl,rfl,rfl,rfl⟩:=h
  go_enter Tryz.func21,Tryz.ntmps21
  go_wp2_with (first|((with_reducible refine zad (N:=5) rfl ?_);refine zaj rfl (N:=5) rfl (cs:=#[.slice Az z0.length cz,.int .i64 z1,.string z2,.int .i64 z3]) (t:=38) bx_ ?_;intro g5 hg w5_ hbox hb;replace HI:=am_ ((HI.out).box hg hbox hb);clear hb hbox hg)|((with_reducible refine zad (N:=9) rfl ?_);refine zaj rfl (N:=9) rfl (cs:=#[.slice none 0 0,.int .i64 0,.string (⟨#[]⟩:ByteArray),.int .i64 0]) (t:=38) bx_ ?_;intro g9 hg w9_ hbox hb;replace HI:=am_ ((HI.out).box hg hbox hb);clear hb hbox hg)|((with_reducible refine zad (N:=19) rfl ?_);refine Kd.S_lit (Kd.slice 32 k32) (w0:=_) _ 36 ?hg (N:=19) ?hd (xs:=([]:List (List S32))) (inner:=[]) (ok:=fun _=>True) (okp:=fun _=>True) ?hr ?hp (fun _ hk=>hk) trivial (Below.refl _ _) (Nat.le_refl _) (by simp) ?_;(case hd=>rfl);(case hg=>rfl);(case hr=>first|(go_simp;done)|(go_simp;rfl));(case hp=>exact(Reps.none _ _));intro V0 wa hR hb hg hat;replace HI:=am_ (HI.out.zfj hb hR);clear hR hb hg hat)|((with_reducible refine zad (N:=20) rfl ?_);refine Kd.R_lit k32 (w0:=_) _ 32 ?hg (N:=20) ?hd (xs:=([]:List S32)) (inner:=[]) (ok:=fun _=>True) (okp:=fun _=>True) ?hr ?hp (fun _ hk=>hk) trivial (Below.refl _ _) (Nat.le_refl _) (by simp) ?_;(case hd=>rfl);(case hg=>rfl);(case hr=>first|(go_simp;done)|(go_simp;rfl));(case hp=>exact(Reps.none _ _));intro V1 wb_ hR hb hg hat;replace HI:=am_ ((HI.out).zd7 hb hR);clear hR hb hg hat)|((with_reducible refine zad (N:=21) rfl ?_);refine Kd.R_lit k32 (w0:=_) _ 32 ?hg (N:=21) ?hd (xs:=([]:List S32)) (inner:=[]) (ok:=fun _=>True) (okp:=fun _=>True) ?hr ?hp (fun _ hk=>hk) trivial (Below.refl _ _) (Nat.le_refl _) (by simp) ?_;(case hd=>rfl);(case hg=>rfl);(case hr=>first|(go_simp;done)|(go_simp;rfl));(case hp=>exact(Reps.none _ _));intro V2 wc hR hb hg hat;replace HI:=am_ ((HI.out).zd7 hb hR);clear hR hb hg hat)|((with_reducible refine za7 (p:=9) (v:=(.tmp 22)) (t:=38) rfl ?_);go_must (refine wpList_store_row rfl 38 _ _ rfl g9 (#[.slice none 0 0,.int .i64 0,.string (⟨#[]⟩:ByteArray),.int .i64 0]) rfl qz36_ 38 (#[.slice none 0 0,.int .i64 0,.string (⟨#[]⟩:ByteArray),.int .i64 0]) (HI.out.get 3 rfl) (by kernel_rfl) rfl qz39_ ?_;replace HI:=am_ ((HI.out.front 3 rfl).put0 (#[.slice none 0 0,.int .i64 0,.string (⟨#[]⟩:ByteArray),.int .i64 0]));generalize World.setRow _ g9 (#[.slice none 0 0,.int .i64 0,.string (⟨#[]⟩:ByteArray),.int .i64 0])=wz22 at HI ⊢)))
  replace HI:=am_ (((HI.out.front 1 rfl).front 2 rfl).front 3 rfl)
  refine bodyPost_ret (zdq rfl _ _ g9 38 #[.slice none 0 0,.int .i64 0,.string (⟨#[]⟩:ByteArray),.int .i64 0] (0,0) _ rfl (HI.out.get 3 rfl) hu38 rfl (by kernel_rfl)) rfl ?_
  have q0:=HI.out.get 0 rfl
  have q1:=HI.out.get 1 rfl
  have q2:=HI.out.get 2 rfl
  have d01:=HI.out.disj 0 1 (by decide) rfl rfl
  have d02:=HI.out.disj 0 2 (by decide) rfl rfl
  have d12:=HI.out.disj 1 2 (by decide) rfl rfl
  have nn_:∀ k:Nat,some k≠(Value.slice none 0 0).ownBlock:=fun k e=>by simp [Value.ownBlock] at e
  exact⟨_,_,_,_,rfl,Kd.ze3 q0 (fun k hk=>⟨fun e=>d01 k hk ((rowR q1).1 k e.symm),fun e=>d02 k hk ((rowR q2).1 k e.symm),nn_ k⟩),Kd.zba q1 (fun k hk=>⟨fun e=>d12 k hk ((rowR q2).1 k e.symm),nn_ k⟩),Kd.zba q2 (fun k hk=>⟨fun e=>d12 k ((rowR q1).1 k e.symm) hk,nn_ k⟩),Kd.R_nil _ _ _ _ _,HI.out.zgr HB.out HPW.out,⟨HI.out.agr.size,HI.out.agr.block⟩⟩
 ·
  rw [if_neg cx4] at h
  have f0:decide ((l2.length:Int)>4096)=false:=decide_eq_false cx4
  have f0b:decide (4096<(l2.length:Int))=false:=decide_eq_false cx4
  have f0c:decide (4096<l2.length)=false:=decide_eq_false (by omega)
  clear cx4
  replace h:=Option.bind_eq_some_iff.1 h
  obtain⟨c,hak_,h⟩:=h
  have HAK:=am_ hak_
  clear hak_
  by_cases cc:c=0
  ·
   rw [if_pos cc] at h
   subst cc
   replace h:=Option.bind_eq_some_iff.1 h
   obtain⟨b2,hso_,h⟩:=h
   have HSO:=am_ hso_
   clear hso_
   cases b2 with
   | false=>
    rw [if_pos rfl] at h
    simp only [Option.some.injEq,Prod.mk.injEq] at h
    obtain⟨rfl,rfl,rfl,rfl,rfl,rfl,rfl,rfl⟩:=h
    go_enter Tryz.func21,Tryz.ntmps21
    go_wp2_with (first|((with_reducible refine zad (N:=5) rfl ?_);refine zaj rfl (N:=5) rfl (cs:=#[.slice Az z0.length cz,.int .i64 z1,.string z2,.int .i64 z3]) (t:=38) bx_ ?_;intro g5 hg w5_ hbox hb;replace HI:=am_ ((HI.out).box hg hbox hb);clear hb hbox hg)|((with_reducible refine zad (N:=9) rfl ?_);refine zaj rfl (N:=9) rfl (cs:=#[.slice none 0 0,.int .i64 0,.string (⟨#[]⟩:ByteArray),.int .i64 0]) (t:=38) bx_ ?_;intro g9 hg w9_ hbox hb;replace HI:=am_ ((HI.out).box hg hbox hb);clear hb hbox hg)|(go_at_call 51;(refine(zax.calls k kind A2 c2 l2 _ _ HI.out.now HC2.out HAK.out).mono ?_);rintro e w25 ⟨rfl,hb⟩;replace HI:=am_ (HI.out.grow hb);clear hb;have hk0:World.cell? _ ⟨g5,0,none⟩=some (.slice Az z0.length cz):=(zaa (HI.out.get 1 rfl) 0).trans rfl;have hk1:World.cell? _ ⟨g5,1,none⟩=some (.int .i64 z1):=(zaa (HI.out.get 1 rfl) 1).trans rfl;have hk2:World.cell? _ ⟨g5,2,none⟩=some (.string z2):=(zaa (HI.out.get 1 rfl) 2).trans rfl;have hk3:World.cell? _ ⟨g5,3,none⟩=some (.int .i64 z3):=(zaa (HI.out.get 1 rfl) 3).trans rfl)|(go_at_call 31;(refine(zdz.calls k Az cz z0 z1 z2 z3 _ _ (rowC (HI.out.get 2 rfl)).2.2 (rowC (HI.out.get 2 rfl)).2.1 HSO.out).mono ?_);rintro e w30 ⟨rfl,hb⟩;replace HI:=am_ (HI.out.grow hb);clear hb;have hj0:World.cell? _ ⟨g5,0,none⟩=some (.slice Az z0.length cz):=(zaa (HI.out.get 1 rfl) 0).trans rfl;have hj1:World.cell? _ ⟨g5,1,none⟩=some (.int .i64 z1):=(zaa (HI.out.get 1 rfl) 1).trans rfl;have hj2:World.cell? _ ⟨g5,2,none⟩=some (.string z2):=(zaa (HI.out.get 1 rfl) 2).trans rfl;have hj3:World.cell? _ ⟨g5,3,none⟩=some (.int .i64 z3):=(zaa (HI.out.get 1 rfl) 3).trans rfl)|((with_reducible refine zad (N:=41) rfl ?_);refine Kd.S_lit (Kd.slice 32 k32) (w0:=_) _ 36 ?hg (N:=41) ?hd (xs:=([]:List (List S32))) (inner:=[]) (ok:=fun _=>True) (okp:=fun _=>True) ?hr ?hp (fun _ hk=>hk) trivial (Below.refl _ _) (Nat.le_refl _) (by simp) ?_;(case hd=>rfl);(case hg=>rfl);(case hr=>first|(go_simp;done)|(go_simp;rfl));(case hp=>exact(Reps.none _ _));intro V0 wa hR hb hg hat;replace HI:=am_ (HI.out.zfj hb hR);clear hR hb hg hat)|((with_reducible refine zad (N:=42) rfl ?_);refine Kd.R_lit k32 (w0:=_) _ 32 ?hg (N:=42) ?hd (xs:=([]:List S32)) (inner:=[]) (ok:=fun _=>True) (okp:=fun _=>True) ?hr ?hp (fun _ hk=>hk) trivial (Below.refl _ _) (Nat.le_refl _) (by simp) ?_;(case hd=>rfl);(case hg=>rfl);(case hr=>first|(go_simp;done)|(go_simp;rfl));(case hp=>exact(Reps.none _ _));intro V1 wb_ hR hb hg hat;replace HI:=am_ ((HI.out).zd7 hb hR);clear hR hb hg hat)|((with_reducible refine zad (N:=43) rfl ?_);refine Kd.R_lit k32 (w0:=_) _ 32 ?hg (N:=43) ?hd (xs:=([]:List S32)) (inner:=[]) (ok:=fun _=>True) (okp:=fun _=>True) ?hr ?hp (fun _ hk=>hk) trivial (Below.refl _ _) (Nat.le_refl _) (by simp) ?_;(case hd=>rfl);(case hg=>rfl);(case hr=>first|(go_simp;done)|(go_simp;rfl));(case hp=>exact(Reps.none _ _));intro V2 wc hR hb hg hat;replace HI:=am_ ((HI.out).zd7 hb hR);clear hR hb hg hat)|((with_reducible refine za7 (p:=9) (v:=(.tmp 44)) (t:=38) rfl ?_);go_must (refine wpList_store_row rfl 38 _ _ rfl g9 (#[.slice none 0 0,.int .i64 0,.string (⟨#[]⟩:ByteArray),.int .i64 0]) rfl qz36_ 38 (#[.slice none 0 0,.int .i64 0,.string (⟨#[]⟩:ByteArray),.int .i64 0]) (HI.out.get 3 rfl) (by kernel_rfl) rfl qz39_ ?_;replace HI:=am_ ((HI.out.front 3 rfl).put0 (#[.slice none 0 0,.int .i64 0,.string (⟨#[]⟩:ByteArray),.int .i64 0]));generalize World.setRow _ g9 (#[.slice none 0 0,.int .i64 0,.string (⟨#[]⟩:ByteArray),.int .i64 0])=wz44 at HI ⊢)))
    replace HI:=am_ (((HI.out.front 1 rfl).front 2 rfl).front 3 rfl)
    refine bodyPost_ret (zdq rfl _ _ g9 38 #[.slice none 0 0,.int .i64 0,.string (⟨#[]⟩:ByteArray),.int .i64 0] (0,0) _ rfl (HI.out.get 3 rfl) hu38 rfl (by kernel_rfl)) rfl ?_
    have q0:=HI.out.get 0 rfl
    have q1:=HI.out.get 1 rfl
    have q2:=HI.out.get 2 rfl
    have d01:=HI.out.disj 0 1 (by decide) rfl rfl
    have d02:=HI.out.disj 0 2 (by decide) rfl rfl
    have d12:=HI.out.disj 1 2 (by decide) rfl rfl
    have nn_:∀ k:Nat,some k≠(Value.slice none 0 0).ownBlock:=fun k e=>by simp [Value.ownBlock] at e
    exact⟨_,_,_,_,rfl,Kd.ze3 q0 (fun k hk=>⟨fun e=>d01 k hk ((rowR q1).1 k e.symm),fun e=>d02 k hk ((rowR q2).1 k e.symm),nn_ k⟩),Kd.zba q1 (fun k hk=>⟨fun e=>d12 k hk ((rowR q2).1 k e.symm),nn_ k⟩),Kd.zba q2 (fun k hk=>⟨fun e=>d12 k ((rowR q1).1 k e.symm) hk,nn_ k⟩),Kd.R_nil _ _ _ _ _,HI.out.zgr HB.out HPW.out,⟨HI.out.agr.size,HI.out.agr.block⟩⟩
   | true=>
    rw [if_neg (by decide)] at h
    replace h:=Option.bind_eq_some_iff.1 h
    obtain⟨b5,hsp_,h⟩:=h
    have HSP:=am_ hsp_
    clear hsp_
    cases b5 with
    | false=>
     rw [if_pos rfl] at h
     replace h:=Option.bind_eq_some_iff.1 h
     obtain⟨⟨v1,v2,v3,s0,s1,s2,s3⟩,hvf_,h⟩:=h
     have HVF:=am_ hvf_
     clear hvf_
     replace h:=Option.bind_eq_some_iff.1 h
     obtain⟨⟨o0,o1,o2,o3⟩,how_,h⟩:=h
     have HOW:=am_ (show zfe.f s0 s1 s2 s3=some (o0,o1,o2,o3) from how_)
     clear how_
     simp only [Option.some.injEq,Prod.mk.injEq] at h
     obtain⟨rfl,rfl,rfl,rfl,rfl,rfl,rfl,rfl⟩:=h
     go_enter Tryz.func21,Tryz.ntmps21
     go_wp2_with (first|((with_reducible refine zad (N:=5) rfl ?_);refine zaj rfl (N:=5) rfl (cs:=#[.slice Az z0.length cz,.int .i64 z1,.string z2,.int .i64 z3]) (t:=38) bx_ ?_;intro g5 hg w5_ hbox hb;replace HI:=am_ ((HI.out).box hg hbox hb);clear hb hbox hg)|((with_reducible refine zad (N:=9) rfl ?_);refine zaj rfl (N:=9) rfl (cs:=#[.slice none 0 0,.int .i64 0,.string (⟨#[]⟩:ByteArray),.int .i64 0]) (t:=38) bx_ ?_;intro g9 hg w9_ hbox hb;replace HI:=am_ ((HI.out).box hg hbox hb);clear hb hbox hg)|(go_at_call 51;(refine(zax.calls k kind A2 c2 l2 _ _ HI.out.now HC2.out HAK.out).mono ?_);rintro e w25 ⟨rfl,hb⟩;replace HI:=am_ (HI.out.grow hb);clear hb;have hk0:World.cell? _ ⟨g5,0,none⟩=some (.slice Az z0.length cz):=(zaa (HI.out.get 1 rfl) 0).trans rfl;have hk1:World.cell? _ ⟨g5,1,none⟩=some (.int .i64 z1):=(zaa (HI.out.get 1 rfl) 1).trans rfl;have hk2:World.cell? _ ⟨g5,2,none⟩=some (.string z2):=(zaa (HI.out.get 1 rfl) 2).trans rfl;have hk3:World.cell? _ ⟨g5,3,none⟩=some (.int .i64 z3):=(zaa (HI.out.get 1 rfl) 3).trans rfl)|(go_at_call 31;(refine(zdz.calls k Az cz z0 z1 z2 z3 _ _ (rowC (HI.out.get 2 rfl)).2.2 (rowC (HI.out.get 2 rfl)).2.1 HSO.out).mono ?_);rintro e w30 ⟨rfl,hb⟩;replace HI:=am_ (HI.out.grow hb);clear hb;have hj0:World.cell? _ ⟨g5,0,none⟩=some (.slice Az z0.length cz):=(zaa (HI.out.get 1 rfl) 0).trans rfl;have hj1:World.cell? _ ⟨g5,1,none⟩=some (.int .i64 z1):=(zaa (HI.out.get 1 rfl) 1).trans rfl;have hj2:World.cell? _ ⟨g5,2,none⟩=some (.string z2):=(zaa (HI.out.get 1 rfl) 2).trans rfl;have hj3:World.cell? _ ⟨g5,3,none⟩=some (.int .i64 z3):=(zaa (HI.out.get 1 rfl) 3).trans rfl)|(go_at_call 33;(refine(zeh.calls Az cz z0 z1 z2 z3 6 _ _ (rowC (HI.out.get 2 rfl)).2.2 (rowC (HI.out.get 2 rfl)).2.1 HSP.out).mono ?_);rintro e w37 ⟨rfl,hb⟩;replace HI:=am_ (HI.out.grow hb);clear hb)|((with_reducible refine zad (N:=49) rfl ?_);go_must (refine wpList_load_row rfl 38 _ rfl g5 rfl 38 (#[.slice Az z0.length cz,.int .i64 z1,.string z2,.int .i64 z3]) (0,0) _ ((HI.out.get 1 rfl)) hu38 rfl (by kernel_rfl) ?_))|(go_at_call 52;(refine(zk8.calls k k kind A2 c2 l2 Az cz z0 z1 z2 z3 v1 v2 v3 s0 s1 s2 s3 _ wb _ (HI.out.zgr HB.out HPW.out) (HI.out.get 2 rfl) (fun W_ ha=>HI.out.facts W_ (ha.mono (fun k hk=>⟨_,List.mem_of_getElem? (i:=2) rfl,hk⟩))) HC2.out HVF.out).mono ?_);rintro e w50 ⟨p0,p1,p2,vs,rfl,hS0,hR1,hR2,hR3,hB2,hk⟩;obtain⟨As,cs,es⟩:=Kd.zcb hR3;subst es;replace HI:=am_ (Inv.zi5 (b3:=row k32 32 wb.heap.size (.slice As s0.length cs) s0 (fun k=>some k=(Value.slice As s0.length cs).ownBlock)) rfl (HI.out.front 2 rfl) (Agr.zi3 hk (HI.out.zgr HB.out HPW.out) hB2 (fun _ h=>h)) hS0 (fun _ h=>⟨h.1,h.2.1⟩) hR1 (fun _ h=>h.1) hR2 (fun k hk=>⟨(hR3.1 k hk.symm).1,Kd.R_lt hR3 k hk.symm⟩) (fun w' hw=>Kd.zfb (Kd.zem rfl hR3) (fun k hk _=>hw k hk)) (fun k hk _=>⟨fun e=>e.2.2 hk,(hR3.1 k hk.symm).2⟩));clear hS0 hR1 hR2 hR3 hB2 hk)|((with_reducible refine zad (N:=15) rfl ?_);refine zaj rfl (N:=15) rfl (cs:=#[.slice none 0 0,.int .i64 0,.string (⟨#[]⟩:ByteArray),.int .i64 0]) (t:=38) bx_ ?_;intro g15 hg w15 hbox hb;replace HI:=am_ ((HI.out).box hg hbox hb);clear hb hbox hg)|((with_reducible refine za7 (p:=15) (v:=(.tmp 54)) (t:=38) rfl ?_);go_must (refine wpList_store_row rfl 38 _ _ rfl g15 (#[.slice As s0.length cs,.int .i64 s1,.string s2,.int .i64 s3]) rfl qz36_ 38 (#[.slice none 0 0,.int .i64 0,.string (⟨#[]⟩:ByteArray),.int .i64 0]) (HI.out.get 0 rfl) (by kernel_rfl) rfl qz39_ ?_;replace HI:=am_ ((HI.out.front 0 rfl).put0 (#[.slice As s0.length cs,.int .i64 s1,.string s2,.int .i64 s3]));generalize World.setRow _ g15 (#[.slice As s0.length cs,.int .i64 s1,.string s2,.int .i64 s3])=wz54 at HI ⊢))|((with_reducible refine zad (N:=58) rfl ?_);go_must (refine wpList_load_row rfl 38 _ rfl g15 rfl 38 (#[.slice As s0.length cs,.int .i64 s1,.string s2,.int .i64 s3]) (0,0) _ (HI.out.blk0) hu38 rfl (by kernel_rfl) ?_))|(go_at_call 35;(refine(zfe.calls As cs s0 s1 s2 s3 o0 o1 o2 o3 _ (rowC (HI.out.get 4 rfl)).2.2 (rowC (HI.out.get 4 rfl)).2.1 HOW.out).mono ?_);rintro e w59 ⟨vo,rfl,hR,hb⟩;obtain⟨Ao,co,eo⟩:=Kd.zcb hR;subst eo;replace HI:=am_ (HI.out.zd7 hb hR);clear hR hb)|((with_reducible refine za7 (p:=9) (v:=(.tmp 59)) (t:=38) rfl ?_);go_must (refine wpList_store_row rfl 38 _ _ rfl g9 (#[.slice Ao o0.length co,.int .i64 o1,.string o2,.int .i64 o3]) rfl qz36_ 38 (#[.slice none 0 0,.int .i64 0,.string (⟨#[]⟩:ByteArray),.int .i64 0]) (HI.out.get 6 rfl) (by kernel_rfl) rfl qz39_ ?_;replace HI:=am_ ((HI.out.front 6 rfl).put0 (#[.slice Ao o0.length co,.int .i64 o1,.string o2,.int .i64 o3]));generalize World.setRow _ g9 (#[.slice Ao o0.length co,.int .i64 o1,.string o2,.int .i64 o3])=wz59 at HI ⊢)))
     replace HI:=am_ ((((HI.out.front 1 rfl).front 5 rfl).front 5 rfl).front 5 rfl)
     refine bodyPost_ret (zdq rfl _ _ g9 38 #[.slice Ao o0.length co,.int .i64 o1,.string o2,.int .i64 o3] (0,0) _ rfl (HI.out.get 4 rfl) hu38 rfl (by kernel_rfl)) rfl ?_
     have q0:=HI.out.get 0 rfl
     have q1:=HI.out.get 1 rfl
     have q2:=HI.out.get 2 rfl
     have q3:=HI.out.get 3 rfl
     have d01:=HI.out.disj 0 1 (by decide) rfl rfl
     have d02:=HI.out.disj 0 2 (by decide) rfl rfl
     have d03:=HI.out.disj 0 3 (by decide) rfl rfl
     have d12:=HI.out.disj 1 2 (by decide) rfl rfl
     have d13:=HI.out.disj 1 3 (by decide) rfl rfl
     have d23:=HI.out.disj 2 3 (by decide) rfl rfl
     exact⟨_,_,_,_,rfl,Kd.ze3 q0 (fun k hk=>⟨fun e=>d01 k hk ((rowR q1).1 k e.symm),fun e=>d02 k hk ((rowR q2).1 k e.symm),fun e=>d03 k hk ((rowR q3).1 k e.symm)⟩),Kd.zba q1 (fun k hk=>⟨fun e=>d12 k hk ((rowR q2).1 k e.symm),fun e=>d13 k hk ((rowR q3).1 k e.symm)⟩),Kd.zba q2 (fun k hk=>⟨fun e=>d12 k ((rowR q1).1 k e.symm) hk,fun e=>d23 k hk ((rowR q3).1 k e.symm)⟩),Kd.zba q3 (fun k hk=>⟨fun e=>d13 k ((rowR q1).1 k e.symm) hk,fun e=>d23 k ((rowR q2).1 k e.symm) hk⟩),HI.out.zgr HB.out HPW.out,⟨HI.out.agr.size,HI.out.agr.block⟩⟩
    | true=>
     rw [if_neg (by decide)] at h
     simp only [Option.some.injEq,Prod.mk.injEq] at h
     obtain⟨rfl,rfl,rfl,rfl,rfl,rfl,rfl,rfl⟩:=h
     go_enter Tryz.func21,Tryz.ntmps21
     go_wp2_with (first|((with_reducible refine zad (N:=5) rfl ?_);refine zaj rfl (N:=5) rfl (cs:=#[.slice Az z0.length cz,.int .i64 z1,.string z2,.int .i64 z3]) (t:=38) bx_ ?_;intro g5 hg w5_ hbox hb;replace HI:=am_ ((HI.out).box hg hbox hb);clear hb hbox hg)|((with_reducible refine zad (N:=9) rfl ?_);refine zaj rfl (N:=9) rfl (cs:=#[.slice none 0 0,.int .i64 0,.string (⟨#[]⟩:ByteArray),.int .i64 0]) (t:=38) bx_ ?_;intro g9 hg w9_ hbox hb;replace HI:=am_ ((HI.out).box hg hbox hb);clear hb hbox hg)|(go_at_call 51;(refine(zax.calls k kind A2 c2 l2 _ _ HI.out.now HC2.out HAK.out).mono ?_);rintro e w25 ⟨rfl,hb⟩;replace HI:=am_ (HI.out.grow hb);clear hb;have hk0:World.cell? _ ⟨g5,0,none⟩=some (.slice Az z0.length cz):=(zaa (HI.out.get 1 rfl) 0).trans rfl;have hk1:World.cell? _ ⟨g5,1,none⟩=some (.int .i64 z1):=(zaa (HI.out.get 1 rfl) 1).trans rfl;have hk2:World.cell? _ ⟨g5,2,none⟩=some (.string z2):=(zaa (HI.out.get 1 rfl) 2).trans rfl;have hk3:World.cell? _ ⟨g5,3,none⟩=some (.int .i64 z3):=(zaa (HI.out.get 1 rfl) 3).trans rfl)|(go_at_call 31;(refine(zdz.calls k Az cz z0 z1 z2 z3 _ _ (rowC (HI.out.get 2 rfl)).2.2 (rowC (HI.out.get 2 rfl)).2.1 HSO.out).mono ?_);rintro e w30 ⟨rfl,hb⟩;replace HI:=am_ (HI.out.grow hb);clear hb;have hj0:World.cell? _ ⟨g5,0,none⟩=some (.slice Az z0.length cz):=(zaa (HI.out.get 1 rfl) 0).trans rfl;have hj1:World.cell? _ ⟨g5,1,none⟩=some (.int .i64 z1):=(zaa (HI.out.get 1 rfl) 1).trans rfl;have hj2:World.cell? _ ⟨g5,2,none⟩=some (.string z2):=(zaa (HI.out.get 1 rfl) 2).trans rfl;have hj3:World.cell? _ ⟨g5,3,none⟩=some (.int .i64 z3):=(zaa (HI.out.get 1 rfl) 3).trans rfl)|(go_at_call 33;(refine(zeh.calls Az cz z0 z1 z2 z3 6 _ _ (rowC (HI.out.get 2 rfl)).2.2 (rowC (HI.out.get 2 rfl)).2.1 HSP.out).mono ?_);rintro e w37 ⟨rfl,hb⟩;replace HI:=am_ (HI.out.grow hb);clear hb)|((with_reducible refine zad (N:=41) rfl ?_);refine Kd.S_lit (Kd.slice 32 k32) (w0:=_) _ 36 ?hg (N:=41) ?hd (xs:=([]:List (List S32))) (inner:=[]) (ok:=fun _=>True) (okp:=fun _=>True) ?hr ?hp (fun _ hk=>hk) trivial (Below.refl _ _) (Nat.le_refl _) (by simp) ?_;(case hd=>rfl);(case hg=>rfl);(case hr=>first|(go_simp;done)|(go_simp;rfl));(case hp=>exact(Reps.none _ _));intro V0 wa hR hb hg hat;replace HI:=am_ (HI.out.zfj hb hR);clear hR hb hg hat)|((with_reducible refine zad (N:=42) rfl ?_);refine Kd.R_lit k32 (w0:=_) _ 32 ?hg (N:=42) ?hd (xs:=([]:List S32)) (inner:=[]) (ok:=fun _=>True) (okp:=fun _=>True) ?hr ?hp (fun _ hk=>hk) trivial (Below.refl _ _) (Nat.le_refl _) (by simp) ?_;(case hd=>rfl);(case hg=>rfl);(case hr=>first|(go_simp;done)|(go_simp;rfl));(case hp=>exact(Reps.none _ _));intro V1 wb_ hR hb hg hat;replace HI:=am_ ((HI.out).zd7 hb hR);clear hR hb hg hat)|((with_reducible refine zad (N:=43) rfl ?_);refine Kd.R_lit k32 (w0:=_) _ 32 ?hg (N:=43) ?hd (xs:=([]:List S32)) (inner:=[]) (ok:=fun _=>True) (okp:=fun _=>True) ?hr ?hp (fun _ hk=>hk) trivial (Below.refl _ _) (Nat.le_refl _) (by simp) ?_;(case hd=>rfl);(case hg=>rfl);(case hr=>first|(go_simp;done)|(go_simp;rfl));(case hp=>exact(Reps.none _ _));intro V2 wc hR hb hg hat;replace HI:=am_ ((HI.out).zd7 hb hR);clear hR hb hg hat)|((with_reducible refine za7 (p:=9) (v:=(.tmp 44)) (t:=38) rfl ?_);go_must (refine wpList_store_row rfl 38 _ _ rfl g9 (#[.slice none 0 0,.int .i64 0,.string (⟨#[]⟩:ByteArray),.int .i64 0]) rfl qz36_ 38 (#[.slice none 0 0,.int .i64 0,.string (⟨#[]⟩:ByteArray),.int .i64 0]) (HI.out.get 3 rfl) (by kernel_rfl) rfl qz39_ ?_;replace HI:=am_ ((HI.out.front 3 rfl).put0 (#[.slice none 0 0,.int .i64 0,.string (⟨#[]⟩:ByteArray),.int .i64 0]));generalize World.setRow _ g9 (#[.slice none 0 0,.int .i64 0,.string (⟨#[]⟩:ByteArray),.int .i64 0])=wz44 at HI ⊢)))
     replace HI:=am_ (((HI.out.front 1 rfl).front 2 rfl).front 3 rfl)
     refine bodyPost_ret (zdq rfl _ _ g9 38 #[.slice none 0 0,.int .i64 0,.string (⟨#[]⟩:ByteArray),.int .i64 0] (0,0) _ rfl (HI.out.get 3 rfl) hu38 rfl (by kernel_rfl)) rfl ?_
     have q0:=HI.out.get 0 rfl
     have q1:=HI.out.get 1 rfl
     have q2:=HI.out.get 2 rfl
     have d01:=HI.out.disj 0 1 (by decide) rfl rfl
     have d02:=HI.out.disj 0 2 (by decide) rfl rfl
     have d12:=HI.out.disj 1 2 (by decide) rfl rfl
     have nn_:∀ k:Nat,some k≠(Value.slice none 0 0).ownBlock:=fun k e=>by simp [Value.ownBlock] at e
     exact⟨_,_,_,_,rfl,Kd.ze3 q0 (fun k hk=>⟨fun e=>d01 k hk ((rowR q1).1 k e.symm),fun e=>d02 k hk ((rowR q2).1 k e.symm),nn_ k⟩),Kd.zba q1 (fun k hk=>⟨fun e=>d12 k hk ((rowR q2).1 k e.symm),nn_ k⟩),Kd.zba q2 (fun k hk=>⟨fun e=>d12 k ((rowR q1).1 k e.symm) hk,nn_ k⟩),Kd.R_nil _ _ _ _ _,HI.out.zgr HB.out HPW.out,⟨HI.out.agr.size,HI.out.agr.block⟩⟩
  ·
   rw [if_neg cc] at h
   have f0:=eq_false (cc)
   have f1:(c == 0)=false:=beq_eq_false_iff_ne.mpr cc
   have f1c:(c != 0)=true:=bne_iff_ne.mpr cc
   clear cc
   simp only [Option.some.injEq,Prod.mk.injEq] at h
   obtain⟨rfl,rfl,rfl,rfl,rfl,rfl,rfl,rfl⟩:=h
   go_enter Tryz.func21,Tryz.ntmps21
   go_wp2_with (first|((with_reducible refine zad (N:=5) rfl ?_);refine zaj rfl (N:=5) rfl (cs:=#[.slice Az z0.length cz,.int .i64 z1,.string z2,.int .i64 z3]) (t:=38) bx_ ?_;intro g5 hg w5_ hbox hb;replace HI:=am_ ((HI.out).box hg hbox hb);clear hb hbox hg)|((with_reducible refine zad (N:=9) rfl ?_);refine zaj rfl (N:=9) rfl (cs:=#[.slice none 0 0,.int .i64 0,.string (⟨#[]⟩:ByteArray),.int .i64 0]) (t:=38) bx_ ?_;intro g9 hg w9_ hbox hb;replace HI:=am_ ((HI.out).box hg hbox hb);clear hb hbox hg)|(go_at_call 51;(refine(zax.calls k kind A2 c2 l2 _ _ HI.out.now HC2.out HAK.out).mono ?_);rintro e w25 ⟨rfl,hb⟩;replace HI:=am_ (HI.out.grow hb);clear hb;have hk0:World.cell? _ ⟨g5,0,none⟩=some (.slice Az z0.length cz):=(zaa (HI.out.get 1 rfl) 0).trans rfl;have hk1:World.cell? _ ⟨g5,1,none⟩=some (.int .i64 z1):=(zaa (HI.out.get 1 rfl) 1).trans rfl;have hk2:World.cell? _ ⟨g5,2,none⟩=some (.string z2):=(zaa (HI.out.get 1 rfl) 2).trans rfl;have hk3:World.cell? _ ⟨g5,3,none⟩=some (.int .i64 z3):=(zaa (HI.out.get 1 rfl) 3).trans rfl)|((with_reducible refine zad (N:=41) rfl ?_);refine Kd.S_lit (Kd.slice 32 k32) (w0:=_) _ 36 ?hg (N:=41) ?hd (xs:=([]:List (List S32))) (inner:=[]) (ok:=fun _=>True) (okp:=fun _=>True) ?hr ?hp (fun _ hk=>hk) trivial (Below.refl _ _) (Nat.le_refl _) (by simp) ?_;(case hd=>rfl);(case hg=>rfl);(case hr=>first|(go_simp;done)|(go_simp;rfl));(case hp=>exact(Reps.none _ _));intro V0 wa hR hb hg hat;replace HI:=am_ (HI.out.zfj hb hR);clear hR hb hg hat)|((with_reducible refine zad (N:=42) rfl ?_);refine Kd.R_lit k32 (w0:=_) _ 32 ?hg (N:=42) ?hd (xs:=([]:List S32)) (inner:=[]) (ok:=fun _=>True) (okp:=fun _=>True) ?hr ?hp (fun _ hk=>hk) trivial (Below.refl _ _) (Nat.le_refl _) (by simp) ?_;(case hd=>rfl);(case hg=>rfl);(case hr=>first|(go_simp;done)|(go_simp;rfl));(case hp=>exact(Reps.none _ _));intro V1 wb_ hR hb hg hat;replace HI:=am_ ((HI.out).zd7 hb hR);clear hR hb hg hat)|((with_reducible refine zad (N:=43) rfl ?_);refine Kd.R_lit k32 (w0:=_) _ 32 ?hg (N:=43) ?hd (xs:=([]:List S32)) (inner:=[]) (ok:=fun _=>True) (okp:=fun _=>True) ?hr ?hp (fun _ hk=>hk) trivial (Below.refl _ _) (Nat.le_refl _) (by simp) ?_;(case hd=>rfl);(case hg=>rfl);(case hr=>first|(go_simp;done)|(go_simp;rfl));(case hp=>exact(Reps.none _ _));intro V2 wc hR hb hg hat;replace HI:=am_ ((HI.out).zd7 hb hR);clear hR hb hg hat)|((with_reducible refine za7 (p:=9) (v:=(.tmp 44)) (t:=38) rfl ?_);go_must (refine wpList_store_row rfl 38 _ _ rfl g9 (#[.slice none 0 0,.int .i64 0,.string (⟨#[]⟩:ByteArray),.int .i64 0]) rfl qz36_ 38 (#[.slice none 0 0,.int .i64 0,.string (⟨#[]⟩:ByteArray),.int .i64 0]) (HI.out.get 3 rfl) (by kernel_rfl) rfl qz39_ ?_;replace HI:=am_ ((HI.out.front 3 rfl).put0 (#[.slice none 0 0,.int .i64 0,.string (⟨#[]⟩:ByteArray),.int .i64 0]));generalize World.setRow _ g9 (#[.slice none 0 0,.int .i64 0,.string (⟨#[]⟩:ByteArray),.int .i64 0])=wz44 at HI ⊢)))
   replace HI:=am_ (((HI.out.front 1 rfl).front 2 rfl).front 3 rfl)
   refine bodyPost_ret (zdq rfl _ _ g9 38 #[.slice none 0 0,.int .i64 0,.string (⟨#[]⟩:ByteArray),.int .i64 0] (0,0) _ rfl (HI.out.get 3 rfl) hu38 rfl (by kernel_rfl)) rfl ?_
   have q0:=HI.out.get 0 rfl
   have q1:=HI.out.get 1 rfl
   have q2:=HI.out.get 2 rfl
   have d01:=HI.out.disj 0 1 (by decide) rfl rfl
   have d02:=HI.out.disj 0 2 (by decide) rfl rfl
   have d12:=HI.out.disj 1 2 (by decide) rfl rfl
   have nn_:∀ k:Nat,some k≠(Value.slice none 0 0).ownBlock:=fun k e=>by simp [Value.ownBlock] at e
   exact⟨_,_,_,_,rfl,Kd.ze3 q0 (fun k hk=>⟨fun e=>d01 k hk ((rowR q1).1 k e.symm),fun e=>d02 k hk ((rowR q2).1 k e.symm),nn_ k⟩),Kd.zba q1 (fun k hk=>⟨fun e=>d12 k hk ((rowR q2).1 k e.symm),nn_ k⟩),Kd.zba q2 (fun k hk=>⟨fun e=>d12 k ((rowR q1).1 k e.symm) hk,nn_ k⟩),Kd.R_nil _ _ _ _ _,HI.out.zgr HB.out HPW.out,⟨HI.out.agr.size,HI.out.agr.block⟩⟩
end Go.Proofs.YtgookagndlfehaaGreat.PT
end
