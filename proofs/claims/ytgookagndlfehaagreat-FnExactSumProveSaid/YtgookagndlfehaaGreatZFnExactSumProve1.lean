/- Part 1 of the proof of FnExactSumProve: what functions compute, shown step by step, and what that says (the claim's last text states the law). -/
import Derived.Test.YtgookagndlfehaaGreatZFnExactSumProve0
set_option maxRecDepth 100000
set_option maxHeartbeats 8000000
section
namespace Go.Proofs.YtgookagndlfehaaGreat.PT
open Go.RowKit Go.Proofs.YtgookagndlfehaaGreatW.PrintWords Go.Proofs.YtgookagndlfehaaGreatW.PrintLast Go.Proofs.YtgookagndlfehaaGreatW.PrintMore
attribute [local go_sem] zez zey zfh zff zed zd9 zex zew   -- for this text's walks alone
set_option linter.unusedVariables false
set_option linter.unusedSimpArgs false
def zav.l0:Nat→List (S32)→List (S32)→Int→Int→Int→Option ((List (S32)))
 | 0,_,_,_,_,_=>none
 | k + 1,x0,x5,x6,x102000,x102001=>if x6<(x0.length:Int) then(if 0≤x6 then(if 0≤(wrap64 (x6 + 1)) then(if (wrap64 (x6 + 1))<(x0.length:Int) then((zcq.f ((zac x0 x6).f0) ((zac x0 x6).f1) ((zac x0 (wrap64 (x6 + 1))).f0) ((zac x0 (wrap64 (x6 + 1))).f1) x102000 x102001).bind fun bt107=>(if x5.length<8796093022208 then(zav.l0 k x0 (x5++[(⟨bt107.1,bt107.2⟩:S32)]) (wrap64 (x6 + 2)) x102000 x102001) else(none))) else(none)) else(none)) else(none)) else(some x5)
def zav.f (k:Nat) (l0:List (S32)) (a1_0:Int) (a1_1:Int):Option ((List (S32))):=zav.l0 k l0 (([]:List (S32))) 0 a1_0 a1_1
def zav.T5:Bool × List (List Nat × List Nat):=(true,[([],[]),([],[]),([],[]),([1,2],[1,2]),([3],[3]),([],[]),([],[]),([6],[6]),([5,7],[5,7]),([8],[8]),([],[]),([4,9,10],[4,9,10]),([11],[11]),([0,12,11],[0,12]),([13,13,0,1,2,3,4,5,6,7,8,9,10,11,12,13],[0,13])])
def zav.B5:List Nat:=[0,0,0,6,14,0,0,64,224,480,0,2046,4094,8191,16383]
theorem zav.tab5:rtab .any (opsOf Tryz.f141 5)=zav.T5:=by kernel_rfl
theorem zav.bits5:zcu zav.T5.2 zav.B5=true:=by kernel_rfl
theorem zav.calls (k:Nat) (A0:Option Addr) (c0:Nat) (l0:List (S32)) (a1_0:Int) (a1_1:Int) (r:List (S32)) (w:World) (hr0:Kd.C k32 w A0 l0.length l0) (hc0:l0.length≤c0) (h:zav.f k l0 a1_0 a1_1=some r) :
  Calls Tryz.prog 141 #[.slice A0 l0.length c0,.agg #[.int .i64 a1_0,.int .i64 a1_1]] w fun e w'=>∃ v0_:Value,e=.returned (v0_)∧Kd.R k32 32 w' w.heap.size (fun _=>True) v0_ r∧Below w.heap.size w w':=by
 have hu32:=Tryz.underlying32
 have HR0:=am_ hr0
 have HC0:=am_ hc0
 clear hr0 hc0
 have HB:=am_ (Below.refl w.heap.size w)
 have H:(zav.l0 k l0 (([]:List (S32))) 0 a1_0 a1_1)=some r:=h
 clear h
 obtain⟨y102,hy102⟩:∃ y_:List (S32),y_=(([]:List (S32))):=⟨_,rfl⟩
 replace H:(zav.l0 k l0 y102 0 a1_0 a1_1)=some r:=by first|(rw [hy102];with_reducible exact H)|(have H2_:=(Option.bind_some _ _).symm.trans H;rw [hy102];with_reducible exact H2_)|(have H2_:=(Option.bind_some _ _).symm.trans H;with_reducible exact H2_)|with_reducible exact H|(rw [hy102];exact H)|exact H
 have Ny102:=am_ hy102
 clear hy102
 have H':=am_ H
 clear H
 go_enter Tryz.func141,Tryz.ntmps141
 go_wp2_with (first|((with_reducible refine zad (N:=3) rfl ?_);refine zaj rfl (N:=3) rfl (cs:=#[.int .i64 a1_0,.int .i64 a1_1]) (t:=32) bx_ ?_;intro gb101 hg w3 hbox hb;replace BK101:=am_ (hbox);replace GW101:=am_ ((by rw [hg];exact(zaf qz2_):w.heap.size≤gb101));replace GE101:=GW101;replace HB:=am_ (zab qz2_ hb);clear hb hbox hg)|((with_reducible refine zad (N:=7) rfl ?_);refine Kd.R_lit k32 _ 32 ?hg (N:=7) ?hd (xs:=([]:List (S32))) (inner:=[]) (ok:=fun _=>True) (okp:=fun _=>True) ?hr ?hp (fun _ hk=>hk) trivial (Below.refl _ _) (Nat.le_refl _) (by simp) ?_;(case hd=>rfl);(case hg=>rfl);(case hr=>first|(go_simp;done)|(go_simp;rfl));(case hp=>exact(Reps.none _ _));intro v103 w4 ho5 hb hg_ hnew_;clear hg_ hnew_;(first|rw [←Ny102.out] at ho5|(simp only [Int.reduceToNat] at ho5;rw [←Ny102.out] at ho5));replace HO104:=am_ (Kd.zcw (Kd.zjf ho5 (g:=gb101) (o:=.cells #[.int .i64 a1_0,.int .i64 a1_1] 32 (0,0)) qz6_) (zaf qz5_));replace BK101:=am_ (zak (g:=gb101) (o:=.cells #[.int .i64 a1_0,.int .i64 a1_1] 32 (0,0)) qz6_ hb);replace HB:=am_ (zab qz5_ hb);clear hb ho5))
 go_loopg [5,6] k (fun kq v5 v6 w'=>∃ (x5_1:List (S32)) (x6_1:Int),v6=.int .i64 x6_1∧zal (zav.l0 kq l0 x5_1 x6_1 a1_0 a1_1=some r)∧zal (kq≤k)∧zal (Kd.R k32 32 w' w.heap.size (fun k_=>k_≠gb101) v5 x5_1)∧zal (w'.heap[gb101]?=some (.cells #[.int .i64 a1_0,.int .i64 a1_1] 32 (0,0)))∧zal (Below w.heap.size w w'))
 case atStart=>exact⟨(y102),(0),qz0_,H',⟨Nat.le_refl _⟩,⟨(by(with_reducible repeat(first|apply Kd.zbm|apply Kd.zbl|apply Kd.zbt));exact Kd.zba HO104.out (fun _ hk=>hk.2))⟩,⟨qz6_⟩,⟨qz5_⟩⟩
 case round=>
  clear H'
  try clear c1
  try clear p2
  obtain⟨x5_1,x6_1,rfl,HA,HK1,HO_5,BK101,HB⟩:=hrel
  cases gk with
  | zero=>exact absurd HA.out (by simp [zav.l0])
  | succ k1=>
   have H:=HA.out
   clear HA
   simp only [zav.l0] at H
   by_cases c6:x6_1<(l0.length:Int)
   ·
    rw [if_pos c6] at H
    have c6b0:decide (x6_1<(l0.length:Int))=true:=decide_eq_true c6
    clear c6
    by_cases c7:0≤x6_1
    ·
     rw [if_pos c7] at H
     have c7b0:decide (0≤x6_1)=true:=decide_eq_true c7
     clear c7
     obtain⟨ji8,hji8⟩:∃ j_:Int,(wrap64 (x6_1 + 1))=j_:=⟨_,rfl⟩
     replace H:(if 0≤(ji8) then(if (ji8)<(l0.length:Int) then((zcq.f ((zac l0 x6_1).f0) ((zac l0 x6_1).f1) ((zac l0 (ji8)).f0) ((zac l0 (ji8)).f1) a1_0 a1_1).bind fun bt107=>(if x5_1.length<8796093022208 then(zav.l0 k1 l0 (x5_1++[(⟨bt107.1,bt107.2⟩:S32)]) (wrap64 (x6_1 + 2)) a1_0 a1_1) else(none))) else(none)) else(none))=some r:=by first|(rw [hji8] at H;exact H)|(simp only [hji8] at H ⊢;exact H)
     have hji8w:(IntKind.i64.wrap (x6_1 + 1))=ji8:=(i64_w _).trans hji8
     by_cases c9:0≤(ji8)
     ·
      rw [if_pos c9] at H
      have c9b0:decide (0≤(ji8))=true:=decide_eq_true c9
      clear c9
      by_cases c10:(ji8)<(l0.length:Int)
      ·
       rw [if_pos c10] at H
       have c10b0:decide ((ji8)<(l0.length:Int))=true:=decide_eq_true c10
       clear c10
       replace H:=Option.bind_eq_some_iff.mp H
       obtain⟨⟨t107,t108⟩,A110,H⟩:=H
       replace H:(if x5_1.length<8796093022208 then(zav.l0 k1 l0 (x5_1++[(⟨t107,t108⟩:S32)]) (wrap64 (x6_1 + 2)) a1_0 a1_1) else(none))=some r:=H
       have A11:=am_ A110
       clear A110
       by_cases c12:x5_1.length<8796093022208
       ·
        rw [if_pos c12] at H
        have LMc12:=am_ c12
        clear c12
        obtain⟨y109,hy109⟩:∃ y_:List (S32),y_=(x5_1++[(⟨t107,t108⟩:S32)]):=⟨_,rfl⟩
        replace H:(zav.l0 k1 l0 y109 (wrap64 (x6_1 + 2)) a1_0 a1_1)=some r:=by first|(rw [hy109];with_reducible exact H)|(have H2_:=(Option.bind_some _ _).symm.trans H;rw [hy109];with_reducible exact H2_)|(have H2_:=(Option.bind_some _ _).symm.trans H;with_reducible exact H2_)|with_reducible exact H|(rw [hy109];exact H)|exact H
        have Ny109:=am_ hy109
        clear hy109
        have H':=am_ H
        clear H
        try go_wp2
        replace HO_5:=am_ (Kd.zbt HO_5.out)
        replace BK101:=am_ (zae BK101.out)
        replace HB:=am_ (zao HB.out)
        have p105:0≤(x6_1:Int):=of_decide_eq_true qz10_
        have q105:x6_1<(l0.length:Int):=of_decide_eq_true qz10_
        obtain⟨ad105,e105,hx105_0,hx105_1⟩:=zdf HR0.out x6_1 p105 q105
        have hw105_1:=hx105_1
        have hw105_0:=hx105_0
        cases e105
        replace hx105_0:=(HB.out.cell (World.block_lt_of_cell? w _ hx105_0)).trans hx105_0
        replace hx105_1:=(HB.out.cell (World.block_lt_of_cell? w _ hx105_1)).trans hx105_1
        replace p105:=eq_true p105
        replace q105:=eq_true q105
        have p106:0≤((ji8):Int):=of_decide_eq_true qz10_
        have q106:(ji8)<(l0.length:Int):=of_decide_eq_true qz10_
        obtain⟨ad106,e106,hx106_0,hx106_1⟩:=zdf HR0.out (ji8) p106 q106
        have hw106_1:=hx106_1
        have hw106_0:=hx106_0
        obtain rfl:ad105=ad106:=(by injection e106)
        replace hx106_0:=(HB.out.cell (World.block_lt_of_cell? w _ hx106_0)).trans hx106_0
        replace hx106_1:=(HB.out.cell (World.block_lt_of_cell? w _ hx106_1)).trans hx106_1
        replace p106:=eq_true p106
        replace q106:=eq_true q106
        refine zcn (n:=15) (S:=fun w'=>w'.cell? ⟨gb101,0,none⟩=some (.int .i64 a1_0)∧w'.cell? ⟨gb101,1,none⟩=some (.int .i64 a1_1)∧w'.cell? (ad105.add ((x6_1).toNat * 2))=some (.int .i64 ((zac l0 x6_1).f0))∧w'.cell? ⟨(ad105.add ((x6_1).toNat * 2)).block,(ad105.add ((x6_1).toNat * 2)).off + 1,none⟩=some (.int .i64 ((zac l0 x6_1).f1))∧w'.cell? (ad105.add (((ji8)).toNat * 2))=some (.int .i64 ((zac l0 (ji8)).f0))∧w'.cell? ⟨(ad105.add (((ji8)).toNat * 2)).block,(ad105.add (((ji8)).toNat * 2)).off + 1,none⟩=some (.int .i64 ((zac l0 (ji8)).f1))) (ds:=[]) (bs_ 15 0) (by kernel_rfl) rfl rfl ⟨(zaa BK101.out 0).trans rfl,(zaa BK101.out 1).trans rfl,((HB.out.cell (World.block_lt_of_cell? w _ hw105_0)).trans hw105_0),((HB.out.cell (World.block_lt_of_cell? w _ hw105_1)).trans hw105_1),((HB.out.cell (World.block_lt_of_cell? w _ hw106_0)).trans hw106_0),((HB.out.cell (World.block_lt_of_cell? w _ hw106_1)).trans hw106_1)⟩ (fun hHeld=>?_);refine zcj zav.tab5 zav.bits5 (fun HT_ HW_=>?_)
        generalize wr.drew=w13 at HO_5 BK101 HB hx105_0 hx105_1 hx106_0 hx106_1 hHeld ⊢
        refine pt_ HT_.out 0 14 (bs_ 15 1) ?_
        refine pt_ HT_.out 1 15 (bs_ 15 3) ?_
        refine pt_ HT_.out 2 16 (bs_ 15 7) ?_
        refine pt_ HT_.out 3 17 (bs_ 15 15) ?_
        refine pt_ HT_.out 5 19 (bs_ 15 47) ?_
        refine pt_ HT_.out 6 20 (bs_ 15 111) ?_
        refine pt_ HT_.out 7 21 (bs_ 15 239) ?_
        refine pt_ HT_.out 8 22 (bs_ 15 495) ?_
        refine tt_ HT_ HW_ 4 (bs_ 15 511) hHeld ?_
        refine tt_ HT_ HW_ 9 (bs_ 15 1023) hHeld ?_
        refine tt_ HT_ HW_ 10 (bs_ 15 2047) hHeld ?_
        refine ot_ HT_ 11 (some 25) (bs_ 15 4095) (fun K hK=>?_)
        refine goes_ Tryz.func175 (by kernel_rfl) rfl #[.agg #[.int .i64 ((zac l0 x6_1).f0),.int .i64 ((zac l0 x6_1).f1)],.agg #[.int .i64 ((zac l0 (ji8)).f0),.int .i64 ((zac l0 (ji8)).f1)],.agg #[.int .i64 a1_0,.int .i64 a1_1]] (by rfl) rfl rfl (by(try simp only [List.map_toArray,List.map_cons,List.map_nil]);first|done|(simp only [hji8];rfl)|rfl|(simp only [List.length_drop,List.length_take];rfl)) ?_
        with_reducible refine(zcq.calls ((zac l0 x6_1).f0) ((zac l0 x6_1).f1) ((zac l0 (ji8)).f0) ((zac l0 (ji8)).f1) a1_0 a1_1 t107 t108 _ A11.out).mono ?_
        rintro e w14 ⟨rfl,hb⟩
        refine⟨_,rfl,?_⟩
        replace HO_5:=am_ (Kd.zct qz22_ hb)
        replace BK101:=am_ (zak (g:=gb101) (o:=.cells #[.int .i64 a1_0,.int .i64 a1_1] 32 (0,0)) qz6_ hb)
        replace HB:=am_ (zab qz5_ hb)
        (try clear hb)
        (try clear hb2)
        (try clear hk)
        (try clear hi)
        refine hK.out _ _ ⟨(zaa BK101.out 0).trans rfl,(zaa BK101.out 1).trans rfl,((HB.out.cell (World.block_lt_of_cell? w _ hw105_0)).trans hw105_0),((HB.out.cell (World.block_lt_of_cell? w _ hw105_1)).trans hw105_1),((HB.out.cell (World.block_lt_of_cell? w _ hw106_0)).trans hw106_0),((HB.out.cell (World.block_lt_of_cell? w _ hw106_1)).trans hw106_1)⟩ (fun hHeld=>?_)
        clear hK K
        refine nm_ 25 ?_
        refine ot_ HT_ 12 (some 26) (bs_ 15 8191) (fun K hK=>?_)
        refine zbg (w1:=?_) (v:=?_) (by rfl) rfl ?_ ?_
        rotate_left 2
        ·
         go_simp
         constructor
         ·
          rfl
         ·
          rfl
        refine hK.out _ _ ⟨(zaa (zai BK101.out _) 0).trans rfl,(zaa (zai BK101.out _) 1).trans rfl,(World.cell?_alloc_lt _ _ _ (World.block_lt_of_cell? _ _ (((HB.out.cell (World.block_lt_of_cell? w _ hw105_0)).trans hw105_0)))).trans (((HB.out.cell (World.block_lt_of_cell? w _ hw105_0)).trans hw105_0)),(World.cell?_alloc_lt _ _ _ (World.block_lt_of_cell? _ _ (((HB.out.cell (World.block_lt_of_cell? w _ hw105_1)).trans hw105_1)))).trans (((HB.out.cell (World.block_lt_of_cell? w _ hw105_1)).trans hw105_1)),(World.cell?_alloc_lt _ _ _ (World.block_lt_of_cell? _ _ (((HB.out.cell (World.block_lt_of_cell? w _ hw106_0)).trans hw106_0)))).trans (((HB.out.cell (World.block_lt_of_cell? w _ hw106_0)).trans hw106_0)),(World.cell?_alloc_lt _ _ _ (World.block_lt_of_cell? _ _ (((HB.out.cell (World.block_lt_of_cell? w _ hw106_1)).trans hw106_1)))).trans (((HB.out.cell (World.block_lt_of_cell? w _ hw106_1)).trans hw106_1))⟩ (fun hHeld=>?_)
        clear hK K
        refine nm_ 26 ?_
        refine ot_ HT_ 13 (some 27) (bs_ 15 16383) (fun K hK=>?_)
        refine Kd.zgf k32 (w0:=w) w.heap.size (by rfl) (.tmp 14) (.tmp 26) 36 32 (.agg #[(.int .i64 0),(.int .i64 0)]) 16 rfl Tryz.underlying36 zgb rfl (by decide) (by omega) u5 x5_1 (⟨t107,t108⟩:S32) [.int .i64 t107,.int .i64 t108] (fun k_=>k_≠gb101) (fun _=>False) rfl rfl ?aP (fun _ hk=>hk.elim) ?aF ?aO ?aB ?aS ?aL ?_
        (case aP=>exact ze8 _ _ _ (⟨t107,t108⟩:S32))
        (case aB=>exact qz5_)
        (case aF=>exact(fun k_ hk=>Kd.zj0 (g:=gb101) (o:=.cells #[.int .i64 a1_0,.int .i64 a1_1] 32 (0,0)) qz6_ k_ hk))
        (case aO=>exact qz22_)
        (case aS=>exact(zaf qz5_))
        (case aL=>have:=LMc12.out;omega)
        intro v110 w15 ho hb hg hat
        rw [←Ny109.out] at ho
        replace BK101:=am_ (ze2 (g:=gb101) (o:=.cells #[.int .i64 a1_0,.int .i64 a1_1] 32 (0,0)) qz6_ hg (Kd.zh5 HO_5.out (fun _ hk=>hk)))
        replace HB:=am_ (hb)
        replace HO111:=am_ (ho)
        clear HO_5
        clear ho hb hg hat
        refine hK.out _ _ ⟨(zaa BK101.out 0).trans rfl,(zaa BK101.out 1).trans rfl,((HB.out.cell (World.block_lt_of_cell? w _ hw105_0)).trans hw105_0),((HB.out.cell (World.block_lt_of_cell? w _ hw105_1)).trans hw105_1),((HB.out.cell (World.block_lt_of_cell? w _ hw106_0)).trans hw106_0),((HB.out.cell (World.block_lt_of_cell? w _ hw106_1)).trans hw106_1)⟩ (fun hHeld=>?_)
        clear hK K
        refine nm_ 27 ?_
        refine pt_ HT_.out 14 5 (bs_ 15 32767) ?_
        refine done_ (zdr HT_.out (by kernel_rfl)) ?_
        try go_wp2
        go_roundg k1
        case measure=>have:=HK1.out;omega
        case rel=>exact⟨(y109),(wrap64 (x6_1 + 2)),qz0_,H',⟨qz13_⟩,⟨(by(with_reducible repeat(first|apply Kd.zbm|apply Kd.zbl|apply Kd.zbt));exact HO111.out)⟩,⟨qz6_⟩,⟨qz5_⟩⟩
       ·
        rw [if_neg c12] at H
        exact absurd H (by simp)
      ·
       rw [if_neg c10] at H
       exact absurd H (by simp)
     ·
      rw [if_neg c9] at H
      exact absurd H (by simp)
    ·
     rw [if_neg c7] at H
     exact absurd H (by simp)
   ·
    rw [if_neg c6] at H
    have c6b0:decide (x6_1<(l0.length:Int))=false:=decide_eq_false c6
    clear c6
    obtain rfl:=Option.some.inj H
    go_wp2
    go_ret
    exact⟨_,qz4_,(by(with_reducible repeat(first|apply Kd.zbm|apply Kd.zbl|apply Kd.zbt));exact Kd.zba HO_5.out (fun _ hk=>trivial)),qz5_⟩
def zch.l0:Nat→List (List (S32))→List (List (S32))→Int→Int→Int→Int→Option ((List (List (S32))))
 | 0,_,_,_,_,_,_=>none
 | k + 1,x5,x9,x10,x11,x102000,x102001=>if x11<x10 then(if 0≤x11 then(if x11<(x9.length:Int) then((zav.f k (rd_L3 x9 x11) x102000 x102001).bind fun t106=>(if x5.length<5864062014805 then(zch.l0 k (x5++[t106]) x9 x10 (wrap64 (x11 + 1)) x102000 x102001) else(none))) else(none)) else(none)) else(some x5)
def zch.f (k:Nat) (l0:List (List (S32))) (a1_0:Int) (a1_1:Int):Option ((List (List (S32)))):=zch.l0 k (([]:List (List (S32)))) l0 (l0.length:Int) 0 a1_0 a1_1
theorem zch.calls (k:Nat) (A0:Option Addr) (c0:Nat) (l0:List (List (S32))) (a1_0:Int) (a1_1:Int) (r:List (List (S32))) (w:World) (hr0:Kd.C (Kd.slice 32 k32) w A0 l0.length l0) (hc0:l0.length≤c0) (h:zch.f k l0 a1_0 a1_1=some r) :
  Calls Tryz.prog 105 #[.slice A0 l0.length c0,.agg #[.int .i64 a1_0,.int .i64 a1_1]] w fun e w'=>∃ v0_:Value,e=.returned (v0_)∧Kd.S (Kd.slice 32 k32) 36 w' w.heap.size (fun _=>True) v0_ r∧Below w.heap.size w w':=by
 have hu32:=Tryz.underlying32
 have HR0:=am_ hr0
 have HC0:=am_ hc0
 clear hr0 hc0
 have HB:=am_ (Below.refl w.heap.size w)
 have H:(zch.l0 k (([]:List (List (S32)))) l0 (l0.length:Int) 0 a1_0 a1_1)=some r:=h
 clear h
 obtain⟨y102,hy102⟩:∃ y_:List (List (S32)),y_=(([]:List (List (S32)))):=⟨_,rfl⟩
 replace H:(zch.l0 k y102 l0 (l0.length:Int) 0 a1_0 a1_1)=some r:=by first|(rw [hy102];with_reducible exact H)|(have H2_:=(Option.bind_some _ _).symm.trans H;rw [hy102];with_reducible exact H2_)|(have H2_:=(Option.bind_some _ _).symm.trans H;with_reducible exact H2_)|with_reducible exact H|(rw [hy102];exact H)|exact H
 have Ny102:=am_ hy102
 clear hy102
 have H':=am_ H
 clear H
 go_enter Tryz.func105,Tryz.ntmps105
 go_wp2_with (first|((with_reducible refine zad (N:=3) rfl ?_);refine zaj rfl (N:=3) rfl (cs:=#[.int .i64 a1_0,.int .i64 a1_1]) (t:=32) bx_ ?_;intro gb101 hg w3 hbox hb;replace BK101:=am_ (hbox);replace GW101:=am_ ((by rw [hg];exact(zaf qz2_):w.heap.size≤gb101));replace GE101:=GW101;replace HB:=am_ (zab qz2_ hb);clear hb hbox hg)|((with_reducible refine zad (N:=8) rfl ?_);refine Kd.S_lit (Kd.slice 32 k32) _ 36 ?hg (N:=8) ?hd (xs:=([]:List (List (S32)))) (inner:=[]) (ok:=fun _=>True) (okp:=fun _=>True) ?hr ?hp (fun _ hk=>hk) trivial (Below.refl _ _) (Nat.le_refl _) (by simp) ?_;(case hd=>rfl);(case hg=>rfl);(case hr=>first|(go_simp;done)|(go_simp;rfl));(case hp=>exact(Reps.none _ _));intro v103 w4 ho5 hb hg_ hnew_;clear hg_ hnew_;(first|rw [←Ny102.out] at ho5|(simp only [Int.reduceToNat] at ho5;rw [←Ny102.out] at ho5));replace HO104:=am_ (Kd.zhl (Kd.S_newB ho5 (g:=gb101) (o:=.cells #[.int .i64 a1_0,.int .i64 a1_1] 32 (0,0)) qz6_) (zaf qz5_));replace BK101:=am_ (zak (g:=gb101) (o:=.cells #[.int .i64 a1_0,.int .i64 a1_1] 32 (0,0)) qz6_ hb);replace HB:=am_ (zab qz5_ hb);clear hb ho5))
 go_loopg [5,11] k (fun kq v5 v11 w'=>∃ (x5_1:List (List (S32))) (x11_1:Int),v11=.int .i64 x11_1∧zal (zch.l0 kq x5_1 l0 (l0.length:Int) x11_1 a1_0 a1_1=some r)∧zal (kq≤k)∧zal (Kd.S (Kd.slice 32 k32) 36 w' w.heap.size (fun k_=>k_≠gb101) v5 x5_1)∧zal (w'.heap[gb101]?=some (.cells #[.int .i64 a1_0,.int .i64 a1_1] 32 (0,0)))∧zal (Below w.heap.size w w'))
 case atStart=>exact⟨(y102),(0),qz0_,H',⟨Nat.le_refl _⟩,⟨(by(with_reducible repeat(first|apply Kd.zea|apply Kd.zec|apply Kd.ze4));exact Kd.ze3 HO104.out (fun _ hk=>hk.2))⟩,⟨qz6_⟩,⟨qz5_⟩⟩
 case round=>
  clear H'
  try clear c1
  try clear p2
  obtain⟨x5_1,x11_1,rfl,HA,HK1,HO_5,BK101,HB⟩:=hrel
  cases gk with
  | zero=>exact absurd HA.out (by simp [zch.l0])
  | succ k1=>
   have H:=HA.out
   clear HA
   simp only [zch.l0] at H
   by_cases c6:x11_1<(l0.length:Int)
   ·
    rw [if_pos c6] at H
    have c6b0:decide (x11_1<(l0.length:Int))=true:=decide_eq_true c6
    clear c6
    by_cases c7:0≤x11_1
    ·
     rw [if_pos c7] at H
     have c7b0:decide (0≤x11_1)=true:=decide_eq_true c7
     clear c7
     by_cases c8:x11_1<(l0.length:Int)
     ·
      rw [if_pos c8] at H
      have c8b0:decide (x11_1<(l0.length:Int))=true:=decide_eq_true c8
      clear c8
      replace H:=Option.bind_eq_some_iff.mp H
      obtain⟨t106,A90,H⟩:=H
      replace H:(if x5_1.length<5864062014805 then(zch.l0 k1 (x5_1++[t106]) l0 (l0.length:Int) (wrap64 (x11_1 + 1)) a1_0 a1_1) else(none))=some r:=H
      have A9:=am_ A90
      clear A90
      by_cases c10:x5_1.length<5864062014805
      ·
       rw [if_pos c10] at H
       have LMc10:=am_ c10
       clear c10
       obtain⟨y109,hy109⟩:∃ y_:List (List (S32)),y_=(x5_1++[t106]):=⟨_,rfl⟩
       replace H:(zch.l0 k1 y109 l0 (l0.length:Int) (wrap64 (x11_1 + 1)) a1_0 a1_1)=some r:=by first|(rw [hy109];with_reducible exact H)|(have H2_:=(Option.bind_some _ _).symm.trans H;rw [hy109];with_reducible exact H2_)|(have H2_:=(Option.bind_some _ _).symm.trans H;with_reducible exact H2_)|with_reducible exact H|(rw [hy109];exact H)|exact H
       have Ny109:=am_ hy109
       clear hy109
       have H':=am_ H
       clear H
       have p105:0≤(x11_1:Int):=of_decide_eq_true qz10_
       have q105:x11_1<(l0.length:Int):=of_decide_eq_true qz10_
       obtain⟨ad105,A105_0,c105_0,e105,hx105_0,hl105_0,hi105_0⟩:=at_L3 HR0.out x11_1 p105 q105
       cases e105
       replace hx105_0:=(HB.out.cell (World.block_lt_of_cell? w _ hx105_0)).trans hx105_0
       have HR105_0:=am_ hi105_0
       have HC105_0:=am_ hl105_0
       clear hi105_0 hl105_0
       replace p105:=eq_true p105
       replace q105:=eq_true q105
       obtain⟨hcz11_0,hcz11_1,hfz11_0,hfz11_1⟩:=bf2_ BK101.out
       go_wp2_with (first|((with_reducible refine zan (f:=141) rfl ?_);refine gl_ (some 18) Tryz.func141 #[.slice A105_0 (rd_L3 l0 x11_1).length c105_0,.agg #[.int .i64 a1_0,.int .i64 a1_1]] ?_;(with_reducible refine(zav.calls k1 _ _ (rd_L3 l0 x11_1) a1_0 a1_1 t106 _ ?side1 ?side2 A9.out).mono ?_);(case side1=>exact qc_ (Kd.zbi HR105_0.out HB.out));(case side2=>exact HC105_0.out);rintro e w12 ⟨v107,rfl,ho0,hb⟩;refine⟨_,rfl,?_⟩;replace HO_5:=am_ (Kd.S_elder' (by(with_reducible repeat(first|apply Kd.zea|apply Kd.zec|apply Kd.ze4));exact HO_5.out) (Kd.zf8 ho0) hb);replace HO108:=am_ (Kd.zcw (Kd.zjf ho0 (g:=gb101) (o:=.cells #[.int .i64 a1_0,.int .i64 a1_1] 32 (0,0)) qz6_) (zaf qz5_));replace BK101:=am_ (zak (g:=gb101) (o:=.cells #[.int .i64 a1_0,.int .i64 a1_1] 32 (0,0)) qz6_ hb);replace HB:=am_ (zab qz5_ hb);(try clear hb);(try clear hb2);(try clear hk);(try clear hi);(try clear ho0);obtain⟨Ao14,co14,eo14⟩:=Kd.zcb HO108.out;subst eo14)|((with_reducible refine zb5 (b:=.append) (xs:=#[.tmp 15,.tmp 19]) rfl ?_);at_builtin;refine Kd.S_append (Kd.slice 32 k32) (w0:=w) w.heap.size rfl (.tmp 15) (.tmp 19) 29 36 (.slice none 0 0) 24 rfl Tryz.underlying29 zmf rfl (by decide) (by omega) u5 x5_1 t106 [.slice Ao14 t106.length co14] (fun k_=>k_≠gb101) (fun k_=>some k_=(.slice Ao14 t106.length co14:Value).ownBlock) rfl rfl ?aP (fun k_ hk_=>((Kd.zba (ok':=fun k_=>((fun k_=>k_≠gb101)) k_∧some k_≠(u5:Value).ownBlock) (Kd.R_apart' (HO108.out) (Kd.zia HO_5.out) (by decide)) (fun k_ hk=>⟨hk.1.2,hk.2⟩))).1 k_ hk_.symm) ?aF ?aO ?aB ?aS ?aL ?_;(case aP=>exact Kd.M_row (Kd.zba (Kd.zem rfl (Kd.zba (ok':=fun k_=>((fun k_=>k_≠gb101)) k_∧some k_≠(u5:Value).ownBlock) (Kd.R_apart' (HO108.out) (Kd.zia HO_5.out) (by decide)) (fun k_ hk=>⟨hk.1.2,hk.2⟩))) (fun _ h_=>h_)));(case aB=>exact qz5_);(case aF=>exact(fun k_ hk=>Kd.zj0 (g:=gb101) (o:=.cells #[.int .i64 a1_0,.int .i64 a1_1] 32 (0,0)) qz6_ k_ hk));(case aO=>exact(by(with_reducible repeat(first|apply Kd.zea|apply Kd.zec|apply Kd.ze4));exact Kd.ze3 HO_5.out (fun k_ hk=>⟨hk.1,fun e_=>hk.2 e_⟩)));(case aS=>exact(zaf qz5_));(case aL=>have:=LMc10.out;omega);intro v110 w13 ho hb hg hat;rw [←Ny109.out] at ho;replace BK101:=am_ (ze2 (g:=gb101) (o:=.cells #[.int .i64 a1_0,.int .i64 a1_1] 32 (0,0)) qz6_ hg (Kd.S_ne HO_5.out BK101.out (by decide)));replace HB:=am_ (hb);replace HO111:=am_ (ho);clear HO_5 HO108;clear ho hb hg hat))
       go_roundg k1
       case measure=>have:=HK1.out;omega
       case rel=>exact⟨(y109),(wrap64 (x11_1 + 1)),qz0_,H',⟨qz13_⟩,⟨(by(with_reducible repeat(first|apply Kd.zea|apply Kd.zec|apply Kd.ze4));exact HO111.out)⟩,⟨qz6_⟩,⟨qz5_⟩⟩
      ·
       rw [if_neg c10] at H
       exact absurd H (by simp)
     ·
      rw [if_neg c8] at H
      exact absurd H (by simp)
    ·
     rw [if_neg c7] at H
     exact absurd H (by simp)
   ·
    rw [if_neg c6] at H
    have c6b0:decide (x11_1<(l0.length:Int))=false:=decide_eq_false c6
    clear c6
    obtain rfl:=Option.some.inj H
    go_wp2
    go_ret
    exact⟨_,qz4_,(by(with_reducible repeat(first|apply Kd.zea|apply Kd.zec|apply Kd.ze4));exact Kd.ze3 HO_5.out (fun _ hk=>trivial)),qz5_⟩
def zbo.f (a0:Int) (l1:List (S32)):Option (Int × Int):=if a0=1 then(if 0<(l1.length:Int) then(if 1<(l1.length:Int) then((za1.f ((zac l1 0).f0) ((zac l1 0).f1) ((zac l1 1).f0) ((zac l1 1).f1)).bind fun bt104=>(some (bt104.1,bt104.2))) else(none)) else(none)) else(if 0<(l1.length:Int) then(if 1<(l1.length:Int) then(if 2<(l1.length:Int) then((za1.f ((zac l1 1).f0) ((zac l1 1).f1) ((zac l1 2).f0) ((zac l1 2).f1)).bind fun bt109=>(if 3<(l1.length:Int) then((zbq.f bt109.1 bt109.2 ((zac l1 3).f0) ((zac l1 3).f1)).bind fun bt112=>((za1.f ((zac l1 0).f0) ((zac l1 0).f1) bt112.1 bt112.2).bind fun bt114=>(some (bt114.1,bt114.2)))) else(none))) else(none)) else(none)) else(none))
def zbo.T2:Bool × List (List Nat × List Nat):=(true,[([],[]),([0],[0]),([1],[1]),([],[]),([3],[3]),([4],[4]),([2,5],[2,5]),([6,6,0,1,2,3,4,5,6],[6])])
def zbo.B2:List Nat:=[0,1,3,0,8,24,63,127]
theorem zbo.tab2:rtab .any (opsOf Tryz.f174 2)=zbo.T2:=by kernel_rfl
theorem zbo.bits2:zcu zbo.T2.2 zbo.B2=true:=by kernel_rfl
def zbo.T3:Bool × List (List Nat × List Nat):=(true,[([],[]),([0],[0]),([1],[1]),([],[]),([3],[3]),([4],[4]),([],[]),([6],[6]),([7],[7]),([5,8],[5,8]),([],[]),([10],[10]),([11],[11]),([9,12,9],[9,12]),([2,13,13],[2,13]),([14,14,0,1,2,3,4,5,6,7,8,9,10,11,12,13,14],[14])])
def zbo.B3:List Nat:=[0,1,3,0,8,24,0,64,192,504,0,1024,3072,8184,16383,32767]
theorem zbo.tab3:rtab .any (opsOf Tryz.f174 3)=zbo.T3:=by kernel_rfl
theorem zbo.bits3:zcu zbo.T3.2 zbo.B3=true:=by kernel_rfl
theorem zbo.calls (a0:Int) (A1:Option Addr) (c1:Nat) (l1:List (S32)) (r1:Int) (r2:Int) (w:World) (hr1:Kd.C k32 w A1 l1.length l1) (hc1:l1.length≤c1) (h:zbo.f a0 l1=some (r1,r2)) :
  Calls Tryz.prog 174 #[.int .i64 a0,.slice A1 l1.length c1] w fun e w'=>e=.returned (.agg #[.int .i64 r1,.int .i64 r2])∧Below w.heap.size w w':=by
 have hu32:=Tryz.underlying32
 have HR1:=am_ hr1
 have HC1:=am_ hc1
 clear hr1 hc1
 have HB:=am_ (Below.refl w.heap.size w)
 have H:(if a0=1 then(if 0<(l1.length:Int) then(if 1<(l1.length:Int) then((za1.f ((zac l1 0).f0) ((zac l1 0).f1) ((zac l1 1).f0) ((zac l1 1).f1)).bind fun bt104=>(some (bt104.1,bt104.2))) else(none)) else(none)) else(if 0<(l1.length:Int) then(if 1<(l1.length:Int) then(if 2<(l1.length:Int) then((za1.f ((zac l1 1).f0) ((zac l1 1).f1) ((zac l1 2).f0) ((zac l1 2).f1)).bind fun bt109=>(if 3<(l1.length:Int) then((zbq.f bt109.1 bt109.2 ((zac l1 3).f0) ((zac l1 3).f1)).bind fun bt112=>((za1.f ((zac l1 0).f0) ((zac l1 0).f1) bt112.1 bt112.2).bind fun bt114=>(some (bt114.1,bt114.2)))) else(none))) else(none)) else(none)) else(none)))=some (r1,r2):=h
 clear h
 by_cases c3:a0=1
 ·
  rw [if_pos c3] at H
  have c3b0:(a0 == 1)=true:=beq_iff_eq.mpr c3
  have c3b1:(a0 != 1)=false:=bne_eq_false_iff_eq.mpr c3
  clear c3
  by_cases c4:0<(l1.length:Int)
  ·
   rw [if_pos c4] at H
   have c4b0:decide (0<(l1.length:Int))=true:=decide_eq_true c4
   have c4b1:decide (0<l1.length)=true:=decide_eq_true (by omega)
   clear c4
   by_cases c5:1<(l1.length:Int)
   ·
    rw [if_pos c5] at H
    have c5b0:decide (1<(l1.length:Int))=true:=decide_eq_true c5
    have c5b1:decide (1<l1.length)=true:=decide_eq_true (by omega)
    clear c5
    replace H:=Option.bind_eq_some_iff.mp H
    obtain⟨⟨t104,t105⟩,A60,H⟩:=H
    replace H:(some (t104,t105))=some (r1,r2):=H
    have A6:=am_ A60
    clear A60
    simp only [Option.some.injEq,Prod.mk.injEq] at H
    obtain⟨rfl,rfl⟩:=H
    go_enter Tryz.func174,Tryz.ntmps174
    try go_wp2_with (first|((with_reducible refine zad (N:=4) rfl ?_);refine zaj rfl (N:=4) rfl (cs:=#[.int .i64 0,.int .i64 0]) (t:=32) bx_ ?_;intro gb101 hg w7 hbox hb;replace BK101:=am_ (hbox);replace GW101:=am_ ((by rw [hg];exact(zaf qz2_):w.heap.size≤gb101));replace GE101:=GW101;replace HB:=am_ (zab qz2_ hb);clear hb hbox hg))
    replace BK101:=am_ (zae BK101.out)
    replace HB:=am_ (zao HB.out)
    have p102:0≤(0:Int):=(by omega)
    have q102:0<(l1.length:Int):=of_decide_eq_true qz10_
    obtain⟨ad102,e102,hx102_0,hx102_1⟩:=zdf HR1.out 0 p102 q102
    have hw102_1:=hx102_1
    (try rw [show ((0:Int)).toNat=0 from rfl] at hw102_1)
    (try rw [show 0 * 2=0 from rfl] at hw102_1)
    (try rw [Addr.add_zero'] at hw102_1)
    have hw102_0:=hx102_0
    (try rw [show ((0:Int)).toNat=0 from rfl] at hw102_0)
    (try rw [show 0 * 2=0 from rfl] at hw102_0)
    (try rw [Addr.add_zero'] at hw102_0)
    cases e102
    have qi102:(0<l1.length)=True:=eq_true (by omega)
    (try rw [show ((0:Int)).toNat=0 from rfl] at hx102_0)
    (try rw [show 0 * 2=0 from rfl] at hx102_0)
    (try rw [Addr.add_zero'] at hx102_0)
    (try rw [show ((0:Int)).toNat=0 from rfl] at hx102_1)
    (try rw [show 0 * 2=0 from rfl] at hx102_1)
    (try rw [Addr.add_zero'] at hx102_1)
    replace hx102_0:=(HB.out.cell (World.block_lt_of_cell? w _ hx102_0)).trans hx102_0
    replace hx102_1:=(HB.out.cell (World.block_lt_of_cell? w _ hx102_1)).trans hx102_1
    replace p102:=eq_true p102
    replace q102:=eq_true q102
    have p103:0≤(1:Int):=(by omega)
    have q103:1<(l1.length:Int):=of_decide_eq_true qz10_
    obtain⟨ad103,e103,hx103_0,hx103_1⟩:=zdf HR1.out 1 p103 q103
    have hw103_1:=hx103_1
    (try rw [show ((1:Int)).toNat=1 from rfl] at hw103_1)
    (try rw [show 1 * 2=2 from rfl] at hw103_1)
    (try simp only [Nat.reduceMul,Nat.reduceEqDiff,Go.Addr.add,↓reduceIte] at hw103_1)
    have hw103_0:=hx103_0
    (try rw [show ((1:Int)).toNat=1 from rfl] at hw103_0)
    (try rw [show 1 * 2=2 from rfl] at hw103_0)
    (try simp only [Nat.reduceMul,Nat.reduceEqDiff,Go.Addr.add,↓reduceIte] at hw103_0)
    obtain rfl:ad102=ad103:=(by injection e103)
    (try simp only [show (1:Int).toNat=1 from rfl,Nat.reduceMul,Nat.reduceEqDiff,Go.Addr.add,↓reduceIte] at hx103_0)
    (try simp only [show (1:Int).toNat=1 from rfl,Nat.reduceMul,Nat.reduceEqDiff,Go.Addr.add,↓reduceIte] at hx103_1)
    have qi103:(1<l1.length)=True:=eq_true (by omega)
    (try rw [show ((1:Int)).toNat=1 from rfl] at hx103_0)
    (try rw [show 1 * 2=2 from rfl] at hx103_0)
    (try rw [show ((1:Int)).toNat=1 from rfl] at hx103_1)
    (try rw [show 1 * 2=2 from rfl] at hx103_1)
    replace hx103_0:=(HB.out.cell (World.block_lt_of_cell? w _ hx103_0)).trans hx103_0
    replace hx103_1:=(HB.out.cell (World.block_lt_of_cell? w _ hx103_1)).trans hx103_1
    replace p103:=eq_true p103
    replace q103:=eq_true q103
    refine zcn (n:=8) (S:=fun w'=>w'.cell? ad102=some (.int .i64 ((zac l1 0).f0))∧w'.cell? ⟨ad102.block,ad102.off + 1,none⟩=some (.int .i64 ((zac l1 0).f1))∧w'.cell? ⟨ad102.block,ad102.off + 2,none⟩=some (.int .i64 ((zac l1 1).f0))∧w'.cell? ⟨ad102.block,ad102.off + 2 + 1,none⟩=some (.int .i64 ((zac l1 1).f1))) (ds:=[]) (bs_ 8 0) (by kernel_rfl) rfl rfl ⟨((HB.out.cell (World.block_lt_of_cell? w _ hw102_0)).trans hw102_0),((HB.out.cell (World.block_lt_of_cell? w _ hw102_1)).trans hw102_1),((HB.out.cell (World.block_lt_of_cell? w _ hw103_0)).trans hw103_0),((HB.out.cell (World.block_lt_of_cell? w _ hw103_1)).trans hw103_1)⟩ (fun hHeld=>?_);refine zcj zbo.tab2 zbo.bits2 (fun HT_ HW_=>?_)
    generalize w7.drew=w8 at BK101 HB hx102_0 hx102_1 hx103_0 hx103_1 hHeld ⊢
    refine pt_ HT_.out 0 7 (bs_ 8 1) ?_
    refine pt_ HT_.out 1 8 (bs_ 8 3) ?_
    refine pt_ HT_.out 3 10 (bs_ 8 11) ?_
    refine pt_ HT_.out 4 11 (bs_ 8 27) ?_
    refine tt_ HT_ HW_ 2 (bs_ 8 31) hHeld ?_
    refine tt_ HT_ HW_ 5 (bs_ 8 63) hHeld ?_
    refine ot_ HT_ 6 (some 13) (bs_ 8 127) (fun K hK=>?_)
    refine go_ Tryz.func133 #[.agg #[.int .i64 ((zac l1 0).f0),.int .i64 ((zac l1 0).f1)],.agg #[.int .i64 ((zac l1 1).f0),.int .i64 ((zac l1 1).f1)]] ?_
    with_reducible refine(za1.calls ((zac l1 0).f0) ((zac l1 0).f1) ((zac l1 1).f0) ((zac l1 1).f1) t104 t105 _ A6.out).mono ?_
    rintro e w9 ⟨rfl,hb⟩
    refine⟨_,rfl,?_⟩
    replace BK101:=am_ (zak (g:=gb101) (o:=.cells #[.int .i64 0,.int .i64 0] 32 (0,0)) qz6_ hb)
    replace HB:=am_ (zab qz5_ hb)
    (try clear hb)
    (try clear hb2)
    (try clear hk)
    (try clear hi)
    refine hK.out _ _ ⟨((HB.out.cell (World.block_lt_of_cell? w _ hw102_0)).trans hw102_0),((HB.out.cell (World.block_lt_of_cell? w _ hw102_1)).trans hw102_1),((HB.out.cell (World.block_lt_of_cell? w _ hw103_0)).trans hw103_0),((HB.out.cell (World.block_lt_of_cell? w _ hw103_1)).trans hw103_1)⟩ (fun hHeld=>?_)
    clear hK K
    refine nm_ 13 ?_
    refine ot_ HT_ 7 none (bs_ 8 255) (fun K hK=>?_)
    obtain⟨hs10,hfs10⟩:=bi_ BK101.out 0
    obtain⟨hs11,hfs11⟩:=bi_ BK101.out 1
    refine skip_ (w1:=?_) (by rfl) rfl ?_ ?_
    rotate_left
    ·
     go_simp
     rfl
    refine hK.out _ _ ⟨((cell_far (p:=⟨gb101,_,none⟩) qz48_ _).trans (((cell_far (p:=⟨gb101,_,none⟩) qz48_ _).trans (hHeld.1)))),((cell_far (p:=⟨gb101,_,none⟩) qz49_ _).trans (((cell_far (p:=⟨gb101,_,none⟩) qz49_ _).trans (hHeld.2.1)))),((cell_far (p:=⟨gb101,_,none⟩) qz50_ _).trans (((cell_far (p:=⟨gb101,_,none⟩) qz50_ _).trans (hHeld.2.2.1)))),((cell_far (p:=⟨gb101,_,none⟩) qz51_ _).trans (((cell_far (p:=⟨gb101,_,none⟩) qz51_ _).trans (hHeld.2.2.2))))⟩ (fun hHeld=>?_)
    clear hK K
    refine done_ (zdr HT_.out (by kernel_rfl)) ?_
    try go_wp2
    refine bodyPost_ret (results_cell_row rfl _ _ gb101 32 #[.int .i64 t104,.int .i64 t105] (0,0) _ rfl (by(with_reducible repeat(first|refine zah ?_ _|refine zae ?_|refine zai ?_ _));refine za9 (cs:=#[.int .i64 t104,.int .i64 0]) ?_ 1 _ rfl;(with_reducible repeat(first|refine zah ?_ _|refine zae ?_|refine zai ?_ _));refine za9 (cs:=#[.int .i64 0,.int .i64 0]) ?_ 0 _ rfl;(with_reducible repeat(first|refine zah ?_ _|refine zae ?_|refine zai ?_ _));exact BK101.out) Tryz.underlying32 rfl (by kernel_rfl)) rfl ?_
    exact⟨qz4_,qz5_⟩
   ·
    rw [if_neg c5] at H
    exact absurd H (by simp)
  ·
   rw [if_neg c4] at H
   exact absurd H (by simp)
 ·
  rw [if_neg c3] at H
  have c3b0:(a0 == 1)=false:=beq_eq_false_iff_ne.mpr c3
  have c3b1:(a0 != 1)=true:=bne_iff_ne.mpr c3
  by_cases c12:0<(l1.length:Int)
  ·
   rw [if_pos c12] at H
   have c12b0:decide (0<(l1.length:Int))=true:=decide_eq_true c12
   have c12b1:decide (0<l1.length)=true:=decide_eq_true (by omega)
   clear c12
   by_cases c13:1<(l1.length:Int)
   ·
    rw [if_pos c13] at H
    have c13b0:decide (1<(l1.length:Int))=true:=decide_eq_true c13
    have c13b1:decide (1<l1.length)=true:=decide_eq_true (by omega)
    clear c13
    by_cases c14:2<(l1.length:Int)
    ·
     rw [if_pos c14] at H
     have c14b0:decide (2<(l1.length:Int))=true:=decide_eq_true c14
     have c14b1:decide (2<l1.length)=true:=decide_eq_true (by omega)
     clear c14
     replace H:=Option.bind_eq_some_iff.mp H
     obtain⟨⟨t109,t110⟩,A150,H⟩:=H
     replace H:(if 3<(l1.length:Int) then((zbq.f t109 t110 ((zac l1 3).f0) ((zac l1 3).f1)).bind fun bt112=>((za1.f ((zac l1 0).f0) ((zac l1 0).f1) bt112.1 bt112.2).bind fun bt114=>(some (bt114.1,bt114.2)))) else(none))=some (r1,r2):=H
     have A15:=am_ A150
     clear A150
     by_cases c16:3<(l1.length:Int)
     ·
      rw [if_pos c16] at H
      have c16b0:decide (3<(l1.length:Int))=true:=decide_eq_true c16
      have c16b1:decide (3<l1.length)=true:=decide_eq_true (by omega)
      clear c16
      replace H:=Option.bind_eq_some_iff.mp H
      obtain⟨⟨t112,t113⟩,A170,H⟩:=H
      replace H:((za1.f ((zac l1 0).f0) ((zac l1 0).f1) t112 t113).bind fun bt114=>(some (bt114.1,bt114.2)))=some (r1,r2):=H
      have A17:=am_ A170
      clear A170
      replace H:=Option.bind_eq_some_iff.mp H
      obtain⟨⟨t114,t115⟩,A180,H⟩:=H
      replace H:(some (t114,t115))=some (r1,r2):=H
      have A18:=am_ A180
      clear A180
      simp only [Option.some.injEq,Prod.mk.injEq] at H
      obtain⟨rfl,rfl⟩:=H
      go_enter Tryz.func174,Tryz.ntmps174
      try go_wp2_with (first|((with_reducible refine zad (N:=4) rfl ?_);refine zaj rfl (N:=4) rfl (cs:=#[.int .i64 0,.int .i64 0]) (t:=32) bx_ ?_;intro gb101 hg w19 hbox hb;replace BK101:=am_ (hbox);replace GW101:=am_ ((by rw [hg];exact(zaf qz2_):w.heap.size≤gb101));replace GE101:=GW101;replace HB:=am_ (zab qz2_ hb);clear hb hbox hg))
      replace BK101:=am_ (zae BK101.out)
      replace HB:=am_ (zao HB.out)
      have p106:0≤(0:Int):=(by omega)
      have q106:0<(l1.length:Int):=of_decide_eq_true qz10_
      obtain⟨ad106,e106,hx106_0,hx106_1⟩:=zdf HR1.out 0 p106 q106
      have hw106_1:=hx106_1
      (try rw [show ((0:Int)).toNat=0 from rfl] at hw106_1)
      (try rw [show 0 * 2=0 from rfl] at hw106_1)
      (try rw [Addr.add_zero'] at hw106_1)
      have hw106_0:=hx106_0
      (try rw [show ((0:Int)).toNat=0 from rfl] at hw106_0)
      (try rw [show 0 * 2=0 from rfl] at hw106_0)
      (try rw [Addr.add_zero'] at hw106_0)
      cases e106
      have qi106:(0<l1.length)=True:=eq_true (by omega)
      (try rw [show ((0:Int)).toNat=0 from rfl] at hx106_0)
      (try rw [show 0 * 2=0 from rfl] at hx106_0)
      (try rw [Addr.add_zero'] at hx106_0)
      (try rw [show ((0:Int)).toNat=0 from rfl] at hx106_1)
      (try rw [show 0 * 2=0 from rfl] at hx106_1)
      (try rw [Addr.add_zero'] at hx106_1)
      replace hx106_0:=(HB.out.cell (World.block_lt_of_cell? w _ hx106_0)).trans hx106_0
      replace hx106_1:=(HB.out.cell (World.block_lt_of_cell? w _ hx106_1)).trans hx106_1
      replace p106:=eq_true p106
      replace q106:=eq_true q106
      have p107:0≤(1:Int):=(by omega)
      have q107:1<(l1.length:Int):=of_decide_eq_true qz10_
      obtain⟨ad107,e107,hx107_0,hx107_1⟩:=zdf HR1.out 1 p107 q107
      have hw107_1:=hx107_1
      (try rw [show ((1:Int)).toNat=1 from rfl] at hw107_1)
      (try rw [show 1 * 2=2 from rfl] at hw107_1)
      (try simp only [Nat.reduceMul,Nat.reduceEqDiff,Go.Addr.add,↓reduceIte] at hw107_1)
      have hw107_0:=hx107_0
      (try rw [show ((1:Int)).toNat=1 from rfl] at hw107_0)
      (try rw [show 1 * 2=2 from rfl] at hw107_0)
      (try simp only [Nat.reduceMul,Nat.reduceEqDiff,Go.Addr.add,↓reduceIte] at hw107_0)
      obtain rfl:ad106=ad107:=(by injection e107)
      (try simp only [show (1:Int).toNat=1 from rfl,Nat.reduceMul,Nat.reduceEqDiff,Go.Addr.add,↓reduceIte] at hx107_0)
      (try simp only [show (1:Int).toNat=1 from rfl,Nat.reduceMul,Nat.reduceEqDiff,Go.Addr.add,↓reduceIte] at hx107_1)
      have qi107:(1<l1.length)=True:=eq_true (by omega)
      (try rw [show ((1:Int)).toNat=1 from rfl] at hx107_0)
      (try rw [show 1 * 2=2 from rfl] at hx107_0)
      (try rw [show ((1:Int)).toNat=1 from rfl] at hx107_1)
      (try rw [show 1 * 2=2 from rfl] at hx107_1)
      replace hx107_0:=(HB.out.cell (World.block_lt_of_cell? w _ hx107_0)).trans hx107_0
      replace hx107_1:=(HB.out.cell (World.block_lt_of_cell? w _ hx107_1)).trans hx107_1
      replace p107:=eq_true p107
      replace q107:=eq_true q107
      have p108:0≤(2:Int):=(by omega)
      have q108:2<(l1.length:Int):=of_decide_eq_true qz10_
      obtain⟨ad108,e108,hx108_0,hx108_1⟩:=zdf HR1.out 2 p108 q108
      have hw108_1:=hx108_1
      (try rw [show ((2:Int)).toNat=2 from rfl] at hw108_1)
      (try rw [show 2 * 2=4 from rfl] at hw108_1)
      (try simp only [Nat.reduceMul,Nat.reduceEqDiff,Go.Addr.add,↓reduceIte] at hw108_1)
      have hw108_0:=hx108_0
      (try rw [show ((2:Int)).toNat=2 from rfl] at hw108_0)
      (try rw [show 2 * 2=4 from rfl] at hw108_0)
      (try simp only [Nat.reduceMul,Nat.reduceEqDiff,Go.Addr.add,↓reduceIte] at hw108_0)
      obtain rfl:ad106=ad108:=(by injection e108)
      (try simp only [show (2:Int).toNat=2 from rfl,Nat.reduceMul,Nat.reduceEqDiff,Go.Addr.add,↓reduceIte] at hx108_0)
      (try simp only [show (2:Int).toNat=2 from rfl,Nat.reduceMul,Nat.reduceEqDiff,Go.Addr.add,↓reduceIte] at hx108_1)
      have qi108:(2<l1.length)=True:=eq_true (by omega)
      (try rw [show ((2:Int)).toNat=2 from rfl] at hx108_0)
      (try rw [show 2 * 2=4 from rfl] at hx108_0)
      (try rw [show ((2:Int)).toNat=2 from rfl] at hx108_1)
      (try rw [show 2 * 2=4 from rfl] at hx108_1)
      replace hx108_0:=(HB.out.cell (World.block_lt_of_cell? w _ hx108_0)).trans hx108_0
      replace hx108_1:=(HB.out.cell (World.block_lt_of_cell? w _ hx108_1)).trans hx108_1
      replace p108:=eq_true p108
      replace q108:=eq_true q108
      have p111:0≤(3:Int):=(by omega)
      have q111:3<(l1.length:Int):=of_decide_eq_true qz10_
      obtain⟨ad111,e111,hx111_0,hx111_1⟩:=zdf HR1.out 3 p111 q111
      have hw111_1:=hx111_1
      (try rw [show ((3:Int)).toNat=3 from rfl] at hw111_1)
      (try rw [show 3 * 2=6 from rfl] at hw111_1)
      (try simp only [Nat.reduceMul,Nat.reduceEqDiff,Go.Addr.add,↓reduceIte] at hw111_1)
      have hw111_0:=hx111_0
      (try rw [show ((3:Int)).toNat=3 from rfl] at hw111_0)
      (try rw [show 3 * 2=6 from rfl] at hw111_0)
      (try simp only [Nat.reduceMul,Nat.reduceEqDiff,Go.Addr.add,↓reduceIte] at hw111_0)
      obtain rfl:ad106=ad111:=(by injection e111)
      (try simp only [show (3:Int).toNat=3 from rfl,Nat.reduceMul,Nat.reduceEqDiff,Go.Addr.add,↓reduceIte] at hx111_0)
      (try simp only [show (3:Int).toNat=3 from rfl,Nat.reduceMul,Nat.reduceEqDiff,Go.Addr.add,↓reduceIte] at hx111_1)
      have qi111:(3<l1.length)=True:=eq_true (by omega)
      (try rw [show ((3:Int)).toNat=3 from rfl] at hx111_0)
      (try rw [show 3 * 2=6 from rfl] at hx111_0)
      (try rw [show ((3:Int)).toNat=3 from rfl] at hx111_1)
      (try rw [show 3 * 2=6 from rfl] at hx111_1)
      replace hx111_0:=(HB.out.cell (World.block_lt_of_cell? w _ hx111_0)).trans hx111_0
      replace hx111_1:=(HB.out.cell (World.block_lt_of_cell? w _ hx111_1)).trans hx111_1
      replace p111:=eq_true p111
      replace q111:=eq_true q111
      refine zcn (n:=16) (S:=fun w'=>w'.cell? ad106=some (.int .i64 ((zac l1 0).f0))∧w'.cell? ⟨ad106.block,ad106.off + 1,none⟩=some (.int .i64 ((zac l1 0).f1))∧w'.cell? ⟨ad106.block,ad106.off + 2,none⟩=some (.int .i64 ((zac l1 1).f0))∧w'.cell? ⟨ad106.block,ad106.off + 2 + 1,none⟩=some (.int .i64 ((zac l1 1).f1))∧w'.cell? ⟨ad106.block,ad106.off + 4,none⟩=some (.int .i64 ((zac l1 2).f0))∧w'.cell? ⟨ad106.block,ad106.off + 4 + 1,none⟩=some (.int .i64 ((zac l1 2).f1))∧w'.cell? ⟨ad106.block,ad106.off + 6,none⟩=some (.int .i64 ((zac l1 3).f0))∧w'.cell? ⟨ad106.block,ad106.off + 6 + 1,none⟩=some (.int .i64 ((zac l1 3).f1))) (ds:=[]) (bs_ 16 0) (by kernel_rfl) rfl rfl ⟨((HB.out.cell (World.block_lt_of_cell? w _ hw106_0)).trans hw106_0),((HB.out.cell (World.block_lt_of_cell? w _ hw106_1)).trans hw106_1),((HB.out.cell (World.block_lt_of_cell? w _ hw107_0)).trans hw107_0),((HB.out.cell (World.block_lt_of_cell? w _ hw107_1)).trans hw107_1),((HB.out.cell (World.block_lt_of_cell? w _ hw108_0)).trans hw108_0),((HB.out.cell (World.block_lt_of_cell? w _ hw108_1)).trans hw108_1),((HB.out.cell (World.block_lt_of_cell? w _ hw111_0)).trans hw111_0),((HB.out.cell (World.block_lt_of_cell? w _ hw111_1)).trans hw111_1)⟩ (fun hHeld=>?_);refine zcj zbo.tab3 zbo.bits3 (fun HT_ HW_=>?_)
      generalize w19.drew=w20 at BK101 HB hx106_0 hx106_1 hx107_0 hx107_1 hx108_0 hx108_1 hx111_0 hx111_1 hHeld ⊢
      refine pt_ HT_.out 0 14 (bs_ 16 1) ?_
      refine pt_ HT_.out 1 15 (bs_ 16 3) ?_
      refine pt_ HT_.out 3 17 (bs_ 16 11) ?_
      refine pt_ HT_.out 4 18 (bs_ 16 27) ?_
      refine pt_ HT_.out 6 20 (bs_ 16 91) ?_
      refine pt_ HT_.out 7 21 (bs_ 16 219) ?_
      refine pt_ HT_.out 10 24 (bs_ 16 1243) ?_
      refine pt_ HT_.out 11 25 (bs_ 16 3291) ?_
      refine tt_ HT_ HW_ 2 (bs_ 16 3295) hHeld ?_
      refine tt_ HT_ HW_ 5 (bs_ 16 3327) hHeld ?_
      refine tt_ HT_ HW_ 8 (bs_ 16 3583) hHeld ?_
      refine tt_ HT_ HW_ 12 (bs_ 16 7679) hHeld ?_
      refine ot_ HT_ 9 (some 23) (bs_ 16 8191) (fun K hK=>?_)
      refine go_ Tryz.func133 #[.agg #[.int .i64 ((zac l1 1).f0),.int .i64 ((zac l1 1).f1)],.agg #[.int .i64 ((zac l1 2).f0),.int .i64 ((zac l1 2).f1)]] ?_
      with_reducible refine(za1.calls ((zac l1 1).f0) ((zac l1 1).f1) ((zac l1 2).f0) ((zac l1 2).f1) t109 t110 _ A15.out).mono ?_
      rintro e w21 ⟨rfl,hb⟩
      refine⟨_,rfl,?_⟩
      replace BK101:=am_ (zak (g:=gb101) (o:=.cells #[.int .i64 0,.int .i64 0] 32 (0,0)) qz6_ hb)
      replace HB:=am_ (zab qz5_ hb)
      (try clear hb)
      (try clear hb2)
      (try clear hk)
      (try clear hi)
      refine hK.out _ _ ⟨((HB.out.cell (World.block_lt_of_cell? w _ hw106_0)).trans hw106_0),((HB.out.cell (World.block_lt_of_cell? w _ hw106_1)).trans hw106_1),((HB.out.cell (World.block_lt_of_cell? w _ hw107_0)).trans hw107_0),((HB.out.cell (World.block_lt_of_cell? w _ hw107_1)).trans hw107_1),((HB.out.cell (World.block_lt_of_cell? w _ hw108_0)).trans hw108_0),((HB.out.cell (World.block_lt_of_cell? w _ hw108_1)).trans hw108_1),((HB.out.cell (World.block_lt_of_cell? w _ hw111_0)).trans hw111_0),((HB.out.cell (World.block_lt_of_cell? w _ hw111_1)).trans hw111_1)⟩ (fun hHeld=>?_)
      clear hK K
      refine nm_ 23 ?_
      refine ot_ HT_ 13 (some 27) (bs_ 16 16383) (fun K hK=>?_)
      refine go_ Tryz.func131 #[.agg #[.int .i64 t109,.int .i64 t110],.agg #[.int .i64 ((zac l1 3).f0),.int .i64 ((zac l1 3).f1)]] ?_
      with_reducible refine(zbq.calls t109 t110 ((zac l1 3).f0) ((zac l1 3).f1) t112 t113 _ A17.out).mono ?_
      rintro e w22 ⟨rfl,hb⟩
      refine⟨_,rfl,?_⟩
      replace BK101:=am_ (zak (g:=gb101) (o:=.cells #[.int .i64 0,.int .i64 0] 32 (0,0)) qz6_ hb)
      replace HB:=am_ (zab qz5_ hb)
      (try clear hb)
      (try clear hb2)
      (try clear hk)
      (try clear hi)
      refine hK.out _ _ ⟨((HB.out.cell (World.block_lt_of_cell? w _ hw106_0)).trans hw106_0),((HB.out.cell (World.block_lt_of_cell? w _ hw106_1)).trans hw106_1),((HB.out.cell (World.block_lt_of_cell? w _ hw107_0)).trans hw107_0),((HB.out.cell (World.block_lt_of_cell? w _ hw107_1)).trans hw107_1),((HB.out.cell (World.block_lt_of_cell? w _ hw108_0)).trans hw108_0),((HB.out.cell (World.block_lt_of_cell? w _ hw108_1)).trans hw108_1),((HB.out.cell (World.block_lt_of_cell? w _ hw111_0)).trans hw111_0),((HB.out.cell (World.block_lt_of_cell? w _ hw111_1)).trans hw111_1)⟩ (fun hHeld=>?_)
      clear hK K
      refine nm_ 27 ?_
      refine ot_ HT_ 14 (some 28) (bs_ 16 32767) (fun K hK=>?_)
      refine go_ Tryz.func133 #[.agg #[.int .i64 ((zac l1 0).f0),.int .i64 ((zac l1 0).f1)],.agg #[.int .i64 t112,.int .i64 t113]] ?_
      with_reducible refine(za1.calls ((zac l1 0).f0) ((zac l1 0).f1) t112 t113 t114 t115 _ A18.out).mono ?_
      rintro e w23 ⟨rfl,hb⟩
      refine⟨_,rfl,?_⟩
      replace BK101:=am_ (zak (g:=gb101) (o:=.cells #[.int .i64 0,.int .i64 0] 32 (0,0)) qz6_ hb)
      replace HB:=am_ (zab qz5_ hb)
      (try clear hb)
      (try clear hb2)
      (try clear hk)
      (try clear hi)
      refine hK.out _ _ ⟨((HB.out.cell (World.block_lt_of_cell? w _ hw106_0)).trans hw106_0),((HB.out.cell (World.block_lt_of_cell? w _ hw106_1)).trans hw106_1),((HB.out.cell (World.block_lt_of_cell? w _ hw107_0)).trans hw107_0),((HB.out.cell (World.block_lt_of_cell? w _ hw107_1)).trans hw107_1),((HB.out.cell (World.block_lt_of_cell? w _ hw108_0)).trans hw108_0),((HB.out.cell (World.block_lt_of_cell? w _ hw108_1)).trans hw108_1),((HB.out.cell (World.block_lt_of_cell? w _ hw111_0)).trans hw111_0),((HB.out.cell (World.block_lt_of_cell? w _ hw111_1)).trans hw111_1)⟩ (fun hHeld=>?_)
      clear hK K
      refine nm_ 28 ?_
      refine ot_ HT_ 15 none (bs_ 16 65535) (fun K hK=>?_)
      obtain⟨hs24,hfs24⟩:=bi_ BK101.out 0
      obtain⟨hs25,hfs25⟩:=bi_ BK101.out 1
      refine skip_ (w1:=?_) (by rfl) rfl ?_ ?_
      rotate_left
      ·
       go_simp
       rfl
      refine hK.out _ _ ⟨((cell_far (p:=⟨gb101,_,none⟩) qz52_ _).trans (((cell_far (p:=⟨gb101,_,none⟩) qz52_ _).trans (hHeld.1)))),((cell_far (p:=⟨gb101,_,none⟩) qz53_ _).trans (((cell_far (p:=⟨gb101,_,none⟩) qz53_ _).trans (hHeld.2.1)))),((cell_far (p:=⟨gb101,_,none⟩) qz54_ _).trans (((cell_far (p:=⟨gb101,_,none⟩) qz54_ _).trans (hHeld.2.2.1)))),((cell_far (p:=⟨gb101,_,none⟩) qz55_ _).trans (((cell_far (p:=⟨gb101,_,none⟩) qz55_ _).trans (hHeld.2.2.2.1)))),((cell_far (p:=⟨gb101,_,none⟩) qz56_ _).trans (((cell_far (p:=⟨gb101,_,none⟩) qz56_ _).trans (hHeld.2.2.2.2.1)))),((cell_far (p:=⟨gb101,_,none⟩) qz57_ _).trans (((cell_far (p:=⟨gb101,_,none⟩) qz57_ _).trans (hHeld.2.2.2.2.2.1)))),((cell_far (p:=⟨gb101,_,none⟩) qz58_ _).trans (((cell_far (p:=⟨gb101,_,none⟩) qz58_ _).trans (hHeld.2.2.2.2.2.2.1)))),((cell_far (p:=⟨gb101,_,none⟩) qz59_ _).trans (((cell_far (p:=⟨gb101,_,none⟩) qz59_ _).trans (hHeld.2.2.2.2.2.2.2))))⟩ (fun hHeld=>?_)
      clear hK K
      refine done_ (zdr HT_.out (by kernel_rfl)) ?_
      try go_wp2
      refine bodyPost_ret (results_cell_row rfl _ _ gb101 32 #[.int .i64 t114,.int .i64 t115] (0,0) _ rfl (by(with_reducible repeat(first|refine zah ?_ _|refine zae ?_|refine zai ?_ _));refine za9 (cs:=#[.int .i64 t114,.int .i64 0]) ?_ 1 _ rfl;(with_reducible repeat(first|refine zah ?_ _|refine zae ?_|refine zai ?_ _));refine za9 (cs:=#[.int .i64 0,.int .i64 0]) ?_ 0 _ rfl;(with_reducible repeat(first|refine zah ?_ _|refine zae ?_|refine zai ?_ _));exact BK101.out) Tryz.underlying32 rfl (by kernel_rfl)) rfl ?_
      exact⟨qz4_,qz5_⟩
     ·
      rw [if_neg c16] at H
      exact absurd H (by simp)
    ·
     rw [if_neg c14] at H
     exact absurd H (by simp)
   ·
    rw [if_neg c13] at H
    exact absurd H (by simp)
  ·
   rw [if_neg c12] at H
   exact absurd H (by simp)
mutual
def zbv.l0:Nat→Int→List (List (S32))→Int→Int→Int→Int→Option (Int × Int)
 | 0,_,_,_,_,_,_=>none
 | k + 1,x0,x1,x14,x15,x103000,x103001=>if x15<x14 then(zbv.l1 k x0 x1 x15 (([]:List (S32))) x14 x15 x1 (x1.length:Int) 0 x103000 x103001) else(some (x103000,x103001))
def zbv.l1:Nat→Int→List (List (S32))→Int→List (S32)→Int→Int→List (List (S32))→Int→Int→Int→Int→Option (Int × Int)
 | 0,_,_,_,_,_,_,_,_,_,_,_=>none
 | k + 1,x0,x1,x6,x7,x14,x15,x19,x20,x21,x103000,x103001=>if x21<x20 then(if 0≤x21 then(if x21<(x19.length:Int) then(if 0≤x6 then(if x6<((rd_L3 x19 x21).length:Int) then(if x7.length<8796093022208 then(zbv.l1 k x0 x1 x6 (x7++[(⟨(zac (rd_L3 x19 x21) x6).f0,(zac (rd_L3 x19 x21) x6).f1⟩:S32)]) x14 x15 x19 x20 (wrap64 (x21 + 1)) x103000 x103001) else(none)) else(none)) else(none)) else(none)) else(none)) else((zbo.f x0 x7).bind fun bt112=>((zbr.f x103000 x103001 bt112.1 bt112.2).bind fun bt114=>(zbv.l0 k x0 x1 x14 (wrap64 (x15 + 1)) bt114.1 bt114.2)))
end
def zbv.f (k:Nat) (a0:Int) (l1:List (List (S32))):Option (Int × Int):=if 0<(l1.length:Int) then(zbv.l0 k a0 l1 ((rd_L3 l1 0).length:Int) 0 0 0) else(none)
theorem zbv.calls (k:Nat) (a0:Int) (A1:Option Addr) (c1:Nat) (l1:List (List (S32))) (r1:Int) (r2:Int) (w:World) (hr1:Kd.C (Kd.slice 32 k32) w A1 l1.length l1) (hc1:l1.length≤c1) (h:zbv.f k a0 l1=some (r1,r2)) :
  Calls Tryz.prog 139 #[.int .i64 a0,.slice A1 l1.length c1] w fun e w'=>e=.returned (.agg #[.int .i64 r1,.int .i64 r2])∧Below w.heap.size w w':=by
 have hu32:=Tryz.underlying32
 have HR1:=am_ hr1
 have HC1:=am_ hc1
 clear hr1 hc1
 have HB:=am_ (Below.refl w.heap.size w)
 have H:(if 0<(l1.length:Int) then(zbv.l0 k a0 l1 ((rd_L3 l1 0).length:Int) 0 0 0) else(none))=some (r1,r2):=h
 clear h
 by_cases c3:0<(l1.length:Int)
 ·
  rw [if_pos c3] at H
  have c3b0:decide (0<(l1.length:Int))=true:=decide_eq_true c3
  have c3b1:decide (0<l1.length)=true:=decide_eq_true (by omega)
  clear c3
  have H':=am_ H
  clear H
  go_enter Tryz.func139,Tryz.ntmps139
  go_wp2_with (first|((with_reducible refine zad (N:=4) rfl ?_);refine zaj rfl (N:=4) rfl (cs:=#[.int .i64 0,.int .i64 0]) (t:=32) bx_ ?_;intro gb101 hg w4 hbox hb;replace BK101:=am_ (hbox);replace GW101:=am_ ((by rw [hg];exact(zaf qz2_):w.heap.size≤gb101));replace GE101:=GW101;replace HB:=am_ (zab qz2_ hb);clear hb hbox hg)|((with_reducible refine zad (N:=5) rfl ?_);refine zaj rfl (N:=5) rfl (cs:=#[.int .i64 0,.int .i64 0]) (t:=32) bx_ ?_;intro gb102 hg w5 hbox hb;replace BK102:=am_ (hbox);replace GW102:=am_ ((by rw [hg];exact(zaf qz5_):w.heap.size≤gb102));replace GE102:=GW102;replace HB:=am_ (zab qz5_ hb);replace NB101_102:=am_ ((by rw [hg];exact Nat.ne_of_lt (zar (g:=gb101) (o:=.cells #[.int .i64 0,.int .i64 0] 32 (0,0)) qz6_):gb101≠gb102));replace NB102_101:=am_ ((by rw [hg];exact Nat.ne_of_gt (zar (g:=gb101) (o:=.cells #[.int .i64 0,.int .i64 0] 32 (0,0)) qz6_):gb102≠gb101));replace BK101:=am_ (zak (g:=gb101) (o:=.cells #[.int .i64 0,.int .i64 0] 32 (0,0)) qz6_ hb);clear hb hbox hg;have hnb6:=NB102_101.out;have hnc6:=NB101_102.out;obtain⟨hcz7_0,hcz7_1,hfz7_0,hfz7_1⟩:=bf2_ BK102.out;have p103:0≤(0:Int):=(by omega);have q103:0<(l1.length:Int):=of_decide_eq_true qz10_;obtain⟨ad103,A103_0,c103_0,e103,hx103_0,hl103_0,hi103_0⟩:=at_L3 HR1.out 0 p103 q103;cases e103;have qi103:(0<l1.length)=True:=eq_true (by omega);(try rw [show ((0:Int)).toNat=0 from rfl] at hx103_0);(try rw [Addr.add_zero'] at hx103_0);have hn103_0:ad103.block≠gb102:=Nat.ne_of_lt (Nat.lt_of_lt_of_le (by have:=World.block_lt_of_cell? _ _ hx103_0;first|rwa [add_block] at this|exact this) GW102.out);have hn103_1:ad103.block≠gb102:=Nat.ne_of_lt (Nat.lt_of_lt_of_le (by have:=World.block_lt_of_cell? _ _ hx103_0;first|rwa [add_block] at this|exact this) GW102.out);replace hx103_0:=(HB.out.cell (World.block_lt_of_cell? w _ hx103_0)).trans hx103_0;have HR103_0:=am_ hi103_0;have HC103_0:=am_ hl103_0;clear hi103_0 hl103_0;replace hx103_0:=(cell_far (p:=⟨gb102,0,none⟩) (by first|(rw [add_block];exact hn103_0)|(show (Addr.add _ _).block≠_;rw [add_block];exact hn103_0)|exact hn103_0) (.int .i64 0)).trans hx103_0;replace hx103_0:=(cell_far (p:=⟨gb102,1,none⟩) (by first|(rw [add_block];exact hn103_1)|(show (Addr.add _ _).block≠_;rw [add_block];exact hn103_1)|exact hn103_1) (.int .i64 0)).trans hx103_0;clear hn103_0;clear hn103_1;replace p103:=eq_true p103;replace q103:=eq_true q103))
  go_loopg [15] k (fun kq v15 w'=>∃ (x15_1:Int) (x103000_1:Int) (x103001_1:Int),v15=.int .i64 x15_1∧zal (zbv.l0 kq a0 l1 ((rd_L3 l1 0).length:Int) x15_1 x103000_1 x103001_1=some (r1,r2))∧zal (kq≤k)∧zal (w'.heap[gb101]?=some (.cells #[.int .i64 0,.int .i64 0] 32 (0,0)))∧zal (w'.heap[gb102]?=some (.cells #[.int .i64 x103000_1,.int .i64 x103001_1] 32 (0,0)))∧zal (Below w.heap.size w w'))
  case atStart=>exact⟨(0),(0),(0),qz0_,H',⟨Nat.le_refl _⟩,⟨qz35_⟩,⟨(by(with_reducible repeat(first|refine zah ?_ _|refine zae ?_|refine zai ?_ _));refine za9 (cs:=#[.int .i64 0,.int .i64 0]) ?_ 1 _ rfl;(with_reducible repeat(first|refine zah ?_ _|refine zae ?_|refine zai ?_ _));refine za9 (cs:=#[.int .i64 0,.int .i64 0]) ?_ 0 _ rfl;(with_reducible repeat(first|refine zah ?_ _|refine zae ?_|refine zai ?_ _));exact BK102.out)⟩,⟨qz8_⟩⟩
  case round=>
   clear H'
   try clear c1
   try clear p1
   try clear q1
   try clear hx1
   try clear qi1
   try clear p2
   try clear c3
   try clear c3b0
   try clear c3b1
   try clear c6
   try clear hcz7_0
   try clear hcz7_1
   try clear hfz7_0
   try clear hfz7_1
   try clear hx103_0
   try clear p103
   try clear q103
   obtain⟨x15_1,x103000_1,x103001_1,rfl,HA,HK1,BK101,BK102,HB⟩:=hrel
   cases gk with
   | zero=>exact absurd HA.out (by simp [zbv.l0])
   | succ k1=>
    have H:=HA.out
    clear HA
    simp only [zbv.l0] at H
    by_cases c8:x15_1<((rd_L3 l1 0).length:Int)
    ·
     rw [if_pos c8] at H
     have c8b0:decide (x15_1<((rd_L3 l1 0).length:Int))=true:=decide_eq_true c8
     clear c8
     obtain⟨y104,hy104⟩:∃ y_:List (S32),y_=(([]:List (S32))):=⟨_,rfl⟩
     replace H:(zbv.l1 k1 a0 l1 x15_1 y104 ((rd_L3 l1 0).length:Int) x15_1 l1 (l1.length:Int) 0 x103000_1 x103001_1)=some (r1,r2):=by first|(rw [hy104];with_reducible exact H)|(have H2_:=(Option.bind_some _ _).symm.trans H;rw [hy104];with_reducible exact H2_)|(have H2_:=(Option.bind_some _ _).symm.trans H;with_reducible exact H2_)|with_reducible exact H|(rw [hy104];exact H)|exact H
     have Ny104:=am_ hy104
     clear hy104
     have H':=am_ H
     clear H
     go_wp2_with (first|((with_reducible refine zad (N:=18) rfl ?_);refine Kd.R_lit k32 _ 32 ?hg (N:=18) ?hd (xs:=([]:List (S32))) (inner:=[]) (ok:=fun _=>True) (okp:=fun _=>True) ?hr ?hp (fun _ hk=>hk) trivial (Below.refl _ _) (Nat.le_refl _) (by simp) ?_;(case hd=>rfl);(case hg=>rfl);(case hr=>first|(go_simp;done)|(go_simp;rfl));(case hp=>exact(Reps.none _ _));intro v105 w9 ho10 hb hg_ hnew_;clear hg_ hnew_;(first|rw [←Ny104.out] at ho10|(simp only [Int.reduceToNat] at ho10;rw [←Ny104.out] at ho10));replace HO106:=am_ (Kd.zcw (Kd.zjf (Kd.zjf ho10 (g:=gb101) (o:=.cells #[.int .i64 0,.int .i64 0] 32 (0,0)) qz6_) (g:=gb102) (o:=.cells #[.int .i64 x103000_1,.int .i64 x103001_1] 32 (0,0)) qz7_) (zaf qz8_));replace BK101:=am_ (zak (g:=gb101) (o:=.cells #[.int .i64 0,.int .i64 0] 32 (0,0)) qz6_ hb);replace BK102:=am_ (zak (g:=gb102) (o:=.cells #[.int .i64 x103000_1,.int .i64 x103001_1] 32 (0,0)) qz7_ hb);replace HB:=am_ (zab qz8_ hb);clear hb ho10))
     go_loopg [7,21] k1 (fun kq v7 v21 w'=>∃ (x7_2:List (S32)) (x21_2:Int),v21=.int .i64 x21_2∧zal (zbv.l1 kq a0 l1 x15_1 x7_2 ((rd_L3 l1 0).length:Int) x15_1 l1 (l1.length:Int) x21_2 x103000_1 x103001_1=some (r1,r2))∧zal (kq≤k1)∧zal (Kd.R k32 32 w' w.heap.size (fun k_=>k_≠gb101∧k_≠gb102) v7 x7_2)∧zal (w'.heap[gb101]?=some (.cells #[.int .i64 0,.int .i64 0] 32 (0,0)))∧zal (w'.heap[gb102]?=some (.cells #[.int .i64 x103000_1,.int .i64 x103001_1] 32 (0,0)))∧zal (Below w.heap.size w w'))
     case atStart=>exact⟨(y104),(0),qz0_,H',⟨Nat.le_refl _⟩,⟨by(with_reducible repeat(first|apply Kd.zbm|apply Kd.zbl|apply Kd.zbt));exact Kd.zba HO106.out (fun _ hk=>⟨hk.1.2,hk.2⟩)⟩,⟨qz6_⟩,⟨qz7_⟩,⟨qz8_⟩⟩
     case round=>
      clear H'
      try clear c1
      try clear p1
      try clear q1
      try clear hx1
      try clear qi1
      try clear p2
      try clear c3
      try clear c3b0
      try clear c3b1
      try clear c6
      try clear c8
      try clear c8b0
      try clear c10
      try clear p10
      try clear q10
      try clear hx10
      try clear qi10
      try clear hcz7_0
      try clear hcz7_1
      try clear hfz7_0
      try clear hfz7_1
      try clear hx103_0
      try clear p1
      try clear p103
      try clear p2
      try clear q1
      try clear q103
      obtain⟨x7_2,x21_2,rfl,HA,HK2,HO_7,BK101,BK102,HB⟩:=hrel
      cases gk with
      | zero=>exact absurd HA.out (by simp [zbv.l1])
      | succ k2=>
       have H:=HA.out
       clear HA
       simp only [zbv.l1] at H
       by_cases c11:x21_2<(l1.length:Int)
       ·
        rw [if_pos c11] at H
        have c11b0:decide (x21_2<(l1.length:Int))=true:=decide_eq_true c11
        clear c11
        by_cases c12:0≤x21_2
        ·
         rw [if_pos c12] at H
         have c12b0:decide (0≤x21_2)=true:=decide_eq_true c12
         clear c12
         by_cases c13:x21_2<(l1.length:Int)
         ·
          rw [if_pos c13] at H
          have c13b0:decide (x21_2<(l1.length:Int))=true:=decide_eq_true c13
          clear c13
          by_cases c14:0≤x15_1
          ·
           rw [if_pos c14] at H
           have c14b0:decide (0≤x15_1)=true:=decide_eq_true c14
           clear c14
           by_cases c15:x15_1<((rd_L3 l1 x21_2).length:Int)
           ·
            rw [if_pos c15] at H
            have c15b0:decide (x15_1<((rd_L3 l1 x21_2).length:Int))=true:=decide_eq_true c15
            clear c15
            by_cases c16:x7_2.length<8796093022208
            ·
             rw [if_pos c16] at H
             have LMc16:=am_ c16
             clear c16
             obtain⟨y109,hy109⟩:∃ y_:List (S32),y_=(x7_2++[(⟨(zac (rd_L3 l1 x21_2) x15_1).f0,(zac (rd_L3 l1 x21_2) x15_1).f1⟩:S32)]):=⟨_,rfl⟩
             replace H:(zbv.l1 k2 a0 l1 x15_1 y109 ((rd_L3 l1 0).length:Int) x15_1 l1 (l1.length:Int) (wrap64 (x21_2 + 1)) x103000_1 x103001_1)=some (r1,r2):=by first|(rw [hy109];with_reducible exact H)|(have H2_:=(Option.bind_some _ _).symm.trans H;rw [hy109];with_reducible exact H2_)|(have H2_:=(Option.bind_some _ _).symm.trans H;with_reducible exact H2_)|with_reducible exact H|(rw [hy109];exact H)|exact H
             have Ny109:=am_ hy109
             clear hy109
             have H':=am_ H
             clear H
             have p107:0≤(x21_2:Int):=of_decide_eq_true qz10_
             have q107:x21_2<(l1.length:Int):=of_decide_eq_true qz10_
             obtain⟨ad107,A107_0,c107_0,e107,hx107_0,hl107_0,hi107_0⟩:=at_L3 HR1.out x21_2 p107 q107
             obtain rfl:ad103=ad107:=(by injection e107)
             replace hx107_0:=(HB.out.cell (World.block_lt_of_cell? w _ hx107_0)).trans hx107_0
             have HR107_0:=am_ hi107_0
             have HC107_0:=am_ hl107_0
             clear hi107_0 hl107_0
             replace p107:=eq_true p107
             replace q107:=eq_true q107
             have p108:0≤(x15_1:Int):=of_decide_eq_true qz10_
             have q108:x15_1<((rd_L3 l1 x21_2).length:Int):=of_decide_eq_true qz10_
             obtain⟨ad108,e108,hx108_0,hx108_1⟩:=zdf HR107_0.out x15_1 p108 q108
             cases e108
             replace hx108_0:=(HB.out.cell (World.block_lt_of_cell? w _ hx108_0)).trans hx108_0
             replace hx108_1:=(HB.out.cell (World.block_lt_of_cell? w _ hx108_1)).trans hx108_1
             replace p108:=eq_true p108
             replace q108:=eq_true q108
             go_wp2_with (first|((with_reducible refine zb5 (b:=.append) (xs:=#[.tmp 25,.tmp 30]) rfl ?_);at_builtin;refine Kd.zev k32 (w0:=w) w.heap.size rfl (.tmp 25) (.tmp 30) 36 32 (.agg #[(.int .i64 0),(.int .i64 0)]) 16 rfl Tryz.underlying36 zgb rfl (by decide) (by omega) u7 x7_2 (⟨(zac (rd_L3 l1 x21_2) x15_1).f0,(zac (rd_L3 l1 x21_2) x15_1).f1⟩:S32) [.int .i64 ((zac (rd_L3 l1 x21_2) x15_1).f0),.int .i64 ((zac (rd_L3 l1 x21_2) x15_1).f1)] (fun k_=>k_≠gb101∧k_≠gb102) (fun _=>False) rfl rfl ?aP (fun _ hk=>hk.elim) ?aF ?aO ?aB ?aS ?aL ?_;(case aP=>exact ze8 _ _ _ (⟨(zac (rd_L3 l1 x21_2) x15_1).f0,(zac (rd_L3 l1 x21_2) x15_1).f1⟩:S32));(case aB=>exact qz8_);(case aF=>exact(fun k_ hk=>⟨Kd.zj0 (g:=gb101) (o:=.cells #[.int .i64 0,.int .i64 0] 32 (0,0)) qz6_ k_ hk,Kd.zj0 (g:=gb102) (o:=.cells #[.int .i64 x103000_1,.int .i64 x103001_1] 32 (0,0)) qz7_ k_ hk⟩));(case aO=>exact(by(with_reducible repeat(first|apply Kd.zbm|apply Kd.zbl|apply Kd.zbt));exact HO_7.out));(case aS=>exact(zaf qz8_));(case aL=>have:=LMc16.out;omega);intro v110 w17 ho hb hg hat;rw [←Ny109.out] at ho;replace BK101:=am_ (ze2 (g:=gb101) (o:=.cells #[.int .i64 0,.int .i64 0] 32 (0,0)) qz6_ hg (Kd.zh5 HO_7.out (fun _ hk=>hk.1)));replace BK102:=am_ (ze2 (g:=gb102) (o:=.cells #[.int .i64 x103000_1,.int .i64 x103001_1] 32 (0,0)) qz7_ hg (Kd.zh5 HO_7.out (fun _ hk=>hk.2)));replace HB:=am_ (hb);replace HO111:=am_ (ho);clear HO_7;clear ho hb hg hat))
             go_roundg k2
             case measure=>have:=HK1.out;have:=HK2.out;omega
             case rel=>exact⟨(y109),(wrap64 (x21_2 + 1)),qz0_,H',⟨(by have:=HK1.out;have:=HK2.out;omega)⟩,⟨(by(with_reducible repeat(first|apply Kd.zbm|apply Kd.zbl|apply Kd.zbt));exact HO111.out)⟩,⟨qz6_⟩,⟨qz7_⟩,⟨qz8_⟩⟩
            ·
             rw [if_neg c16] at H
             exact absurd H (by simp)
           ·
            rw [if_neg c15] at H
            exact absurd H (by simp)
          ·
           rw [if_neg c14] at H
           exact absurd H (by simp)
         ·
          rw [if_neg c13] at H
          exact absurd H (by simp)
        ·
         rw [if_neg c12] at H
         exact absurd H (by simp)
       ·
        rw [if_neg c11] at H
        have c11b0:decide (x21_2<(l1.length:Int))=false:=decide_eq_false c11
        clear c11
        replace H:=Option.bind_eq_some_iff.mp H
        obtain⟨⟨t112,t113⟩,A180,H⟩:=H
        replace H:((zbr.f x103000_1 x103001_1 t112 t113).bind fun bt114=>(zbv.l0 k2 a0 l1 ((rd_L3 l1 0).length:Int) (wrap64 (x15_1 + 1)) bt114.1 bt114.2))=some (r1,r2):=H
        have A18:=am_ A180
        clear A180
        replace H:=Option.bind_eq_some_iff.mp H
        obtain⟨⟨t114,t115⟩,A190,H⟩:=H
        replace H:(zbv.l0 k2 a0 l1 ((rd_L3 l1 0).length:Int) (wrap64 (x15_1 + 1)) t114 t115)=some (r1,r2):=H
        have A19:=am_ A190
        clear A190
        have H':=am_ H
        clear H
        try go_wp2
        replace HO_7:=am_ (Kd.zbt HO_7.out)
        replace BK101:=am_ (zae BK101.out)
        replace BK102:=am_ (zae BK102.out)
        replace HB:=am_ (zao HB.out)
        obtain⟨Ao21,co21,eo21⟩:=Kd.zcb HO_7.out
        (first|subst eo21|(injection eo21 with f1_ f2_ f3_;have f4_:=f1_.symm;have f5_:=f3_.symm;clear f1_ f2_ f3_;subst f4_;subst f5_))
        refine zcn (n:=6) (S:=fun w'=>w'.cell? ⟨gb102,0,none⟩=some (.int .i64 x103000_1)∧w'.cell? ⟨gb102,1,none⟩=some (.int .i64 x103001_1)) (ds:=[5]) (bs_ 6 0) (by kernel_rfl) rfl rfl ⟨(zaa BK102.out 0).trans rfl,(zaa BK102.out 1).trans rfl⟩ (fun hHeld=>?_)
        generalize wr.drew=w20 at HO_7 BK101 BK102 HB hHeld ⊢
        refine pu_ 1 34 (bs_ 6 2) ?_
        refine pu_ 2 35 (bs_ 6 6) ?_
        refine tk_ 0 (bs_ 6 7) hHeld ?_
        refine on_ 3 (some 36) (bs_ 6 15) (fun K hK=>?_)
        refine go_ Tryz.func174 #[.int .i64 a0,.slice Ao21 x7_2.length co21] ?_
        with_reducible refine(zbo.calls a0 _ _ x7_2 t112 t113 _ ?side1 ?side2 A18.out).mono ?_
        (case side1=>exact qc_ (Kd.R_reads' HO_7.out).2.2)
        (case side2=>exact(Kd.R_reads' HO_7.out).2.1)
        rintro e w22 ⟨rfl,hb⟩
        refine⟨_,rfl,?_⟩
        replace HO_7:=am_ (Kd.zct (by(with_reducible repeat(first|apply Kd.zbm|apply Kd.zbl|apply Kd.zbt));exact HO_7.out) hb)
        replace BK101:=am_ (zak (g:=gb101) (o:=.cells #[.int .i64 0,.int .i64 0] 32 (0,0)) qz6_ hb)
        replace BK102:=am_ (zak (g:=gb102) (o:=.cells #[.int .i64 x103000_1,.int .i64 x103001_1] 32 (0,0)) qz7_ hb)
        replace HB:=am_ (zab qz8_ hb)
        (try clear hb)
        (try clear hb2)
        (try clear hk)
        (try clear hi)
        refine hK.out _ _ ⟨(zaa BK102.out 0).trans rfl,(zaa BK102.out 1).trans rfl⟩ (fun hHeld=>?_)
        clear hK K
        refine nm_ 36 ?_
        refine on_ 4 (some 37) (bs_ 6 31) (fun K hK=>?_)
        refine go_ Tryz.func168 #[.agg #[.int .i64 x103000_1,.int .i64 x103001_1],.agg #[.int .i64 t112,.int .i64 t113]] ?_
        with_reducible refine(zbr.calls x103000_1 x103001_1 t112 t113 t114 t115 _ A19.out).mono ?_
        rintro e w23 ⟨rfl,hb⟩
        refine⟨_,rfl,?_⟩
        replace HO_7:=am_ (Kd.zct (by(with_reducible repeat(first|apply Kd.zbm|apply Kd.zbl|apply Kd.zbt));exact HO_7.out) hb)
        replace BK101:=am_ (zak (g:=gb101) (o:=.cells #[.int .i64 0,.int .i64 0] 32 (0,0)) qz6_ hb)
        replace BK102:=am_ (zak (g:=gb102) (o:=.cells #[.int .i64 x103000_1,.int .i64 x103001_1] 32 (0,0)) qz7_ hb)
        replace HB:=am_ (zab qz8_ hb)
        (try clear hb)
        (try clear hb2)
        (try clear hk)
        (try clear hi)
        refine hK.out _ _ ⟨(zaa BK102.out 0).trans rfl,(zaa BK102.out 1).trans rfl⟩ (fun hHeld=>?_)
        clear hK K
        refine nm_ 37 ?_
        refine last_ (i:=5) (N:=none) (bs_ 6 63) rfl rfl (by kernel_rfl) (by decide) (fun K hK=>?_)
        obtain⟨hs24,hfs24⟩:=bi_ BK102.out 0
        have hns24_0:=NB101_102.out
        have hms24_0:=NB102_101.out
        obtain⟨hs25,hfs25⟩:=bi_ BK102.out 1
        have hns25_0:=NB101_102.out
        have hms25_0:=NB102_101.out
        refine skip_ (w1:=?_) (by rfl) rfl ?_ ?_
        rotate_left
        ·
         go_simp
         rfl
        refine hK.out _ _ ?_
        clear hK K
        refine done_ (by kernel_rfl) ?_
        try go_wp2
        go_roundg k2
        case measure=>have:=HK1.out;have:=HK2.out;omega
        case rel=>exact⟨(wrap64 (x15_1 + 1)),(t114),(t115),qz0_,H',⟨(by have:=HK1.out;have:=HK2.out;omega)⟩,⟨qz35_⟩,⟨(by(with_reducible repeat(first|refine zah ?_ _|refine zae ?_|refine zai ?_ _));refine za9 (cs:=#[.int .i64 t114,.int .i64 x103001_1]) ?_ 1 _ rfl;(with_reducible repeat(first|refine zah ?_ _|refine zae ?_|refine zai ?_ _));refine za9 (cs:=#[.int .i64 x103000_1,.int .i64 x103001_1]) ?_ 0 _ rfl;(with_reducible repeat(first|refine zah ?_ _|refine zae ?_|refine zai ?_ _));exact BK102.out)⟩,⟨qz8_⟩⟩
    ·
     rw [if_neg c8] at H
     have c8b0:decide (x15_1<((rd_L3 l1 0).length:Int))=false:=decide_eq_false c8
     clear c8
     simp only [Option.some.injEq,Prod.mk.injEq] at H
     obtain⟨rfl,rfl⟩:=H
     have hnb26:=NB102_101.out
     have hnc26:=NB101_102.out
     obtain⟨hcz27_0,hcz27_1,hfz27_0,hfz27_1⟩:=bf2_ BK102.out
     obtain⟨hcz28_0,hcz28_1,hfz28_0,hfz28_1⟩:=bf2_ BK101.out
     go_wp2
     refine bodyPost_ret (results_cell_row rfl _ _ gb101 32 #[.int .i64 x103000_1,.int .i64 x103001_1] (0,0) _ rfl (by(with_reducible repeat(first|refine zah ?_ _|refine zae ?_|refine zai ?_ _));refine za9 (cs:=#[.int .i64 x103000_1,.int .i64 0]) ?_ 1 _ rfl;(with_reducible repeat(first|refine zah ?_ _|refine zae ?_|refine zai ?_ _));refine za9 (cs:=#[.int .i64 0,.int .i64 0]) ?_ 0 _ rfl;(with_reducible repeat(first|refine zah ?_ _|refine zae ?_|refine zai ?_ _));exact BK101.out) Tryz.underlying32 rfl (by kernel_rfl)) rfl ?_
     exact⟨qz4_,qz8_⟩
 ·
  rw [if_neg c3] at H
  exact absurd H (by simp)
end Go.Proofs.YtgookagndlfehaaGreat.PT
end
section
namespace Go.Proofs.YtgookagndlfehaaGreat.PT
open Go.RowKit Go.Proofs.YtgookagndlfehaaGreatW.PrintWords Go.Proofs.YtgookagndlfehaaGreatW.PrintLast Go.Proofs.YtgookagndlfehaaGreatW.PrintMore
attribute [local go_sem] zez zey zfh zff zed zd9 zex zew   -- for this text's walks alone
set_option linter.unusedVariables false
set_option linter.unusedSimpArgs false
def zb2.l0:Nat→Int→List (List (S32))→List (S32)→Int→Int→Option ((List (S32)))
 | 0,_,_,_,_,_=>none
 | k + 1,x0,x1,x5,x10,x11=>if x11<x10 then((zch.f k x1 x11 0).bind fun t105=>((zbv.f k x0 t105).bind fun bt108=>(if x5.length<8796093022208 then(zb2.l0 k x0 x1 (x5++[(⟨bt108.1,bt108.2⟩:S32)]) x10 (wrap64 (x11 + 1))) else(none)))) else(some x5)
def zb2.f (k:Nat) (a0:Int) (l1:List (List (S32))):Option ((List (S32))):=(zcl.f a0).bind fun t104=>(zb2.l0 k a0 l1 (([]:List (S32))) (wrap64 (t104 + 1)) 0)
theorem zb2.calls (k:Nat) (a0:Int) (A1:Option Addr) (c1:Nat) (l1:List (List (S32))) (r:List (S32)) (w:World) (hr1:Kd.C (Kd.slice 32 k32) w A1 l1.length l1) (hc1:l1.length≤c1) (h:zb2.f k a0 l1=some r) :
  Calls Tryz.prog 103 #[.int .i64 a0,.slice A1 l1.length c1] w fun e w'=>∃ v0_:Value,e=.returned (v0_)∧Kd.R k32 32 w' w.heap.size (fun _=>True) v0_ r∧Below w.heap.size w w':=by
 have hu32:=Tryz.underlying32
 have HR1:=am_ hr1
 have HC1:=am_ hc1
 clear hr1 hc1
 have HB:=am_ (Below.refl w.heap.size w)
 have H:((zcl.f a0).bind fun t104=>(zb2.l0 k a0 l1 (([]:List (S32))) (wrap64 (t104 + 1)) 0))=some r:=h
 clear h
 obtain⟨y101,hy101⟩:∃ y_:List (S32),y_=(([]:List (S32))):=⟨_,rfl⟩
 replace H:((zcl.f a0).bind fun t104=>(zb2.l0 k a0 l1 y101 (wrap64 (t104 + 1)) 0))=some r:=by first|(rw [hy101];with_reducible exact H)|(have H2_:=(Option.bind_some _ _).symm.trans H;rw [hy101];with_reducible exact H2_)|(have H2_:=(Option.bind_some _ _).symm.trans H;with_reducible exact H2_)|with_reducible exact H|(rw [hy101];exact H)|exact H
 have Ny101:=am_ hy101
 clear hy101
 replace H:=Option.bind_eq_some_iff.mp H
 obtain⟨t104,A30,H⟩:=H
 replace H:(zb2.l0 k a0 l1 y101 (wrap64 (t104 + 1)) 0)=some r:=H
 have A3:=am_ A30
 clear A30
 have H':=am_ H
 clear H
 go_enter Tryz.func103,Tryz.ntmps103
 go_wp2_with (first|((with_reducible refine zad (N:=7) rfl ?_);refine Kd.R_lit k32 _ 32 ?hg (N:=7) ?hd (xs:=([]:List (S32))) (inner:=[]) (ok:=fun _=>True) (okp:=fun _=>True) ?hr ?hp (fun _ hk=>hk) trivial (Below.refl _ _) (Nat.le_refl _) (by simp) ?_;(case hd=>rfl);(case hg=>rfl);(case hr=>first|(go_simp;done)|(go_simp;rfl));(case hp=>exact(Reps.none _ _));intro v102 w4 ho5 hb hg_ hnew_;clear hg_ hnew_;(first|rw [←Ny101.out] at ho5|(simp only [Int.reduceToNat] at ho5;rw [←Ny101.out] at ho5));replace HO103:=am_ (Kd.zcw ho5 (zaf qz2_));replace HB:=am_ (zab qz2_ hb);clear hb ho5)|((with_reducible refine zan (f:=101) rfl ?_);refine gl_ (some 9) Tryz.func101 #[.int .i64 a0] ?_;(with_reducible refine(zcl.calls a0 t104 _ A3.out).mono ?_);rintro e w' ⟨rfl,⟨nd,rfl⟩⟩;refine⟨_,rfl,?_⟩))
 go_loopg [5,11] k (fun kq v5 v11 w'=>∃ (x5_1:List (S32)) (x11_1:Int),v11=.int .i64 x11_1∧zal (zb2.l0 kq a0 l1 x5_1 (wrap64 (t104 + 1)) x11_1=some r)∧zal (kq≤k)∧zal (Kd.R k32 32 w' w.heap.size (fun _=>True) v5 x5_1)∧zal (Below w.heap.size w w'))
 case atStart=>exact⟨(y101),(0),qz0_,H',⟨Nat.le_refl _⟩,⟨qz11_⟩,⟨qz2_⟩⟩
 case round=>
  clear H'
  try clear c1
  try clear p2
  obtain⟨x5_1,x11_1,rfl,HA,HK1,HO_5,HB⟩:=hrel
  cases gk with
  | zero=>exact absurd HA.out (by simp [zb2.l0])
  | succ k1=>
   have H:=HA.out
   clear HA
   simp only [zb2.l0] at H
   by_cases c6:x11_1<(wrap64 (t104 + 1))
   ·
    rw [if_pos c6] at H
    have c6b0:decide (x11_1<(wrap64 (t104 + 1)))=true:=decide_eq_true c6
    clear c6
    replace H:=Option.bind_eq_some_iff.mp H
    obtain⟨t105,A70,H⟩:=H
    replace H:((zbv.f k1 a0 t105).bind fun bt108=>(if x5_1.length<8796093022208 then(zb2.l0 k1 a0 l1 (x5_1++[(⟨bt108.1,bt108.2⟩:S32)]) (wrap64 (t104 + 1)) (wrap64 (x11_1 + 1))) else(none)))=some r:=H
    have A7:=am_ A70
    clear A70
    replace H:=Option.bind_eq_some_iff.mp H
    obtain⟨⟨t108,t109⟩,A80,H⟩:=H
    replace H:(if x5_1.length<8796093022208 then(zb2.l0 k1 a0 l1 (x5_1++[(⟨t108,t109⟩:S32)]) (wrap64 (t104 + 1)) (wrap64 (x11_1 + 1))) else(none))=some r:=H
    have A8:=am_ A80
    clear A80
    by_cases c9:x5_1.length<8796093022208
    ·
     rw [if_pos c9] at H
     have LMc9:=am_ c9
     clear c9
     obtain⟨y110,hy110⟩:∃ y_:List (S32),y_=(x5_1++[(⟨t108,t109⟩:S32)]):=⟨_,rfl⟩
     replace H:(zb2.l0 k1 a0 l1 y110 (wrap64 (t104 + 1)) (wrap64 (x11_1 + 1)))=some r:=by first|(rw [hy110];with_reducible exact H)|(have H2_:=(Option.bind_some _ _).symm.trans H;rw [hy110];with_reducible exact H2_)|(have H2_:=(Option.bind_some _ _).symm.trans H;with_reducible exact H2_)|with_reducible exact H|(rw [hy110];exact H)|exact H
     have Ny110:=am_ hy110
     clear hy110
     have H':=am_ H
     clear H
     go_wp2_with (first|((with_reducible refine zan (f:=105) rfl ?_);refine gl_ (some 19) Tryz.func105 #[.slice A1 l1.length c1,.agg #[.int .i64 x11_1,.int .i64 0]] ?_;(with_reducible refine(zch.calls k1 _ _ l1 x11_1 0 t105 _ ?side1 ?side2 A7.out).mono ?_);(case side1=>exact qc_ (Kd.zbi HR1.out HB.out));(case side2=>exact HC1.out);rintro e w10 ⟨v106,rfl,ho0,hb⟩;refine⟨_,rfl,?_⟩;replace HO107:=am_ (Kd.zhl (Kd.S_new' ho0 (Kd.R_lt qz22_)) (zaf qz2_));replace HO_5:=am_ (Kd.zct qz22_ hb);replace HB:=am_ (zab qz2_ hb);(try clear hb);(try clear hb2);(try clear hk);(try clear hi);(try clear ho0);obtain⟨Ao11,co11,eo11⟩:=Kd.zf6 HO107.out;subst eo11)|((with_reducible refine zan (f:=139) rfl ?_);refine gl_ (some 20) Tryz.func139 #[.int .i64 a0,.slice Ao11 t105.length co11] ?_;(with_reducible refine(zbv.calls k1 a0 _ _ t105 t108 t109 _ ?side1 ?side2 A8.out).mono ?_);(case side1=>exact qc_ (Kd.S_reads' HO107.out).2.2);(case side2=>exact(Kd.S_reads' HO107.out).2.1);rintro e w12 ⟨rfl,hb⟩;refine⟨_,rfl,?_⟩;replace HO_5:=am_ (Kd.zct qz22_ hb);replace HO107:=am_ (Kd.zj4 (by(with_reducible repeat(first|apply Kd.zea|apply Kd.zec|apply Kd.ze4));exact HO107.out) hb);replace HB:=am_ (zab qz2_ hb);(try clear hb);(try clear hb2);(try clear hk);(try clear hi))|((with_reducible refine zb5 (b:=.append) (xs:=#[.tmp 14,.tmp 21]) rfl ?_);at_builtin;refine Kd.zev k32 (w0:=w) w.heap.size rfl (.tmp 14) (.tmp 21) 36 32 (.agg #[(.int .i64 0),(.int .i64 0)]) 16 rfl Tryz.underlying36 zgb rfl (by decide) (by omega) u5 x5_1 (⟨t108,t109⟩:S32) [.int .i64 t108,.int .i64 t109] (fun _=>True) (fun _=>False) rfl rfl ?aP (fun _ hk=>hk.elim) ?aF ?aO ?aB ?aS ?aL ?_;(case aP=>exact ze8 _ _ _ (⟨t108,t109⟩:S32));(case aB=>exact qz2_);(case aF=>exact(fun _ _=>trivial));(case aO=>exact qz22_);(case aS=>exact(zaf qz2_));(case aL=>have:=LMc9.out;omega);intro v111 w13 ho hb hg hat;rw [←Ny110.out] at ho;replace HO107:=am_ (Kd.zo0 (ok:=(fun _=>True)) (by(with_reducible repeat(first|apply Kd.zea|apply Kd.zec|apply Kd.ze4));exact HO107.out) hg hat);replace HB:=am_ (hb);replace HO112:=am_ (ho);clear HO_5;clear ho hb hg hat))
     go_roundg k1
     case measure=>have:=HK1.out;omega
     case rel=>exact⟨(y110),(wrap64 (x11_1 + 1)),qz0_,H',⟨qz13_⟩,⟨(by(with_reducible repeat(first|apply Kd.zbm|apply Kd.zbl|apply Kd.zbt));exact HO112.out)⟩,⟨qz2_⟩⟩
    ·
     rw [if_neg c9] at H
     exact absurd H (by simp)
   ·
    rw [if_neg c6] at H
    have c6b0:decide (x11_1<(wrap64 (t104 + 1)))=false:=decide_eq_false c6
    clear c6
    obtain rfl:=Option.some.inj H
    go_wp2
    go_ret
    exact⟨_,qz4_,qz22_,qz2_⟩
end Go.Proofs.YtgookagndlfehaaGreat.PT
end
section
/- lanesOf: bytes as words. -/
namespace Go.Proofs.YtgookagndlfehaaGreat.PT
open Go.RowKit Go.Proofs.YtgookagndlfehaaGreatW.PrintWords Go.Proofs.YtgookagndlfehaaGreatW.PrintLast Go.Proofs.YtgookagndlfehaaGreatW.PrintMore
set_option linter.unusedVariables false
set_option linter.unusedSimpArgs false
def z25:List Int:=[0,0,0,0,0,0,0,0,0,0,0,0,0,0,0,0,0,0,0,0,0,0,0,0,0]
def zeg (xs:List Int) (j:Nat) (out:List Int):List Int:=out.set (j / 8) (Go.bits .or .u64 (out.getD (j / 8) 0) (IntKind.u64.wrap (IntKind.u64.wrap (rd xs j) * 2 ^ min (8 * (j % 8)) 64)))
theorem zfu (xs:List Int) (j:Nat) (out:List Int):(zeg xs j out).length=out.length:=by simp [zeg]
theorem w64_ {n:Int} (h0 : -9223372036854775808≤n) (h1:n≤9223372036854775807):wrap64 n=n:=by unfold wrap64;omega
theorem zdd {f:Nat→List Int→List Int} (h:∀ j x,(f j x).length=x.length):∀ k j x,(iter f k j x).length=x.length
 | 0,_,_=>rfl
 | k + 1,j,x=>(zdd h k (j + 1) (f j x)).trans (h j x)
def zdh (xs:List Int):List Int:=iter (zeg xs) xs.length 0 z25
theorem zcg (xs:List Int):(zdh xs).length=25:=zdd (zfu xs) _ _ _
theorem zmb.calls (A0:Option Addr) (c0:Nat) (xs:List Int) (w:World) (hr0:Kd.C (Kd.int .u8) w A0 xs.length xs) (hc0:xs.length≤c0) (hlen:xs.length≤200) :
  Calls Tryz.prog 170 #[.slice A0 xs.length c0] w fun e w'=>e=.returned (.agg (uarr .u64 (zdh xs)))∧Below w.heap.size w w':=by
 have HR0:=am_ hr0
 have HLEN:=am_ hlen
 have HB:=am_ (Below.refl w.heap.size w)
 have hu91:=Tryz.underlying158
 clear hr0 hc0 hlen
 go_enter Tryz.func170,Tryz.ntmps170
 go_wp2_with (first|((with_reducible refine zad (N:=2) rfl ?_);refine zaj rfl (N:=2) rfl (cs:=uarr .u64 z25) (t:=158) bx_ ?_;intro g2 hg w2 hbox hb;replace BK2:=am_ (hbox);replace GE2:=am_ ((by rw [hg];exact(zaf HB.out)):w.heap.size≤g2);replace HB:=am_ (zab HB.out hb);clear hb hbox hg)|((with_reducible refine zad (N:=3) rfl ?_);refine zaj rfl (N:=3) rfl (cs:=uarr .u64 z25) (t:=158) bx_ ?_;intro g3 hg w3 hbox hb;replace BK3:=am_ (hbox);replace GE3:=am_ ((by rw [hg];exact(zaf HB.out)):w.heap.size≤g3);replace HB:=am_ (zab HB.out hb);replace NE:=am_ (show g3≠g2 by have:=zar BK2.out;omega);replace BK2:=am_ (zak BK2.out hb);clear hb hbox hg)|((with_reducible refine za7 (p:=3) (v:=.tmp 6) (t:=158) rfl ?_);go_must (refine wpList_store_row rfl 158 _ _ rfl g3 (uarr .u64 z25) rfl qz36_ 158 (uarr .u64 z25) BK3.out (by first|(rw [zb7,zcg];kernel_rfl)|kernel_rfl) qz37_ (zdp _ _) ?_;generalize hw4:World.setRow w3 g3 (uarr .u64 z25)=w4;replace BK3:=am_ (show w4.heap[g3]?=some (.cells (uarr .u64 z25) 158 (0,0)) by rw [←hw4];exact setRow_heap _ _ _ _ _ _ BK3.out);replace BK2:=am_ (show w4.heap[g2]?=some (.cells (uarr .u64 z25) 158 (0,0)) by rw [←hw4];exact(setRow_other _ _ _ _ (Ne.symm NE.out)).trans BK2.out);replace HB:=am_ (show Below w.heap.size w w4 by rw [←hw4];exact below_setRow HB.out GE3.out _);clear hw4)))
 go_loopg [9] xs.length (fun kq v9 w'=>∃ (j:Nat) (out:List Int),v9=.int .i64 j∧zal (j + kq=xs.length)∧zal (iter (zeg xs) kq j out=zdh xs)∧zal (out.length=25)∧zal (w'.heap[g3]?=some (.cells (uarr .u64 out) 158 (0,0)))∧zal (w'.heap[g2]?=some (.cells (uarr .u64 z25) 158 (0,0)))∧zal (Below w.heap.size w w'))
 case atStart=>exact⟨0,z25,rfl,⟨(by omega)⟩,⟨rfl⟩,⟨rfl⟩,BK3,BK2,HB⟩
 case round=>
  clear BK3 BK2 HB
  obtain⟨j,out,rfl,HJ,HI,HO,BK3,BK2,HB⟩:=hrel
  cases gk with
  | zero=>
   have hj:=HJ.out
   have c1:decide ((j:Int)<(xs.length:Int))=false:=decide_eq_false (by omega)
   have c2:decide (j<xs.length)=false:=decide_eq_false (by omega)
   have hi:out=zdh xs:=HI.out
   subst hi
   clear HI hj
   go_wp2_with (first|((with_reducible refine zad (N:=27) rfl ?_);go_must (refine wpList_load_row rfl 158 _ rfl g3 rfl 158 _ (0,0) _ BK3.out hu91 rfl (by rw [zb7,zcg];kernel_rfl) ?_))|((with_reducible refine za7 (p:=2) (v:=.tmp 27) (t:=158) rfl ?_);go_must (refine wpList_store_row rfl 158 _ _ rfl g2 (uarr .u64 (zdh xs)) rfl qz36_ 158 (uarr .u64 z25) BK2.out (by first|(rw [zb7,zcg];kernel_rfl)|kernel_rfl) qz37_ (zdp _ _) ?_;generalize hw4:World.setRow wr g2 (uarr .u64 (zdh xs))=w5;replace BK2:=am_ (show w5.heap[g2]?=some (.cells (uarr .u64 (zdh xs)) 158 (0,0)) by rw [←hw4];exact setRow_heap _ _ _ _ _ _ BK2.out);replace HB:=am_ (show Below w.heap.size w w5 by rw [←hw4];exact below_setRow HB.out GE2.out _);clear hw4 BK3)))
   simp only [Act.put,List.setIfInBounds_toArray,List.set_cons_zero,List.set_cons_succ]
   refine bodyPost_ret (v:=.agg (uarr .u64 (zdh xs))) ?hres rfl ?_
   case hres=>exact results_cell_row (fn:=Tryz.f170) (p:=2) rfl _ _ g2 158 (uarr .u64 (zdh xs)) (0,0) _ (by first|rfl|(simp;done)) BK2.out hu91 rfl (by rw [zb7,zcg];kernel_rfl)
   exact⟨rfl,HB.out⟩
  | succ k1=>
   have hj:=HJ.out
   have hl:=HLEN.out
   have c1:decide ((j:Int)<(xs.length:Int))=true:=decide_eq_true (by omega)
   have c2:decide (j<xs.length)=true:=decide_eq_true (by omega)
   have p5:0≤(j:Int):=by omega
   have q5:(j:Int)<(xs.length:Int):=by omega
   have q5n:j<xs.length:=by omega
   obtain⟨ad,hA,hc0⟩:=Kd.at_int HR0.out (j:Int) p5 q5
   subst hA
   rw [Int.toNat_natCast] at hc0
   have hx:=(HB.out.cell (World.block_lt_of_cell? _ _ hc0)).trans hc0
   clear hc0
   have p6:=eq_true p5
   have q6:=eq_true q5
   have q6n:=eq_true q5n
   have ho:=HO.out
   obtain⟨q,hq⟩:∃ q:Nat,j / 8=q:=⟨_,rfl⟩
   obtain⟨m,hm⟩:∃ m:Nat,8 * (j % 8)=m:=⟨_,rfl⟩
   have hs:wr.cell? ⟨g3,q,none⟩=some (.int .u64 (out.getD q 0)):=zb4 BK3.out (by omega)
   have hfs:=zbu BK3.out q
   have e1:wrap64 ((j:Int) / 8)=(q:Int):=by unfold wrap64;omega
   have e2:wrap64 (8 * ((j:Int) % 8))=(m:Int):=by unfold wrap64;omega
   have e3:wrap64 (8 * ((j:Int).tmod 8))=(m:Int):=by rw [Int.tmod_eq_emod_of_nonneg p5];exact e2
   have qq:((q:Int)<25)=True:=eq_true (by omega)
   have qn:(q<25)=True:=eq_true (by omega)
   have HQ:=am_ hq
   have HM:=am_ hm
   clear hq hm ho hl
   go_wp2
   generalize hji0:rd xs ↑j=b at hx ⊢
   refine zcn (n:=13) (S:=fun w'=>w'.cell? ⟨g3,q,none⟩=some (.int .u64 (out.getD q 0))) (ds:=[12]) (bs_ 13 0) (by kernel_rfl) rfl rfl (zb4 BK3.out (by have:=HQ.out;have:=HO.out;have:=HLEN.out;omega)) (fun hHeld=>?_)
   refine pu_ 0 14 (bs_ 13 1) ?_
   refine pu_ 1 15 (bs_ 13 3) ?_
   refine pu_ 2 16 (bs_ 13 7) ?_
   refine tk_ 3 (bs_ 13 15) hHeld ?_
   refine pu_ 4 18 (bs_ 13 31) ?_
   refine pu_ 5 19 (bs_ 13 63) ?_
   refine pu_ 6 20 (bs_ 13 127) ?_
   refine pu_ 7 21 (bs_ 13 255) ?_
   refine pu_ 8 22 (bs_ 13 511) ?_
   refine pu_ 9 23 (bs_ 13 1023) ?_
   refine pu_ 10 24 (bs_ 13 2047) ?_
   refine pu_ 11 25 (bs_ 13 4095) ?_
   refine last_ (i:=12) (N:=none) (bs_ 13 8191) rfl rfl (by kernel_rfl) (by decide) (fun K hK=>?_)
   refine skip_ (w1:=?_) (by rfl) rfl ?_ ?_
   rotate_left
   ·
    go_simp
    rfl
   refine hK.out _ _ ?_
   clear hK K
   refine done_ (by kernel_rfl) ?_
   have n0_:=am_ (zae (zid BK3.out q (Go.bits .or .u64 (out.getD q 0) (IntKind.u64.wrap (IntKind.u64.wrap b * 2 ^ min m 64)))))
   have n1_:=am_ (zae (zb8 BK2.out (p:=⟨g3,q,none⟩) (Ne.symm NE.out) (.int .u64 (Go.bits .or .u64 (out.getD q 0) (IntKind.u64.wrap (IntKind.u64.wrap b * 2 ^ min m 64))))))
   have n2_:=am_ (zao (za6 (g:=g3) (j:=q) HB.out GE3.out (v:=(.int .u64 (Go.bits .or .u64 (out.getD q 0) (IntKind.u64.wrap (IntKind.u64.wrap b * 2 ^ min m 64)))))))
   have hstep:zeg xs j out=out.set q (Go.bits .or .u64 (out.getD q 0) (IntKind.u64.wrap (IntKind.u64.wrap b * 2 ^ min m 64))):=by unfold zeg;rw [HQ.out,HM.out,hji0]
   have HI2:=am_ (show iter (zeg xs) k1 (j + 1) (zeg xs j out)=zdh xs from HI.out)
   have HO2:=am_ (show (zeg xs j out).length=25 from(zfu xs j out).trans HO.out)
   rw [hstep] at HI2 HO2
   clear BK3 BK2 HB HI HO hs hfs e1 e2 e3 qq qn hstep hx hji0 HQ HM
   generalize out.set q (Go.bits .or .u64 (out.getD q 0) (IntKind.u64.wrap (IntKind.u64.wrap b * 2 ^ min m 64)))=out2 at n0_ HI2 HO2
   try go_wp2
   go_roundg k1
   case measure=>omega
   case rel=>exact⟨j + 1,out2,by have:=HLEN.out;rw [w64_ (by omega) (by omega)];rfl,⟨(by omega)⟩,HI2,HO2,n0_,n1_,n2_⟩
def zcx.f (a0:Int) (a1:Int):Option (Int):=if 0≤(Go.bits .and .u64 (IntKind.u64.wrap (a1)) 63) then(if 0≤(IntKind.u64.wrap (64 - (Go.bits .and .u64 (IntKind.u64.wrap (a1)) 63))) then(some (Go.bits .or .u64 (shl .u64 a0 (Go.bits .and .u64 (IntKind.u64.wrap (a1)) 63)) (shr .u64 a0 (IntKind.u64.wrap (64 - (Go.bits .and .u64 (IntKind.u64.wrap (a1)) 63)))))) else(none)) else(none)
theorem zcx.calls (a0:Int) (a1:Int) (r:Int) (w:World) (h:zcx.f a0 a1=some r) :
  Calls Tryz.prog 182 #[.int .u64 a0,.int .i64 a1] w fun e w'=>e=.returned (.int .u64 r)∧zbx w w':=by
 have H:(if 0≤(Go.bits .and .u64 (IntKind.u64.wrap (a1)) 63) then(if 0≤(IntKind.u64.wrap (64 - (Go.bits .and .u64 (IntKind.u64.wrap (a1)) 63))) then(some (Go.bits .or .u64 (shl .u64 a0 (Go.bits .and .u64 (IntKind.u64.wrap (a1)) 63)) (shr .u64 a0 (IntKind.u64.wrap (64 - (Go.bits .and .u64 (IntKind.u64.wrap (a1)) 63)))))) else(none)) else(none))=some r:=h
 clear h
 obtain⟨ji3,hji3⟩:∃ j_:Int,(Go.bits .and .u64 (IntKind.u64.wrap (a1)) 63)=j_:=⟨_,rfl⟩
 replace H:(if 0≤(ji3) then(if 0≤(IntKind.u64.wrap (64 - (ji3))) then(some (Go.bits .or .u64 (shl .u64 a0 (ji3)) (shr .u64 a0 (IntKind.u64.wrap (64 - (ji3)))))) else(none)) else(none))=some r:=by first|(rw [hji3] at H;exact H)|(simp only [hji3] at H ⊢;exact H)
 by_cases c4:0≤(ji3)
 ·
  rw [if_pos c4] at H
  have c4b0:=eq_true c4
  have c4b1:decide (0≤(ji3))=true:=decide_eq_true c4
  clear c4
  obtain⟨ji5,hji5⟩:∃ j_:Int,(shl .u64 a0 (ji3))=j_:=⟨_,rfl⟩
  replace H:(if 0≤(IntKind.u64.wrap (64 - (ji3))) then(some (Go.bits .or .u64 (ji5) (shr .u64 a0 (IntKind.u64.wrap (64 - (ji3)))))) else(none))=some r:=by first|(rw [hji5] at H;exact H)|(simp only [hji5] at H ⊢;exact H)
  have hji5_:(IntKind.u64.wrap (a0 * 2 ^ min (ji3).toNat 64))=ji5:=hji5
  have hji5z:(ji3)≤64→(IntKind.u64.wrap (a0 * 2 ^ (ji3).toNat))=ji5:=zlv hji5
  obtain⟨ji6,hji6⟩:∃ j_:Int,(IntKind.u64.wrap (64 - (ji3)))=j_:=⟨_,rfl⟩
  replace H:(if 0≤(ji6) then(some (Go.bits .or .u64 (ji5) (shr .u64 a0 (ji6)))) else(none))=some r:=by first|(rw [hji6] at H;exact H)|(simp only [hji6] at H ⊢;exact H)
  by_cases c7:0≤(ji6)
  ·
   rw [if_pos c7] at H
   have c7b0:=eq_true c7
   have c7b1:decide (0≤(ji6))=true:=decide_eq_true c7
   clear c7
   obtain⟨ji8,hji8⟩:∃ j_:Int,(shr .u64 a0 (ji6))=j_:=⟨_,rfl⟩
   replace H:(some (Go.bits .or .u64 (ji5) (ji8)))=some r:=by first|(rw [hji8] at H;exact H)|(simp only [hji8] at H ⊢;exact H)
   have hji8_:(a0 / 2 ^ min (ji6).toNat 64)=ji8:=hji8
   have hji8z:(ji6)≤64→(a0 / 2 ^ (ji6).toNat)=ji8:=zjv hji8
   obtain rfl:=Option.some.inj H
   go_enter Tryz.func182,Tryz.ntmps182
   go_wp2
   go_ret
   exact⟨(by first|rfl|(simp;done)|(simp only [←hji3,←hji5,←hji6,←hji8] <;> (first|rfl|simp))|(simp [*];done)),qz1_⟩
  ·
   rw [if_neg c7] at H
   exact absurd H (by simp)
 ·
  rw [if_neg c4] at H
  exact absurd H (by simp)
end Go.Proofs.YtgookagndlfehaaGreat.PT
end
section
/- permute: a state permuted. -/
namespace Go.Proofs.YtgookagndlfehaaGreat.PT
open Go.RowKit Go.Proofs.YtgookagndlfehaaGreatW.PrintWords Go.Proofs.YtgookagndlfehaaGreatW.PrintLast Go.Proofs.YtgookagndlfehaaGreatW.PrintMore
set_option linter.unusedVariables false
set_option linter.unusedSimpArgs false
theorem rot_some (x k:Int):∃ r,zcx.f x k=some r:=by
 unfold zcx.f
 have h1:∀ n:Int,0≤IntKind.u64.wrap n:=fun n=>by rw [IntKind.wrap_u64];omega
 have h2:0≤Go.bits .and .u64 (IntKind.u64.wrap k) 63:=by unfold Go.bits;exact h1 _
 rw [if_pos h2,if_pos (h1 _)]
 exact⟨_,rfl⟩
def rot (x k:Int):Int:=(zcx.f x k).getD 0
theorem rot_eq (x k:Int):zcx.f x k=some (rot x k):=by
 obtain⟨r,h⟩:=rot_some x k
 unfold rot
 rw [h]
 rfl
def z5:List Int:=[0,0,0,0,0]
def z24:List Int:=[0,0,0,0,0,0,0,0,0,0,0,0,0,0,0,0,0,0,0,0,0,0,0,0]
def zcd:List Int:=[0,1,62,28,27,36,44,6,55,20,3,10,43,25,39,41,45,15,21,8,18,2,61,56,14]
def zdk:List Int:=[1,32898,9223372036854808714,9223372039002292224,32907,2147483649,9223372039002292353,9223372036854808585,138,136,2147516425,2147483658,2147516555,9223372036854775947,9223372036854808713,9223372036854808579,9223372036854808578,9223372036854775936,32778,9223372039002259466,9223372039002292353,9223372036854808704,2147483649,9223372039002292232]
def xr (x y:Int):Int:=Go.bits .xor .u64 x y
def an (x y:Int):Int:=Go.bits .andNot .u64 x y
def zlg (ls:List Int) (i:Nat) (s:List Int):List Int:=s.set (i % 5) (xr (s.getD (i % 5) 0) (ls.getD i 0))
def zh9 (ls s:List Int) (i:Nat) (m:List Int):List Int:=m.set (i / 5 + 5 * ((2 * (i % 5) + 3 * (i / 5)) % 5)) (rot (xr (ls.getD i 0) (xr (s.getD ((i % 5 + 4) % 5) 0) (rot (s.getD ((i % 5 + 1) % 5) 0) 1))) (zcd.getD i 0))
def zjq (m:List Int) (i:Nat) (l:List Int):List Int:=l.set i (xr (m.getD i 0) (an (m.getD (i - i % 5 + (i % 5 + 2) % 5) 0) (m.getD (i - i % 5 + (i % 5 + 1) % 5) 0)))
def roundEnd (r:Nat) (l:List Int):List Int:=l.set 0 (xr (l.getD 0 0) (zdk.getD r 0))
def sums_ (ls:List Int):List Int:=iter (zlg ls) 25 0 z5
def zke (ls s:List Int):List Int:=iter (zh9 ls s) 25 0 z25
def new_ (m ls:List Int):List Int:=iter (zjq m) 25 0 ls
def zeb (r:Nat) (ls:List Int):List Int:=roundEnd r (new_ (zke ls (sums_ ls)) ls)
def perm (ls:List Int):List Int:=iter zeb 24 0 ls
theorem zdo {α:Type} (f:Nat→α→α) (k j:Nat) (x:α):iter f (k + 1) j x=iter f k (j + 1) (f j x):=rfl
theorem zm2 (ls s:List Int) (i:Nat) (m:List Int):zh9 ls s i m=m.set (i / 5 + 5 * ((2 * (i % 5) + 3 * (i / 5)) % 5)) (rot (xr (ls.getD i 0) (xr (s.getD ((i % 5 + 4) % 5) 0) (rot (s.getD ((i % 5 + 1) % 5) 0) 1))) (zcd.getD i 0)):=rfl
theorem zna (m:List Int) (i:Nat) (l:List Int):zjq m i l=l.set i (xr (m.getD i 0) (an (m.getD (i - i % 5 + (i % 5 + 2) % 5) 0) (m.getD (i - i % 5 + (i % 5 + 1) % 5) 0))):=rfl
theorem mv1 {i:Nat} (h:i<25):wrap64 ((i:Int) % 5 + 4)=(i:Int) % 5 + 4:=by unfold wrap64;omega
theorem mv2 {i p:Nat} (h:i<25) (hp:(i % 5 + 4) % 5=p):Int.tmod ((i:Int) % 5 + 4) 5=(p:Int):=by rw [Int.tmod_eq_emod_of_nonneg (by omega)];omega
theorem mv3 {i:Nat} (h:i<25):wrap64 ((i:Int) % 5 + 1)=(i:Int) % 5 + 1:=by unfold wrap64;omega
theorem mv4 {i p:Nat} (h:i<25) (hp:(i % 5 + 1) % 5=p):Int.tmod ((i:Int) % 5 + 1) 5=(p:Int):=by rw [Int.tmod_eq_emod_of_nonneg (by omega)];omega
theorem mv6_:∀ i:Fin 25,wrap64 (wrap64 ((i.val:Int) / 5) + wrap64 (5 * Int.tmod (wrap64 (2 * ((i.val:Int) % 5) + wrap64 (3 * wrap64 ((i.val:Int) / 5)))) 5))=((i.val / 5 + 5 * ((2 * (i.val % 5) + 3 * (i.val / 5)) % 5):Nat):Int):=by decide +kernel
theorem mv7_:∀ i:Fin 25,i.val / 5 + 5 * ((2 * (i.val % 5) + 3 * (i.val / 5)) % 5)<25:=by decide +kernel
theorem mv6 {i d:Nat} (h:i<25) (hd:i / 5 + 5 * ((2 * (i % 5) + 3 * (i / 5)) % 5)=d):wrap64 (wrap64 ((i:Int) / 5) + wrap64 (5 * Int.tmod (wrap64 (2 * ((i:Int) % 5) + wrap64 (3 * wrap64 ((i:Int) / 5)))) 5))=(d:Int):=by rw [←hd];exact mv6_ ⟨i,h⟩
theorem mv7 {i d:Nat} (h:i<25) (hd:i / 5 + 5 * ((2 * (i % 5) + 3 * (i / 5)) % 5)=d):d<25:=by rw [←hd];exact mv7_ ⟨i,h⟩
theorem lt25 {p:Nat} (h:p<25):((p:Int)<25)=True:=eq_true (by omega)
theorem mw_:∀ i:Fin 25,(wrap64 ((i.val:Int) % 5 + 2)=(i.val:Int) % 5 + 2∧wrap64 ((i.val:Int) - (i.val:Int) % 5 + (((i.val % 5 + 2) % 5:Nat):Int))=((i.val - i.val % 5 + (i.val % 5 + 2) % 5:Nat):Int)∧i.val - i.val % 5 + (i.val % 5 + 2) % 5<25)∧(wrap64 ((i.val:Int) - (i.val:Int) % 5 + (((i.val % 5 + 1) % 5:Nat):Int))=((i.val - i.val % 5 + (i.val % 5 + 1) % 5:Nat):Int)∧i.val - i.val % 5 + (i.val % 5 + 1) % 5<25):=by decide +kernel
theorem mw {i:Nat} (h:i<25):(wrap64 ((i:Int) % 5 + 2)=(i:Int) % 5 + 2∧wrap64 ((i:Int) - (i:Int) % 5 + (((i % 5 + 2) % 5:Nat):Int))=((i - i % 5 + (i % 5 + 2) % 5:Nat):Int)∧i - i % 5 + (i % 5 + 2) % 5<25)∧(wrap64 ((i:Int) - (i:Int) % 5 + (((i % 5 + 1) % 5:Nat):Int))=((i - i % 5 + (i % 5 + 1) % 5:Nat):Int)∧i - i % 5 + (i % 5 + 1) % 5<25):=mw_ ⟨i,h⟩
theorem mw0 {i:Nat} (h:i<25):wrap64 ((i:Int) - (i:Int) % 5)=(i:Int) - (i:Int) % 5:=by unfold wrap64;omega
theorem mw2 {i p:Nat} (h:i<25) (hp:(i % 5 + 2) % 5=p):Int.tmod ((i:Int) % 5 + 2) 5=(p:Int):=by rw [Int.tmod_eq_emod_of_nonneg (by omega)];omega
theorem mv5 {n p:Nat} (hp:n % 5=p):p<5:=hp ▸ Nat.mod_lt _ (by decide)
theorem lt5 {p:Nat} (h:p<5):((p:Int)<5)=True:=eq_true (by omega)
theorem zm3 (ls:List Int):(sums_ ls).length=5:=zdd (fun j x=>by simp [zlg]) 25 0 z5
theorem moved_length (ls s:List Int):(zke ls s).length=25:=zdd (fun j x=>by simp [zh9]) 25 0 z25
theorem zkq (m ls:List Int):(new_ m ls).length=ls.length:=zdd (fun j x=>by simp [zjq]) 25 0 ls
theorem zmn (r:Nat) (ls:List Int):(zeb r ls).length=ls.length:=by unfold zeb roundEnd;rw [List.length_set,zkq]
theorem zi4 (ls:List Int):(perm ls).length=ls.length:=zdd zmn 24 0 ls
theorem zi0 {t n:Nat} (ht:Tryz.prog.underlying t=some (.array n 151)) {xs:List Int} (hn:xs.length=n) {i:Nat} (hi:i<n) (W:World):(Instr.index t (.agg (uarr .u64 xs)) (.int .i64 (i:Int))).run Tryz.prog W=.ok (.int .u64 (xs.getD i 0)) W:=by
 have h2:(Tryz.prog.info? 151).map (fun i=>i.size)=some 1:=by kernel_rfl
 obtain⟨z,hz,hs⟩:=Option.map_eq_some_iff.1 h2
 have hu:=run_underlying (P:=Tryz.prog) ht
 have hv:=run_underlying (P:=Tryz.prog) Tryz.underlying151
 have hg:(uarr .u64 xs)[i]?=some (.int .u64 (xs.getD i 0)):=znj (by omega)
 simp [Instr.index,asIntOf,hu,hv,sizeOf,typeInfo,hz,hs,part,isAgg,hi,hg]
structure KB (w w':World) (g:Nat):Prop where
 os:w'.os=w.os
 tape:w'.tape=w.tape
 output:w'.output=w.output
 size:w.heap.size≤w'.heap.size
 block:∀ i,i<w.heap.size→i≠g→w'.heap[i]?=w.heap[i]?
theorem KB.refl (w:World) (g:Nat):KB w w g:=⟨rfl,rfl,rfl,Nat.le_refl _,fun _ _ _=>rfl⟩
theorem KB.drew {w W:World} {g:Nat} (h:KB w W g):KB w W.drew g:=⟨h.os,h.tape,h.output,h.size,h.block⟩
theorem KB.drewN {w W:World} {g:Nat} (h:KB w W g) (n:Nat):KB w (W.drewN n) g:=⟨h.os,h.tape,h.output,h.size,h.block⟩
theorem KB.below {w W W':World} {g:Nat} (h:KB w W g) (hb:Below W.heap.size W W'):KB w W' g:=⟨hb.os.trans h.os,hb.tape.trans h.tape,hb.output.trans h.output,Nat.le_trans h.size hb.size,fun i hi hg=>(hb.block i (Nat.lt_of_lt_of_le hi h.size)).trans (h.block i hi hg)⟩
theorem KB.set {w W:World} {g b i:Nat} {v:Value} (h:KB w W g) (hb:b=g∨w.heap.size≤b):KB w (W.setCell ⟨b,i,none⟩ v) g:=
 ⟨h.os,h.tape,h.output,(by simpa [World.setCell] using h.size),fun j hj hg=>(Below.heap_setCell W _ v j (by rcases hb with rfl|hb <;> simp <;> omega)).trans (h.block j hj hg)⟩
theorem KB.row {w W:World} {g b:Nat} {cs:Array Value} (h:KB w W g) (hb:b=g∨w.heap.size≤b):KB w (W.setRow b cs) g:=
 ⟨h.os,h.tape,h.output,(by simpa using h.size),fun j hj hg=>(setRow_other W b j cs (by rcases hb with rfl|hb <;> omega)).trans (h.block j hj hg)⟩
theorem KB.trans {w w1 w2:World} {g:Nat} (h:KB w w1 g) (k:KB w1 w2 g):KB w w2 g:=
 ⟨k.os.trans h.os,k.tape.trans h.tape,k.output.trans h.output,Nat.le_trans h.size k.size,fun i hi hg=>(k.block i (Nat.lt_of_lt_of_le hi h.size) hg).trans (h.block i hi hg)⟩
theorem KB.keep {w w':World} {g:Nat} (h:KB w w' g):zbn w w' g none:=⟨h.size,fun i hi hg _=>h.block i hi hg⟩
theorem KB.onto {B:Nat} {w0 w w':World} {g:Nat} (h:KB w w' g) (hB:Below B w0 w) (hl:B≤w0.heap.size) (hg:B≤g):Below B w0 w':=
 ⟨h.os.trans hB.os,h.tape.trans hB.tape,h.output.trans hB.output,Nat.le_trans hB.size h.size,fun i hi=>(h.block i (Nat.lt_of_lt_of_le (Nat.lt_of_lt_of_le hi hl) hB.size) (by omega)).trans (hB.block i hi)⟩
theorem zf2.calls (gs:Nat) (ls:List Int) (w:World) (hb0:w.heap[gs]?=some (.cells (uarr .u64 ls) 158 (0,0))) (hlen:ls.length=25) :
  Calls Tryz.prog 171 #[.pointer (some ⟨gs,0,none⟩)] w fun e w'=>e=.returned (.tuple #[])∧w'.heap[gs]?=some (.cells (uarr .u64 (perm ls)) 158 (0,0))∧KB w w' gs:=by
 have BKs:=am_ hb0
 have HLEN:=am_ hlen
 have HK:=am_ (KB.refl w gs)
 have hu91:=Tryz.underlying158
 have hu101:=Tryz.underlying163
 clear hb0 hlen
 generalize htt:perm ls=tt
 unfold perm at htt
 have HTT:=am_ htt
 clear htt
 go_enter Tryz.func171,Tryz.ntmps171
 go_wp2_with (first|((with_reducible refine zad (N:=2) rfl ?_);refine zaj rfl (N:=2) rfl (cs:=uarr .i64 z25) (t:=171) bx_ ?_;intro g2 hg w2 hbox hb;replace BK2:=am_ (hbox);replace GE2:=am_ ((by rw [hg];exact HK.out.size):w.heap.size≤g2);replace HK:=am_ (HK.out.below hb);replace NE2_s:=am_ (show g2≠gs by have:=zar BKs.out;omega);replace BKs:=am_ (zak BKs.out hb);clear hb hbox hg)|((with_reducible refine za7 (p:=2) (v:=.tmp 18) (t:=171) rfl ?_);go_must (refine wpList_store_row rfl 171 _ _ rfl g2 (uarr .i64 zcd) rfl qz36_ 171 (uarr .i64 z25) BK2.out (by first|(rw [zb7,zcg];kernel_rfl)|kernel_rfl) qz37_ (zdp _ _) ?_;generalize hw4:World.setRow w2 g2 (uarr .i64 zcd)=w3;replace HK:=am_ (show KB w w3 gs by rw [←hw4];exact HK.out.row (.inr GE2.out));replace BK2:=am_ (show w3.heap[g2]?=some (.cells (uarr .i64 zcd) 171 (0,0)) by rw [←hw4];exact setRow_heap _ _ _ _ _ _ BK2.out);replace BKs:=am_ (show w3.heap[gs]?=some (.cells (uarr .u64 ls) 158 (0,0)) by rw [←hw4];exact(setRow_other _ _ _ _ (Ne.symm NE2_s.out)).trans BKs.out);clear hw4))|((with_reducible refine zad (N:=3) rfl ?_);refine zaj rfl (N:=3) rfl (cs:=uarr .u64 z24) (t:=163) bx_ ?_;intro g3 hg w4 hbox hb;replace BK3:=am_ (hbox);replace GE3:=am_ ((by rw [hg];exact HK.out.size):w.heap.size≤g3);replace HK:=am_ (HK.out.below hb);replace NE3_s:=am_ (show g3≠gs by have:=zar BKs.out;omega);replace NE3_2:=am_ (show g3≠g2 by have:=zar BK2.out;omega);replace BKs:=am_ (zak BKs.out hb);replace BK2:=am_ (zak BK2.out hb);clear hb hbox hg)|((with_reducible refine za7 (p:=3) (v:=.tmp 19) (t:=163) rfl ?_);go_must (refine wpList_store_row rfl 163 _ _ rfl g3 (uarr .u64 zdk) rfl qz36_ 163 (uarr .u64 z24) BK3.out (by first|(rw [zb7,zcg];kernel_rfl)|kernel_rfl) qz37_ (zdp _ _) ?_;generalize hw4:World.setRow w4 g3 (uarr .u64 zdk)=w5;replace HK:=am_ (show KB w w5 gs by rw [←hw4];exact HK.out.row (.inr GE3.out));replace BK3:=am_ (show w5.heap[g3]?=some (.cells (uarr .u64 zdk) 163 (0,0)) by rw [←hw4];exact setRow_heap _ _ _ _ _ _ BK3.out);replace BKs:=am_ (show w5.heap[gs]?=some (.cells (uarr .u64 ls) 158 (0,0)) by rw [←hw4];exact(setRow_other _ _ _ _ (Ne.symm NE3_s.out)).trans BKs.out);replace BK2:=am_ (show w5.heap[g2]?=some (.cells (uarr .i64 zcd) 171 (0,0)) by rw [←hw4];exact(setRow_other _ _ _ _ (Ne.symm NE3_2.out)).trans BK2.out);clear hw4))|((with_reducible refine zad (N:=20) rfl ?_);go_must (refine wpList_load_row rfl 163 _ rfl g3 rfl 163 (uarr .u64 zdk) (0,0) _ BK3.out hu101 rfl (by kernel_rfl) ?_)))
 go_loopg [21] 24 (fun kq v21 w'=>∃ (r:Nat) (ls:List Int),v21=.int .i64 r∧zal (r + kq=24)∧zal (iter zeb kq r ls=tt)∧zal (ls.length=25)∧zal (w'.heap[gs]?=some (.cells (uarr .u64 ls) 158 (0,0)))∧zal (w'.heap[g2]?=some (.cells (uarr .i64 zcd) 171 (0,0)))∧zal (KB w w' gs))
 case atStart=>exact⟨0,ls,rfl,⟨(by omega)⟩,HTT,HLEN,BKs,BK2,HK⟩
 case round=>
  clear HTT HLEN BKs BK2 BK3 HK ls
  obtain⟨r,ls,rfl,HJ,HI,HLEN,BKs,BK2,HK⟩:=hrel
  cases gk with
  | zero=>
   have hj:=HJ.out
   have c1:decide ((r:Int)<24)=false:=decide_eq_false (by omega)
   have c2:decide (r<24)=false:=decide_eq_false (by omega)
   have hi:ls=tt:=HI.out
   subst hi
   clear HI hj
   go_wp2
   exact bodyPost_end (v:=.tuple #[]) (by first|rfl|(simp [results];done)) rfl ⟨rfl,BKs.out,HK.out⟩
  | succ k1=>
   have hj:=HJ.out
   have c1:decide ((r:Int)<24)=true:=decide_eq_true (by omega)
   have c2:decide (r<24)=true:=decide_eq_true (by omega)
   have HI2:=am_ (show iter zeb k1 (r + 1) (zeb r ls)=tt from HI.out)
   clear HI
   have hix:=zi0 hu101 (xs:=zdk) rfl (show r<24 by omega) wr
   go_wp2_with (first|((with_reducible refine zad (N:=6) rfl ?_);refine zaj rfl (N:=6) rfl (cs:=uarr .u64 z5) (t:=167) bx_ ?_;intro g6 hg w6 hbox hb;replace BK6:=am_ (hbox);replace GE6:=am_ ((by rw [hg];exact HK.out.size):w.heap.size≤g6);replace HK:=am_ (HK.out.below hb);replace NE6_s:=am_ (show g6≠gs by have:=zar BKs.out;omega);replace NE6_2:=am_ (show g6≠g2 by have:=zar BK2.out;omega);replace BKs:=am_ (zak BKs.out hb);replace BK2:=am_ (zak BK2.out hb);clear hb hbox hg)|((with_reducible refine zad (N:=7) rfl ?_);refine zaj rfl (N:=7) rfl (cs:=uarr .u64 z25) (t:=158) bx_ ?_;intro g7 hg w7 hbox hb;replace BK7:=am_ (hbox);replace GE7:=am_ ((by rw [hg];exact HK.out.size):w.heap.size≤g7);replace HK:=am_ (HK.out.below hb);replace NE7_s:=am_ (show g7≠gs by have:=zar BKs.out;omega);replace NE7_2:=am_ (show g7≠g2 by have:=zar BK2.out;omega);replace NE7_6:=am_ (show g7≠g6 by have:=zar BK6.out;omega);replace BKs:=am_ (zak BKs.out hb);replace BK2:=am_ (zak BK2.out hb);replace BK6:=am_ (zak BK6.out hb);clear hb hbox hg)|((with_reducible refine za7 (p:=6) (v:=.tmp 24) (t:=167) rfl ?_);go_must (refine wpList_store_row rfl 167 _ _ rfl g6 (uarr .u64 z5) rfl qz36_ 167 (uarr .u64 z5) BK6.out (by first|(rw [zb7,zcg];kernel_rfl)|kernel_rfl) qz37_ (zdp _ _) ?_;generalize hw4:World.setRow w7 g6 (uarr .u64 z5)=w8;replace HK:=am_ (show KB w w8 gs by rw [←hw4];exact HK.out.row (.inr GE6.out));replace BK6:=am_ (show w8.heap[g6]?=some (.cells (uarr .u64 z5) 167 (0,0)) by rw [←hw4];exact setRow_heap _ _ _ _ _ _ BK6.out);replace BKs:=am_ (show w8.heap[gs]?=some (.cells (uarr .u64 ls) 158 (0,0)) by rw [←hw4];exact(setRow_other _ _ _ _ (Ne.symm NE6_s.out)).trans BKs.out);replace BK2:=am_ (show w8.heap[g2]?=some (.cells (uarr .i64 zcd) 171 (0,0)) by rw [←hw4];exact(setRow_other _ _ _ _ (Ne.symm NE6_2.out)).trans BK2.out);replace BK7:=am_ (show w8.heap[g7]?=some (.cells (uarr .u64 z25) 158 (0,0)) by rw [←hw4];exact(setRow_other _ _ _ _ (NE7_6.out)).trans BK7.out);clear hw4))|((with_reducible refine za7 (p:=7) (v:=.tmp 25) (t:=158) rfl ?_);go_must (refine wpList_store_row rfl 158 _ _ rfl g7 (uarr .u64 z25) rfl qz36_ 158 (uarr .u64 z25) BK7.out (by first|(rw [zb7,zcg];kernel_rfl)|kernel_rfl) qz37_ (zdp _ _) ?_;generalize hw4:World.setRow w8 g7 (uarr .u64 z25)=w9;replace HK:=am_ (show KB w w9 gs by rw [←hw4];exact HK.out.row (.inr GE7.out));replace BK7:=am_ (show w9.heap[g7]?=some (.cells (uarr .u64 z25) 158 (0,0)) by rw [←hw4];exact setRow_heap _ _ _ _ _ _ BK7.out);replace BKs:=am_ (show w9.heap[gs]?=some (.cells (uarr .u64 ls) 158 (0,0)) by rw [←hw4];exact(setRow_other _ _ _ _ (Ne.symm NE7_s.out)).trans BKs.out);replace BK2:=am_ (show w9.heap[g2]?=some (.cells (uarr .i64 zcd) 171 (0,0)) by rw [←hw4];exact(setRow_other _ _ _ _ (Ne.symm NE7_2.out)).trans BK2.out);replace BK6:=am_ (show w9.heap[g6]?=some (.cells (uarr .u64 z5) 167 (0,0)) by rw [←hw4];exact(setRow_other _ _ _ _ (Ne.symm NE7_6.out)).trans BK6.out);clear hw4)))
   clear hix
   generalize hS:sums_ ls=S
   have HSD:=am_ hS
   have HSL:=am_ (show S.length=5 from hS ▸ zm3 ls)
   unfold sums_ at hS
   have HS0:=am_ hS
   clear hS
   generalize hcst:zdk[r]?.getD 0=cst
   have HCST:=am_ hcst
   clear hcst
   go_loopg [27] 25 (fun kq v27 w'=>∃ (i:Nat) (s:List Int),v27=.int .i64 i∧zal (i + kq=25)∧zal (iter (zlg ls) kq i s=S)∧zal (s.length=5)∧zal (w'.heap[gs]?=some (.cells (uarr .u64 ls) 158 (0,0)))∧zal (w'.heap[g2]?=some (.cells (uarr .i64 zcd) 171 (0,0)))∧zal (w'.heap[g6]?=some (.cells (uarr .u64 s) 167 (0,0)))∧zal (w'.heap[g7]?=some (.cells (uarr .u64 z25) 158 (0,0)))∧zal (KB w w' gs))
   case atStart=>exact⟨0,z5,rfl,⟨(by omega)⟩,HS0,⟨rfl⟩,BKs,BK2,BK6,BK7,HK⟩
   case round=>
    clear HS0 BKs BK2 BK6 BK7 HK hj c1 c2
    obtain⟨i,s,rfl,HJ1,HI1,HL1,BKs,BK2,BK6,BK7,HK⟩:=hrel
    cases gk with
    | zero=>
     have hj:=HJ1.out
     have c1:decide ((i:Int)<25)=false:=decide_eq_false (by omega)
     have c2:decide (i<25)=false:=decide_eq_false (by omega)
     have hi:s=S:=HI1.out
     subst hi
     clear HI1 hj HL1 HJ1
     go_wp2
     clear c1 c2
     generalize hM:zke ls s=M
     have HMD:=am_ hM
     have HML:=am_ (show M.length=25 from hM ▸ moved_length ls s)
     unfold zke at hM
     have HM0:=am_ hM
     clear hM
     go_loopg [42] 25 (fun kq v42 w'=>∃ (i:Nat) (m:List Int),v42=.int .i64 i∧zal (i + kq=25)∧zal (iter (zh9 ls s) kq i m=M)∧zal (m.length=25)∧zal (w'.heap[gs]?=some (.cells (uarr .u64 ls) 158 (0,0)))∧zal (w'.heap[g2]?=some (.cells (uarr .i64 zcd) 171 (0,0)))∧zal (w'.heap[g6]?=some (.cells (uarr .u64 s) 167 (0,0)))∧zal (w'.heap[g7]?=some (.cells (uarr .u64 m) 158 (0,0)))∧zal (KB w w' gs))
     case atStart=>exact⟨0,z25,rfl,⟨(by omega)⟩,HM0,⟨rfl⟩,BKs,BK2,BK6,BK7,HK⟩
     case round=>
      clear HM0 BKs BK2 BK6 BK7 HK
      obtain⟨i,m,rfl,HJ1,HI1,HL1,BKs,BK2,BK6,BK7,HK⟩:=hrel
      cases gk with
      | zero=>
       have hj:=HJ1.out
       have c1:decide ((i:Int)<25)=false:=decide_eq_false (by omega)
       have c2:decide (i<25)=false:=decide_eq_false (by omega)
       have hi:m=M:=HI1.out
       subst hi
       have hml:=HML.out
       clear HI1 hj HL1 HJ1
       go_wp2_with (first|((with_reducible refine zad (N:=82) rfl ?_);go_must (refine wpList_load_row rfl 158 _ rfl g7 rfl 158 (uarr .u64 m) (0,0) _ BK7.out hu91 rfl (by rw [zb7,hml];kernel_rfl) ?_)))
       clear c1 c2 BK6
       generalize hN:new_ m ls=L2
       have HND:=am_ hN
       have HNL:=am_ (show L2.length=25 from hN ▸ (zkq m ls).trans HLEN.out)
       unfold new_ at hN
       have HN0:=am_ hN
       clear hN
       go_loopg [83] 25 (fun kq v83 w'=>∃ (i:Nat) (l:List Int),v83=.int .i64 i∧zal (i + kq=25)∧zal (iter (zjq m) kq i l=L2)∧zal (l.length=25)∧zal (w'.heap[gs]?=some (.cells (uarr .u64 l) 158 (0,0)))∧zal (w'.heap[g2]?=some (.cells (uarr .i64 zcd) 171 (0,0)))∧zal (w'.heap[g7]?=some (.cells (uarr .u64 m) 158 (0,0)))∧zal (KB w w' gs))
       case atStart=>exact⟨0,ls,rfl,⟨(by omega)⟩,HN0,HLEN,BKs,BK2,BK7,HK⟩
       case round=>
        clear HN0 BKs BK2 BK7 HK
        obtain⟨i,l,rfl,HJ1,HI1,HL1,BKs,BK2,BK7,HK⟩:=hrel
        cases gk with
        | zero=>
         have hj:=HJ1.out
         have c1:decide ((i:Int)<25)=false:=decide_eq_false (by omega)
         have c2:decide (i<25)=false:=decide_eq_false (by omega)
         have hi:l=L2:=HI1.out
         subst hi
         clear HI1 hj HJ1
         have hl1:=HL1.out
         have hs0:=zb4 BKs.out (i:=0) (by rw [hl1];decide)
         have hf0:=zbu BKs.out 0
         have hr:zeb r ls=l.set 0 (Go.bits .xor .u64 (l.getD 0 0) cst):=by
          unfold zeb roundEnd
          rw [HSD.out,HMD.out,HND.out,←HCST.out]
          rfl
         have hh:=HI2.out
         rw [hr] at hh
         have HI3:=am_ hh
         have HL3:=am_ (show (l.set 0 (Go.bits .xor .u64 (l.getD 0 0) cst)).length=25 by rw [List.length_set];exact hl1)
         clear hr hh hl1 HL1
         go_wp2
         clear c1 c2
         refine zcn (n:=9) (S:=fun w'=>w'.cell? ⟨gs,0,none⟩=some (.int .u64 (l.getD 0 0))) (ds:=[8]) (bs_ 9 0) (by kernel_rfl) rfl rfl hs0 (fun hHeld=>?_)
         refine pu_ 0 115 (bs_ 9 1) ?_
         refine pu_ 1 116 (bs_ 9 3) ?_
         refine pu_ 2 117 (bs_ 9 7) ?_
         refine tk_ 3 (bs_ 9 15) hHeld ?_
         refine pu_ 4 119 (bs_ 9 31) ?_
         refine pu_ 5 120 (bs_ 9 63) ?_
         refine pu_ 6 121 (bs_ 9 127) ?_
         refine pu_ 7 122 (bs_ 9 255) ?_
         refine last_ (i:=8) (N:=none) (bs_ 9 511) rfl rfl (by kernel_rfl) (by decide) (fun K hK=>?_)
         refine skip_ (w1:=?_) (by rfl) rfl ?_ ?_
         rotate_left
         ·
          go_simp
          rfl
         refine hK.out _ _ ?_
         clear hK K
         refine done_ (by kernel_rfl) ?_
         go_wp2
         go_roundg k1
         case measure=>omega
         case rel=>exact⟨r + 1,_,by first|rfl|go_num|(rw [w64_ (by have:=HJ.out;omega) (by have:=HJ.out;omega)];rfl),⟨(by have:=HJ.out;omega)⟩,HI3,HL3,⟨(by(with_reducible repeat(first|refine zah ?_ _|refine zae ?_));exact zid (by exact BKs.out) _ _)⟩,⟨by(with_reducible repeat(first|refine zah ?_ _|refine zae ?_));exact zb8 (by exact BK2.out) (p:=⟨gs,_,none⟩) NE2_s.out _⟩,⟨(by first|exact(HK.out.set (.inl rfl)).drew|exact HK.out.set (.inl rfl))⟩⟩
        | succ k2=>
         have hj:=HJ1.out
         have hl1:=HL1.out
         have hml:=HML.out
         have c1:decide ((i:Int)<25)=true:=decide_eq_true (by omega)
         have c2:decide (i<25)=true:=decide_eq_true (by omega)
         have ci:((i:Int)<25)=True:=eq_true (by omega)
         have cn:(i<25)=True:=eq_true (by omega)
         have hi25:i<25:=by omega
         have hix:=zi0 hu91 (xs:=m) hml hi25 wr
         have hss:=zb4 BKs.out (i:=i) (by omega)
         have hfs:=zbu BKs.out i
         have hi:=HI1.out
         rw [zdo,zna] at hi
         clear HI1 hj
         obtain⟨⟨f1,f2,hp⟩,f3,hq⟩:=mw hi25
         have f4:=mv3 hi25
         have f0:=mw0 hi25
         generalize hx:(i % 5 + 2) % 5=x at hi f2 hp
         have f5:=mw2 hi25 hx
         clear hx
         generalize hy:(i % 5 + 1) % 5=y at hi f3 hq
         have f6:=mv4 hi25 hy
         clear hy
         generalize i - i % 5 + x=p at hi f2 hp
         generalize i - i % 5 + y=q at hi f3 hq
         have hsp:=zb4 BK7.out (i:=p) (by rw [hml];exact hp)
         have hsq:=zb4 BK7.out (i:=q) (by rw [hml];exact hq)
         have HL2:=am_ (show ∀ v,(l.set i v).length=25 from fun v=>by rw [List.length_set];exact hl1)
         generalize m.getD i 0=A at hix hi
         generalize m.getD p 0=B at hsp hi
         generalize m.getD q 0=C at hsq hi
         have HI4:=am_ hi
         have pp:=lt25 hp
         have pq:=lt25 hq
         have pn:=eq_true hp
         have qn:=eq_true hq
         clear HL1 hl1 hml hi hp hq hi25
         go_wp2
         refine zcn (n:=22) (S:=fun w'=>w'.cell? ⟨g7,p,none⟩=some (.int .u64 B)∧w'.cell? ⟨g7,q,none⟩=some (.int .u64 C)) (ds:=[21]) (bs_ 22 0) (by kernel_rfl) rfl rfl ⟨hsp,hsq⟩ (fun hHeld=>?_)
         refine pu_ 0 93 (bs_ 22 1) ?_
         refine pu_ 1 94 (bs_ 22 3) ?_
         refine pu_ 2 95 (bs_ 22 7) ?_
         refine pu_ 3 96 (bs_ 22 15) ?_
         refine pu_ 4 97 (bs_ 22 31) ?_
         refine pu_ 5 98 (bs_ 22 63) ?_
         refine pu_ 6 99 (bs_ 22 127) ?_
         refine pu_ 7 100 (bs_ 22 255) ?_
         refine pu_ 8 101 (bs_ 22 511) ?_
         refine tk_ 9 (bs_ 22 1023) hHeld ?_
         refine pu_ 10 103 (bs_ 22 2047) ?_
         refine pu_ 11 104 (bs_ 22 4095) ?_
         refine pu_ 12 105 (bs_ 22 8191) ?_
         refine pu_ 13 106 (bs_ 22 16383) ?_
         refine pu_ 14 107 (bs_ 22 32767) ?_
         refine pu_ 15 108 (bs_ 22 65535) ?_
         refine tk_ 16 (bs_ 22 131071) hHeld ?_
         refine pu_ 17 110 (bs_ 22 262143) ?_
         refine pu_ 18 111 (bs_ 22 524287) ?_
         refine pu_ 19 112 (bs_ 22 1048575) ?_
         refine pu_ 20 113 (bs_ 22 2097151) ?_
         refine last_ (i:=21) (N:=none) (bs_ 22 4194303) rfl rfl (by kernel_rfl) (by decide) (fun K hK=>?_)
         refine skip_ (w1:=?_) (by rfl) rfl ?_ ?_
         rotate_left
         ·
          go_simp
          rfl
         refine hK.out _ _ ?_
         clear hK K
         refine done_ (by kernel_rfl) ?_
         clear f0 f1 f2 f3 f4 f5 f6
         go_wp2
         go_roundg k2
         case measure=>omega
         case rel=>exact⟨i + 1,_,by first|rfl|(rw [w64_ (by have:=HJ1.out;omega) (by have:=HJ1.out;omega)];rfl)|go_num,⟨(by have:=HJ1.out;omega)⟩,HI4,⟨HL2.out _⟩,⟨(by(with_reducible repeat(first|refine zah ?_ _|refine zae ?_));exact zid (by exact BKs.out) _ _)⟩,⟨by(with_reducible repeat(first|refine zah ?_ _|refine zae ?_));exact zb8 (by exact BK2.out) (p:=⟨gs,_,none⟩) NE2_s.out _⟩,⟨by(with_reducible repeat(first|refine zah ?_ _|refine zae ?_));exact zb8 (by exact BK7.out) (p:=⟨gs,_,none⟩) NE7_s.out _⟩,⟨(by first|exact(HK.out.set (.inl rfl)).drew|exact HK.out.set (.inl rfl))⟩⟩
      | succ k2=>
       have hj:=HJ1.out
       have hl:=HLEN.out
       have hl1:=HL1.out
       have hl6:=HSL.out
       have c1:decide ((i:Int)<25)=true:=decide_eq_true (by omega)
       have c2:decide (i<25)=true:=decide_eq_true (by omega)
       have ci:((i:Int)<25)=True:=eq_true (by omega)
       have cn:(i<25)=True:=eq_true (by omega)
       have hi25:i<25:=by omega
       have hs:=zb4 BKs.out (i:=i) (by omega)
       have hi:=HI1.out
       rw [zdo,zm2] at hi
       clear HI1 hj hl
       have f1:=mv1 hi25
       have f3:=mv3 hi25
       generalize hp:(i % 5 + 4) % 5=p at hi
       have f2:=mv2 hi25 hp
       have hp5:=mv5 hp
       clear hp
       generalize hu:(i % 5 + 1) % 5=u at hi
       have f4:=mv4 hi25 hu
       have hu5:=mv5 hu
       clear hu
       generalize hd:i / 5 + 5 * ((2 * (i % 5) + 3 * (i / 5)) % 5)=d at hi
       have f5:=mv6 hi25 hd
       have hd25:=mv7 hi25 hd
       clear hd
       have hs7:=zb4 BK7.out (i:=d) (by rw [hl1];exact hd25)
       have hf7:=zbu BK7.out d
       have pd:=lt25 hd25
       have dn:=eq_true hd25
       have hs6p:=zb4 BK6.out (i:=p) (by rw [hl6];exact hp5)
       have hs6u:=zb4 BK6.out (i:=u) (by rw [hl6];exact hu5)
       have hs2:=zb4 BK2.out (i:=i) hi25
       have HL2:=am_ (show ∀ v,(m.set d v).length=25 from fun v=>by rw [List.length_set];exact hl1)
       generalize ls.getD i 0=A at hs hi
       generalize s.getD p 0=B at hs6p hi
       generalize s.getD u 0=C at hs6u hi
       generalize zcd.getD i 0=D at hs2 hi
       have HI2:=am_ hi
       have pp:=lt5 hp5
       have pu:=lt5 hu5
       have pn:=eq_true hp5
       have un:=eq_true hu5
       clear HL1 hl1 hl6 hi hp5 hu5 hi25 hd25
       go_wp2
       refine zcn (n:=6) (S:=fun w'=>w'.cell? ⟨gs,i,none⟩=some (.int .u64 A)) (ds:=[]) (bs_ 6 0) (by kernel_rfl) rfl rfl hs (fun hHeld=>?_)
       refine pu_ 0 44 (bs_ 6 1) ?_
       refine pu_ 1 45 (bs_ 6 3) ?_
       refine pu_ 2 46 (bs_ 6 7) ?_
       refine tk_ 3 (bs_ 6 15) hHeld ?_
       refine pu_ 4 10 (bs_ 6 31) ?_
       refine pu_ 5 11 (bs_ 6 63) ?_
       refine done_ (by kernel_rfl) ?_
       go_wp2
       refine zcn (n:=15) (S:=fun w'=>w'.cell? ⟨g6,p,none⟩=some (.int .u64 B)∧w'.cell? ⟨g6,u,none⟩=some (.int .u64 C)) (ds:=[]) (bs_ 15 0) (by kernel_rfl) rfl rfl ⟨hs6p,hs6u⟩ (fun hHeld=>?_)
       refine pu_ 0 52 (bs_ 15 1) ?_
       refine pu_ 1 53 (bs_ 15 3) ?_
       refine pu_ 2 54 (bs_ 15 7) ?_
       refine pu_ 3 55 (bs_ 15 15) ?_
       refine pu_ 4 56 (bs_ 15 31) ?_
       refine tk_ 5 (bs_ 15 63) hHeld ?_
       refine pu_ 6 58 (bs_ 15 127) ?_
       refine pu_ 7 59 (bs_ 15 255) ?_
       refine pu_ 8 60 (bs_ 15 511) ?_
       refine pu_ 9 61 (bs_ 15 1023) ?_
       refine tk_ 10 (bs_ 15 2047) hHeld ?_
       refine on_ 11 (some 63) (bs_ 15 4095) (fun K hK=>?_)
       refine go_ Tryz.func182 #[.int .u64 C,.int .i64 1] ?_
       with_reducible refine(zcx.calls C 1 (rot C 1) _ (rot_eq C 1)).mono ?_
       rintro e w12 ⟨rfl,⟨m1,rfl⟩⟩
       refine⟨_,rfl,?_⟩
       refine hK.out _ _ ⟨hs6p,hs6u⟩ (fun hHeld=>?_)
       clear hK K
       refine nm_ 63 ?_
       refine pu_ 12 64 (bs_ 15 8191) ?_
       refine pu_ 13 65 (bs_ 15 16383) ?_
       refine pu_ 14 11 (bs_ 15 32767) ?_
       refine done_ (by kernel_rfl) ?_
       clear f1 f2 f3 f4
       go_wp2_with (first|(go_at_call 182;(with_reducible refine(zcx.calls _ _ _ _ (rot_eq _ _)).mono ?_);rintro e w13 ⟨rfl,⟨m2,rfl⟩⟩))
       go_roundg k2
       case measure=>omega
       case rel=>exact⟨i + 1,_,by first|rfl|(rw [w64_ (by have:=HJ1.out;omega) (by have:=HJ1.out;omega)];rfl),⟨(by have:=HJ1.out;omega)⟩,HI2,⟨HL2.out _⟩,⟨by(with_reducible repeat(first|refine zah ?_ _|refine zae ?_));exact zb8 (by exact BKs.out) (p:=⟨g7,_,none⟩) (Ne.symm NE7_s.out) _⟩,⟨by(with_reducible repeat(first|refine zah ?_ _|refine zae ?_));exact zb8 (by exact BK2.out) (p:=⟨g7,_,none⟩) (Ne.symm NE7_2.out) _⟩,⟨by(with_reducible repeat(first|refine zah ?_ _|refine zae ?_));exact zb8 (by exact BK6.out) (p:=⟨g7,_,none⟩) (Ne.symm NE7_6.out) _⟩,⟨(by(with_reducible repeat(first|refine zah ?_ _|refine zae ?_));exact zid (by exact BK7.out) _ _)⟩,⟨(by first|exact(HK.out.drewN _).set (.inr GE7.out)|exact((HK.out.drewN _).set (.inr GE7.out)).drew|exact((HK.out.drewN _).set (.inr GE7.out)).drewN _)⟩⟩
    | succ k2=>
     have hj:=HJ1.out
     have hl:=HLEN.out
     have hl1:=HL1.out
     have c1:decide ((i:Int)<25)=true:=decide_eq_true (by omega)
     have c2:decide (i<25)=true:=decide_eq_true (by omega)
     have ci:((i:Int)<25)=True:=eq_true (by omega)
     have cn:(i<25)=True:=eq_true (by omega)
     have hs:=zb4 BKs.out (i:=i) (by omega)
     have hs6:=zb4 BK6.out (i:=i % 5) (by omega)
     have hf6:=zbu BK6.out (i % 5)
     have q6:((i:Int) % 5<5)=True:=eq_true (by omega)
     have HI2:=am_ (show iter (zlg ls) k2 (i + 1) (s.set (i % 5) (xr (s.getD (i % 5) 0) (ls.getD i 0)))=S from HI1.out)
     have HL2:=am_ (show (s.set (i % 5) (xr (s.getD (i % 5) 0) (ls.getD i 0))).length=5 by rw [List.length_set];exact hl1)
     clear HI1 HL1 hl hl1
     generalize hA:ls.getD i 0=A at hs HI2 HL2
     generalize hB:s.getD (i % 5) 0=B at hs6 HI2 HL2
     clear hA hB
     go_wp2
     refine zcn (n:=6) (S:=fun w'=>w'.cell? ⟨gs,i,none⟩=some (.int .u64 A)) (ds:=[]) (bs_ 6 0) (by kernel_rfl) rfl rfl hs (fun hHeld=>?_)
     refine pu_ 0 29 (bs_ 6 1) ?_
     refine pu_ 1 30 (bs_ 6 3) ?_
     refine pu_ 2 31 (bs_ 6 7) ?_
     refine tk_ 3 (bs_ 6 15) hHeld ?_
     refine pu_ 4 8 (bs_ 6 31) ?_
     refine pu_ 5 9 (bs_ 6 63) ?_
     refine done_ (by kernel_rfl) ?_
     go_wp2
     go_roundg k2
     case measure=>omega
     case rel=>exact⟨i + 1,_,by first|rfl|go_num,⟨(by omega)⟩,HI2,HL2,⟨zae (zb8 BKs.out (p:=⟨g6,_,none⟩) (Ne.symm NE6_s.out) _)⟩,⟨zae (zb8 BK2.out (p:=⟨g6,_,none⟩) (Ne.symm NE6_2.out) _)⟩,⟨zae (zid BK6.out _ _)⟩,⟨zae (zb8 BK7.out (p:=⟨g6,_,none⟩) NE7_6.out _)⟩,⟨(HK.out.set (.inr GE6.out)).drew⟩⟩
end Go.Proofs.YtgookagndlfehaaGreat.PT
end
section
/- text: words as bytes. -/
namespace Go.Proofs.YtgookagndlfehaaGreat.PT
open Go.RowKit Go.Proofs.YtgookagndlfehaaGreatW.PrintWords Go.Proofs.YtgookagndlfehaaGreatW.PrintLast Go.Proofs.YtgookagndlfehaaGreatW.PrintMore
set_option linter.unusedVariables false
set_option linter.unusedSimpArgs false
def zd2 (ls:List Int) (j:Nat) (out:List Int):List Int:=out++[(ls.getD (j / 8) 0 / 2 ^ (8 * (j % 8))) % 256]
def text_ (ls:List Int):List Int:=iter (zd2 ls) 200 0 []
theorem zjk.calls (g:Nat) (ls:List Int) (w:World) (hb0:w.heap[g]?=some (.cells (uarr .u64 ls) 158 (0,0))) (hlen:ls.length=25) :
  Calls Tryz.prog 172 #[.pointer (some ⟨g,0,none⟩)] w fun e w'=>∃ v0_:Value,e=.returned v0_∧Kd.R (Kd.int .u8) 5 w' w.heap.size (fun _=>True) v0_ (text_ ls)∧Below w.heap.size w w':=by
 have BK:=am_ hb0
 have HLEN:=am_ hlen
 have HB:=am_ (Below.refl w.heap.size w)
 have hu91:=Tryz.underlying158
 clear hb0 hlen
 generalize htt:text_ ls=tt
 unfold text_ at htt
 have HTT:=am_ htt
 clear htt
 go_enter Tryz.func172,Tryz.ntmps172
 go_wp2_with (first|((with_reducible refine zad (N:=5) rfl ?_);refine Kd.R_lit (Kd.int .u8) _ 5 ?hg (N:=5) ?hd (xs:=([]:List Int)) (inner:=[]) (ok:=fun _=>True) (okp:=fun _=>True) ?hr ?hp (fun _ hk=>hk) trivial (Below.refl _ _) (Nat.le_refl _) (by simp) ?_;(case hd=>rfl);(case hg=>rfl);(case hr=>first|(go_simp;done)|(go_simp;rfl));(case hp=>exact(Reps.none _ _));intro v102 w3 ho4 hb hg_ hnew_;clear hg_ hnew_;replace HO_3:=am_ (Kd.zcw ho4 (zaf qz2_));replace HB:=am_ (zab qz2_ hb);clear hb ho4))
 go_loopg [3,6] 200 (fun kq v3 v6 w'=>∃ (j:Nat) (out:List Int),v6=.int .i64 j∧zal (j + kq=200)∧zal (iter (zd2 ls) kq j out=tt)∧zal (out.length=j)∧zal (Kd.R (Kd.int .u8) 5 w' w.heap.size (fun _=>True) v3 out)∧zal (Below w.heap.size w w'))
 case atStart=>exact⟨0,[],rfl,⟨(by omega)⟩,HTT,⟨rfl⟩,⟨qz12_⟩,⟨qz2_⟩⟩
 case round=>
  clear HO_3 HB
  obtain⟨j,out,rfl,HJ,HI,HO,HO_3,HB⟩:=hrel
  cases gk with
  | zero=>
   have hj:=HJ.out
   have c1:decide ((j:Int)<200)=false:=decide_eq_false (by omega)
   have c2:decide (j<200)=false:=decide_eq_false (by omega)
   have hi:out=tt:=HI.out
   subst hi
   clear HI hj
   go_wp2
   go_ret
   exact⟨_,(by first|rfl|(simp;done)),qz12_,qz2_⟩
  | succ k1=>
   have hj:=HJ.out
   have hl:=HLEN.out
   have c1:decide ((j:Int)<200)=true:=decide_eq_true (by omega)
   have c2:decide (j<200)=true:=decide_eq_true (by omega)
   have p5:0≤(j:Int):=by omega
   have hs:wr.cell? ⟨g,j / 8,none⟩=some (.int .u64 (ls.getD (j / 8) 0)):=zb4 (zak BK.out HB.out) (by omega)
   have qn:(j / 8<25)=True:=eq_true (by omega)
   have qi:((j:Int) / 8<25)=True:=eq_true (by omega)
   have HI2:=am_ (show iter (zd2 ls) k1 (j + 1) (out++[(ls.getD (j / 8) 0 / 2 ^ (8 * (j % 8))) % 256])=tt from HI.out)
   clear HI hl
   generalize ls.getD (j / 8) 0=v at hs HI2
   generalize hb:v / 2 ^ (8 * (j % 8))=b at HI2
   go_wp2_with (first|((with_reducible refine zb5 (b:=.append) (xs:=#[.tmp 9,.tmp 21]) rfl ?_);at_builtin;refine Kd.zev (Kd.int .u8) (w0:=w) w.heap.size rfl (.tmp 9) (.tmp 21) 101 5 (.int .u8 0) 1 rfl Tryz.underlying101 info5 rfl (by decide) (by omega) u3 out (b % 256) [.int .u8 (b % 256)] (fun _=>True) (fun _=>False) rfl rfl ?aP (fun _ hk=>hk.elim) ?aF ?aO ?aB ?aS ?aL ?_;(case aP=>exact rfl);(case aB=>exact qz2_);(case aF=>exact(fun _ _=>trivial));(case aO=>exact qz12_);(case aS=>exact(zaf qz2_));(case aL=>have:=HO.out;omega);intro v105 w10 ho hb hg hat;replace HB:=am_ (hb);replace HO_3:=am_ (ho);clear ho hb hg hat))
   go_roundg k1
   case measure=>omega
   case rel=>exact⟨j + 1,out++[b % 256],by first|rfl|go_num,⟨(by omega)⟩,HI2,⟨(by have:=HO.out;simp;omega)⟩,⟨qz12_⟩,⟨qz2_⟩⟩
end Go.Proofs.YtgookagndlfehaaGreat.PT
end
section
/- keccak: the hash of pieces. -/
namespace Go.Proofs.YtgookagndlfehaaGreat.PT
open Go.RowKit Go.Proofs.YtgookagndlfehaaGreatW.PrintWords Go.Proofs.YtgookagndlfehaaGreatW.PrintLast Go.Proofs.YtgookagndlfehaaGreatW.PrintMore
set_option linter.unusedVariables false
set_option linter.unusedSimpArgs false
def zkr (w:World) (A:Option Addr) (ps:List (List Int)):Prop:=∀ j (h:j<ps.length),∃ ad B c,A=some ad∧w.cell? (ad.add j)=some (.slice B ps[j].length c)∧(Kd.int .u8).C w B ps[j].length ps[j]
def padN (n:Nat):Nat:=(136 - n % 136) % 136
def zhh (l:List Int) (i:Nat) (s:List Int):List Int:=s.set i (xr (s.getD i 0) (l.getD i 0))
def xors (l s:List Int):List Int:=iter (zhh l) 25 0 s
def zih:Nat→List Int→List Int→List Int
 | 0,_,s=>s
 | k + 1,ys,s=>zih k (ys.drop 136) (perm (xors (zdh (ys.take 136)) s))
def mark (ys:List Int):List Int:=ys.set (ys.length - 1) (Go.bits .or .u8 (rdOf 0 ys ((ys.length - 1:Nat):Int)) 128)
theorem zny (ls:List Int):∀ k j x,(iter (zd2 ls) k j x).length=x.length + k
 | 0,_,_=>rfl
 | k + 1,j,x=>by rw [zdo,zny ls k (j + 1)];unfold zd2;rw [List.length_append];simp;omega
theorem ze6 (ls:List Int):(text_ ls).length=200:=by unfold text_;rw [zny];rfl
theorem zhf (l s:List Int):(xors l s).length=s.length:=zdd (fun j x=>by simp [zhh]) 25 0 s
theorem zo8 (n:Nat):(n + padN n) % 136=0∧padN n<136:=by unfold padN;omega
def padded (xs:List Int):List Int:=xs++[1]++List.replicate (padN (xs.length + 1)) 0
def kec (xs:List Int):ByteArray:=strOfNums ((text_ (zih ((padded xs).length / 136) (mark (padded xs)) z25)).take 32)
theorem zgg {xs:List Int} (h:xs.length≤4000000):(padded xs).length % 136=0∧(padded xs).length≤4000200:=by
 unfold padded
 rw [List.length_append,List.length_append,List.length_replicate]
 have:=zo8 (xs.length + 1)
 simp only [List.length_cons,List.length_nil]
 omega
theorem cap32 {ls:List Int} {w:World} {base g c:Nat} (h:Kd.R (Kd.int .u8) 5 w base (fun _=>True) (.slice (some ⟨g,0,none⟩) (text_ ls).length c) (text_ ls)):((32:Int)≤(c:Int))=True:=by
 have:=(Kd.R_reads' h).2.1
 rw [ze6] at this
 exact eq_true (by omega)
theorem cap32' {ls:List Int} {w:World} {base g c:Nat} (h:Kd.R (Kd.int .u8) 5 w base (fun _=>True) (.slice (some ⟨g,0,none⟩) (text_ ls).length c) (text_ ls)):(32≤c)=True:=by
 have:=(Kd.R_reads' h).2.1
 rw [ze6] at this
 exact eq_true (by omega)
theorem conv32 {ls:List Int} {w:World} {base g c:Nat} (h:Kd.R (Kd.int .u8) 5 w base (fun _=>True) (.slice (some ⟨g,0,none⟩) (text_ ls).length c) (text_ ls)):(convert 101 9 (.slice (some ⟨g,0,none⟩) 32 c)).run Tryz.prog w=.ok (.string (strOfNums ((text_ ls).take 32))) w:=by
 have hl:=ze6 ls
 refine run_convert_bytes_arg w 101 5 Tryz.underlying101 Tryz.underlying5 g 0 32 c ((text_ ls).take 32) (by rw [List.length_take];omega) (fun i hi=>?_) 9 Tryz.underlying9
 have h1:=(Kd.zqc 0 h (i:Int) (by omega) (by omega)).1
 rw [Int.toNat_natCast] at h1
 rw [Nat.zero_add,h1]
 simp [rdOf,List.getD,List.getElem?_take,hi]
theorem zep.walk (A0:Option Addr) (c0:Nat) (ps:List (List Int)) (w:World) (hp0:zkr w A0 ps) (hl0:ps.flatten.length≤4000000) (hn0:ps.length≤1000000) :
  Calls Tryz.prog 135 #[.slice A0 ps.length c0] w fun e w'=>e=.returned (.string (kec ps.flatten))∧Below w.heap.size w w':=by
 have HP:=am_ hp0
 have HL:=am_ hl0
 have HN:=am_ hn0
 have HB:=am_ (Below.refl w.heap.size w)
 clear hp0 hl0 hn0
 generalize hall:ps.flatten=all at HL ⊢
 have HALL:=am_ hall
 clear hall
 go_enter Tryz.func135,Tryz.ntmps135
 go_wp2_with (first|((with_reducible refine zad (N:=9) rfl ?_);refine Kd.R_lit (Kd.int .u8) _ 5 ?hg (N:=9) ?hd (xs:=([]:List Int)) (inner:=[]) (ok:=fun _=>True) (okp:=fun _=>True) ?hr ?hp (fun _ hk=>hk) trivial (Below.refl _ _) (Nat.le_refl _) (by simp) ?_;(case hd=>rfl);(case hg=>rfl);(case hr=>first|(go_simp;done)|(go_simp;rfl));(case hp=>exact(Reps.none _ _));intro v102 w3 ho4 hb hg_ hnew_;clear hg_ hnew_;replace HO_3:=am_ (Kd.zcw ho4 (zaf qz2_));replace HB:=am_ (zab qz2_ hb);clear hb ho4))
 go_loopg [3,12] ps.length (fun kq v3 v12 w'=>∃ (j:Nat) (out:List Int),v12=.int .i64 j∧zal (j + kq=ps.length)∧zal (out++(ps.drop j).flatten=all)∧zal (Kd.R (Kd.int .u8) 5 w' w.heap.size (fun _=>True) v3 out)∧zal (Below w.heap.size w w'))
 case atStart=>exact⟨0,[],rfl,⟨(by omega)⟩,⟨HALL.out⟩,⟨qz12_⟩,⟨qz2_⟩⟩
 case round=>
  clear HO_3 HB
  obtain⟨j,out,rfl,HJ,HI,HO_3,HB⟩:=hrel
  cases gk with
  | zero=>
   have hj:=HJ.out
   have c1:decide ((j:Int)<(ps.length:Int))=false:=decide_eq_false (by omega)
   have c2:decide (j<ps.length)=false:=decide_eq_false (by omega)
   have hi:=HI.out
   rw [List.drop_eq_nil_of_le (by omega),List.flatten_nil,List.append_nil] at hi
   subst hi
   clear HI hj
   go_wp2_with (first|((with_reducible refine zb5 (b:=.append) (xs:=#[.tmp 20,.tmp 21]) rfl ?_);at_builtin;refine Kd.zev (Kd.int .u8) (w0:=w) w.heap.size rfl (.tmp 20) (.tmp 21) 101 5 (.int .u8 0) 1 rfl Tryz.underlying101 info5 rfl (by decide) (by omega) u3 out 1 [.int .u8 1] (fun _=>True) (fun _=>False) rfl rfl ?aP (fun _ hk=>hk.elim) ?aF ?aO ?aB ?aS ?aL ?_;(case aP=>exact rfl);(case aB=>exact qz2_);(case aF=>exact(fun _ _=>trivial));(case aO=>exact qz12_);(case aS=>exact(zaf qz2_));(case aL=>have:=HL.out;omega);intro v105 w10 ho hb hg hat;replace HB:=am_ (hb);replace HO_3:=am_ (ho);clear ho hb hg hat))
   clear c1 c2
   generalize hpd:padded out=pd
   have HPD:=am_ hpd
   have HM:=am_ (show pd.length % 136=0∧pd.length≤4000200 by rw [←hpd];exact zgg HL.out)
   unfold padded at hpd
   have HP0:=am_ hpd
   clear hpd
   go_loopg [3] (padN (out.length + 1)) (fun kq v3 w'=>∃ (o:List Int),zal (o++List.replicate kq 0=pd)∧zal (kq<136)∧zal (Kd.R (Kd.int .u8) 5 w' w.heap.size (fun _=>True) v3 o)∧zal (Below w.heap.size w w'))
   case atStart=>exact⟨out++[1],HP0,⟨Nat.mod_lt _ (by decide)⟩,⟨qz12_⟩,⟨qz2_⟩⟩
   case round=>
    clear HO_3 HB HP0
    obtain⟨o,HI,HQ,HO_3,HB⟩:=hrel
    obtain⟨A3,c3,rfl,hc3,_⟩:=Kd.zgv HO_3.out
    have hle:=congrArg List.length HI.out
    rw [List.length_append,List.length_replicate] at hle
    have hm:=HM.out
    have hq:=HQ.out
    cases gk with
    | zero=>
     have m1:o.length % 136=0:=by omega
     have m2:(o.length:Int) % 136=0:=by omega
     have hi:o=pd:=by have h:=HI.out;rw [List.replicate_zero,List.append_nil] at h;exact h
     subst hi
     have ho1:1≤o.length:=by have h2:=congrArg List.length HPD.out;unfold padded at h2;simp only [List.length_append,List.length_cons,List.length_nil] at h2;omega
     have HOL:=am_ (show o.length % 136=0∧o.length≤4000200 from HM.out)
     clear hle hm hq HI HQ
     obtain⟨go,co,eo,gb,gl,cl,HG⟩:=Kd.zl8 HO_3.out (by omega)
     (first|cases eo|(injection eo with ea_ en_ ec_;(first|subst ea_|(injection ea_ with ea_;subst ea_));subst ec_;clear en_))
     obtain⟨n1,hn1⟩:∃ n1:Nat,o.length - 1=n1:=⟨_,rfl⟩
     have e10:wrap64 ((o.length:Int) - 1)=(n1:Int):=by have:=HOL.out;unfold wrap64;omega
     have q10:(n1:Int)<(o.length:Int):=by omega
     have q10n:n1<o.length:=by omega
     obtain⟨hx10,hf10⟩:=Kd.zqc 0 HO_3.out (n1:Int) (by omega) q10
     rw [Int.toNat_natCast] at hx10 hf10
     have HPU:=am_ (fun x=>(Kd.R_putg HO_3.out (n1:Int) x).1)
     simp only [Int.toNat_natCast] at HPU
     generalize hbe:rdOf 0 o (n1:Int)=b at hx10
     have HBE:=am_ hbe
     clear hbe
     have HCL:=am_ (show o.length≤c3 from hc3)
     have GE:=am_ gb
     have GG:=am_ HG
     have HN1:=am_ hn1
     replace q10:=eq_true q10
     replace q10n:=eq_true q10n
     clear gb gl HG ho1 hn1
     go_wp2_with (first|((with_reducible refine za7 (t:=5) (p:=37) (v:=.tmp 36) rfl ?_);(refine zfd (t:=5) (p:=37) (v:=.tmp 36) (w1:=wr.setCell ⟨go,n1,none⟩ (.int .u8 (Go.bits .or .u8 b 128))) rfl rfl rfl ?hr ?_);(case hr=>first|(go_simp;done)|(go_simp;rfl));(intro w13 hw);replace HB:=am_ (show Below w.heap.size w w13 by rw [hw];exact za6 HB.out GE.out);replace HC:=am_ (show (Kd.int .u8).C w13 (some ⟨go,0,none⟩) (o.set n1 (Go.bits .or .u8 b 128)).length (o.set n1 (Go.bits .or .u8 b 128)) by rw [hw];exact(Kd.R_reads' (HPU.out _)).2.2);replace GL:=am_ (show go<w13.heap.size by rw [hw];have:=zar GG.out;simpa [World.setCell] using this);clear HO_3 HPU hw)|((with_reducible refine zad (N:=6) rfl ?_);refine zaj rfl (N:=6) rfl (cs:=uarr .u64 z25) (t:=158) bx_ ?_;intro g6 hg w14 hbox hb;replace BK6:=am_ (hbox);replace GE6:=am_ ((by rw [hg];exact(zaf HB.out)):w.heap.size≤g6);replace HB:=am_ (zab HB.out hb);replace NEO:=am_ (show go≠g6 by rw [hg];have:=GL.out;omega);replace HC:=am_ (Kd.zbi HC.out hb);clear hb hbox hg)|((with_reducible refine za7 (p:=6) (v:=.tmp 38) (t:=158) rfl ?_);go_must (refine wpList_store_row rfl 158 _ _ rfl g6 (uarr .u64 z25) rfl qz36_ 158 (uarr .u64 z25) BK6.out (by first|(rw [zb7,zcg];kernel_rfl)|kernel_rfl) qz37_ (zdp _ _) ?_;generalize hw4:World.setRow w14 g6 (uarr .u64 z25)=w15;replace BK6:=am_ (show w15.heap[g6]?=some (.cells (uarr .u64 z25) 158 (0,0)) by rw [←hw4];exact setRow_heap _ _ _ _ _ _ BK6.out);replace HC:=am_ (Kd.C_keep (0:Int) HC.out (show zbn w14 w15 g6 none from by rw [←hw4];exact⟨(by simp),fun i hi hg _=>setRow_other _ _ _ _ hg⟩) (fun ad e _=>by injection e with e;rw [←e];exact NEO.out));replace HB:=am_ (show Below w.heap.size w w15 by rw [←hw4];exact below_setRow HB.out GE6.out _);clear hw4)))
     generalize hmk:o.set n1 (Go.bits .or .u8 b 128)=mk at HC
     have hml:mk.length=o.length:=by rw [←hmk,List.length_set]
     have HML:=am_ hml
     have HMK:=am_ hmk
     clear hmk hml e10 q10 q10n hx10 hf10 m1 m2
     generalize htt:zih (o.length / 136) mk z25=tt
     have HTT:=am_ htt
     have HTD:=am_ htt
     clear htt
     simp only [Act.put,List.setIfInBounds_toArray,List.set_cons_zero,List.set_cons_succ]
     go_loopg [3] (o.length / 136) (fun kq v3 w'=>∃ (A:Option Addr) (n c:Nat) (ys s:List Int),v3=.slice A n c∧zal (n=ys.length)∧zal (n≤c)∧zal (ys.length=136 * kq)∧zal (zih kq ys s=tt)∧zal ((Kd.int .u8).C w' A ys.length ys)∧zal (∀ ad,A=some ad→0<ys.length→ad.block≠g6)∧zal (s.length=25)∧zal (w'.heap[g6]?=some (.cells (uarr .u64 s) 158 (0,0)))∧zal (Below w.heap.size w w'))
     case atStart=>exact⟨_,_,_,mk,z25,rfl,⟨HML.out.symm⟩,⟨HCL.out⟩,⟨(by rw [HML.out];have:=HOL.out;omega)⟩,HTT,HC,⟨fun ad e _=>by injection e with e;rw [←e];exact NEO.out⟩,⟨rfl⟩,BK6,HB⟩
     case round=>
      clear HTT HC BK6 HB
      obtain⟨A,n,c,ys,s,rfl,HNL,HCC,HY,HI,HC,HNE,HSL,BK6,HB⟩:=hrel
      have hnl:=HNL.out
      have hy:=HY.out
      have hcc:=HCC.out
      cases gk with
      | zero=>
       obtain rfl:n=0:=by omega
       have hi:s=tt:=HI.out
       subst hi
       clear hnl hy hcc HI
       go_wp2_with (first|(go_at_call 172;(with_reducible refine(zjk.calls g6 s _ BK6.out HSL.out).mono ?_);rintro e w16 ⟨v0,rfl,hR,hb⟩;(obtain⟨g4,c4,rfl,_,_,_,_⟩:=Kd.zl8 hR (by rw [ze6];decide));have hcv:=conv32 hR;have d1:=cap32 hR;have d2:=cap32' hR;rw [ze6];replace HB:=am_ (zab HB.out hb);clear hR hb))
       go_ret
       refine⟨?_,qz2_⟩
       have hk:strOfNums ((text_ s).take 32)=kec out:=by
        unfold kec mark
        rw [HPD.out,HN1.out,HBE.out,HMK.out,HTD.out]
       rw [←hk]
       first|rfl|(simp;done)
      | succ k1=>
       have c1:decide (0<(n:Int))=true:=decide_eq_true (by omega)
       have c2:decide (0<n)=true:=decide_eq_true (by omega)
       have d1:(0<n)=True:=eq_true (by omega)
       have d2:((136:Int)≤(c:Int))=True:=eq_true (by omega)
       have d3:(136≤c)=True:=eq_true (by omega)
       have ht:(ys.take 136).length=136:=by rw [List.length_take];omega
       have hC1:=Kd.C_take (m:=136) HC.out (by omega)
       have hCL:=zmb.calls A c (ys.take 136) wr hC1 (by omega) (by omega)
       rw [ht] at hCL
       have HCL2:=am_ hCL
       have HI2:=am_ (show zih k1 (ys.drop 136) (perm (xors (zdh (ys.take 136)) s))=tt from HI.out)
       clear hC1 hCL ht hnl hy hcc HI
       go_wp2_with (first|(go_at_call 170;(refine HCL2.out.mono ?_);rintro e w17 ⟨rfl,hb⟩;replace HC:=am_ (Kd.zbi HC.out hb);replace BK6:=am_ (zak BK6.out hb);replace HB:=am_ (zab HB.out hb);clear hb HCL2))
       have hll:=zcg (ys.take 136)
       generalize zdh (ys.take 136)=l at HI2 hll ⊢
       have HLL:=am_ hll
       clear hll
       generalize hX:xors l s=X at HI2
       have HXL:=am_ (show X.length=25 by rw [←hX,zhf];exact HSL.out)
       unfold xors at hX
       have HX:=am_ hX
       clear hX c1 c2 d1 d2 d3
       go_loopg [47] 25 (fun kq v47 w'=>∃ (i:Nat) (t:List Int),v47=.int .i64 i∧zal (i + kq=25)∧zal (iter (zhh l) kq i t=X)∧zal (t.length=25)∧zal (KB w17 w' g6)∧zal (w'.heap[g6]?=some (.cells (uarr .u64 t) 158 (0,0)))∧zal (Below w.heap.size w w'))
       case atStart=>exact⟨0,s,rfl,⟨(by omega)⟩,HX,HSL,⟨KB.refl _ _⟩,BK6,HB⟩
       case round=>
        clear HX BK6 HB
        obtain⟨i,t,rfl,HJ1,HI1,HL1,HKB,BK6,HB⟩:=hrel
        cases gk with
        | zero=>
         have hj:=HJ1.out
         have c1:decide ((i:Int)<25)=false:=decide_eq_false (by omega)
         have c2:decide (i<25)=false:=decide_eq_false (by omega)
         have hi:t=X:=HI1.out
         subst hi
         have hnl:=HNL.out
         have hy:=HY.out
         have hcc:=HCC.out
         have d1:((136:Int)≤(n:Int))=True:=eq_true (by omega)
         have d2:(136≤n)=True:=eq_true (by omega)
         have d3:((136:Int)≤(c:Int))=True:=eq_true (by omega)
         have d4:(136≤c)=True:=eq_true (by omega)
         have d5:((n:Int)≤(c:Int))=True:=eq_true (by omega)
         have d6:(n≤c)=True:=eq_true hcc
         clear HI1 hj HJ1 hnl hy hcc
         have HCD:=am_ (fun w' (h:KB w17 w' g6)=>Kd.C_drop (m:=136) (c:=c) (Kd.C_keep (0:Int) HC.out h.keep HNE.out) (by have:=HY.out;omega) (by have:=HNL.out;have:=HCC.out;omega))
         by_cases h136:c=136
         ·
          subst h136
          go_wp2_with (first|(go_at_call 171;(with_reducible refine(zf2.calls g6 t _ BK6.out HL1.out).mono ?_);rintro e w18 ⟨rfl,hrow,hkb⟩;replace BK6:=am_ hrow;replace HKB:=am_ (HKB.out.trans hkb);replace HB:=am_ (hkb.onto HB.out (Nat.le_refl _) GE6.out);clear hrow hkb))
          go_roundg k1
          case measure=>omega
          case rel=>exact⟨A,0,0,ys.drop 136,perm t,by first|rfl|(simp;done),⟨(by rw [List.length_drop];have:=HNL.out;have:=HCC.out;omega)⟩,⟨(by omega)⟩,⟨(by rw [List.length_drop,HY.out];omega)⟩,HI2,⟨(by have h:=HCD.out _ HKB.out;rw [if_pos (by trivial)] at h;exact h)⟩,⟨fun ad e h=>by rw [List.length_drop] at h;exact HNE.out ad e (by omega)⟩,⟨(zi4 _).trans HL1.out⟩,BK6,HB⟩
         ·
          have e136:=eq_false h136
          go_wp2_with (first|(go_at_call 171;(with_reducible refine(zf2.calls g6 t _ BK6.out HL1.out).mono ?_);rintro e w18 ⟨rfl,hrow,hkb⟩;replace BK6:=am_ hrow;replace HKB:=am_ (HKB.out.trans hkb);replace HB:=am_ (hkb.onto HB.out (Nat.le_refl _) GE6.out);clear hrow hkb))
          go_roundg k1
          case measure=>omega
          case rel=>exact⟨A.map (fun x=>⟨x.block,x.off + 136,none⟩),n - 136,c - 136,ys.drop 136,perm t,by first|rfl|(simp;done),⟨(by rw [List.length_drop,HNL.out])⟩,⟨(by have:=HCC.out;omega)⟩,⟨(by rw [List.length_drop,HY.out];omega)⟩,HI2,⟨(by have h:=HCD.out _ HKB.out;rw [if_neg h136] at h;exact h)⟩,⟨fun ad e h=>by cases A with|none=>cases e|some a=>(injection e with e;rw [←e];rw [List.length_drop] at h;exact HNE.out a rfl (by omega))⟩,⟨(zi4 _).trans HL1.out⟩,BK6,HB⟩
        | succ k2=>
         have hj:=HJ1.out
         have hl1:=HL1.out
         have c1:decide ((i:Int)<25)=true:=decide_eq_true (by omega)
         have c2:decide (i<25)=true:=decide_eq_true (by omega)
         have ci:((i:Int)<25)=True:=eq_true (by omega)
         have cn:(i<25)=True:=eq_true (by omega)
         have hix:=zi0 Tryz.underlying158 (xs:=l) HLL.out (show i<25 by omega) wr
         have hs6:=zb4 BK6.out (i:=i) (by omega)
         have hf6:=zbu BK6.out i
         have hi:=HI1.out
         rw [zdo] at hi
         unfold zhh at hi
         have HL2:=am_ (show ∀ v,(t.set i v).length=25 from fun v=>by rw [List.length_set];exact hl1)
         generalize l.getD i 0=P at hix hi
         generalize t.getD i 0=Q at hs6 hi
         have HI4:=am_ hi
         clear HI1 hj hl1 hi HL1
         go_wp2
         go_roundg k2
         case measure=>omega
         case rel=>exact⟨i + 1,_,by first|rfl|go_num|(rw [w64_ (by have:=HJ1.out;omega) (by have:=HJ1.out;omega)];rfl),⟨(by have:=HJ1.out;omega)⟩,HI4,⟨HL2.out _⟩,⟨HKB.out.set (.inl rfl)⟩,⟨zid BK6.out _ _⟩,⟨za6 HB.out GE6.out⟩⟩
    | succ k1=>
     have m1:(o.length % 136=0)=False:=eq_false (by omega)
     have m2:((o.length:Int) % 136=0)=False:=eq_false (by omega)
     have m3:((o.length:Int) % 136 == 0)=false:=beq_eq_false_iff_ne.mpr (by omega)
     have m4:decide ((o.length:Int) % 136=0)=false:=decide_eq_false (by omega)
     have HLO:=am_ (show o.length≤4000200 by omega)
     have HI2:=am_ (show (o++[0])++List.replicate k1 0=pd by rw [List.append_assoc];exact HI.out)
     clear hle hm HI
     go_wp2_with (first|((with_reducible refine zb5 (b:=.append) (xs:=#[.tmp 27,.tmp 28]) rfl ?_);at_builtin;refine Kd.zev (Kd.int .u8) (w0:=w) w.heap.size rfl (.tmp 27) (.tmp 28) 101 5 (.int .u8 0) 1 rfl Tryz.underlying101 info5 rfl (by decide) (by omega) (.slice A3 o.length c3) o 0 [.int .u8 0] (fun _=>True) (fun _=>False) rfl rfl ?aP (fun _ hk=>hk.elim) ?aF ?aO ?aB ?aS ?aL ?_;(case aP=>exact rfl);(case aB=>exact qz2_);(case aF=>exact(fun _ _=>trivial));(case aO=>exact qz12_);(case aS=>exact(zaf qz2_));(case aL=>have h1:=HLO.out;omega);intro v107 w12 ho hb hg hat;replace HB:=am_ (hb);replace HO_3:=am_ (ho);clear ho hb hg hat))
     go_roundg k1
     case measure=>omega
     case rel=>exact⟨o++[0],HI2,⟨(by omega)⟩,⟨qz12_⟩,⟨qz2_⟩⟩
  | succ k1=>
   have hj:=HJ.out
   have hn:=HN.out
   have hjl:j<ps.length:=by omega
   have c1:decide ((j:Int)<(ps.length:Int))=true:=decide_eq_true (by omega)
   have c2:decide (j<ps.length)=true:=decide_eq_true hjl
   have p6:=eq_true (show (j:Int)<(ps.length:Int) by omega)
   have p7:=eq_true hjl
   obtain⟨ad,B,c,hA,hc,hC⟩:=HP.out j hjl
   subst hA
   have hx:=(HB.out.cell (World.block_lt_of_cell? _ _ hc)).trans hc
   have HC:=am_ (Kd.zbi hC HB.out)
   have hi:=HI.out
   rw [List.drop_eq_getElem_cons hjl,List.flatten_cons,←List.append_assoc] at hi
   have HLO:=am_ (show (out++ps[j]).length≤4000000 by have h1:=congrArg List.length hi;have h2:=HL.out;rw [List.length_append] at h1;omega)
   have HI2:=am_ hi
   clear hi HI hc hC
   generalize ps[j]=ys at hx HC HI2 HLO
   go_wp2_with (first|((with_reducible refine zb5 (b:=.append) (xs:=#[.tmp 16,.tmp 17]) rfl ?_);at_builtin;refine Kd.ze0 (Kd.int .u8) (w0:=w) w.heap.size rfl (.tmp 16) (.tmp 17) 101 5 (.int .u8 0) 1 rfl Tryz.underlying101 info5 rfl (by decide) (by omega) u3 out ys _ _ _ (fun _=>True) (fun _=>False) rfl rfl ?aO ?aR (fun _ _ h=>h) (fun _ h=>h.elim) ?aF ?aB ?aS ?aL ?_;(case aR=>exact qc_ HC.out);(case aB=>exact qz2_);(case aF=>exact(fun _ _=>trivial));(case aO=>exact qz12_);(case aS=>exact(zaf qz2_));(case aL=>have h1:=HLO.out;rw [List.length_append] at h1;omega);intro v106 w11 ho hb hg hat;replace HB:=am_ (hb);replace HO_3:=am_ (ho);clear ho hb hg hat))
   go_roundg k1
   case measure=>omega
   case rel=>exact⟨j + 1,out++ys,by first|rfl|go_num|(rw [w64_ (by omega) (by omega)];rfl),⟨(by omega)⟩,HI2,⟨qz12_⟩,⟨qz2_⟩⟩
end Go.Proofs.YtgookagndlfehaaGreat.PT
end
section
/- hashOf: the hash of a text. -/
namespace Go.Proofs.YtgookagndlfehaaGreat.PT
open Go.RowKit Go.Proofs.YtgookagndlfehaaGreatW.PrintWords Go.Proofs.YtgookagndlfehaaGreatW.PrintLast Go.Proofs.YtgookagndlfehaaGreatW.PrintMore
set_option linter.unusedVariables false
set_option linter.unusedSimpArgs false
def nums_ (t:ByteArray):List Int:=t.data.toList.map fun b=>(b.toNat:Int)
theorem nums_length (t:ByteArray):(nums_ t).length=t.size:=by
 unfold nums_
 rw [List.length_map,Array.length_toList]
 rfl
theorem znl (t:ByteArray) (j:Nat):(nums_ t).getD j 0=((t.data.toList.getD j 0).toNat:Int):=by
 unfold nums_
 rw [List.getD,List.getD,List.getElem?_map]
 cases t.data.toList[j]? <;> rfl
theorem nums_C (w:World) (t:ByteArray) (h:t.size≤2000000):(Kd.int .u8).C (Go.Lib.bytesWorld w 5 t) (some ⟨w.heap.size,0,none⟩) (nums_ t).length (nums_ t):=by
 refine Kd.zfq (d:=(0:Int)) ⟨rfl,by rw [nums_length];omega,fun _=>⟨_,rfl,fun j hj=>?_⟩⟩
 rw [nums_length] at hj
 have e:(⟨w.heap.size,0,none⟩:Addr).add j=⟨w.heap.size,j,none⟩:=by unfold Addr.add;split <;> simp_all
 rw [e,Go.Lib.bytesWorld_cell w 5 t j hj,znl]
theorem zgk (w:World) (t:ByteArray):Below w.heap.size w (Go.Lib.bytesWorld w 5 t):=
 ⟨rfl,rfl,rfl,(by rw [Go.Lib.bytesWorld_size];omega),fun k hk=>Go.Lib.bytesWorld_at_old w 5 t k hk⟩
theorem zor (w:World) (t:ByteArray) (h:t.size≤2000000):∃ A c w',(convert 9 101 (.string t)).run Tryz.prog w=.ok (.slice A (nums_ t).length c) w'∧(Kd.int .u8).C w' A (nums_ t).length (nums_ t)∧Below w.heap.size w w':=
 ⟨_,_,_,(by rw [nums_length];exact Go.Lib.run_convert_string_bytes w 9 101 5 t Tryz.underlying9 Tryz.underlying101 Tryz.underlying5),nums_C w t h,zgk w t⟩
theorem zok {w:World} {A:Option Addr} {c:Nat} {xs:List Int} {t:TypeId} (h:(Kd.int .u8).C w A xs.length xs):zkr (w.alloc (.cells #[.slice A xs.length c] t)) (some ⟨w.heap.size,0,none⟩) [xs]:=by
 intro j hj
 obtain rfl:j=0:=by simp at hj;omega
 exact⟨_,A,c,rfl,World.cell?_alloc_new _ _ _ _,Kd.zm7 h _⟩
def zhj.f (a0:ByteArray):Option ByteArray:=if a0.size≤2000000 then some (kec (nums_ a0)) else none
theorem zhj.calls (a0:ByteArray) (r:ByteArray) (w:World) (h:zhj.f a0=some r) :
  Calls Tryz.prog 157 #[.string a0] w fun e w'=>e=.returned (.string r)∧Below w.heap.size w w':=by
 unfold zhj.f at h
 by_cases c:a0.size≤2000000
 ·
  rw [if_pos c] at h
  obtain rfl:=Option.some.inj h
  have HC:=am_ c
  have HB:=am_ (Below.refl w.heap.size w)
  obtain⟨A,cc,w4,hcv,hC,hb⟩:=zor w a0 c
  have HCR:=am_ hC
  have HB4:=am_ hb
  clear c h hC hb
  go_enter Tryz.func157,Tryz.ntmps157
  go_wp2_with (go_at_call 135;(refine(zep.walk _ 1 [nums_ a0] _ (zok HCR.out) (by have:=HC.out;rw [List.flatten_cons,List.flatten_nil,List.append_nil,nums_length];omega) (by simp)).mono ?_);rintro e w16 ⟨rfl,hb⟩;replace HB:=am_ (zab (za5 HB4.out _) hb);clear hb)
  go_ret
  exact⟨(by first|rfl|simp),HB.out⟩
 ·
  rw [if_neg c] at h;cases h
end Go.Proofs.YtgookagndlfehaaGreat.PT
end
section
/- A text's bytes as a row that grows: its block bears a mark behind its cells, so the kit's own rows do not take it. -/
namespace Go.Proofs.YtgookagndlfehaaGreat.PT
open Go.RowKit Go.Proofs.YtgookagndlfehaaGreatW.PrintWords Go.Proofs.YtgookagndlfehaaGreatW.PrintLast Go.Proofs.YtgookagndlfehaaGreatW.PrintMore
set_option linter.unusedVariables false
set_option linter.unusedSimpArgs false
def Free (fz:Nat × Nat) (n:Nat):Prop:=∀ j,j<n→¬(fz.1≤j∧j<fz.2)
def RowT (w:World) (base:Nat) (v:Value) (xs:List Int):Prop:=
 ∃ g cap cur fz,v=.slice (some ⟨g,0,none⟩) xs.length cap∧base≤g∧w.heap[g]?=some (.cells cur 5 fz)∧Free fz cap∧xs.length≤cap∧cap≤maxLen∧cur.size=cap∧cur.toList.take xs.length=nums .u8 xs
theorem nmL (k:IntKind) (xs:List Int):(nums k xs).length=xs.length:=by simp [nums]
theorem hao (w:World) (o:Obj) {k:Nat} (h:k<w.heap.size):(w.alloc o).heap[k]?=w.heap[k]?:=by
 show (w.heap.push o)[k]?=w.heap[k]?
 rw [Array.getElem?_push,if_neg (Nat.ne_of_lt h)]
theorem znk {w:World} {g:Nat} {t:TypeId} {cs:Array Value} {fz:Nat × Nat} (h:w.heap[g]?=some (.cells cs t fz)) (i:Nat) (u:Value):(w.setCell ⟨g,i,none⟩ u).heap[g]?=some (.cells (cs.setIfInBounds i u) t fz):=by
 simp [World.setCell,Array.getElem?_modify,h]
theorem RowT.move {w w':World} {base:Nat} {v:Value} {xs:List Int} (h:RowT w base v xs) (hk:∀ k,v.ownBlock=some k→w'.heap[k]?=w.heap[k]?):RowT w' base v xs:=by
 obtain⟨g,cap,cur,fz,rfl,hb,hg,r⟩:=h
 exact⟨g,cap,cur,fz,rfl,hb,(hk g (by simp [Value.ownBlock])).trans hg,r⟩
theorem RowT.base {w:World} {base:Nat} {v:Value} {xs:List Int} (h:RowT w base v xs):∀ k,v.ownBlock=some k→base≤k∧k<w.heap.size:=by
 obtain⟨g,cap,cur,fz,rfl,hb,hg,r⟩:=h
 intro k hk
 obtain rfl:g=k:=by simpa [Value.ownBlock] using hk
 exact⟨hb,zar hg⟩
theorem RowT.cell {w:World} {base:Nat} {v:Value} {xs:List Int} (h:RowT w base v xs) {g:Nat} (hv:v.ownBlock=some g) {j:Nat} (hj:j<xs.length):w.cell? ⟨g,j,none⟩=some (.int .u8 (xs.getD j 0))∧w.frozen? ⟨g,j,none⟩=false:=by
 obtain⟨g',cap,cur,fz,rfl,hb,hg,hf,hn,hm,hs,ht⟩:=h
 obtain rfl:g'=g:=by simpa [Value.ownBlock] using hv
 have h1:cur.toList[j]?=some (.int .u8 (xs.getD j 0)):=by
  have h2:(cur.toList.take xs.length)[j]?=(nums .u8 xs)[j]?:=by rw [ht]
  rw [List.getElem?_take,if_pos hj] at h2
  rw [h2]
  simp [nums,List.getD,hj]
 refine⟨?_,?_⟩
 ·
  simp only [World.cell?,hg]
  simpa using h1
 ·
  have:=hf j (by omega)
  obtain⟨lo,hi⟩:=fz
  simp only [World.frozen?,hg,Bool.and_eq_false_iff,decide_eq_false_iff_not]
  simp only at this
  omega
theorem RowT.reads {w:World} {base:Nat} {v:Value} {xs:List Int} (h:RowT w base v xs):∃ A c,v=.slice A xs.length c∧xs.length≤c∧(Kd.int .u8).C w A xs.length xs:=by
 obtain⟨g,cap,cur,fz,rfl,hb,hg,hf,hn,hm,hs,ht⟩:=id h
 refine⟨_,_,rfl,hn,Kd.zfq (d:=(0:Int)) ⟨rfl,by unfold maxLen at hm;omega,fun _=>⟨_,rfl,fun j hj=>?_⟩⟩⟩
 rw [add_plain]
 exact(h.cell (by simp [Value.ownBlock]) hj).1
theorem cur_put {cur:Array Value} {n:Nat} (b:Value) (h:n<cur.size):(cur.setIfInBounds n b).toList.take (n + 1)=cur.toList.take n++[b]:=by
 rw [Array.toList_setIfInBounds,List.take_add_one,List.take_set_of_le (Nat.le_refl n)]
 simp [h]
theorem RowT.append1 {W:World} {base:Nat} {v:Value} {xs:List Int} (h:RowT W base v xs) (hl:xs.length + 1≤140737488355328) (hbase:base≤W.heap.size) (b:Int) (ty:TypeId) :
  ∃ v1 w1,(Builtin.append_ #[101,101] ty #[v,.slice (some ⟨W.heap.size,0,none⟩) 1 1]).run Tryz.prog (W.alloc (.cells #[.int .u8 b] 5))=.ok v1 w1∧RowT w1 base v1 (xs++[b])∧W.grownBy w1 v.ownBlock∧(v1.ownBlock=v.ownBlock∨∃ k,v1.ownBlock=some k∧W.heap.size≤k):=by
 obtain⟨i,hi,hz0,hz1,hz2⟩:=info_parts info5
 have hu:=Tryz.underlying101
 obtain⟨g,cap,cur,fz,rfl,hb,hg,hf,hn,hm,hs,ht⟩:=id h
 have hlt:=zar hg
 have hg2:(W.alloc (.cells #[.int .u8 b] 5)).heap[g]?=some (.cells cur 5 fz):=(hao W _ hlt).trans hg
 have hc2:(W.alloc (.cells #[.int .u8 b] 5)).cell? ((⟨W.heap.size,0,none⟩:Addr).add 0)=some (.int .u8 b):=by rw [add_plain];exact World.cell?_alloc_new _ _ _ _
 have hnews:∀ j u,[Value.int .u8 b][j]?=some u→(W.alloc (.cells #[.int .u8 b] 5)).cell? ((⟨W.heap.size,0,none⟩:Addr).add j)=some u:=by
  intro j u hj
  match j with
  | 0=>simp at hj;subst hj;exact hc2
  | j + 1=>simp at hj
 by_cases hroom:xs.length + 1≤cap
 ·
  have hff:=run_firstCells_some (P:=Tryz.prog) (W.alloc (.cells #[.int .u8 b] 5)) i.size 1 ⟨W.heap.size,0,none⟩ 1 1 [.int .u8 b] (by rw [hz1];rfl) hnews
  have hcell:(W.alloc (.cells #[.int .u8 b] 5)).cell? ⟨g,xs.length,none⟩=some (cur[xs.length]'(by omega)):=by simp [World.cell?,hg2,show xs.length<cur.size by omega]
  have hfr:(W.alloc (.cells #[.int .u8 b] 5)).frozen? ⟨g,xs.length,none⟩=false:=by
   have:=hf xs.length (by omega)
   obtain⟨lo,hi⟩:=fz
   simp only [World.frozen?,hg2,Bool.and_eq_false_iff,decide_eq_false_iff_not]
   simp only at this
   omega
  have hst:(storeCells ⟨g,xs.length,none⟩ [.int .u8 b] 0).run Tryz.prog (W.alloc (.cells #[.int .u8 b] 5))=.ok () ((W.alloc (.cells #[.int .u8 b] 5)).setCell ⟨g,xs.length,none⟩ (.int .u8 b)):=by
   have hadd:(⟨g,xs.length,none⟩:Addr).add 0=⟨g,xs.length,none⟩:=by unfold Addr.add;split <;> simp_all
   simp only [storeCells,Sem.run_bind,hadd]
   rw [run_store Tryz.prog _ _ _ _ rfl,hcell]
   simp [hfr,Result.andThen]
  refine⟨.slice (some ⟨g,0,none⟩) (xs.length + 1) cap,(W.alloc (.cells #[.int .u8 b] 5)).setCell ⟨g,xs.length,none⟩ (.int .u8 b),?_,⟨g,cap,cur.setIfInBounds xs.length (.int .u8 b),fz,(by simp),hb,?_,hf,(by simpa using hroom),hm,(by simpa using hs),?_⟩,⟨rfl,rfl,rfl,(by simp [World.setCell]),fun k hk hne=>?_⟩,.inl rfl⟩
  ·
   have hoff:(⟨g,0,none⟩:Addr).add (xs.length * 1)=⟨g,xs.length,none⟩:=by rw [add_plain,Nat.mul_one]
   rw [hz1] at hff
   simp [Builtin.append_,run_underlying hu,sizeOf,typeInfo,hi,hz1,Builtin.lenOf,hroom,hff,Addr.add_lit,hst]
  ·
   exact znk hg2 xs.length _
  ·
   rw [List.length_append,show xs.length + [b].length=xs.length + 1 from rfl,cur_put _ (by omega),ht]
   simp [nums]
  ·
   rw [Below.heap_setCell _ ⟨g,xs.length,none⟩ _ k (by intro he;exact hne (by simp [Value.ownBlock,he]))]
   exact hao W _ hk
 ·
  have holds:∀ j u,(nums .u8 xs)[j]?=some u→(W.alloc (.cells #[.int .u8 b] 5)).cell? ((⟨g,0,none⟩:Addr).add j)=some u:=by
   intro j u hj
   have hjl:j<xs.length:=by
    have:=(List.getElem?_eq_some_iff.1 hj).1
    rwa [nmL] at this
   rw [add_plain,World.cell?_alloc_old _ _ _ (show (⟨g,j,none⟩:Addr).block≠W.heap.size from Nat.ne_of_lt hlt),(h.cell (by simp [Value.ownBlock]) hjl).1,←hj]
   simp [nums,List.getD,hjl]
  have hr:=run_append_grow (P:=Tryz.prog) (W.alloc (.cells #[.int .u8 b] 5)) 101 ty 5 i (.int .u8 0) hu hi hz0 ⟨g,0,none⟩ xs.length cap (nums .u8 xs) (by rw [nmL,hz1,Nat.mul_one]) holds ⟨W.heap.size,0,none⟩ 1 1 [.int .u8 b] (by rw [hz1];rfl) hnews (by omega) (by omega) (growslice_fits (by omega) (by rw [hz2];omega))
  have hge:=grownCap_ge (W.alloc (.cells #[.int .u8 b] 5)) (xs.length + 1) cap 5
  have hle:=grownCap_le_maxLen (W.alloc (.cells #[.int .u8 b] 5)) (xs.length + 1) cap 5 (by unfold maxLen;omega)
  refine⟨_,_,hr,⟨_,_,_,(0,0),(by rw [List.length_append];rfl),(by simp;omega),heap_alloc_new _ _,fun j _ hj=>by simp at hj,(by simpa using hge),hle,?_,?_⟩,⟨rfl,rfl,rfl,(by simp;omega),fun k hk _=>?_⟩,.inr ⟨_,rfl,(by simp)⟩⟩
  ·
   simp only [Array.size_append,List.size_toArray,nmL,size_zeroCells]
   simp [Value.cells]
   omega
  ·
   simp only [Array.toList_append,List.append_assoc]
   rw [←List.append_assoc,List.length_append,show xs.length + [b].length=(nums .u8 xs++[Value.int .u8 b]).length by simp [nmL]]
   rw [List.take_left]
   simp [nums]
  ·
   rw [hao _ _ (by simp;omega)]
   exact hao W _ hk
theorem RowT.lower {w:World} {b b':Nat} {v:Value} {xs:List Int} (h:RowT w b v xs) (hb:b'≤b):RowT w b' v xs:=by
 obtain⟨g,cap,cur,fz,rfl,h1,r⟩:=h
 exact⟨g,cap,cur,fz,rfl,Nat.le_trans hb h1,r⟩
theorem RowT.bytes (w:World) (t:ByteArray) (h:t.size≤2000000):RowT (Go.Lib.bytesWorld w 5 t) w.heap.size (.slice (some ⟨w.heap.size,0,none⟩) t.size (grownCap w t.size 0 5)) (nums_ t):=by
 have hge:=grownCap_ge w t.size 0 5
 have hle:=grownCap_le_maxLen w t.size 0 5 (by unfold maxLen;omega)
 have hs:(Go.Lib.bytesCells w 5 t).size=grownCap w t.size 0 5:=by
  simp only [Go.Lib.bytesCells,Array.size_append,Array.size_map,Array.size_replicate]
  have:t.data.size=t.size:=rfl
  omega
 refine⟨w.heap.size,_,_,_,(by rw [nums_length]),Nat.le_refl _,Go.Lib.bytesWorld_at_new w 5 t,?_,(by rw [nums_length];exact hge),hle,hs,?_⟩
 ·
  intro j hj hh
  rw [hs] at hh
  exact absurd hh.1 (Nat.not_le.2 hj)
 ·
  rw [nums_length]
  unfold Go.Lib.bytesCells nums nums_
  rw [Array.toList_append,List.take_append_of_le_length (by simp),List.take_of_length_le (by simp)]
  simp [List.map_map]
theorem RowT.set {w:World} {base g:Nat} {v:Value} {xs:List Int} (h:RowT w base v xs) (hv:v.ownBlock=some g) {i:Nat} (hi:i<xs.length) (x:Int):RowT (w.setCell ⟨g,i,none⟩ (.int .u8 x)) base v (xs.set i x):=by
 obtain⟨g',cap,cur,fz,rfl,hb,hg,hf,hn,hm,hs,ht⟩:=h
 obtain rfl:g'=g:=by simpa [Value.ownBlock] using hv
 refine⟨g',cap,_,fz,(by simp),hb,znk hg i _,hf,(by simpa using hn),hm,(by simpa using hs),?_⟩
 rw [Array.toList_setIfInBounds,List.length_set]
 unfold nums at ht ⊢
 rw [List.map_set,←ht,List.take_set]
def rowT (base:Nat) (v:Value) (xs:List Int):Grp:=⟨fun k=>v.ownBlock=some k,fun w=>RowT w base v xs⟩
namespace Inv
variable {w0 w w1:World} {P:Nat→Prop} {L:List Grp} {F:World→Prop}
theorem pushT {v:Value} {xs:List Int} (h:Inv w0 P w L F) (hb:Below w.heap.size w w1) (hR:RowT w1 w.heap.size v xs):Inv w0 P w1 (rowT w0.heap.size v xs::L) F:=
 h.push hb _ (fun k hk=>hR.base k hk) (fun w' hw=>(hR.lower h.agr.size).move hw)
theorem rowT0 {b:Nat} {v:Value} {xs:List Int} (h:Inv w0 P w (rowT b v xs::L) F):RowT w b v xs:=h.get 0 rfl
theorem stepT {b:Nat} {v v1:Value} {xs ys:List Int} (h:Inv w0 P w (rowT b v xs::L) F) (hg:w.grownBy w1 v.ownBlock) (hR:RowT w1 b v1 ys) (hat:v1.ownBlock=v.ownBlock∨∃ k,v1.ownBlock=some k∧w.heap.size≤k):Inv w0 P w1 (rowT b v1 ys::L) F:=
 h.step ((Agr.zfo hg).mono (fun k hk=>hk.symm)) _ (fun k hk=>⟨by rcases hat with e|⟨k2,e,hle⟩;exact .inl (by show v.ownBlock=some k;rw [←e];exact hk);exact .inr (by rw [show v1.ownBlock=some k from hk] at e;injection e with e;rw [e];exact hle),(hR.base k hk).2⟩) (fun w' hw=>hR.move hw)
end Inv
section
variable {ops:Array Oper} {o:Oper} {rest:List Oper} {a:Act} {Q:Exit→Act→World→Prop}
theorem zkn {W:World} {base:Nat} (hgd:o.guard=none) (s x:Operand) (ho:o.op=.call { callee:=.builtin .append,args:=#[s,x],argTypes:=#[101,101] }) (v:Value) (xs:List Int) (b:Int) (hs:a.eval s=v) (hx:a.eval x=.slice (some ⟨W.heap.size,0,none⟩) 1 1)
  (h:RowT W base v xs) (hl:xs.length + 1≤140737488355328) (hbase:base≤W.heap.size)
  (k:∀ v1 w1,RowT w1 base v1 (xs++[b])→W.grownBy w1 v.ownBlock→(v1.ownBlock=v.ownBlock∨∃ k,v1.ownBlock=some k∧W.heap.size≤k)→wpList Tryz.prog ops Q rest (a.put o.dst v1) w1) :
  wpList Tryz.prog ops Q (o::rest) a (W.alloc (.cells #[.int .u8 b] 5)):=by
 obtain⟨v1,w1,hr,h1,hg,hat⟩:=h.append1 hl hbase b o.type
 refine wpList_plain hgd fun K hK=>?_
 unfold Oper.wp execOp
 simp only [ho,resolve,invoke,builtin,Sem.run_bind,Sem.run_pure,Result.andThen_ok,List.map_toArray,List.map_cons,List.map_nil,hs,hx,hr]
 exact hK _ _ (k v1 w1 h1 hg hat)
end
end Go.Proofs.YtgookagndlfehaaGreat.PT
end
section
/- A constant text's bytes: the literal's row bears a mark; what is appended makes a new row. -/
namespace Go.Proofs.YtgookagndlfehaaGreat.PT
open Go.RowKit Go.Proofs.YtgookagndlfehaaGreatW.PrintWords Go.Proofs.YtgookagndlfehaaGreatW.PrintLast Go.Proofs.YtgookagndlfehaaGreatW.PrintMore
set_option linter.unusedVariables false
set_option linter.unusedSimpArgs false
theorem zmh {w:World} {g n:Nat} {c:Array Value} {t:TypeId} (h:w.heap[g]?=some (.cells c t (0,0))):(w.freeze ⟨g,n,none⟩ 1).heap[g]?=some (.cells c t (n,n + 1)):=by
 simp [World.freeze,Array.getElem?_modify,h]
theorem zkh {w:World} {g n k:Nat} (h:g≠k):(w.freeze ⟨g,n,none⟩ 1).heap[k]?=w.heap[k]?:=by
 simp [World.freeze,Array.getElem?_modify,h]
theorem zhk {w:World} {g n:Nat}:(w.freeze ⟨g,n,none⟩ 1).heap.size=w.heap.size:=by
 simp [World.freeze]
theorem conv_lit (W:World) (xs:List Int) (hl:xs.length≤1000000):∃ w2,(convert 101 101 (.slice (some ⟨W.heap.size,0,none⟩) xs.length xs.length)).run Tryz.prog (W.alloc (.cells (nums .u8 xs).toArray 5))=.ok (.slice (some ⟨W.heap.size,0,none⟩) xs.length xs.length) w2∧
  RowT w2 W.heap.size (.slice (some ⟨W.heap.size,0,none⟩) xs.length xs.length) xs∧Below W.heap.size W w2:=by
 have hu:=run_underlying (P:=Tryz.prog) Tryz.underlying101
 have hv:=run_underlying (P:=Tryz.prog) Tryz.underlying5
 have hsh:(W.alloc (.cells (nums .u8 xs).toArray 5)).shape? W.heap.size=some (5,xs.length):=by
  unfold World.shape?
  rw [heap_alloc_new]
  simp [nums]
 have hg:((W.alloc (.cells (nums .u8 xs).toArray 5)).freeze ⟨W.heap.size,xs.length,none⟩ 1).heap[W.heap.size]?=some (.cells (nums .u8 xs).toArray 5 (xs.length,xs.length + 1)):=by
  exact zmh (heap_alloc_new W _)
 refine⟨(W.alloc (.cells (nums .u8 xs).toArray 5)).freeze ⟨W.heap.size,xs.length,none⟩ 1,?_,⟨W.heap.size,xs.length,(nums .u8 xs).toArray,(xs.length,xs.length + 1),rfl,Nat.le_refl _,hg,?_,Nat.le_refl _,(by unfold maxLen;omega),(by simp [nums]),?_⟩,⟨rfl,rfl,rfl,?_,fun k hk=>?_⟩⟩
 ·
  simp [convert,hu,hv,markStringish,hsh,Result.andThen]
 ·
  intro j hj hh
  exact absurd hh.1 (Nat.not_le.2 hj)
 ·
  rw [List.take_of_length_le (by simp [nums])]
 ·
  rw [zhk];simp
 ·
  rw [zkh (by omega)]
  exact hao W _ hk
theorem RowT.grow {W:World} {base g n:Nat} {xs ys:List Int} (h:RowT W base (.slice (some ⟨g,0,none⟩) n n) xs) {A:Option Addr} {c:Nat} (hC:(Kd.int .u8).C W A ys.length ys) (hm:0<ys.length) (hl:xs.length + ys.length≤1000000) (ty:TypeId) :
  ∃ v1 w1,(Builtin.append_ #[101,101] ty #[.slice (some ⟨g,0,none⟩) n n,.slice A ys.length c]).run Tryz.prog W=.ok v1 w1∧Kd.R (Kd.int .u8) 5 w1 W.heap.size (fun _=>True) v1 (xs++ys)∧Below W.heap.size W w1:=by
 obtain⟨i,hi,hz0,hz1,hz2⟩:=info_parts info5
 have hu:=Tryz.underlying101
 obtain⟨g',cap,cur,fz,e,hb,hg,hf,hn,hcm,hs,ht⟩:=id h
 injection e with e1 e2 e3
 injection e1 with e1
 injection e1 with e1 _ _
 subst e1
 subst e2
 subst e3
 obtain⟨_,_,hr⟩:=hC
 obtain⟨ad,rfl,hc⟩:=hr hm
 have hnews:∀ j u,(nums .u8 ys)[j]?=some u→W.cell? (ad.add j)=some u:=by
  intro j u hj
  have hjl:j<ys.length:=by have:=(List.getElem?_eq_some_iff.1 hj).1;rwa [nmL] at this
  obtain⟨cc,hcl,hK,hcells⟩:=hc j (ys[j]) (by simp [hjl])
  have h2:cc=[.int .u8 ys[j]]:=hK
  subst h2
  have h3:=hcells 0 _ rfl
  rw [show (Kd.int .u8).sz=1 from rfl,Nat.mul_one,Nat.add_zero] at h3
  rw [h3,←hj]
  simp [nums,hjl]
 have holds:∀ j u,(nums .u8 xs)[j]?=some u→W.cell? ((⟨g,0,none⟩:Addr).add j)=some u:=by
  intro j u hj
  have hjl:j<xs.length:=by have:=(List.getElem?_eq_some_iff.1 hj).1;rwa [nmL] at this
  rw [add_plain,(h.cell (by simp [Value.ownBlock]) hjl).1,←hj]
  simp [nums,List.getD,hjl]
 have hr:=run_append_grow (P:=Tryz.prog) W 101 ty 5 i (.int .u8 0) hu hi hz0 ⟨g,0,none⟩ xs.length xs.length (nums .u8 xs) (by rw [nmL,hz1,Nat.mul_one]) holds ad ys.length c (nums .u8 ys) (by rw [nmL,hz1,Nat.mul_one]) hnews (by omega) (by omega) (growslice_fits (by omega) (by rw [hz2];omega))
 have hge:=grownCap_ge W (xs.length + ys.length) xs.length 5
 have hle:=grownCap_le_maxLen W (xs.length + ys.length) xs.length 5 (by unfold maxLen;omega)
 refine⟨_,_,hr,?_,za5 (zf9 (Below.refl _ _)) _⟩
 refine⟨fun _ _=>trivial,nums .u8 (xs++ys),⟨by rw [nmL];exact(Nat.mul_one _).symm,.inr ⟨W.heap.size,_,_,(by rw [List.length_append]),Nat.le_refl _,heap_alloc_new _ _,(by rw [List.length_append];exact hge),hle,?_,?_⟩⟩,?_⟩
 ·
  simp only [Array.size_append,List.size_toArray,nmL,size_zeroCells]
  simp [Value.cells,Kd.int,Kd.scalar]
  omega
 ·
  have e2:(xs++ys).length * (Kd.int .u8).sz=(nums .u8 (xs++ys)).length:=by rw [nmL];exact Nat.mul_one _
  rw [e2,show nums .u8 (xs++ys)=nums .u8 xs++nums .u8 ys by simp [nums]]
  simp only [Array.toList_append]
  exact List.take_left
 ·
  exact Kd.zi7 (enc:=Value.int .u8) (xs++ys)
section
variable {ops:Array Oper} {o:Oper} {rest:List Oper} {a:Act} {Q:Exit→Act→World→Prop}
theorem wpT_grow {W:World} {base g n:Nat} (hgd:o.guard=none) (s x:Operand) (ho:o.op=.call { callee:=.builtin .append,args:=#[s,x],argTypes:=#[101,101] }) (xs ys:List Int) {A:Option Addr} {c:Nat} (hs:a.eval s=.slice (some ⟨g,0,none⟩) n n) (hx:a.eval x=.slice A ys.length c)
  (h:RowT W base (.slice (some ⟨g,0,none⟩) n n) xs) (hC:(Kd.int .u8).C W A ys.length ys) (hm:0<ys.length) (hl:xs.length + ys.length≤1000000)
  (k:∀ v1 w1,Kd.R (Kd.int .u8) 5 w1 W.heap.size (fun _=>True) v1 (xs++ys)→Below W.heap.size W w1→wpList Tryz.prog ops Q rest (a.put o.dst v1) w1):wpList Tryz.prog ops Q (o::rest) a W:=by
 obtain⟨v1,w1,hr,h1,hb⟩:=h.grow hC hm hl o.type (c:=c)
 refine wpList_plain hgd fun K hK=>?_
 unfold Oper.wp execOp
 simp only [ho,resolve,invoke,builtin,Sem.run_bind,Sem.run_pure,Result.andThen_ok,List.map_toArray,List.map_cons,List.map_nil,hs,hx,hr]
 exact hK _ _ (k v1 w1 h1 hb)
end
def ze1.f (l0:List Int) (a1:Int):Option (List Int):=(some (([(a1 / 16777216) % 256,(a1 / 65536) % 256,(a1 / 256) % 256,(a1) % 256]:List Int):List Int)).bind fun y101=>(if l0.length + y101.length<140737488355328 then(some (l0++y101)) else(none))
theorem ze1.calls (P0_:Nat→Prop) (u9000_:Value) (l0:List Int) (a1:Int) (r:List Int) (w0 w:World) (hB:Below w0.heap.size w0 w) (ho0:Kd.R (Kd.int .u8) 5 w w0.heap.size P0_ u9000_ l0) (h:ze1.f l0 a1=some r) :
  Calls Tryz.prog 91 #[u9000_,.int .i64 a1] w fun e w'=>∃ v0_:Value,e=.returned (v0_)∧Kd.R (Kd.int .u8) 5 w' w0.heap.size (fun k_=>(P0_ k_∨w.heap.size≤k_)) v0_ r∧Below w0.heap.size w0 w'∧Kept w w' (fun k_=>P0_ k_):=by
 have HO0:=am_ (show Kd.R (Kd.int .u8) 5 w w0.heap.size (fun k_=>(P0_ k_∨w.heap.size≤k_)) u9000_ l0 from Kd.zba ho0 (fun k_ hk=>(.inl hk)))
 have HK:=am_ (Kept.refl w (fun k_=>P0_ k_))
 have HW0:=am_ hB.size
 have HB:=am_ hB
 clear hB
 have H:((some (([(a1 / 16777216) % 256,(a1 / 65536) % 256,(a1 / 256) % 256,(a1) % 256]:List Int):List Int)).bind fun y101=>(if l0.length + y101.length<140737488355328 then(some (l0++y101)) else(none)))=some r:=h
 clear h
 obtain⟨y101,hy101⟩:∃ y_:List Int,y_=(([(a1 / 16777216) % 256,(a1 / 65536) % 256,(a1 / 256) % 256,(a1) % 256]:List Int)):=⟨_,rfl⟩
 replace H:(if l0.length + y101.length<140737488355328 then(some (l0++y101)) else(none))=some r:=by first|(rw [hy101];with_reducible exact H)|(have H2_:=(Option.bind_some _ _).symm.trans H;rw [hy101];with_reducible exact H2_)|(have H2_:=(Option.bind_some _ _).symm.trans H;with_reducible exact H2_)|with_reducible exact H|(rw [hy101];exact H)|exact H
 have Ny101:=am_ hy101
 clear hy101
 by_cases c3:l0.length + y101.length<140737488355328
 ·
  rw [if_pos c3] at H
  have LMc3:=am_ c3
  clear c3
  obtain⟨y104,hy104⟩:∃ y_:List Int,y_=(l0++y101):=⟨_,rfl⟩
  replace H:(some y104)=some r:=by first|(rw [hy104];with_reducible exact H)|(have H2_:=(Option.bind_some _ _).symm.trans H;rw [hy104];with_reducible exact H2_)|(have H2_:=(Option.bind_some _ _).symm.trans H;with_reducible exact H2_)|with_reducible exact H|(rw [hy104];exact H)|exact H
  have Ny104:=am_ hy104
  clear hy104
  obtain rfl:=Option.some.inj H
  go_enter Tryz.func91,Tryz.ntmps91
  go_wp2_with (first|((with_reducible refine zad (N:=17) rfl ?_);refine Kd.R_lit (Kd.int .u8) _ 5 ?hg (N:=17) ?hd (xs:=([(a1 / 16777216) % 256,(a1 / 65536) % 256,(a1 / 256) % 256,(a1) % 256]:List Int)) (inner:=[.int .u8 ((a1 / 16777216) % 256),.int .u8 ((a1 / 65536) % 256),.int .u8 ((a1 / 256) % 256),.int .u8 ((a1) % 256)]) (ok:=fun _=>True) (okp:=fun _=>True) ?hr ?hp (fun _ hk=>hk) trivial (Below.refl _ _) (Nat.le_refl _) (by simp) ?_;(case hd=>rfl);(case hg=>rfl);(case hr=>first|(go_simp;done)|(go_simp;rfl));(case hp=>exact(Reps.one (show Kd.M (Kd.int .u8) _ _ _ ((a1 / 16777216) % 256) [.int .u8 ((a1 / 16777216) % 256)] from rfl) (Reps.one (show Kd.M (Kd.int .u8) _ _ _ ((a1 / 65536) % 256) [.int .u8 ((a1 / 65536) % 256)] from rfl) (Reps.one (show Kd.M (Kd.int .u8) _ _ _ ((a1 / 256) % 256) [.int .u8 ((a1 / 256) % 256)] from rfl) (Reps.one (show Kd.M (Kd.int .u8) _ _ _ ((a1) % 256) [.int .u8 ((a1) % 256)] from rfl) (Reps.none _ _))))));intro v102 w4 ho5 hb hg_ hnew_;clear hg_ hnew_;(first|rw [←Ny101.out] at ho5|(simp only [Int.reduceToNat] at ho5;rw [←Ny101.out] at ho5));replace HO103:=am_ (Kd.zcw (Kd.R_new' (Kd.zn3 (M:=fun k_=>(P0_ k_∨w.heap.size≤k_)) ho5 (by first|exact HK.out.1|exact(show Kept w _ (fun k_=>P0_ k_) from by repeat(first|(with_reducible first|exact HK.out|apply Kept.alloc|apply Kept.drewN|apply Kept.drew)|exact HK.out)).1) (fun k_ h_=>.inr h_)) (Kd.R_lt (by(with_reducible repeat(first|apply Kd.zbm|apply Kd.zbl|apply Kd.zbt));exact HO0.out))) (zaf qz2_));replace HO0:=am_ (Kd.R_elder' (by(with_reducible repeat(first|apply Kd.zbm|apply Kd.zbl|apply Kd.zbt));exact HO0.out) (Kd.zf8 ho5) hb);replace HK:=am_ (Kept.below (S:=(fun k_=>P0_ k_)) qz15_ hb);replace HB:=am_ (zab qz2_ hb);clear hb ho5;obtain⟨Ao7,co7,eo7⟩:=Kd.zcb HO103.out;subst eo7)|((with_reducible refine zb5 (b:=.append) (xs:=#[.tmp 5,.tmp 17]) rfl ?_);at_builtin;refine Kd.ze0 (Kd.int .u8) (w0:=w0) w0.heap.size rfl (.tmp 5) (.tmp 17) 101 5 (.int .u8 0) 1 rfl Tryz.underlying101 info5 rfl (by decide) (by omega) u9000_ l0 y101 _ _ _ (fun k_=>(P0_ k_∨w.heap.size≤k_)∧some k_≠(.slice Ao7 y101.length co7:Value).ownBlock) (fun _=>False) rfl rfl ?aO ?aR (fun _ _ h=>h) (fun _ h=>h.elim) ?aF ?aB ?aS ?aL ?_;(case aR=>exact qc_ (Kd.R_reads' HO103.out).2.2);(case aB=>exact qz2_);(case aF=>exact(fun k_ hk=>⟨(.inr (Nat.le_trans (by first|exact HK.out.1|exact(show Kept w _ (fun k_=>P0_ k_) from by repeat(first|(with_reducible first|exact HK.out|apply Kept.alloc|apply Kept.drewN|apply Kept.drew)|exact HK.out)).1) hk)),Kd.fresh' (Kd.R_lt qz11_) k_ hk⟩));(case aO=>exact(by(with_reducible repeat(first|apply Kd.zbm|apply Kd.zbl|apply Kd.zbt));exact HO0.out));(case aS=>exact(zaf qz2_));(case aL=>have:=LMc3.out;omega);intro v105 w6 ho hb hg hat;rw [←Ny104.out] at ho;replace HO103:=am_ (Kd.zj1 (ok:=(fun k_=>(P0_ k_∨w.heap.size≤k_))) (by(with_reducible repeat(first|apply Kd.zbm|apply Kd.zbl|apply Kd.zbt));exact Kd.zba HO103.out (fun _ hk=>⟨hk.1.1,hk.2⟩)) hg hat);replace HB:=am_ (hb);replace HK:=am_ (Kept.zfo (S:=(fun k_=>P0_ k_)) hg qz15_ (fun k_ e_=>(HO0.out.1 k_ e_).1));replace HO106:=am_ (ho);clear HO0;clear ho hb hg hat))
  go_ret
  exact⟨_,qz4_,(by(with_reducible repeat(first|apply Kd.zbm|apply Kd.zbl|apply Kd.zbt));exact Kd.zba HO106.out (fun _ hk=>hk.1)),qz2_,qz15_⟩
 ·
  rw [if_neg c3] at H
  exact absurd H (by simp)
end Go.Proofs.YtgookagndlfehaaGreat.PT
end
section
/- What the hashes of several pieces need: a constant's row at any place, pieces as a literal row, a number's four bytes. -/
namespace Go.Proofs.YtgookagndlfehaaGreat.PT
open Go.RowKit Go.Proofs.YtgookagndlfehaaGreatW.PrintWords Go.Proofs.YtgookagndlfehaaGreatW.PrintLast Go.Proofs.YtgookagndlfehaaGreatW.PrintMore
set_option linter.unusedVariables false
set_option linter.unusedSimpArgs false
def four_ (n:Int):List Int:=[(n / 16777216) % 256,(n / 65536) % 256,(n / 256) % 256,n % 256]
theorem zmr {l:List Int} {n:Int} (h:l.length + 4<140737488355328):ze1.f l n=some (l++four_ n):=by
 unfold ze1.f
 exact if_pos h
theorem zcy (n:Int):(four_ n).length=4:=rfl
theorem zmi {W:World} {gl:Nat} {xs:List Int} (hg:W.heap[gl]?=some (.cells (nums .u8 xs).toArray 5 (0,0))) (hl:xs.length≤1000000) :
  (convert 101 101 (.slice (some ⟨gl,0,none⟩) xs.length xs.length)).run Tryz.prog W=.ok (.slice (some ⟨gl,0,none⟩) xs.length xs.length) (W.freeze ⟨gl,xs.length,none⟩ 1)∧
  (∀ w',w'.heap[gl]?=(W.freeze ⟨gl,xs.length,none⟩ 1).heap[gl]?→(Kd.int .u8).C w' (some ⟨gl,0,none⟩) xs.length xs):=by
 have hu:=run_underlying (P:=Tryz.prog) Tryz.underlying101
 have hv:=run_underlying (P:=Tryz.prog) Tryz.underlying5
 have hsh:W.shape? gl=some (5,xs.length):=by
  unfold World.shape?
  rw [hg]
  simp [nums]
 refine⟨?_,fun w' hw=>?_⟩
 ·
  simp [convert,hu,hv,markStringish,hsh,Result.andThen]
 ·
  rw [zmh hg] at hw
  have hR:RowT w' gl (.slice (some ⟨gl,0,none⟩) xs.length xs.length) xs:=⟨gl,xs.length,(nums .u8 xs).toArray,(xs.length,xs.length + 1),rfl,Nat.le_refl _,hw,fun j hj hh=>absurd hh.1 (Nat.not_le.2 hj),Nat.le_refl _,(by unfold maxLen;omega),(by simp [nums]),(by rw [List.take_of_length_le (by simp [nums])])⟩
  obtain⟨A,c,e,_,hC⟩:=hR.reads
  injection e with e1 e2 e3
  rw [e1]
  exact hC
namespace Inv
variable {w0 w w1:World} {P:Nat→Prop} {L:List Grp} {F:World→Prop}
theorem marked {gl:Nat} {xs:List Int} (h:Inv w0 P w (blk gl 5 (nums .u8 xs).toArray::L) F) (hl:xs.length≤1000000) :
  Inv w0 P (w.freeze ⟨gl,xs.length,none⟩ 1) L (fun w=>(Kd.int .u8).C w (some ⟨gl,0,none⟩) xs.length xs∧F w):=by
 have hm:=(zmi h.blk0 hl).2
 have h2:Inv w0 P (w.freeze ⟨gl,xs.length,none⟩ 1) (⟨fun k=>k=gl,fun w=>(Kd.int .u8).C w (some ⟨gl,0,none⟩) xs.length xs⟩::L) F:=
  h.step (w1:=w.freeze ⟨gl,xs.length,none⟩ 1) ⟨rfl,rfl,rfl,(by rw [zhk];exact Nat.le_refl _),fun k _ hn=>zkh (fun e=>hn e.symm)⟩ ⟨fun k=>k=gl,fun w=>(Kd.int .u8).C w (some ⟨gl,0,none⟩) xs.length xs⟩ (fun k hk=>⟨.inl hk,(by rw [zhk];obtain rfl:k=gl:=hk;exact zar h.blk0)⟩) (fun w' hw=>hm w' (hw gl rfl))
 exact h2.freeze
end Inv
def Piece (v:Value) (xs:List Int) (w:World):Prop:=∃ A c,v=.slice A xs.length c∧xs.length≤c∧(Kd.int .u8).C w A xs.length xs
namespace Inv
variable {w0 w w1:World} {P:Nat→Prop} {L:List Grp} {F:World→Prop}
theorem zdy {gl:Nat} {xs:List Int} (h:Inv w0 P w (blk gl 5 (nums .u8 xs).toArray::L) F) (hl:xs.length≤1000000) :
  ∃ w1,(convert 101 101 (.slice (some ⟨gl,0,none⟩) xs.length xs.length)).run Tryz.prog w=.ok (.slice (some ⟨gl,0,none⟩) xs.length xs.length) w1∧Inv w0 P w1 L (fun w=>Piece (.slice (some ⟨gl,0,none⟩) xs.length xs.length) xs w∧F w):=
 ⟨_,(zmi h.blk0 hl).1,(h.marked hl).weaken (fun _ h=>⟨⟨_,_,rfl,Nat.le_refl _,h.1⟩,h.2⟩)⟩
theorem zek {t:ByteArray} (h:Inv w0 P w L F) (hl:t.size≤2000000) :
  ∃ v w1,(convert 9 101 (.string t)).run Tryz.prog w=.ok v w1∧Inv w0 P w1 L (fun w=>Piece v (nums_ t) w∧F w):=by
 have hr:=Go.Lib.run_convert_string_bytes (P:=Tryz.prog) w 9 101 5 t Tryz.underlying9 Tryz.underlying101 Tryz.underlying5
 exact⟨_,_,hr,(h.pushT (zgk w t) (RowT.bytes w t hl)).freeze.weaken (fun _ h=>⟨by obtain⟨A,c,e,hc,hC⟩:=RowT.reads h.1;exact⟨A,c,e,hc,hC⟩,h.2⟩)⟩
theorem zhe (h:Inv w0 P w L F) (cs:Array Value) (t:TypeId):Inv w0 P (w.alloc (.cells cs t)) (blk w.heap.size t cs::L) F:=
 h.box rfl (heap_alloc_new _ _) (za5 (Below.refl _ _) _)
theorem zen (h:Inv w0 P w L F) (n:Int):Calls Tryz.prog 91 #[.slice none 0 0,.int .i64 n] w (fun e w1=>∃ v,e=.returned v∧Inv w0 P w1 L (fun w=>Piece v (four_ n) w∧F w)):=by
 refine(ze1.calls (fun _=>True) (.slice none 0 0) [] n (four_ n) w w (Below.refl _ _) (Kd.R_nil _ _ _ _ _) (zmr (by decide))).mono ?_
 rintro e w1 ⟨v,rfl,hR,hb,_⟩
 obtain⟨A,c,rfl,hc,HI⟩:=h.zp2 hb hR
 exact⟨_,rfl,HI.weaken (fun _ h=>⟨⟨A,c,rfl,hc,h.1⟩,h.2⟩)⟩
end Inv
theorem zkl {W:World} {T:TypeId} {vs:List Value} {ps:List (List Int)} (h:∀ j (hj:j<ps.length),∃ v,vs[j]?=some v∧Piece v ps[j] W):zkr (W.alloc (.cells vs.toArray T)) (some ⟨W.heap.size,0,none⟩) ps:=by
 intro j hj
 obtain⟨v,hv,A,c,rfl,_,hC⟩:=h j hj
 refine⟨_,A,c,rfl,?_,Kd.zm7 hC _⟩
 rw [add_plain,World.cell?_alloc_new]
 simpa using hv
theorem pieces3 {W:World} {T:TypeId} {v0 v1 v2:Value} {a b c:List Int} (h0:Piece v0 a W) (h1:Piece v1 b W) (h2:Piece v2 c W):zkr (W.alloc (.cells #[v0,v1,v2] T)) (some ⟨W.heap.size,0,none⟩) [a,b,c]:=
 zkl (vs:=[v0,v1,v2]) (fun j hj=>by
  match j,hj with
  | 0,_=>exact⟨v0,rfl,h0⟩
  | 1,_=>exact⟨v1,rfl,h1⟩
  | 2,_=>exact⟨v2,rfl,h2⟩)
theorem pieces4 {W:World} {T:TypeId} {v0 v1 v2 v3:Value} {a b c d:List Int} (h0:Piece v0 a W) (h1:Piece v1 b W) (h2:Piece v2 c W) (h3:Piece v3 d W):zkr (W.alloc (.cells #[v0,v1,v2,v3] T)) (some ⟨W.heap.size,0,none⟩) [a,b,c,d]:=
 zkl (vs:=[v0,v1,v2,v3]) (fun j hj=>by
  match j,hj with
  | 0,_=>exact⟨v0,rfl,h0⟩
  | 1,_=>exact⟨v1,rfl,h1⟩
  | 2,_=>exact⟨v2,rfl,h2⟩
  | 3,_=>exact⟨v3,rfl,h3⟩)
end Go.Proofs.YtgookagndlfehaaGreat.PT
end
section
/- impl.keccak in the printed form: pieces as a row of rows. -/
namespace Go.Proofs.YtgookagndlfehaaGreat.PT
open Go.RowKit Go.Proofs.YtgookagndlfehaaGreatW.PrintWords Go.Proofs.YtgookagndlfehaaGreatW.PrintLast Go.Proofs.YtgookagndlfehaaGreatW.PrintMore
set_option linter.unusedVariables false
set_option linter.unusedSimpArgs false
theorem zpv {w:World} {A:Option Addr} {ps:List (List Int)} (h:(Kd.slice 5 (Kd.int .u8)).C w A ps.length ps):zkr w A ps:=by
 intro j hj
 obtain⟨ad,cs,e,_,hK,hc0⟩:=Kd.C_get h [] (j:Int) (by omega) (by omega)
 obtain⟨B,c,rfl,hl,hC⟩:=hK
 rw [Int.toNat_natCast] at hC hc0 hl
 have e2:ps.getD j []=ps[j]:=by simp [List.getD,hj]
 rw [e2] at hC hc0 hl
 have h1:=hc0 0 _ rfl
 have h2:ad.add (j * (Kd.slice 5 (Kd.int .u8)).sz + 0)=ad.add j:=by rw [show (Kd.slice 5 (Kd.int .u8)).sz=1 from rfl,Nat.mul_one,Nat.add_zero]
 rw [h2] at h1
 exact⟨ad,B,c,e,h1,hC⟩
def zep.f (l0:List (List Int)):Option ByteArray:=if l0.flatten.length≤4000000 then(if l0.length≤1000000 then some (kec l0.flatten) else none) else none
theorem zep.calls (A0:Option Addr) (c0:Nat) (l0:List (List Int)) (r:ByteArray) (w:World) (hr0:Kd.C (Kd.slice 5 (Kd.int .u8)) w A0 l0.length l0) (hc0:l0.length≤c0) (h:zep.f l0=some r) :
  Calls Tryz.prog 135 #[.slice A0 l0.length c0] w fun e w'=>e=.returned (.string r)∧Below w.heap.size w w':=by
 unfold zep.f at h
 by_cases c:l0.flatten.length≤4000000
 ·
  rw [if_pos c] at h
  by_cases d:l0.length≤1000000
  ·
   rw [if_pos d] at h
   obtain rfl:=Option.some.inj h
   exact zep.walk A0 c0 l0 w (zpv hr0) c d
  ·
   rw [if_neg d] at h;cases h
 ·
  rw [if_neg c] at h;cases h
def IsS38 (w0 W:World) (g:Nat) (f0:List (S32)) (f1:Int) (f2:ByteArray) (f3:Int):Prop:=∃ A0 c0,W.heap[g]?=some (.cells #[.slice A0 f0.length c0,.int .i64 f1,.string f2,.int .i64 f3] 38 (0,0))∧(w0.heap.size≤g∧w0.drawn=codeA A0 c0)∧Kd.C k32 w0 A0 f0.length f0
theorem IsS38.grown {w0 W:World} {g:Nat} {f0:List (S32)} {f1:Int} {f2:ByteArray} {f3:Int} {W1:World} {row:Option Nat} (h:IsS38 w0 W g f0 f1 f2 f3) (hw:W.grownBy W1 row) (hne:some g≠row):IsS38 w0 W1 g f0 f1 f2 f3:=by
 obtain⟨A0,c0,hb,hg,hr0⟩:=h
 exact⟨A0,c0,ze2 hb hw hne,hg,hr0⟩
theorem IsS38.below {w0 W:World} {g:Nat} {f0:List (S32)} {f1:Int} {f2:ByteArray} {f3:Int} {W1:World} (h:IsS38 w0 W g f0 f1 f2 f3) (hw:Below W.heap.size W W1):IsS38 w0 W1 g f0 f1 f2 f3:=h.grown (zg8 hw none) (by simp)
theorem IsS38.alloc {w0 W:World} {g:Nat} {f0:List (S32)} {f1:Int} {f2:ByteArray} {f3:Int} (h:IsS38 w0 W g f0 f1 f2 f3) (o:Obj):IsS38 w0 (W.alloc o) g f0 f1 f2 f3:=h.below (za5 (Below.refl _ _) o)
theorem IsS38.drewN {w0 W:World} {g:Nat} {f0:List (S32)} {f1:Int} {f2:ByteArray} {f3:Int} (h:IsS38 w0 W g f0 f1 f2 f3) (m:Nat):IsS38 w0 (W.drewN m) g f0 f1 f2 f3:=h
theorem IsS38.drew {w0 W:World} {g:Nat} {f0:List (S32)} {f1:Int} {f2:ByteArray} {f3:Int} (h:IsS38 w0 W g f0 f1 f2 f3):IsS38 w0 W.drew g f0 f1 f2 f3:=h
theorem IsS38.at_ {w0 W:World} {g:Nat} {f0:List (S32)} {f1:Int} {f2:ByteArray} {f3:Int} {w':World} {m:Nat} (hq:W.drewN m=w') (h:IsS38 w0 W g f0 f1 f2 f3):IsS38 w0 w' g f0 f1 f2 f3:=by subst hq;exact IsS38.drewN h m
theorem IsS38.apart {w0 W:World} {g:Nat} {f0:List (S32)} {f1:Int} {f2:ByteArray} {f3:Int} {α:Type} {d:Kd α} {e:Nat} {base:Nat} {ok:Nat→Prop} {v:Value} {xs:List α} (h:IsS38 w0 W g f0 f1 f2 f3) (ho:d.R e W base ok v xs) (ht:∀ q,q∈e::d.E→q≠38):d.R e W base (fun k=>ok k∧k≠g) v xs:=by
 obtain⟨A0,c0,hb,hg,hr0⟩:=h
 exact Kd.zeq ho hb ht
theorem IsS38.own_ne {w0 W:World} {g:Nat} {f0:List (S32)} {f1:Int} {f2:ByteArray} {f3:Int} {α:Type} {d:Kd α} {e:Nat} {base:Nat} {ok:Nat→Prop} {v:Value} {xs:List α} (h:IsS38 w0 W g f0 f1 f2 f3) (ho:d.R e W base ok v xs) (ht:e≠38):some g≠v.ownBlock:=by
 obtain⟨A0,c0,hb,hg,hr0⟩:=h
 exact Kd.R_ne ho hb ht
theorem IsS38.lt {w0 W:World} {g:Nat} {f0:List (S32)} {f1:Int} {f2:ByteArray} {f3:Int} (h:IsS38 w0 W g f0 f1 f2 f3):g<W.heap.size:=by
 obtain⟨A0,c0,hb,hg,hr0⟩:=h
 exact zar hb
theorem IsS38.ge {w0 W:World} {g:Nat} {f0:List (S32)} {f1:Int} {f2:ByteArray} {f3:Int} (h:IsS38 w0 W g f0 f1 f2 f3):w0.heap.size≤g:=by
 obtain⟨A0,c0,hb,hg,hr0⟩:=h
 exact hg.1
theorem IsS38.set_1 {w0 W:World} {g:Nat} {f0:List (S32)} {f1:Int} {f2:ByteArray} {f3:Int} (h:IsS38 w0 W g f0 f1 f2 f3) (x:Int):IsS38 w0 (W.setCell ⟨g,1,none⟩ (.int .i64 x)) g f0 x f2 f3:=by
 obtain⟨A0,c0,hb,hg,hr0⟩:=h
 exact⟨A0,c0,(by simpa using zhp hb 1 (.int .i64 x)),hg,hr0⟩
theorem IsS38.set_2 {w0 W:World} {g:Nat} {f0:List (S32)} {f1:Int} {f2:ByteArray} {f3:Int} (h:IsS38 w0 W g f0 f1 f2 f3) (x:ByteArray):IsS38 w0 (W.setCell ⟨g,2,none⟩ (.string x)) g f0 f1 x f3:=by
 obtain⟨A0,c0,hb,hg,hr0⟩:=h
 exact⟨A0,c0,(by simpa using zhp hb 2 (.string x)),hg,hr0⟩
theorem IsS38.set_3 {w0 W:World} {g:Nat} {f0:List (S32)} {f1:Int} {f2:ByteArray} {f3:Int} (h:IsS38 w0 W g f0 f1 f2 f3) (x:Int):IsS38 w0 (W.setCell ⟨g,3,none⟩ (.int .i64 x)) g f0 f1 f2 x:=by
 obtain⟨A0,c0,hb,hg,hr0⟩:=h
 exact⟨A0,c0,(by simpa using zhp hb 3 (.int .i64 x)),hg,hr0⟩
theorem IsS38.new (w0 W:World) (A0:Option Addr) (c0:Nat) (f0:List (S32)) (f1:Int) (f2:ByteArray) (f3:Int) (hB:Below w0.heap.size w0 W) (hr0:Kd.C k32 w0 A0 f0.length f0) (hd0:w0.drawn=codeA A0 c0):IsS38 w0 (W.alloc (.cells #[.slice A0 f0.length c0,.int .i64 f1,.string f2,.int .i64 f3] 38)) W.heap.size f0 f1 f2 f3:=⟨A0,c0,by simpa using heap_alloc_new W _,⟨hB.size,hd0⟩,hr0⟩
def zca.f (s0_0:List (S32)) (s0_1:Int) (s0_2:ByteArray) (s0_3:Int) (l1:List Int):Option (Int × ByteArray × Int):=if s0_2.size≤1000000 then(if l1.length≤1000000 then some (s0_1,kec ([nums_ s0_2,[97,98,115,111,114,98],four_ (l1.length:Int),l1].flatten),0) else none) else none
theorem zca.zox (g:Nat) (s0_0:List (S32)) (s0_1:Int) (s0_2:ByteArray) (s0_3:Int) (A1:Option Addr) (c1:Nat) (l1:List Int) (r1:Int) (r2:ByteArray) (r3:Int) (w0 w:World) (hI:IsS38 w0 w g s0_0 s0_1 s0_2 s0_3) (hB:Below w0.heap.size w0 w) (hr1:∀ W_,zbn w W_ g none→Kd.C (Kd.int .u8) W_ A1 l1.length l1) (hc1:l1.length≤c1) (h:zca.f s0_0 s0_1 s0_2 s0_3 l1=some (r1,r2,r3)) :
  Calls Tryz.prog 88 #[.pointer (some ⟨g,0,none⟩),.slice A1 l1.length c1] w fun e w'=>e=.returned (.tuple #[])∧IsS38 w0 w' g s0_0 r1 r2 r3∧Below w0.heap.size w0 w'∧zbn w w' g none:=by
 unfold zca.f at h
 by_cases cs:s0_2.size≤1000000
 ·
  rw [if_pos cs] at h
  by_cases cl:l1.length≤1000000
  ·
   rw [if_pos cl] at h
   simp only [Option.some.injEq,Prod.mk.injEq] at h
   obtain⟨rfl,hk_,rfl⟩:=h
   have HKE:=am_ hk_
   clear hk_
   have HST:=am_ (show s0_2.size≤2000000 by omega)
   have HL1:=am_ cl
   have HC1:=am_ hc1
   have HB:=am_ hB
   have HGE:=am_ (IsS38.ge hI)
   obtain⟨A0,c0,hblk,hge,hr0⟩:=hI
   have HGQ:=am_ hge
   have HR0:=am_ hr0
   have HI:=am_ (Inv.zo7 w hblk (fun w2=>Kd.C (Kd.int .u8) w2 A1 l1.length l1) (fun w' ha=>hr1 w' ha.keep))
   have hs2:w.cell? ⟨g,2,none⟩=some (.string s0_2):=(zaa hblk 2).trans rfl
   clear cs cl hc1 hB hr1 hblk hge hr0
   go_enter Tryz.func88,Tryz.ntmps88
   try go_wp2
   refine zcn (n:=21) (S:=fun w'=>w'.cell? ⟨g,2,none⟩=some (.string s0_2)) (ds:=[17,20]) (bs_ 21 0) (by kernel_rfl) rfl rfl ((zaa ((HI.out).get 0 rfl) 2).trans rfl) (fun hHeld=>?_)
   refine pu_ 0 4 (bs_ 21 1) ?_
   refine pu_ 1 5 (bs_ 21 3) ?_
   refine pu_ 2 6 (bs_ 21 7) ?_
   refine pu_ 3 7 (bs_ 21 15) ?_
   refine pu_ 4 8 (bs_ 21 31) ?_
   refine tk_ 5 (bs_ 21 63) hHeld ?_
   refine pu_ 9 13 (bs_ 21 575) ?_
   refine pu_ 10 14 (bs_ 21 1599) ?_
   refine pu_ 12 16 (bs_ 21 5695) ?_
   replace HI:=am_ (HI.out.drew)
   generalize w.drew=wd0 at HI hHeld ⊢
   refine join_ (σ:=Value × Value × Value × Value) 8 (bs_ 21 8191) (fun s=>[(10,s.1),(11,s.2.1),(12,s.2.2.1),(15,s.2.2.2)]) (fun s w'=>Inv w (fun k=>k=g) w' [blk g 38 #[.slice A0 s0_0.length c0,.int .i64 s0_1,.string s0_2,.int .i64 s0_3]] (fun w2=>Piece s.1 (nums_ s0_2) w2∧Piece s.2.2.1 [97,98,115,111,114,98] w2∧Piece s.2.2.2 (four_ ((l1.length:Int))) w2∧(fun w2=>Kd.C (Kd.int .u8) w2 A1 l1.length l1) w2)) ?_ ?_
   rotate_left
   ·
    intro hJ
    refine zlo (i:=6) (j:=7) (k:=11) (Ni:=some 10) (Nj:=some 11) (Nk:=some 15) (bs_ 21 5759) (bs_ 21 5823) (bs_ 21 7743) rfl rfl rfl rfl rfl rfl (by kernel_rfl) (by decide) (by decide) (by decide) (fun K hK=>?_) (fun K hK=>?_) (fun K hK=>?_)
    ·
     obtain⟨vconv,wv1,hcv,HI_⟩:=HI.out.zek HST.out
     refine zbg (by rfl) rfl (v:=vconv) (w1:=wv1) qz38_ ?_
     clear HI hcv;have HI:=am_ HI_;clear HI_
     refine hK.out _ _ ((zaa ((HI.out).get 0 rfl) 2).trans rfl) (fun hHeld=>?_)
     clear hK K
     refine nm_ 10 ?_
     refine two_ (i:=7) (j:=11) (Ni:=some 11) (Nj:=some 15) (bs_ 21 5887) (bs_ 21 7807) rfl rfl rfl rfl (by kernel_rfl) (by decide) (by decide) (fun K hK=>?_) (fun K hK=>?_)
     ·
      replace HI:=am_ (HI.out.zhe #[.int .u8 97,.int .u8 98,.int .u8 115,.int .u8 111,.int .u8 114,.int .u8 98] 5)
      refine zbg (by rfl) rfl (v:=.slice (some ⟨wv1.heap.size,0,none⟩) 6 6) (w1:=wv1.alloc (.cells #[.int .u8 97,.int .u8 98,.int .u8 115,.int .u8 111,.int .u8 114,.int .u8 98] 5)) qz38_ ?_
      generalize wv1.alloc (.cells #[.int .u8 97,.int .u8 98,.int .u8 115,.int .u8 111,.int .u8 114,.int .u8 98] 5)=wv2 at HI ⊢
      generalize wv1.heap.size=gl at HI ⊢
      refine hK.out _ _ ((zaa ((HI.out).get 1 rfl) 2).trans rfl) (fun hHeld=>?_)
      clear hK K
      refine nm_ 11 ?_
      refine two_ (i:=8) (j:=11) (Ni:=some 12) (Nj:=some 15) (bs_ 21 6143) (bs_ 21 7935) rfl rfl rfl rfl (by kernel_rfl) (by decide) (by decide) (fun K hK=>?_) (fun K hK=>?_)
      ·
       obtain⟨wv3,hcv,HI_⟩:=HI.out.zdy (xs:=[97,98,115,111,114,98]) (by decide)
       replace hcv:(convert 101 101 (.slice (some ⟨gl,0,none⟩) 6 6)).run Tryz.prog wv2=.ok (.slice (some ⟨gl,0,none⟩) 6 6) wv3:=hcv
       refine zbg (by rfl) rfl (v:=.slice (some ⟨gl,0,none⟩) 6 6) (w1:=wv3) qz38_ ?_
       clear HI hcv;have HI:=am_ HI_;clear HI_
       refine hK.out _ _ ((zaa ((HI.out).get 0 rfl) 2).trans rfl) (fun hHeld=>?_)
       clear hK K
       refine nm_ 12 ?_
       refine on_ 11 (some 15) (bs_ 21 8191) (fun K hK=>?_)
       refine go_ Tryz.func91 #[.slice none 0 0,.int .i64 l1.length] ?_
       refine(HI.out.zen ((l1.length:Int))).mono ?_
       rintro e wv4 ⟨vfour,rfl,HI_⟩
       refine⟨_,rfl,?_⟩
       clear HI;have HI:=am_ HI_;clear HI_
       refine hK.out _ _ ((zaa ((HI.out).get 0 rfl) 2).trans rfl) (fun hHeld=>?_)
       clear hK K
       refine nm_ 15 ?_
       refine norm_ ?_ (hJ (vconv,.slice (some ⟨gl,0,none⟩) 6 6,.slice (some ⟨gl,0,none⟩) 6 6,vfour) wv4 (HI.out.weaken (fun _ h=>?_)))
       ·
        simp only [zd3];simp only [Act.put,List.setIfInBounds_toArray,List.set_cons_zero,List.set_cons_succ,i64_w,i32_w]
        try rfl
       ·
        refine⟨?_,?_,?_,?_⟩ <;> first|exact h.1|exact h.2.1|exact h.2.2.1|exact h.2.2.2
      ·
       refine go_ Tryz.func91 #[.slice none 0 0,.int .i64 l1.length] ?_
       refine(HI.out.zen ((l1.length:Int))).mono ?_
       rintro e wv3 ⟨vfour,rfl,HI_⟩
       refine⟨_,rfl,?_⟩
       clear HI;have HI:=am_ HI_;clear HI_
       refine hK.out _ _ ((zaa ((HI.out).get 1 rfl) 2).trans rfl) (fun hHeld=>?_)
       clear hK K
       refine nm_ 15 ?_
       refine on_ 8 (some 12) (bs_ 21 8191) (fun K hK=>?_)
       obtain⟨wv4,hcv,HI_⟩:=HI.out.zdy (xs:=[97,98,115,111,114,98]) (by decide)
       replace hcv:(convert 101 101 (.slice (some ⟨gl,0,none⟩) 6 6)).run Tryz.prog wv3=.ok (.slice (some ⟨gl,0,none⟩) 6 6) wv4:=hcv
       refine zbg (by rfl) rfl (v:=.slice (some ⟨gl,0,none⟩) 6 6) (w1:=wv4) qz38_ ?_
       clear HI hcv;have HI:=am_ HI_;clear HI_
       refine hK.out _ _ ((zaa ((HI.out).get 0 rfl) 2).trans rfl) (fun hHeld=>?_)
       clear hK K
       refine nm_ 12 ?_
       refine norm_ ?_ (hJ (vconv,.slice (some ⟨gl,0,none⟩) 6 6,.slice (some ⟨gl,0,none⟩) 6 6,vfour) wv4 (HI.out.weaken (fun _ h=>?_)))
       ·
        simp only [zd3];simp only [Act.put,List.setIfInBounds_toArray,List.set_cons_zero,List.set_cons_succ,i64_w,i32_w]
        try rfl
       ·
        refine⟨?_,?_,?_,?_⟩ <;> first|exact h.1|exact h.2.1|exact h.2.2.1|exact h.2.2.2
     ·
      refine go_ Tryz.func91 #[.slice none 0 0,.int .i64 l1.length] ?_
      refine(HI.out.zen ((l1.length:Int))).mono ?_
      rintro e wv2 ⟨vfour,rfl,HI_⟩
      refine⟨_,rfl,?_⟩
      clear HI;have HI:=am_ HI_;clear HI_
      refine hK.out _ _ ((zaa ((HI.out).get 0 rfl) 2).trans rfl) (fun hHeld=>?_)
      clear hK K
      refine nm_ 15 ?_
      refine on_ 7 (some 11) (bs_ 21 7935) (fun K hK=>?_)
      replace HI:=am_ (HI.out.zhe #[.int .u8 97,.int .u8 98,.int .u8 115,.int .u8 111,.int .u8 114,.int .u8 98] 5)
      refine zbg (by rfl) rfl (v:=.slice (some ⟨wv2.heap.size,0,none⟩) 6 6) (w1:=wv2.alloc (.cells #[.int .u8 97,.int .u8 98,.int .u8 115,.int .u8 111,.int .u8 114,.int .u8 98] 5)) qz38_ ?_
      generalize wv2.alloc (.cells #[.int .u8 97,.int .u8 98,.int .u8 115,.int .u8 111,.int .u8 114,.int .u8 98] 5)=wv3 at HI ⊢
      generalize wv2.heap.size=gl at HI ⊢
      refine hK.out _ _ ((zaa ((HI.out).get 1 rfl) 2).trans rfl) (fun hHeld=>?_)
      clear hK K
      refine nm_ 11 ?_
      refine on_ 8 (some 12) (bs_ 21 8191) (fun K hK=>?_)
      obtain⟨wv4,hcv,HI_⟩:=HI.out.zdy (xs:=[97,98,115,111,114,98]) (by decide)
      replace hcv:(convert 101 101 (.slice (some ⟨gl,0,none⟩) 6 6)).run Tryz.prog wv3=.ok (.slice (some ⟨gl,0,none⟩) 6 6) wv4:=hcv
      refine zbg (by rfl) rfl (v:=.slice (some ⟨gl,0,none⟩) 6 6) (w1:=wv4) qz38_ ?_
      clear HI hcv;have HI:=am_ HI_;clear HI_
      refine hK.out _ _ ((zaa ((HI.out).get 0 rfl) 2).trans rfl) (fun hHeld=>?_)
      clear hK K
      refine nm_ 12 ?_
      refine norm_ ?_ (hJ (vconv,.slice (some ⟨gl,0,none⟩) 6 6,.slice (some ⟨gl,0,none⟩) 6 6,vfour) wv4 (HI.out.weaken (fun _ h=>?_)))
      ·
       simp only [zd3];simp only [Act.put,List.setIfInBounds_toArray,List.set_cons_zero,List.set_cons_succ,i64_w,i32_w]
       try rfl
      ·
       refine⟨?_,?_,?_,?_⟩ <;> first|exact h.1|exact h.2.1|exact h.2.2.1|exact h.2.2.2
    ·
     replace HI:=am_ (HI.out.zhe #[.int .u8 97,.int .u8 98,.int .u8 115,.int .u8 111,.int .u8 114,.int .u8 98] 5)
     refine zbg (by rfl) rfl (v:=.slice (some ⟨wd0.heap.size,0,none⟩) 6 6) (w1:=wd0.alloc (.cells #[.int .u8 97,.int .u8 98,.int .u8 115,.int .u8 111,.int .u8 114,.int .u8 98] 5)) qz38_ ?_
     generalize wd0.alloc (.cells #[.int .u8 97,.int .u8 98,.int .u8 115,.int .u8 111,.int .u8 114,.int .u8 98] 5)=wv1 at HI ⊢
     generalize wd0.heap.size=gl at HI ⊢
     refine hK.out _ _ ((zaa ((HI.out).get 1 rfl) 2).trans rfl) (fun hHeld=>?_)
     clear hK K
     refine nm_ 11 ?_
     refine zlo (i:=6) (j:=8) (k:=11) (Ni:=some 10) (Nj:=some 12) (Nk:=some 15) (bs_ 21 5887) (bs_ 21 6079) (bs_ 21 7871) rfl rfl rfl rfl rfl rfl (by kernel_rfl) (by decide) (by decide) (by decide) (fun K hK=>?_) (fun K hK=>?_) (fun K hK=>?_)
     ·
      obtain⟨vconv,wv2,hcv,HI_⟩:=HI.out.zek HST.out
      refine zbg (by rfl) rfl (v:=vconv) (w1:=wv2) qz38_ ?_
      clear HI hcv;have HI:=am_ HI_;clear HI_
      refine hK.out _ _ ((zaa ((HI.out).get 1 rfl) 2).trans rfl) (fun hHeld=>?_)
      clear hK K
      refine nm_ 10 ?_
      refine two_ (i:=8) (j:=11) (Ni:=some 12) (Nj:=some 15) (bs_ 21 6143) (bs_ 21 7935) rfl rfl rfl rfl (by kernel_rfl) (by decide) (by decide) (fun K hK=>?_) (fun K hK=>?_)
      ·
       obtain⟨wv3,hcv,HI_⟩:=HI.out.zdy (xs:=[97,98,115,111,114,98]) (by decide)
       replace hcv:(convert 101 101 (.slice (some ⟨gl,0,none⟩) 6 6)).run Tryz.prog wv2=.ok (.slice (some ⟨gl,0,none⟩) 6 6) wv3:=hcv
       refine zbg (by rfl) rfl (v:=.slice (some ⟨gl,0,none⟩) 6 6) (w1:=wv3) qz38_ ?_
       clear HI hcv;have HI:=am_ HI_;clear HI_
       refine hK.out _ _ ((zaa ((HI.out).get 0 rfl) 2).trans rfl) (fun hHeld=>?_)
       clear hK K
       refine nm_ 12 ?_
       refine on_ 11 (some 15) (bs_ 21 8191) (fun K hK=>?_)
       refine go_ Tryz.func91 #[.slice none 0 0,.int .i64 l1.length] ?_
       refine(HI.out.zen ((l1.length:Int))).mono ?_
       rintro e wv4 ⟨vfour,rfl,HI_⟩
       refine⟨_,rfl,?_⟩
       clear HI;have HI:=am_ HI_;clear HI_
       refine hK.out _ _ ((zaa ((HI.out).get 0 rfl) 2).trans rfl) (fun hHeld=>?_)
       clear hK K
       refine nm_ 15 ?_
       refine norm_ ?_ (hJ (vconv,.slice (some ⟨gl,0,none⟩) 6 6,.slice (some ⟨gl,0,none⟩) 6 6,vfour) wv4 (HI.out.weaken (fun _ h=>?_)))
       ·
        simp only [zd3];simp only [Act.put,List.setIfInBounds_toArray,List.set_cons_zero,List.set_cons_succ,i64_w,i32_w]
        try rfl
       ·
        refine⟨?_,?_,?_,?_⟩ <;> first|exact h.1|exact h.2.1|exact h.2.2.1|exact h.2.2.2
      ·
       refine go_ Tryz.func91 #[.slice none 0 0,.int .i64 l1.length] ?_
       refine(HI.out.zen ((l1.length:Int))).mono ?_
       rintro e wv3 ⟨vfour,rfl,HI_⟩
       refine⟨_,rfl,?_⟩
       clear HI;have HI:=am_ HI_;clear HI_
       refine hK.out _ _ ((zaa ((HI.out).get 1 rfl) 2).trans rfl) (fun hHeld=>?_)
       clear hK K
       refine nm_ 15 ?_
       refine on_ 8 (some 12) (bs_ 21 8191) (fun K hK=>?_)
       obtain⟨wv4,hcv,HI_⟩:=HI.out.zdy (xs:=[97,98,115,111,114,98]) (by decide)
       replace hcv:(convert 101 101 (.slice (some ⟨gl,0,none⟩) 6 6)).run Tryz.prog wv3=.ok (.slice (some ⟨gl,0,none⟩) 6 6) wv4:=hcv
       refine zbg (by rfl) rfl (v:=.slice (some ⟨gl,0,none⟩) 6 6) (w1:=wv4) qz38_ ?_
       clear HI hcv;have HI:=am_ HI_;clear HI_
       refine hK.out _ _ ((zaa ((HI.out).get 0 rfl) 2).trans rfl) (fun hHeld=>?_)
       clear hK K
       refine nm_ 12 ?_
       refine norm_ ?_ (hJ (vconv,.slice (some ⟨gl,0,none⟩) 6 6,.slice (some ⟨gl,0,none⟩) 6 6,vfour) wv4 (HI.out.weaken (fun _ h=>?_)))
       ·
        simp only [zd3];simp only [Act.put,List.setIfInBounds_toArray,List.set_cons_zero,List.set_cons_succ,i64_w,i32_w]
        try rfl
       ·
        refine⟨?_,?_,?_,?_⟩ <;> first|exact h.1|exact h.2.1|exact h.2.2.1|exact h.2.2.2
     ·
      obtain⟨wv2,hcv,HI_⟩:=HI.out.zdy (xs:=[97,98,115,111,114,98]) (by decide)
      replace hcv:(convert 101 101 (.slice (some ⟨gl,0,none⟩) 6 6)).run Tryz.prog wv1=.ok (.slice (some ⟨gl,0,none⟩) 6 6) wv2:=hcv
      refine zbg (by rfl) rfl (v:=.slice (some ⟨gl,0,none⟩) 6 6) (w1:=wv2) qz38_ ?_
      clear HI hcv;have HI:=am_ HI_;clear HI_
      refine hK.out _ _ ((zaa ((HI.out).get 0 rfl) 2).trans rfl) (fun hHeld=>?_)
      clear hK K
      refine nm_ 12 ?_
      refine two_ (i:=6) (j:=11) (Ni:=some 10) (Nj:=some 15) (bs_ 21 6143) (bs_ 21 8127) rfl rfl rfl rfl (by kernel_rfl) (by decide) (by decide) (fun K hK=>?_) (fun K hK=>?_)
      ·
       obtain⟨vconv,wv3,hcv,HI_⟩:=HI.out.zek HST.out
       refine zbg (by rfl) rfl (v:=vconv) (w1:=wv3) qz38_ ?_
       clear HI hcv;have HI:=am_ HI_;clear HI_
       refine hK.out _ _ ((zaa ((HI.out).get 0 rfl) 2).trans rfl) (fun hHeld=>?_)
       clear hK K
       refine nm_ 10 ?_
       refine on_ 11 (some 15) (bs_ 21 8191) (fun K hK=>?_)
       refine go_ Tryz.func91 #[.slice none 0 0,.int .i64 l1.length] ?_
       refine(HI.out.zen ((l1.length:Int))).mono ?_
       rintro e wv4 ⟨vfour,rfl,HI_⟩
       refine⟨_,rfl,?_⟩
       clear HI;have HI:=am_ HI_;clear HI_
       refine hK.out _ _ ((zaa ((HI.out).get 0 rfl) 2).trans rfl) (fun hHeld=>?_)
       clear hK K
       refine nm_ 15 ?_
       refine norm_ ?_ (hJ (vconv,.slice (some ⟨gl,0,none⟩) 6 6,.slice (some ⟨gl,0,none⟩) 6 6,vfour) wv4 (HI.out.weaken (fun _ h=>?_)))
       ·
        simp only [zd3];simp only [Act.put,List.setIfInBounds_toArray,List.set_cons_zero,List.set_cons_succ,i64_w,i32_w]
        try rfl
       ·
        refine⟨?_,?_,?_,?_⟩ <;> first|exact h.1|exact h.2.1|exact h.2.2.1|exact h.2.2.2
      ·
       refine go_ Tryz.func91 #[.slice none 0 0,.int .i64 l1.length] ?_
       refine(HI.out.zen ((l1.length:Int))).mono ?_
       rintro e wv3 ⟨vfour,rfl,HI_⟩
       refine⟨_,rfl,?_⟩
       clear HI;have HI:=am_ HI_;clear HI_
       refine hK.out _ _ ((zaa ((HI.out).get 0 rfl) 2).trans rfl) (fun hHeld=>?_)
       clear hK K
       refine nm_ 15 ?_
       refine on_ 6 (some 10) (bs_ 21 8191) (fun K hK=>?_)
       obtain⟨vconv,wv4,hcv,HI_⟩:=HI.out.zek HST.out
       refine zbg (by rfl) rfl (v:=vconv) (w1:=wv4) qz38_ ?_
       clear HI hcv;have HI:=am_ HI_;clear HI_
       refine hK.out _ _ ((zaa ((HI.out).get 0 rfl) 2).trans rfl) (fun hHeld=>?_)
       clear hK K
       refine nm_ 10 ?_
       refine norm_ ?_ (hJ (vconv,.slice (some ⟨gl,0,none⟩) 6 6,.slice (some ⟨gl,0,none⟩) 6 6,vfour) wv4 (HI.out.weaken (fun _ h=>?_)))
       ·
        simp only [zd3];simp only [Act.put,List.setIfInBounds_toArray,List.set_cons_zero,List.set_cons_succ,i64_w,i32_w]
        try rfl
       ·
        refine⟨?_,?_,?_,?_⟩ <;> first|exact h.1|exact h.2.1|exact h.2.2.1|exact h.2.2.2
     ·
      refine go_ Tryz.func91 #[.slice none 0 0,.int .i64 l1.length] ?_
      refine(HI.out.zen ((l1.length:Int))).mono ?_
      rintro e wv2 ⟨vfour,rfl,HI_⟩
      refine⟨_,rfl,?_⟩
      clear HI;have HI:=am_ HI_;clear HI_
      refine hK.out _ _ ((zaa ((HI.out).get 1 rfl) 2).trans rfl) (fun hHeld=>?_)
      clear hK K
      refine nm_ 15 ?_
      refine two_ (i:=6) (j:=8) (Ni:=some 10) (Nj:=some 12) (bs_ 21 7935) (bs_ 21 8127) rfl rfl rfl rfl (by kernel_rfl) (by decide) (by decide) (fun K hK=>?_) (fun K hK=>?_)
      ·
       obtain⟨vconv,wv3,hcv,HI_⟩:=HI.out.zek HST.out
       refine zbg (by rfl) rfl (v:=vconv) (w1:=wv3) qz38_ ?_
       clear HI hcv;have HI:=am_ HI_;clear HI_
       refine hK.out _ _ ((zaa ((HI.out).get 1 rfl) 2).trans rfl) (fun hHeld=>?_)
       clear hK K
       refine nm_ 10 ?_
       refine on_ 8 (some 12) (bs_ 21 8191) (fun K hK=>?_)
       obtain⟨wv4,hcv,HI_⟩:=HI.out.zdy (xs:=[97,98,115,111,114,98]) (by decide)
       replace hcv:(convert 101 101 (.slice (some ⟨gl,0,none⟩) 6 6)).run Tryz.prog wv3=.ok (.slice (some ⟨gl,0,none⟩) 6 6) wv4:=hcv
       refine zbg (by rfl) rfl (v:=.slice (some ⟨gl,0,none⟩) 6 6) (w1:=wv4) qz38_ ?_
       clear HI hcv;have HI:=am_ HI_;clear HI_
       refine hK.out _ _ ((zaa ((HI.out).get 0 rfl) 2).trans rfl) (fun hHeld=>?_)
       clear hK K
       refine nm_ 12 ?_
       refine norm_ ?_ (hJ (vconv,.slice (some ⟨gl,0,none⟩) 6 6,.slice (some ⟨gl,0,none⟩) 6 6,vfour) wv4 (HI.out.weaken (fun _ h=>?_)))
       ·
        simp only [zd3];simp only [Act.put,List.setIfInBounds_toArray,List.set_cons_zero,List.set_cons_succ,i64_w,i32_w]
        try rfl
       ·
        refine⟨?_,?_,?_,?_⟩ <;> first|exact h.1|exact h.2.1|exact h.2.2.1|exact h.2.2.2
      ·
       obtain⟨wv3,hcv,HI_⟩:=HI.out.zdy (xs:=[97,98,115,111,114,98]) (by decide)
       replace hcv:(convert 101 101 (.slice (some ⟨gl,0,none⟩) 6 6)).run Tryz.prog wv2=.ok (.slice (some ⟨gl,0,none⟩) 6 6) wv3:=hcv
       refine zbg (by rfl) rfl (v:=.slice (some ⟨gl,0,none⟩) 6 6) (w1:=wv3) qz38_ ?_
       clear HI hcv;have HI:=am_ HI_;clear HI_
       refine hK.out _ _ ((zaa ((HI.out).get 0 rfl) 2).trans rfl) (fun hHeld=>?_)
       clear hK K
       refine nm_ 12 ?_
       refine on_ 6 (some 10) (bs_ 21 8191) (fun K hK=>?_)
       obtain⟨vconv,wv4,hcv,HI_⟩:=HI.out.zek HST.out
       refine zbg (by rfl) rfl (v:=vconv) (w1:=wv4) qz38_ ?_
       clear HI hcv;have HI:=am_ HI_;clear HI_
       refine hK.out _ _ ((zaa ((HI.out).get 0 rfl) 2).trans rfl) (fun hHeld=>?_)
       clear hK K
       refine nm_ 10 ?_
       refine norm_ ?_ (hJ (vconv,.slice (some ⟨gl,0,none⟩) 6 6,.slice (some ⟨gl,0,none⟩) 6 6,vfour) wv4 (HI.out.weaken (fun _ h=>?_)))
       ·
        simp only [zd3];simp only [Act.put,List.setIfInBounds_toArray,List.set_cons_zero,List.set_cons_succ,i64_w,i32_w]
        try rfl
       ·
        refine⟨?_,?_,?_,?_⟩ <;> first|exact h.1|exact h.2.1|exact h.2.2.1|exact h.2.2.2
    ·
     refine go_ Tryz.func91 #[.slice none 0 0,.int .i64 l1.length] ?_
     refine(HI.out.zen ((l1.length:Int))).mono ?_
     rintro e wv1 ⟨vfour,rfl,HI_⟩
     refine⟨_,rfl,?_⟩
     clear HI;have HI:=am_ HI_;clear HI_
     refine hK.out _ _ ((zaa ((HI.out).get 0 rfl) 2).trans rfl) (fun hHeld=>?_)
     clear hK K
     refine nm_ 15 ?_
     refine two_ (i:=6) (j:=7) (Ni:=some 10) (Nj:=some 11) (bs_ 21 7807) (bs_ 21 7871) rfl rfl rfl rfl (by kernel_rfl) (by decide) (by decide) (fun K hK=>?_) (fun K hK=>?_)
     ·
      obtain⟨vconv,wv2,hcv,HI_⟩:=HI.out.zek HST.out
      refine zbg (by rfl) rfl (v:=vconv) (w1:=wv2) qz38_ ?_
      clear HI hcv;have HI:=am_ HI_;clear HI_
      refine hK.out _ _ ((zaa ((HI.out).get 0 rfl) 2).trans rfl) (fun hHeld=>?_)
      clear hK K
      refine nm_ 10 ?_
      refine on_ 7 (some 11) (bs_ 21 7935) (fun K hK=>?_)
      replace HI:=am_ (HI.out.zhe #[.int .u8 97,.int .u8 98,.int .u8 115,.int .u8 111,.int .u8 114,.int .u8 98] 5)
      refine zbg (by rfl) rfl (v:=.slice (some ⟨wv2.heap.size,0,none⟩) 6 6) (w1:=wv2.alloc (.cells #[.int .u8 97,.int .u8 98,.int .u8 115,.int .u8 111,.int .u8 114,.int .u8 98] 5)) qz38_ ?_
      generalize wv2.alloc (.cells #[.int .u8 97,.int .u8 98,.int .u8 115,.int .u8 111,.int .u8 114,.int .u8 98] 5)=wv3 at HI ⊢
      generalize wv2.heap.size=gl at HI ⊢
      refine hK.out _ _ ((zaa ((HI.out).get 1 rfl) 2).trans rfl) (fun hHeld=>?_)
      clear hK K
      refine nm_ 11 ?_
      refine on_ 8 (some 12) (bs_ 21 8191) (fun K hK=>?_)
      obtain⟨wv4,hcv,HI_⟩:=HI.out.zdy (xs:=[97,98,115,111,114,98]) (by decide)
      replace hcv:(convert 101 101 (.slice (some ⟨gl,0,none⟩) 6 6)).run Tryz.prog wv3=.ok (.slice (some ⟨gl,0,none⟩) 6 6) wv4:=hcv
      refine zbg (by rfl) rfl (v:=.slice (some ⟨gl,0,none⟩) 6 6) (w1:=wv4) qz38_ ?_
      clear HI hcv;have HI:=am_ HI_;clear HI_
      refine hK.out _ _ ((zaa ((HI.out).get 0 rfl) 2).trans rfl) (fun hHeld=>?_)
      clear hK K
      refine nm_ 12 ?_
      refine norm_ ?_ (hJ (vconv,.slice (some ⟨gl,0,none⟩) 6 6,.slice (some ⟨gl,0,none⟩) 6 6,vfour) wv4 (HI.out.weaken (fun _ h=>?_)))
      ·
       simp only [zd3];simp only [Act.put,List.setIfInBounds_toArray,List.set_cons_zero,List.set_cons_succ,i64_w,i32_w]
       try rfl
      ·
       refine⟨?_,?_,?_,?_⟩ <;> first|exact h.1|exact h.2.1|exact h.2.2.1|exact h.2.2.2
     ·
      replace HI:=am_ (HI.out.zhe #[.int .u8 97,.int .u8 98,.int .u8 115,.int .u8 111,.int .u8 114,.int .u8 98] 5)
      refine zbg (by rfl) rfl (v:=.slice (some ⟨wv1.heap.size,0,none⟩) 6 6) (w1:=wv1.alloc (.cells #[.int .u8 97,.int .u8 98,.int .u8 115,.int .u8 111,.int .u8 114,.int .u8 98] 5)) qz38_ ?_
      generalize wv1.alloc (.cells #[.int .u8 97,.int .u8 98,.int .u8 115,.int .u8 111,.int .u8 114,.int .u8 98] 5)=wv2 at HI ⊢
      generalize wv1.heap.size=gl at HI ⊢
      refine hK.out _ _ ((zaa ((HI.out).get 1 rfl) 2).trans rfl) (fun hHeld=>?_)
      clear hK K
      refine nm_ 11 ?_
      refine two_ (i:=6) (j:=8) (Ni:=some 10) (Nj:=some 12) (bs_ 21 7935) (bs_ 21 8127) rfl rfl rfl rfl (by kernel_rfl) (by decide) (by decide) (fun K hK=>?_) (fun K hK=>?_)
      ·
       obtain⟨vconv,wv3,hcv,HI_⟩:=HI.out.zek HST.out
       refine zbg (by rfl) rfl (v:=vconv) (w1:=wv3) qz38_ ?_
       clear HI hcv;have HI:=am_ HI_;clear HI_
       refine hK.out _ _ ((zaa ((HI.out).get 1 rfl) 2).trans rfl) (fun hHeld=>?_)
       clear hK K
       refine nm_ 10 ?_
       refine on_ 8 (some 12) (bs_ 21 8191) (fun K hK=>?_)
       obtain⟨wv4,hcv,HI_⟩:=HI.out.zdy (xs:=[97,98,115,111,114,98]) (by decide)
       replace hcv:(convert 101 101 (.slice (some ⟨gl,0,none⟩) 6 6)).run Tryz.prog wv3=.ok (.slice (some ⟨gl,0,none⟩) 6 6) wv4:=hcv
       refine zbg (by rfl) rfl (v:=.slice (some ⟨gl,0,none⟩) 6 6) (w1:=wv4) qz38_ ?_
       clear HI hcv;have HI:=am_ HI_;clear HI_
       refine hK.out _ _ ((zaa ((HI.out).get 0 rfl) 2).trans rfl) (fun hHeld=>?_)
       clear hK K
       refine nm_ 12 ?_
       refine norm_ ?_ (hJ (vconv,.slice (some ⟨gl,0,none⟩) 6 6,.slice (some ⟨gl,0,none⟩) 6 6,vfour) wv4 (HI.out.weaken (fun _ h=>?_)))
       ·
        simp only [zd3];simp only [Act.put,List.setIfInBounds_toArray,List.set_cons_zero,List.set_cons_succ,i64_w,i32_w]
        try rfl
       ·
        refine⟨?_,?_,?_,?_⟩ <;> first|exact h.1|exact h.2.1|exact h.2.2.1|exact h.2.2.2
      ·
       obtain⟨wv3,hcv,HI_⟩:=HI.out.zdy (xs:=[97,98,115,111,114,98]) (by decide)
       replace hcv:(convert 101 101 (.slice (some ⟨gl,0,none⟩) 6 6)).run Tryz.prog wv2=.ok (.slice (some ⟨gl,0,none⟩) 6 6) wv3:=hcv
       refine zbg (by rfl) rfl (v:=.slice (some ⟨gl,0,none⟩) 6 6) (w1:=wv3) qz38_ ?_
       clear HI hcv;have HI:=am_ HI_;clear HI_
       refine hK.out _ _ ((zaa ((HI.out).get 0 rfl) 2).trans rfl) (fun hHeld=>?_)
       clear hK K
       refine nm_ 12 ?_
       refine on_ 6 (some 10) (bs_ 21 8191) (fun K hK=>?_)
       obtain⟨vconv,wv4,hcv,HI_⟩:=HI.out.zek HST.out
       refine zbg (by rfl) rfl (v:=vconv) (w1:=wv4) qz38_ ?_
       clear HI hcv;have HI:=am_ HI_;clear HI_
       refine hK.out _ _ ((zaa ((HI.out).get 0 rfl) 2).trans rfl) (fun hHeld=>?_)
       clear hK K
       refine nm_ 10 ?_
       refine norm_ ?_ (hJ (vconv,.slice (some ⟨gl,0,none⟩) 6 6,.slice (some ⟨gl,0,none⟩) 6 6,vfour) wv4 (HI.out.weaken (fun _ h=>?_)))
       ·
        simp only [zd3];simp only [Act.put,List.setIfInBounds_toArray,List.set_cons_zero,List.set_cons_succ,i64_w,i32_w]
        try rfl
       ·
        refine⟨?_,?_,?_,?_⟩ <;> first|exact h.1|exact h.2.1|exact h.2.2.1|exact h.2.2.2
   ·
    rintro⟨v0,v1,v2,v3⟩ wj HI0
    have HI:=am_ HI0
    clear HI0
    refine norm_ (a':=?_) ?_ ?_
    rotate_left
    ·
     simp only [zd3];simp only [Act.put,List.setIfInBounds_toArray,List.set_cons_zero,List.set_cons_succ,i64_w,i32_w]
     try rfl
    obtain⟨Aq0,cq0,eq_,_,_⟩:=HI.out.now.1;subst eq_
    obtain⟨Aq2,cq2,eq_,_,_⟩:=HI.out.now.2.1;subst eq_
    obtain⟨Aq3,cq3,eq_,_,_⟩:=HI.out.now.2.2.1;subst eq_
    refine on_ 13 (some 17) (bs_ 21 16383) (fun K hK=>?_)
    refine zbg (by rfl) rfl (v:=.slice (some ⟨wj.heap.size,0,none⟩) 4 4) (w1:=wj.alloc (.cells #[.slice Aq0 (nums_ s0_2).length cq0,.slice Aq2 6 cq2,.slice Aq3 (four_ (l1.length:Int)).length cq3,.slice A1 l1.length c1] 101)) qz38_ ?_
    refine hK.out _ _ ((zaa ((HI.out.alloc _).get 0 rfl) 2).trans rfl) (fun hHeld=>?_)
    clear hK K
    refine nm_ 17 ?_
    refine on_ 14 (some 18) (bs_ 21 32767) (fun K hK=>?_)
    refine go_ Tryz.func135 #[.slice (some ⟨wj.heap.size,0,none⟩) 4 4] ?_
    have hp:=pieces4 (W:=wj) (T:=101) HI.out.now.1 HI.out.now.2.1 HI.out.now.2.2.1 ⟨A1,c1,rfl,HC1.out,HI.out.now.2.2.2⟩
    refine(zep.walk (some ⟨wj.heap.size,0,none⟩) 4 [nums_ s0_2,[97,98,115,111,114,98],four_ (l1.length:Int),l1] _ hp (by have:=HST.out;have:=HL1.out;simp [nums_length,zcy];omega) (by simp)).mono ?_
    rintro e wk ⟨rfl,hb⟩
    rw [HKE.out]
    refine⟨_,rfl,?_⟩
    replace HI:=am_ ((HI.out.alloc _).grow hb)
    clear hb hp
    refine hK.out _ _ ((zaa ((HI.out).get 0 rfl) 2).trans rfl) (fun hHeld=>?_)
    clear hK K
    refine nm_ 18 ?_
    have hk2:wk.cell? ⟨g,2,none⟩=some (.string s0_2):=(zaa HI.out.blk0 2).trans rfl
    have hk3:wk.cell? ⟨g,3,none⟩=some (.int .i64 s0_3):=(zaa HI.out.blk0 3).trans rfl
    have hf2:=zbu HI.out.blk0 2
    have hf3:=zbu HI.out.blk0 3
    refine pu_ 15 19 (bs_ 21 65535) ?_
    refine pu_ 16 20 (bs_ 21 131071) ?_
    refine last_ (i:=17) (N:=none) (bs_ 21 262143) rfl rfl (by kernel_rfl) (by decide) (fun K hK=>?_)
    refine skip_ (w1:=?_) (by rfl) rfl ?_ ?_
    rotate_left
    ·
     go_simp
     rfl
    refine hK.out _ _ ?_
    clear hK K
    refine pu_ 18 21 (bs_ 21 524287) ?_
    refine pu_ 19 22 (bs_ 21 1048575) ?_
    refine last_ (i:=20) (N:=none) (bs_ 21 2097151) rfl rfl (by kernel_rfl) (by decide) (fun K hK=>?_)
    refine skip_ (w1:=?_) (by rfl) rfl ?_ ?_
    rotate_left
    ·
     go_simp
     rfl
    refine hK.out _ _ ?_
    clear hK K
    refine done_ (by kernel_rfl) ?_
    have HI2:=am_ ((HI.out.set0 2 (.string r2)).set0 3 (.int .i64 0))
    clear hk2 hk3 hf2 hf3
    try go_wp2
    first|go_end0|((try simp only [Exit.inBlock,Exit.then]);refine bodyPost_ret (results_none rfl _ _ _) rfl ?_)
    exact⟨by first|rfl|simp,⟨A0,c0,HI2.out.blk0,HGQ.out,HR0.out⟩,HI2.out.agr.onto HB.out (fun k hk=>by obtain rfl:k=g:=hk;exact HGE.out),HI2.out.agr.keep⟩
  ·
   rw [if_neg cl] at h;cases h
 ·
  rw [if_neg cs] at h;cases h
theorem zca.calls (g:Nat) (s0_0:List (S32)) (s0_1:Int) (s0_2:ByteArray) (s0_3:Int) (A1:Option Addr) (c1:Nat) (l1:List Int) (r1:Int) (r2:ByteArray) (r3:Int) (w0 w:World) (hI:IsS38 w0 w g s0_0 s0_1 s0_2 s0_3) (hB:Below w0.heap.size w0 w) (hr1:Kd.C (Kd.int .u8) w A1 l1.length l1) (hc1:l1.length≤c1) (hf1:∀ ad,A1=some ad→0<l1.length→ad.block≠g) (h:zca.f s0_0 s0_1 s0_2 s0_3 l1=some (r1,r2,r3)) :
  Calls Tryz.prog 88 #[.pointer (some ⟨g,0,none⟩),.slice A1 l1.length c1] w fun e w'=>e=.returned (.tuple #[])∧IsS38 w0 w' g s0_0 r1 r2 r3∧Below w0.heap.size w0 w'∧zbn w w' g none:=
 zca.zox g s0_0 s0_1 s0_2 s0_3 A1 c1 l1 r1 r2 r3 w0 w hI hB (Kd.zqb (d:=(Kd.int .u8)) (fun h=>h) hr1 hf1) hc1 h
def zce.l0:Nat→Int→List Int→Int→Int→Option (Int)
 | 0,_,_,_,_=>none
 | k + 1,x3,x6,x7,x8=>if x8<x7 then(if 0≤x8 then(if x8<(x6.length:Int) then(zce.l0 k (Go.bits .or .u64 (IntKind.u64.wrap (x3 * 256)) (IntKind.u64.wrap (rd x6 x8))) x6 x7 (wrap64 (x8 + 1))) else(none)) else(none)) else(some (wrap64 (Int.tmod x3 2130706433)))
def zce.f (k:Nat) (l0:List Int):Option (Int):=zce.l0 k 0 l0 (l0.length:Int) 0
theorem zce.calls (k:Nat) (A0:Option Addr) (c0:Nat) (l0:List Int) (r:Int) (w:World) (hr0:Kd.C (Kd.int .u8) w A0 l0.length l0) (hc0:l0.length≤c0) (h:zce.f k l0=some r) :
  Calls Tryz.prog 140 #[.slice A0 l0.length c0] w fun e w'=>e=.returned (.int .i64 r)∧zbx w w':=by
 have HR0:=am_ hr0
 have HC0:=am_ hc0
 clear hr0 hc0
 have H:(zce.l0 k 0 l0 (l0.length:Int) 0)=some r:=h
 clear h
 have H':=am_ H
 clear H
 go_enter Tryz.func140,Tryz.ntmps140
 go_wp2
 go_loopg [3,8] k (fun kq v3 v8 w'=>∃ (x3_1:Int) (x8_1:Int),v3=.int .u64 x3_1∧v8=.int .i64 x8_1∧zal (zce.l0 kq x3_1 l0 (l0.length:Int) x8_1=some r)∧zal (kq≤k)∧zbx w w')
 case atStart=>exact⟨(0),(0),qz0_,qz0_,H',⟨Nat.le_refl _⟩,by repeat(first|exact zbx.refl _|apply zbx.step)⟩
 case round=>
  clear H'
  try clear c1
  obtain⟨x3_1,x8_1,rfl,rfl,HA,HK1,⟨m1,rfl⟩⟩:=hrel
  cases gk with
  | zero=>exact absurd HA.out (by simp [zce.l0])
  | succ k1=>
   have H:=HA.out
   clear HA
   simp only [zce.l0] at H
   by_cases c2:x8_1<(l0.length:Int)
   ·
    rw [if_pos c2] at H
    have c2b0:decide (x8_1<(l0.length:Int))=true:=decide_eq_true c2
    clear c2
    by_cases c3:0≤x8_1
    ·
     rw [if_pos c3] at H
     have c3b0:decide (0≤x8_1)=true:=decide_eq_true c3
     clear c3
     by_cases c4:x8_1<(l0.length:Int)
     ·
      rw [if_pos c4] at H
      have c4b0:decide (x8_1<(l0.length:Int))=true:=decide_eq_true c4
      clear c4
      have H':=am_ H
      clear H
      have p101:0≤(x8_1:Int):=of_decide_eq_true qz10_
      have q101:x8_1<(l0.length:Int):=of_decide_eq_true qz10_
      obtain⟨ad101,e101,hx101_0⟩:=Kd.at_int HR0.out x8_1 p101 q101
      cases e101
      replace p101:=eq_true p101
      replace q101:=eq_true q101
      go_wp2
      go_roundg k1
      case measure=>have:=HK1.out;omega
      case rel=>exact⟨(Go.bits .or .u64 (IntKind.u64.wrap (x3_1 * 256)) (IntKind.u64.wrap (rd l0 x8_1))),(wrap64 (x8_1 + 1)),qz0_,qz0_,H',⟨qz13_⟩,by repeat(first|exact zbx.refl _|apply zbx.step)⟩
     ·
      rw [if_neg c4] at H
      exact absurd H (by simp)
    ·
     rw [if_neg c3] at H
     exact absurd H (by simp)
   ·
    rw [if_neg c2] at H
    have c2b0:decide (x8_1<(l0.length:Int))=false:=decide_eq_false c2
    clear c2
    obtain rfl:=Option.some.inj H
    go_wp2
    go_ret
    exact⟨qz0_,qz1_⟩
end Go.Proofs.YtgookagndlfehaaGreat.PT
end
section
/- l03Lanes: a text's bytes as words. -/
namespace Go.Proofs.YtgookagndlfehaaGreat.PT
open Go.RowKit Go.Proofs.YtgookagndlfehaaGreatW.PrintWords Go.Proofs.YtgookagndlfehaaGreatW.PrintLast Go.Proofs.YtgookagndlfehaaGreatW.PrintMore
set_option linter.unusedVariables false
set_option linter.unusedSimpArgs false
theorem zod {ts:TypeId} (t:ByteArray) (hu:Tryz.prog.underlying ts=some .string) (j:Nat) (hj:j<t.size) (W:World):(Instr.index ts (.string t) (.int .i64 (j:Int))).run Tryz.prog W=.ok (.int .u8 (rd (nums_ t) (j:Int))) W:=by
 have hu2:=run_underlying (P:=Tryz.prog) hu
 have hlt:j<t.data.toList.length:=by rw [Array.length_toList];exact hj
 have e:rd (nums_ t) (j:Int)=((t.data.toList.getD j 0).toNat:Int):=znl t j
 rw [e]
 simp [Instr.index,asIntOf,hu2,hj,List.getD,hlt]
 rfl
theorem zlh.calls (t:ByteArray) (w:World) (ht:t.size≤200) :
  Calls Tryz.prog 151 #[.string t] w fun e w'=>e=.returned (.agg (uarr .u64 (zdh (nums_ t))))∧Below w.heap.size w w':=by
 have HLEN:=am_ ht
 have hlx:=nums_length t
 have HX:=am_ hlx
 have HI:=am_ (Inv.start w (fun _=>True) (fun _ _=>trivial))
 have hu152:=Tryz.underlying152
 clear ht hlx
 go_enter Tryz.func151,Tryz.ntmps151
 go_wp2_with (first|((with_reducible refine zad (N:=2) rfl ?_);refine zaj rfl (N:=2) rfl (cs:=uarr .u64 z25) (t:=152) bx_ ?_;intro g2 hg w2 hbox hb;replace HI:=am_ ((HI.out).box hg hbox hb);clear hb hbox hg)|((with_reducible refine zad (N:=3) rfl ?_);refine zaj rfl (N:=3) rfl (cs:=uarr .u64 z25) (t:=152) bx_ ?_;intro g3 hg w3 hbox hb;replace HI:=am_ ((HI.out).box hg hbox hb);clear hb hbox hg)|((with_reducible refine za7 (p:=3) (v:=.tmp 5) (t:=152) rfl ?_);go_must (refine wpList_store_row rfl 152 _ _ rfl g3 (uarr .u64 z25) rfl qz36_ 152 (uarr .u64 z25) (Inv.blk0 (HI.out)) (by kernel_rfl) (by rfl) (zdp _ _) ?_;replace HI:=am_ (Inv.put0 (HI.out) (uarr .u64 z25));generalize World.setRow _ g3 (uarr .u64 z25)=w4 at HI ⊢)))
 go_loopg [4] t.size (fun kq v4 w'=>∃ (j:Nat) (out:List Int),v4=.int .i64 j∧zal (j + kq=t.size)∧zal (iter (zeg (nums_ t)) kq j out=zdh (nums_ t))∧zal (out.length=25)∧zal (Inv w NoB w' [blk g3 152 (uarr .u64 out),blk g2 152 (uarr .u64 z25)] (fun _=>True)))
 case atStart=>exact⟨0,z25,rfl,⟨(by omega)⟩,⟨(by unfold zdh;rw [HX.out])⟩,⟨rfl⟩,HI⟩
 case round=>
  clear HI
  obtain⟨j,out,rfl,HJ,HR,HO,HI⟩:=hrel
  have hj:=HJ.out
  cases gk with
  | zero=>
   have c1:decide ((j:Int)<(t.size:Int))=false:=decide_eq_false (by omega)
   have c2:decide (j<t.size)=false:=decide_eq_false (by omega)
   have hi:out=zdh (nums_ t):=HR.out
   subst hi
   clear HR hj
   go_wp2_with (first|((with_reducible refine zad (N:=27) rfl ?_);go_must (refine wpList_load_row rfl 152 _ rfl g3 rfl 152 (uarr .u64 (zdh (nums_ t))) (0,0) _ (HI.out.blk0) hu152 rfl (by rw [zb7,zcg];kernel_rfl) ?_))|((with_reducible refine za7 (p:=2) (v:=.tmp 27) (t:=152) rfl ?_);go_must (refine wpList_store_row rfl 152 _ _ rfl g2 (uarr .u64 (zdh (nums_ t))) rfl qz36_ 152 (uarr .u64 z25) (Inv.blk0 (HI.out.swap)) (by rw [zb7,zcg];kernel_rfl) (by rw [zb7,zb7,zcg];rfl) (zdp _ _) ?_;replace HI:=am_ (Inv.put0 (HI.out.swap) (uarr .u64 (zdh (nums_ t))));generalize World.setRow _ g2 (uarr .u64 (zdh (nums_ t)))=w5 at HI ⊢)))
   simp only [Act.put,List.setIfInBounds_toArray,List.set_cons_zero,List.set_cons_succ]
   refine bodyPost_ret (v:=.agg (uarr .u64 (zdh (nums_ t)))) ?hres rfl ?_
   case hres=>exact results_cell_row (fn:=Tryz.f151) (p:=2) rfl _ _ g2 152 (uarr .u64 (zdh (nums_ t))) (0,0) _ (by first|rfl|(simp;done)) HI.out.blk0 hu152 rfl (by rw [zb7,zcg];kernel_rfl)
   exact⟨rfl,HI.out.below⟩
  | succ k1=>
   have hl:=HLEN.out
   have c1:decide ((j:Int)<(t.size:Int))=true:=decide_eq_true (by omega)
   have c2:decide (j<t.size)=true:=decide_eq_true (by omega)
   have p5:0≤(j:Int):=by omega
   have hix:=zod t Tryz.underlying9 j (by omega)
   have ho:=HO.out
   obtain⟨q,hq⟩:∃ q:Nat,j / 8=q:=⟨_,rfl⟩
   obtain⟨m,hm⟩:∃ m:Nat,8 * (j % 8)=m:=⟨_,rfl⟩
   have hs:wr.cell? ⟨g3,q,none⟩=some (.int .u64 (out.getD q 0)):=zb4 HI.out.blk0 (by omega)
   have hfs:=zbu HI.out.blk0 q
   have e1:wrap64 ((j:Int) / 8)=(q:Int):=by unfold wrap64;omega
   have e2:wrap64 (8 * ((j:Int) % 8))=(m:Int):=by unfold wrap64;omega
   have e3:wrap64 (8 * ((j:Int).tmod 8))=(m:Int):=by rw [Int.tmod_eq_emod_of_nonneg p5];exact e2
   have qq:((q:Int)<25)=True:=eq_true (by omega)
   have qn:(q<25)=True:=eq_true (by omega)
   have e4:IntKind.u64.wrap (m:Int)=(m:Int):=by rw [IntKind.wrap_u64];omega
   have HQ:=am_ hq
   have HM:=am_ hm
   clear hq hm ho hl hj
   go_wp2
   generalize hji0:rd (nums_ t) ↑j=b at hix ⊢
   refine zcn (n:=16) (S:=fun w'=>w'.cell? ⟨g3,q,none⟩=some (.int .u64 (out.getD q 0))) (ds:=[15]) (bs_ 16 0) (by kernel_rfl) rfl rfl hs (fun hHeld=>?_)
   refine pu_ 0 12 (bs_ 16 1) ?_
   refine pu_ 1 13 (bs_ 16 3) ?_
   refine pu_ 2 14 (bs_ 16 7) ?_
   refine tk_ 3 (bs_ 16 15) hHeld ?_
   refine pu_ 4 16 (bs_ 16 31) ?_
   refine pu_ 5 17 (bs_ 16 63) ?_
   refine pu_ 6 18 (bs_ 16 127) ?_
   refine pu_ 7 19 (bs_ 16 255) ?_
   refine pu_ 8 20 (bs_ 16 511) ?_
   refine pu_ 9 21 (bs_ 16 1023) ?_
   refine pu_ 10 22 (bs_ 16 2047) ?_
   refine pu_ 11 23 (bs_ 16 4095) ?_
   refine pu_ 12 24 (bs_ 16 8191) ?_
   refine pu_ 13 25 (bs_ 16 16383) ?_
   refine pu_ 14 26 (bs_ 16 32767) ?_
   refine last_ (i:=15) (N:=none) (bs_ 16 65535) rfl rfl (by kernel_rfl) (by decide) (fun K hK=>?_)
   refine skip_ (w1:=?_) (by rfl) rfl ?_ ?_
   rotate_left
   ·
    go_simp
    rfl
   refine hK.out _ _ ?_
   clear hK K
   refine done_ (by kernel_rfl) ?_
   have HI2:=am_ ((HI.out.set0 q (.int .u64 (Go.bits .or .u64 (out.getD q 0) (IntKind.u64.wrap (IntKind.u64.wrap b * 2 ^ min m 64))))).drew)
   rw [zf1] at HI2
   have hstep:zeg (nums_ t) j out=out.set q (Go.bits .or .u64 (out.getD q 0) (IntKind.u64.wrap (IntKind.u64.wrap b * 2 ^ min m 64))):=by unfold zeg;rw [HQ.out,HM.out,hji0]
   have HR2:=am_ (show iter (zeg (nums_ t)) k1 (j + 1) (zeg (nums_ t) j out)=zdh (nums_ t) from HR.out)
   have HO2:=am_ (show (zeg (nums_ t) j out).length=25 from(zfu (nums_ t) j out).trans HO.out)
   rw [hstep] at HR2 HO2
   clear HI HR HO hs hfs e1 e2 e3 e4 qq qn hstep hix hji0 HQ HM
   generalize out.set q (Go.bits .or .u64 (out.getD q 0) (IntKind.u64.wrap (IntKind.u64.wrap b * 2 ^ min m 64)))=out2 at HI2 HR2 HO2
   try go_wp2
   go_roundg k1
   case measure=>omega
   case rel=>exact⟨j + 1,out2,by have:=HLEN.out;have:=HJ.out;rw [w64_ (by omega) (by omega)];rfl,⟨(by have:=HJ.out;omega)⟩,HR2,HO2,HI2⟩
end Go.Proofs.YtgookagndlfehaaGreat.PT
end
section
/- l03Text: words as text. -/
namespace Go.Proofs.YtgookagndlfehaaGreat.PT
open Go.RowKit Go.Proofs.YtgookagndlfehaaGreatW.PrintWords Go.Proofs.YtgookagndlfehaaGreatW.PrintLast Go.Proofs.YtgookagndlfehaaGreatW.PrintMore
set_option linter.unusedVariables false
set_option linter.unusedSimpArgs false
theorem zmp (ls:List Int):∀ n k j x,n≤k→(iter (zd2 ls) k j x).take (x.length + n)=iter (zd2 ls) n j x
 | 0,k,j,x,_=>by
  rw [show iter (zd2 ls) 0 j x=x from rfl,Nat.add_zero]
  induction k generalizing j x with
  | zero=>exact List.take_length
  | succ k ih=>
   have h:=ih (j + 1) (zd2 ls j x) (Nat.zero_le _)
   rw [zdo]
   have e:x=(zd2 ls j x).take x.length:=by unfold zd2;simp
   have h2:=congrArg (List.take x.length) h
   rw [List.take_take,Nat.min_eq_left (by unfold zd2;simp)] at h2
   rw [h2,←e]
 | n + 1,0,j,x,h=>by omega
 | n + 1,k + 1,j,x,h=>by
  rw [zdo,zdo,←zmp ls n k (j + 1) (zd2 ls j x) (by omega)]
  congr 1
  unfold zd2
  simp
  omega
theorem zlk.calls (ls:List Int) (n:Nat) (w:World) (hls:ls.length=25) (hn:n≤200) :
  Calls Tryz.prog 153 #[.agg (uarr .u64 ls),.int .i64 (n:Int)] w fun e w'=>e=.returned (.string (strOfNums ((text_ ls).take n)))∧Below w.heap.size w w':=by
 have HLEN:=am_ hls
 have HN:=am_ hn
 have HT:=am_ (show iter (zd2 ls) n 0 []=(text_ ls).take n from by unfold text_;rw [←zmp ls n 200 0 [] hn];simp)
 generalize (text_ ls).take n=tt at HT
 have HI:=am_ (Inv.start w (fun _=>True) (fun _ _=>trivial))
 have hu152:=Tryz.underlying152
 clear hls hn
 go_enter Tryz.func153,Tryz.ntmps153
 go_wp2_with (first|((with_reducible refine zad (N:=2) rfl ?_);refine zaj rfl (N:=2) rfl (cs:=uarr .u64 ls) (t:=152) bx_ ?_;intro g2 hg w2 hbox hb;replace HI:=am_ ((HI.out).box hg hbox hb);clear hb hbox hg)|((with_reducible refine zad (N:=7) rfl ?_);refine Kd.R_lit (Kd.int .u8) (w0:=_) _ 5 ?hg (N:=7) ?hd (xs:=([]:List Int)) (inner:=[]) (ok:=fun _=>True) (okp:=fun _=>True) ?hr ?hp (fun _ hk=>hk) trivial (Below.refl _ _) (Nat.le_refl _) (by simp) ?_;(case hd=>rfl);(case hg=>rfl);(case hr=>first|(go_simp;done)|(go_simp;rfl));(case hp=>exact(Reps.none _ _));intro v7 w7 hR hb hg hat;replace HI:=am_ ((HI.out).zd7 hb hR);clear hR hb hg hat))
 go_loopg [5,6] n (fun kq v5 v6 w'=>∃ (j:Nat) (out:List Int) (S:Nat→Prop),v6=.int .i64 j∧zal (j + kq=n)∧zal (iter (zd2 ls) kq j out=tt)∧zal (out.length=j)∧zal (Inv w NoB w' [row (Kd.int .u8) 5 w.heap.size v5 out S,blk g2 152 (uarr .u64 ls)] (fun _=>True)))
 case atStart=>exact⟨0,[],_,rfl,⟨(by omega)⟩,HT,⟨rfl⟩,HI⟩
 case round=>
  clear HI
  obtain⟨j,out,S,rfl,HJ,HR,HO,HI⟩:=hrel
  have hj:=HJ.out
  have hn:=HN.out
  cases gk with
  | zero=>
   have c1:decide ((j:Int)<(n:Int))=false:=decide_eq_false (by omega)
   have c2:decide (j<n)=false:=decide_eq_false (by omega)
   have hi:out=tt:=HR.out
   subst hi
   obtain⟨A,c,rfl,_,hC⟩:=Kd.zgv HI.out.row0
   have hcv:=Kd.znd (c:=c) Tryz.underlying101 Tryz.underlying5 Tryz.underlying9 hC
   clear HR hj hC
   go_wp2
   go_ret
   exact⟨rfl,HI.out.below⟩
  | succ k1=>
   have hl:=HLEN.out
   have c1:decide ((j:Int)<(n:Int))=true:=decide_eq_true (by omega)
   have c2:decide (j<n)=true:=decide_eq_true (by omega)
   have p5:0≤(j:Int):=by omega
   have hs:wr.cell? ⟨g2,j / 8,none⟩=some (.int .u64 (ls.getD (j / 8) 0)):=zb4 HI.out.swap.blk0 (by omega)
   have qn:(j / 8<25)=True:=eq_true (by omega)
   have qi:((j:Int) / 8<25)=True:=eq_true (by omega)
   have e4:IntKind.u64.wrap (8 * ((j:Int) % 8))=8 * ((j:Int) % 8):=by rw [IntKind.wrap_u64];omega
   have HR2:=am_ (show iter (zd2 ls) k1 (j + 1) (out++[(ls.getD (j / 8) 0 / 2 ^ (8 * (j % 8))) % 256])=tt from HR.out)
   clear HR hl
   generalize ls.getD (j / 8) 0=v at hs HR2
   generalize hb:v / 2 ^ (8 * (j % 8))=b at HR2
   go_wp2_with (first|((with_reducible refine zb5 (b:=.append) (xs:=#[.tmp 13,.tmp 24]) rfl ?_);at_builtin;refine Kd.zev (Kd.int .u8) (w0:=_) w.heap.size rfl (.tmp 13) (.tmp 24) 101 5 (.int .u8 0) 1 rfl Tryz.underlying101 info5 rfl (by decide) (by omega) _ out (b % 256) [.int .u8 (b % 256)] _ (fun _=>False) rfl rfl ?aP (fun _ hk=>hk.elim) ?aF (Inv.row0W (HI.out)) (Below.refl _ _) (HI.out).agr.size ?aL ?_;(case aP=>exact rfl);(case aF=>exact(fun _ hk=>.inr hk));(case aL=>have:=HO.out;omega);intro v25 w25 hR hb hg hat;replace HI:=am_ ((HI.out).zkd hb hR (fun _ hk _=>hk) hg);clear hR hb hg hat))
   go_roundg k1
   case measure=>omega
   case rel=>exact⟨j + 1,out++[b % 256],_,by first|rfl|go_num,⟨(by omega)⟩,HR2,⟨(by have:=HO.out;simp;omega)⟩,HI⟩
def zdt.f (a0:Int) (a1:Int):Option (Int):=if a1=0 then(some a0) else(if 0≤a1 then(if 0≤(IntKind.u64.wrap (64 - a1)) then(some (Go.bits .or .u64 (shl .u64 a0 a1) (shr .u64 a0 (IntKind.u64.wrap (64 - a1))))) else(none)) else(none))
theorem zdt.calls (a0:Int) (a1:Int) (r:Int) (w:World) (h:zdt.f a0 a1=some r) :
  Calls Tryz.prog 180 #[.int .u64 a0,.int .u64 a1] w fun e w'=>e=.returned (.int .u64 r)∧zbx w w':=by
 have H:(if a1=0 then(some a0) else(if 0≤a1 then(if 0≤(IntKind.u64.wrap (64 - a1)) then(some (Go.bits .or .u64 (shl .u64 a0 a1) (shr .u64 a0 (IntKind.u64.wrap (64 - a1))))) else(none)) else(none)))=some r:=h
 clear h
 by_cases c3:a1=0
 ·
  rw [if_pos c3] at H
  have c3b0:(a1 == 0)=true:=beq_iff_eq.mpr c3
  have c3b1:(a1 != 0)=false:=bne_eq_false_iff_eq.mpr c3
  clear c3
  obtain rfl:=Option.some.inj H
  go_enter Tryz.func180,Tryz.ntmps180
  go_wp2
  go_ret
  exact⟨qz0_,qz1_⟩
 ·
  rw [if_neg c3] at H
  have c3b0:(a1 == 0)=false:=beq_eq_false_iff_ne.mpr c3
  have c3b1:(a1 != 0)=true:=bne_iff_ne.mpr c3
  by_cases c4:0≤a1
  ·
   rw [if_pos c4] at H
   have c4b0:=eq_true c4
   have c4b1:decide (0≤a1)=true:=decide_eq_true c4
   clear c4
   obtain⟨ji5,hji5⟩:∃ j_:Int,(shl .u64 a0 a1)=j_:=⟨_,rfl⟩
   replace H:(if 0≤(IntKind.u64.wrap (64 - a1)) then(some (Go.bits .or .u64 (ji5) (shr .u64 a0 (IntKind.u64.wrap (64 - a1))))) else(none))=some r:=by first|(rw [hji5] at H;exact H)|(simp only [hji5] at H ⊢;exact H)
   have hji5_:(IntKind.u64.wrap (a0 * 2 ^ min a1.toNat 64))=ji5:=hji5
   have hji5z:a1≤64→(IntKind.u64.wrap (a0 * 2 ^ a1.toNat))=ji5:=zlv hji5
   obtain⟨ji6,hji6⟩:∃ j_:Int,(IntKind.u64.wrap (64 - a1))=j_:=⟨_,rfl⟩
   replace H:(if 0≤(ji6) then(some (Go.bits .or .u64 (ji5) (shr .u64 a0 (ji6)))) else(none))=some r:=by first|(rw [hji6] at H;exact H)|(simp only [hji6] at H ⊢;exact H)
   by_cases c7:0≤(ji6)
   ·
    rw [if_pos c7] at H
    have c7b0:=eq_true c7
    have c7b1:decide (0≤(ji6))=true:=decide_eq_true c7
    clear c7
    obtain⟨ji8,hji8⟩:∃ j_:Int,(shr .u64 a0 (ji6))=j_:=⟨_,rfl⟩
    replace H:(some (Go.bits .or .u64 (ji5) (ji8)))=some r:=by first|(rw [hji8] at H;exact H)|(simp only [hji8] at H ⊢;exact H)
    have hji8_:(a0 / 2 ^ min (ji6).toNat 64)=ji8:=hji8
    have hji8z:(ji6)≤64→(a0 / 2 ^ (ji6).toNat)=ji8:=zjv hji8
    obtain rfl:=Option.some.inj H
    go_enter Tryz.func180,Tryz.ntmps180
    go_wp2
    go_ret
    exact⟨(by first|rfl|(simp;done)|(simp only [←hji5,←hji6,←hji8] <;> (first|rfl|simp))|(simp [*];done)),qz1_⟩
   ·
    rw [if_neg c7] at H
    exact absurd H (by simp)
  ·
   rw [if_neg c4] at H
   exact absurd H (by simp)
end Go.Proofs.YtgookagndlfehaaGreat.PT
end
section
/- l03Permute: a state permuted. -/
namespace Go.Proofs.YtgookagndlfehaaGreat.PT
open Go.RowKit Go.Proofs.YtgookagndlfehaaGreatW.PrintWords Go.Proofs.YtgookagndlfehaaGreatW.PrintLast Go.Proofs.YtgookagndlfehaaGreatW.PrintMore
set_option linter.unusedVariables false
set_option linter.unusedSimpArgs false
theorem zpz {x k:Int} (h0:0≤k) (h1:k≤64):∃ r,zdt.f x k=some r:=by
 unfold zdt.f
 by_cases h:k=0
 ·
  exact⟨_,if_pos h⟩
 ·
  rw [if_neg h,if_pos h0,if_pos (by rw [IntKind.wrap_u64];omega)]
  exact⟨_,rfl⟩
def turn (x k:Int):Int:=(zdt.f x k).getD 0
theorem zqh {x k:Int} (h0:0≤k) (h1:k≤64):zdt.f x k=some (turn x k):=by
 obtain⟨r,h⟩:=zpz (x:=x) h0 h1
 unfold turn
 rw [h]
 rfl
def cpl (x:Int):Int:=Go.bits .xor .u64 IntKind.u64.max x
def bnd (x y:Int):Int:=Go.bits .and .u64 x y
def cS (a:List Int) (x:Nat) (c:List Int):List Int:=c.set x (xr (xr (xr (xr (a.getD x 0) (a.getD (x + 5) 0)) (a.getD (x + 10) 0)) (a.getD (x + 15) 0)) (a.getD (x + 20) 0))
def tS (c:List Int) (i:Nat) (a:List Int):List Int:=a.set i (xr (a.getD i 0) (xr (c.getD ((i + 4) % 5) 0) (turn (c.getD ((i + 1) % 5) 0) 1)))
def bS1 (a:List Int) (x y:Nat) (b:List Int):List Int:=b.set (y + 5 * ((2 * x + 3 * y) % 5)) (turn (a.getD (x + 5 * y) 0) (zcd.getD (x + 5 * y) 0))
def bRw (a:List Int) (x:Nat) (b:List Int):List Int:=iter (bS1 a x) 5 0 b
def hS1 (b:List Int) (x y:Nat) (a:List Int):List Int:=a.set (x + 5 * y) (xr (b.getD (x + 5 * y) 0) (bnd (cpl (b.getD ((x + 1) % 5 + 5 * y) 0)) (b.getD ((x + 2) % 5 + 5 * y) 0)))
def hS (b:List Int) (x:Nat) (a:List Int):List Int:=iter (hS1 b x) 5 0 a
def c_ (a:List Int):List Int:=iter (cS a) 5 0 z5
def t_ (a:List Int):List Int:=iter (tS (c_ a)) 25 0 a
def b_ (a:List Int):List Int:=iter (bRw a) 5 0 z25
def h_ (b a:List Int):List Int:=iter (hS b) 5 0 a
def zfl (r:Nat) (a:List Int):List Int:=roundEnd r (h_ (b_ (t_ a)) (t_ a))
def permS (a:List Int):List Int:=iter zfl 24 0 a
theorem zpi (a:List Int) (j:Nat) (x:List Int):(cS a j x).length=x.length:=by simp [cS]
theorem zp1 (a:List Int) (j:Nat) (x:List Int):(tS a j x).length=x.length:=by simp [tS]
theorem zoh (a:List Int) (i j:Nat) (x:List Int):(bS1 a i j x).length=x.length:=by simp [bS1]
theorem zko (a:List Int) (j:Nat) (x:List Int):(bRw a j x).length=x.length:=zdd (zoh a j) 5 0 x
theorem zou (a:List Int) (i j:Nat) (x:List Int):(hS1 a i j x).length=x.length:=by simp [hS1]
theorem zly (a:List Int) (j:Nat) (x:List Int):(hS a j x).length=x.length:=zdd (zou a j) 5 0 x
theorem znf (a:List Int):(c_ a).length=5:=zdd (zpi a) 5 0 z5
theorem zky (a:List Int):(t_ a).length=a.length:=zdd (zp1 _) 25 0 a
theorem znv (a:List Int):(b_ a).length=25:=zdd (zko a) 5 0 z25
theorem h_length (b a:List Int):(h_ b a).length=a.length:=zdd (zly b) 5 0 a
theorem zh0 (r:Nat) (a:List Int):(zfl r a).length=a.length:=by unfold zfl roundEnd;rw [List.length_set,h_length,zky]
theorem zg3 (a:List Int):(permS a).length=a.length:=zdd zh0 24 0 a
theorem wr_ {n:Int} {p:Nat} (h:n=(p:Int)) (hp:p<1000):wrap64 n=(p:Int):=by rw [h];unfold wrap64;omega
theorem mv1' {i:Nat} (h:i<25):wrap64 ((i:Int) + 4)=(i:Int) + 4:=by unfold wrap64;omega
theorem mv3' {i:Nat} (h:i<25):wrap64 ((i:Int) + 1)=(i:Int) + 1:=by unfold wrap64;omega
theorem mv2' {i p:Nat} (h:i<25) (hp:(i + 4) % 5=p):Int.tmod ((i:Int) + 4) 5=(p:Int):=by rw [Int.tmod_eq_emod_of_nonneg (by omega)];omega
theorem mv4' {i p:Nat} (h:i<25) (hp:(i + 1) % 5=p):Int.tmod ((i:Int) + 1) 5=(p:Int):=by rw [Int.tmod_eq_emod_of_nonneg (by omega)];omega
theorem ix1_:∀ x y:Fin 5,wrap64 ((y.val:Int) + wrap64 (5 * Int.tmod (wrap64 (wrap64 (2 * (x.val:Int)) + wrap64 (3 * (y.val:Int)))) 5))=((y.val + 5 * ((2 * x.val + 3 * y.val) % 5):Nat):Int)∧y.val + 5 * ((2 * x.val + 3 * y.val) % 5)<25:=by decide +kernel
theorem ix1 {x y d:Nat} (hx:x<5) (hy:y<5) (hd:y + 5 * ((2 * x + 3 * y) % 5)=d):wrap64 ((y:Int) + wrap64 (5 * Int.tmod (wrap64 (wrap64 (2 * (x:Int)) + wrap64 (3 * (y:Int)))) 5))=(d:Int)∧d<25:=by rw [←hd];exact ix1_ ⟨x,hx⟩ ⟨y,hy⟩
theorem ix2_:∀ x y:Fin 5,wrap64 ((x.val:Int) + wrap64 (5 * (y.val:Int)))=((x.val + 5 * y.val:Nat):Int)∧x.val + 5 * y.val<25:=by decide +kernel
theorem ix2 {x y d:Nat} (hx:x<5) (hy:y<5) (hd:x + 5 * y=d):wrap64 ((x:Int) + wrap64 (5 * (y:Int)))=(d:Int)∧d<25:=by rw [←hd];exact ix2_ ⟨x,hx⟩ ⟨y,hy⟩
theorem ix3_:∀ x y:Fin 5,(wrap64 (Int.tmod (wrap64 ((x.val:Int) + 1)) 5 + wrap64 (5 * (y.val:Int)))=(((x.val + 1) % 5 + 5 * y.val:Nat):Int)∧(x.val + 1) % 5 + 5 * y.val<25)∧(wrap64 (Int.tmod (wrap64 ((x.val:Int) + 2)) 5 + wrap64 (5 * (y.val:Int)))=(((x.val + 2) % 5 + 5 * y.val:Nat):Int)∧(x.val + 2) % 5 + 5 * y.val<25):=by decide +kernel
theorem ix3 {x y d e:Nat} (hx:x<5) (hy:y<5) (hd:(x + 1) % 5 + 5 * y=d) (he:(x + 2) % 5 + 5 * y=e):(wrap64 (Int.tmod (wrap64 ((x:Int) + 1)) 5 + wrap64 (5 * (y:Int)))=(d:Int)∧d<25)∧(wrap64 (Int.tmod (wrap64 ((x:Int) + 2)) 5 + wrap64 (5 * (y:Int)))=(e:Int)∧e<25):=by rw [←hd,←he];exact ix3_ ⟨x,hx⟩ ⟨y,hy⟩
theorem sh_:∀ i:Fin 25,0≤zcd.getD i.val 0∧zcd.getD i.val 0≤64:=by decide +kernel
theorem sh {i:Nat} (h:i<25):0≤zcd.getD i 0∧zcd.getD i 0≤64:=sh_ ⟨i,h⟩
theorem zj6.calls (w:World) :
  Calls Tryz.prog 178 #[] w fun e w'=>e=.returned (.agg (uarr .u64 zdk))∧Below w.heap.size w w':=by
 have HI:=am_ (Inv.start w (fun _=>True) (fun _ _=>trivial))
 have hu163:=Tryz.underlying163
 go_enter Tryz.func178,Tryz.ntmps178
 go_wp2_with (first|((with_reducible refine zad (N:=0) rfl ?_);refine zaj rfl (N:=0) rfl (cs:=uarr .u64 z24) (t:=163) bx_ ?_;intro g0 hg w0_ hbox hb;replace HI:=am_ ((HI.out).box hg hbox hb);clear hb hbox hg)|((with_reducible refine za7 (p:=0) (v:=.tmp 1) (t:=163) rfl ?_);go_must (refine wpList_store_row rfl 163 _ _ rfl g0 (uarr .u64 zdk) rfl qz36_ 163 (uarr .u64 z24) (Inv.blk0 (HI.out)) (by kernel_rfl) (by rfl) (zdp _ _) ?_;replace HI:=am_ (Inv.put0 (HI.out) (uarr .u64 zdk));generalize World.setRow _ g0 (uarr .u64 zdk)=w1_ at HI ⊢)))
 refine bodyPost_ret (v:=.agg (uarr .u64 zdk)) ?hres rfl ?_
 case hres=>exact results_cell_row (fn:=Tryz.f178) (p:=0) rfl _ _ g0 163 (uarr .u64 zdk) (0,0) _ (by first|rfl|(simp;done)) HI.out.blk0 hu163 rfl (by kernel_rfl)
 exact⟨rfl,HI.out.below⟩
theorem zj5.calls (w:World) :
  Calls Tryz.prog 179 #[] w fun e w'=>e=.returned (.agg (uarr .u64 zcd))∧Below w.heap.size w w':=by
 have HI:=am_ (Inv.start w (fun _=>True) (fun _ _=>trivial))
 have hu165:=Tryz.underlying165
 go_enter Tryz.func179,Tryz.ntmps179
 go_wp2_with (first|((with_reducible refine zad (N:=0) rfl ?_);refine zaj rfl (N:=0) rfl (cs:=uarr .u64 z25) (t:=165) bx_ ?_;intro g0 hg w0_ hbox hb;replace HI:=am_ ((HI.out).box hg hbox hb);clear hb hbox hg)|((with_reducible refine za7 (p:=0) (v:=.tmp 1) (t:=165) rfl ?_);go_must (refine wpList_store_row rfl 165 _ _ rfl g0 (uarr .u64 zcd) rfl qz36_ 165 (uarr .u64 z25) (Inv.blk0 (HI.out)) (by kernel_rfl) (by rfl) (zdp _ _) ?_;replace HI:=am_ (Inv.put0 (HI.out) (uarr .u64 zcd));generalize World.setRow _ g0 (uarr .u64 zcd)=w1_ at HI ⊢)))
 refine bodyPost_ret (v:=.agg (uarr .u64 zcd)) ?hres rfl ?_
 case hres=>exact results_cell_row (fn:=Tryz.f179) (p:=0) rfl _ _ g0 165 (uarr .u64 zcd) (0,0) _ (by first|rfl|(simp;done)) HI.out.blk0 hu165 rfl (by kernel_rfl)
 exact⟨rfl,HI.out.below⟩
theorem zje.calls (a0:List Int) (w:World) (hlen:a0.length=25) :
  Calls Tryz.prog 152 #[.agg (uarr .u64 a0)] w fun e w'=>e=.returned (.agg (uarr .u64 (permS a0)))∧Below w.heap.size w w':=by
 have HL:=am_ hlen
 have hu152:=Tryz.underlying152
 have HTT:=am_ (show iter zfl 24 0 a0=permS a0 from rfl)
 have HTL:=am_ (show (permS a0).length=25 from(zg3 a0).trans hlen)
 generalize permS a0=tt at HTT HTL
 have HI:=am_ (Inv.start w (fun _=>True) (fun _ _=>trivial))
 clear hlen
 go_enter Tryz.func152,Tryz.ntmps152
 go_wp2_with (first|((with_reducible refine zad (N:=1) rfl ?_);refine zaj rfl (N:=1) rfl (cs:=uarr .u64 a0) (t:=152) bx_ ?_;intro g1 hg w1 hbox hb;replace HI:=am_ ((HI.out).box hg hbox hb);clear hb hbox hg)|((with_reducible refine zad (N:=2) rfl ?_);refine zaj rfl (N:=2) rfl (cs:=uarr .u64 z25) (t:=152) bx_ ?_;intro g2 hg w2 hbox hb;replace HI:=am_ ((HI.out).box hg hbox hb);clear hb hbox hg)|(go_at_call 178;refine(zj6.calls _).mono ?_;rintro e w14 ⟨rfl,hb⟩;replace HI:=am_ (HI.out.grow hb);clear hb)|((with_reducible refine zad (N:=3) rfl ?_);refine zaj rfl (N:=3) rfl (cs:=uarr .u64 z24) (t:=163) bx_ ?_;intro g3 hg w3 hbox hb;replace HI:=am_ ((HI.out).box hg hbox hb);clear hb hbox hg)|((with_reducible refine za7 (p:=3) (v:=.tmp 14) (t:=163) rfl ?_);go_must (refine wpList_store_row rfl 163 _ _ rfl g3 (uarr .u64 zdk) rfl qz36_ 163 (uarr .u64 z24) (Inv.blk0 (HI.out)) (by kernel_rfl) (by rfl) (zdp _ _) ?_;replace HI:=am_ (Inv.put0 (HI.out) (uarr .u64 zdk));generalize World.setRow _ g3 (uarr .u64 zdk)=w4 at HI ⊢))|(go_at_call 179;refine(zj5.calls _).mono ?_;rintro e w15 ⟨rfl,hb⟩;replace HI:=am_ (HI.out.grow hb);clear hb)|((with_reducible refine zad (N:=4) rfl ?_);refine zaj rfl (N:=4) rfl (cs:=uarr .u64 z25) (t:=165) bx_ ?_;intro g4 hg w5 hbox hb;replace HI:=am_ ((HI.out).box hg hbox hb);clear hb hbox hg)|((with_reducible refine za7 (p:=4) (v:=.tmp 15) (t:=165) rfl ?_);go_must (refine wpList_store_row rfl 165 _ _ rfl g4 (uarr .u64 zcd) rfl qz36_ 165 (uarr .u64 z25) (Inv.blk0 (HI.out)) (by kernel_rfl) (by rfl) (zdp _ _) ?_;replace HI:=am_ (Inv.put0 (HI.out) (uarr .u64 zcd));generalize World.setRow _ g4 (uarr .u64 zcd)=w6 at HI ⊢)))
 go_loopg [5] 24 (fun kq v5 w'=>∃ (r:Nat) (a:List Int),v5=.int .i64 r∧zal (r + kq=24)∧zal (iter zfl kq r a=tt)∧zal (a.length=25)∧zal (Inv w NoB w' [blk g1 152 (uarr .u64 a),blk g4 165 (uarr .u64 zcd),blk g3 163 (uarr .u64 zdk),blk g2 152 (uarr .u64 z25)] (fun _=>True)))
 case atStart=>exact⟨0,a0,rfl,⟨(by omega)⟩,HTT,HL,⟨HI.out.znm⟩⟩
 case round=>
  clear HTT HL HI
  obtain⟨r,a,rfl,HJ,HR,HL,HI⟩:=hrel
  cases gk with
  | zero=>
   have hj:=HJ.out
   have c1:decide ((r:Int)<24)=false:=decide_eq_false (by omega)
   have c2:decide (r<24)=false:=decide_eq_false (by omega)
   have hi:a=tt:=HR.out
   subst hi
   have hl:=HL.out
   clear HR hj
   go_wp2_with (first|((with_reducible refine zad (N:=148) rfl ?_);go_must (refine wpList_load_row rfl 152 _ rfl g1 rfl 152 (uarr .u64 a) (0,0) _ (HI.out.blk0) hu152 rfl (by rw [zb7,hl];kernel_rfl) ?_))|((with_reducible refine za7 (p:=2) (v:=.tmp 148) (t:=152) rfl ?_);go_must (refine wpList_store_row rfl 152 _ _ rfl g2 (uarr .u64 a) rfl qz36_ 152 (uarr .u64 z25) (Inv.blk0 (HI.out.znm)) (by rw [zb7,hl];kernel_rfl) (by rw [zb7,zb7,hl];rfl) (zdp _ _) ?_;replace HI:=am_ (Inv.put0 (HI.out.znm) (uarr .u64 a));generalize World.setRow _ g2 (uarr .u64 a)=w150 at HI ⊢)))
   simp only [Act.put,List.setIfInBounds_toArray,List.set_cons_zero,List.set_cons_succ]
   refine bodyPost_ret (v:=.agg (uarr .u64 a)) ?hres rfl ?_
   case hres=>exact results_cell_row (fn:=Tryz.f152) (p:=2) rfl _ _ g2 152 (uarr .u64 a) (0,0) _ (by first|rfl|(simp;done)) HI.out.blk0 hu152 rfl (by rw [zb7,hl];kernel_rfl)
   exact⟨rfl,HI.out.below⟩
  | succ k1=>
   have hj:=HJ.out
   have c1:decide ((r:Int)<24)=true:=decide_eq_true (by omega)
   have c2:decide (r<24)=true:=decide_eq_true (by omega)
   have HR2:=am_ (show iter zfl k1 (r + 1) (zfl r a)=tt from HR.out)
   clear HR hj
   go_wp2_with (first|((with_reducible refine zad (N:=6) rfl ?_);refine zaj rfl (N:=6) rfl (cs:=uarr .u64 z5) (t:=167) bx_ ?_;intro g6 hg w7 hbox hb;replace HI:=am_ ((HI.out).box hg hbox hb);clear hb hbox hg)|((with_reducible refine za7 (p:=6) (v:=.tmp 20) (t:=167) rfl ?_);go_must (refine wpList_store_row rfl 167 _ _ rfl g6 (uarr .u64 z5) rfl qz36_ 167 (uarr .u64 z5) (Inv.blk0 (HI.out)) (by kernel_rfl) (by rfl) (zdp _ _) ?_;replace HI:=am_ (Inv.put0 (HI.out) (uarr .u64 z5));generalize World.setRow _ g6 (uarr .u64 z5)=w8 at HI ⊢)))
   clear c1 c2
   have HCD:=am_ (show iter (cS a) 5 0 z5=c_ a from rfl)
   have HCL:=am_ (znf a)
   generalize hC:c_ a=C at HCD HCL
   have HC:=am_ hC
   clear hC
   go_loopg [7] 5 (fun kq v7 w'=>∃ (i:Nat) (c:List Int),v7=.int .i64 i∧zal (i + kq=5)∧zal (iter (cS a) kq i c=C)∧zal (c.length=5)∧zal (Inv w NoB w' [blk g6 167 (uarr .u64 c),blk g1 152 (uarr .u64 a),blk g4 165 (uarr .u64 zcd),blk g3 163 (uarr .u64 zdk),blk g2 152 (uarr .u64 z25)] (fun _=>True)))
   case atStart=>exact⟨0,z5,rfl,⟨(by omega)⟩,HCD,⟨rfl⟩,HI⟩
   case round=>
    clear HCD HI
    obtain⟨i,c,rfl,HJ1,HR1,HL1,HI⟩:=hrel
    cases gk with
    | zero=>
     have hj:=HJ1.out
     have c1:decide ((i:Int)<5)=false:=decide_eq_false (by omega)
     have c2:decide (i<5)=false:=decide_eq_false (by omega)
     have hi:c=C:=HR1.out
     subst hi
     clear HR1 hj HJ1
     go_wp2
     clear c1 c2
     have HTD:=am_ (show iter (tS c) 25 0 a=t_ a by unfold t_;rw [HC.out])
     have HTL2:=am_ ((zky a).trans HL.out)
     generalize hT:t_ a=T at HTD HTL2
     have HT:=am_ hT
     clear hT
     have HI2:=am_ HI.out.swap
     clear HI
     have HI:=HI2
     clear HI2
     go_loopg [8] 25 (fun kq v8 w'=>∃ (i:Nat) (t:List Int),v8=.int .i64 i∧zal (i + kq=25)∧zal (iter (tS c) kq i t=T)∧zal (t.length=25)∧zal (Inv w NoB w' [blk g1 152 (uarr .u64 t),blk g6 167 (uarr .u64 c),blk g4 165 (uarr .u64 zcd),blk g3 163 (uarr .u64 zdk),blk g2 152 (uarr .u64 z25)] (fun _=>True)))
     case atStart=>exact⟨0,a,rfl,⟨(by omega)⟩,HTD,HL,HI⟩
     case round=>
      clear HTD HI
      obtain⟨i,t,rfl,HJ1,HR1,HAL,HI⟩:=hrel
      cases gk with
      | zero=>
       have hj:=HJ1.out
       have c1:decide ((i:Int)<25)=false:=decide_eq_false (by omega)
       have c2:decide (i<25)=false:=decide_eq_false (by omega)
       have hi:t=T:=HR1.out
       subst hi
       clear HR1 hj HJ1 HAL
       have HI2:=am_ HI.out.swap.drop
       clear HI
       have HI:=HI2
       clear HI2
       go_wp2_with (first|((with_reducible refine zad (N:=9) rfl ?_);refine zaj rfl (N:=9) rfl (cs:=uarr .u64 z25) (t:=152) bx_ ?_;intro g9 hg w9 hbox hb;replace HI:=am_ ((HI.out).box hg hbox hb);clear hb hbox hg)|((with_reducible refine za7 (p:=9) (v:=.tmp 71) (t:=152) rfl ?_);go_must (refine wpList_store_row rfl 152 _ _ rfl g9 (uarr .u64 z25) rfl qz36_ 152 (uarr .u64 z25) (Inv.blk0 (HI.out)) (by kernel_rfl) (by rfl) (zdp _ _) ?_;replace HI:=am_ (Inv.put0 (HI.out) (uarr .u64 z25));generalize World.setRow _ g9 (uarr .u64 z25)=w10 at HI ⊢)))
       clear c1 c2
       have HBD:=am_ (show iter (bRw t) 5 0 z25=b_ t from rfl)
       have HBL:=am_ (znv t)
       generalize hB:b_ t=B at HBD HBL
       have HB:=am_ hB
       clear hB
       go_loopg [10] 5 (fun kq v10 w'=>∃ (x:Nat) (b:List Int),v10=.int .i64 x∧zal (x + kq=5)∧zal (iter (bRw t) kq x b=B)∧zal (b.length=25)∧zal (Inv w NoB w' [blk g9 152 (uarr .u64 b),blk g1 152 (uarr .u64 t),blk g4 165 (uarr .u64 zcd),blk g3 163 (uarr .u64 zdk),blk g2 152 (uarr .u64 z25)] (fun _=>True)))
       case atStart=>exact⟨0,z25,rfl,⟨(by omega)⟩,HBD,⟨rfl⟩,HI⟩
       case round=>
        clear HBD HI
        obtain⟨x,b,rfl,HJ1,HR1,HBL2,HI⟩:=hrel
        cases gk with
        | zero=>
         have hj:=HJ1.out
         have c1:decide ((x:Int)<5)=false:=decide_eq_false (by omega)
         have c2:decide (x<5)=false:=decide_eq_false (by omega)
         have hi:b=B:=HR1.out
         subst hi
         clear HR1 hj HJ1 HBL2
         go_wp2
         clear c1 c2
         have HZD:=am_ (show iter (hS b) 5 0 t=h_ b t from rfl)
         generalize hZ:h_ b t=Z at HZD
         have HZ:=am_ hZ
         clear hZ
         have HI2:=am_ HI.out.swap
         clear HI
         have HI:=HI2
         clear HI2
         go_loopg [12] 5 (fun kq v12 w'=>∃ (x:Nat) (z:List Int),v12=.int .i64 x∧zal (x + kq=5)∧zal (iter (hS b) kq x z=Z)∧zal (z.length=25)∧zal (Inv w NoB w' [blk g1 152 (uarr .u64 z),blk g9 152 (uarr .u64 b),blk g4 165 (uarr .u64 zcd),blk g3 163 (uarr .u64 zdk),blk g2 152 (uarr .u64 z25)] (fun _=>True)))
         case atStart=>exact⟨0,t,rfl,⟨(by omega)⟩,HZD,HTL2,HI⟩
         case round=>
          clear HZD HI
          obtain⟨x,z,rfl,HJ1,HR1,HAL,HI⟩:=hrel
          cases gk with
          | zero=>
           have hj:=HJ1.out
           have c1:decide ((x:Int)<5)=false:=decide_eq_false (by omega)
           have c2:decide (x<5)=false:=decide_eq_false (by omega)
           have hi:z=Z:=HR1.out
           subst hi
           clear HR1 hj HJ1
           go_wp2
           clear c1 c2
           have hl:=HAL.out
           have hs0:=zb4 HI.out.blk0 (i:=0) (by omega)
           have hf0:=zbu HI.out.blk0 0
           have hr24:r<24:=by have:=HJ.out;omega
           have h3:wr.heap[g3]?=_:=HI.out.get 3 rfl
           have hs1:wr.cell? ⟨g3,r,none⟩=some (.int .u64 (zdk.getD r 0)):=zb4 h3 (i:=r) hr24
           clear h3
           have hh:=HR2.out
           rw [show zfl r a=z.set 0 (xr (z.getD 0 0) (zdk.getD r 0)) by unfold zfl;rw [HT.out,HB.out,HZ.out];rfl] at hh
           generalize z.getD 0 0=A at hs0 hh
           generalize zdk.getD r 0=D at hs1 hh
           have HR3:=am_ hh
           have HL3:=am_ (show (z.set 0 (xr A D)).length=25 by rw [List.length_set];exact hl)
           have cr:((r:Int)<24)=True:=eq_true (by omega)
           have cn:(r<24)=True:=eq_true hr24
           clear hh hl HR2 HAL hr24
           refine zcn (n:=8) (S:=fun w'=>w'.cell? ⟨g1,0,none⟩=some (.int .u64 A)∧w'.cell? ⟨g3,r,none⟩=some (.int .u64 D)) (ds:=[7]) (bs_ 8 0) (by kernel_rfl) rfl rfl ⟨hs0,hs1⟩ (fun hHeld=>?_)
           refine pu_ 0 141 (bs_ 8 1) ?_
           refine tk_ 1 (bs_ 8 3) hHeld ?_
           refine pu_ 2 143 (bs_ 8 7) ?_
           refine pu_ 3 144 (bs_ 8 15) ?_
           refine tk_ 4 (bs_ 8 31) hHeld ?_
           refine pu_ 5 146 (bs_ 8 63) ?_
           refine pu_ 6 147 (bs_ 8 127) ?_
           refine last_ (i:=7) (N:=none) (bs_ 8 255) rfl rfl (by kernel_rfl) (by decide) (fun K hK=>?_)
           refine skip_ (w1:=?_) (by rfl) rfl ?_ ?_
           rotate_left
           ·
            go_simp
            rfl
           refine hK.out _ _ ?_
           clear hK K
           refine done_ (by kernel_rfl) ?_
           have HI2:=am_ ((HI.out.set0 0 (.int .u64 (xr A D))).swap.drop)
           rw [zf1] at HI2
           clear HI hs0 hs1 hf0
           try go_wp2
           go_roundg k1
           case measure=>omega
           case rel=>exact⟨r + 1,_,by have:=HJ.out;rw [w64_ (by omega) (by omega)];rfl,⟨(by have:=HJ.out;omega)⟩,HR3,HL3,⟨(by(with_reducible repeat(first|refine Inv.drewN ?_ _|refine Inv.drew ?_));exact HI2.out)⟩⟩
          | succ k2=>
           have hj:=HJ1.out
           have c1:decide ((x:Int)<5)=true:=decide_eq_true (by omega)
           have c2:decide (x<5)=true:=decide_eq_true (by omega)
           have HR2i:=am_ (show iter (hS b) k2 (x + 1) (hS b x z)=Z from HR1.out)
           have HYD:=am_ (show iter (hS1 b x) 5 0 z=hS b x z from rfl)
           have HYL:=am_ ((zly b x z).trans HAL.out)
           generalize hS b x z=Y at HR2i HYD HYL
           clear HR1 hj
           go_wp2
           clear c1 c2
           go_loopg [13] 5 (fun kq v13 w'=>∃ (y:Nat) (z:List Int),v13=.int .i64 y∧zal (y + kq=5)∧zal (iter (hS1 b x) kq y z=Y)∧zal (z.length=25)∧zal (Inv w NoB w' [blk g1 152 (uarr .u64 z),blk g9 152 (uarr .u64 b),blk g4 165 (uarr .u64 zcd),blk g3 163 (uarr .u64 zdk),blk g2 152 (uarr .u64 z25)] (fun _=>True)))
           case atStart=>exact⟨0,z,rfl,⟨(by omega)⟩,HYD,HAL,HI⟩
           case round=>
            clear HYD HAL HI z
            obtain⟨y,z,rfl,HJ2,HR3,HAL,HI⟩:=hrel
            cases gk with
            | zero=>
             have hj:=HJ2.out
             have c1:decide ((y:Int)<5)=false:=decide_eq_false (by omega)
             have c2:decide (y<5)=false:=decide_eq_false (by omega)
             have hi:z=Y:=HR3.out
             subst hi
             clear HR3 hj HJ2
             try go_wp2
             clear c1 c2
             go_roundg k2
             case measure=>omega
             case rel=>exact⟨x + 1,_,by have:=HJ1.out;rw [w64_ (by omega) (by omega)];rfl,⟨(by have:=HJ1.out;omega)⟩,HR2i,HAL,HI⟩
            | succ k3=>
             have hj:=HJ2.out
             have c1:decide ((y:Int)<5)=true:=decide_eq_true (by omega)
             have c2:decide (y<5)=true:=decide_eq_true (by omega)
             have hi:=HR3.out
             rw [zdo] at hi
             unfold hS1 at hi
             have hj5:y<5:=by omega
             have hx5:x<5:=by have:=HJ1.out;omega
             have hl:=HAL.out
             have hb9:=HBL.out
             have h9:wr.heap[g9]?=_:=HI.out.get 1 rfl
             generalize hp:x + 5 * y=p at hi
             generalize hq:(x + 1) % 5 + 5 * y=q at hi
             generalize hs:(x + 2) % 5 + 5 * y=s at hi
             obtain⟨f1,b1⟩:=ix2 hx5 hj5 hp
             obtain⟨⟨f2,b2⟩,⟨f3,b3⟩⟩:=ix3 hx5 hj5 hq hs
             have HL2:=am_ (show ∀ v,(z.set p v).length=25 from fun v=>by rw [List.length_set];exact hl)
             clear hp hq hs hj5 hx5 hj
             have hs0:=zb4 h9 (i:=p) (by rw [hb9];exact b1)
             have hs1:=zb4 h9 (i:=q) (by rw [hb9];exact b2)
             have hs2:=zb4 h9 (i:=s) (by rw [hb9];exact b3)
             have hsp:=zb4 HI.out.blk0 (i:=p) (by rw [hl];exact b1)
             have hfs:=zbu HI.out.blk0 p
             clear h9 HR3 hl hb9 HAL
             generalize b.getD p 0=A at hs0 hi
             generalize b.getD q 0=U at hs1 hi
             generalize b.getD s 0=V at hs2 hi
             have HR4:=am_ hi
             have hun:∀ W,(Op.unary .xor (.int .u64 U)).run Tryz.prog W=.ok (.int .u64 (cpl U)) W:=fun W=>rfl
             clear hi
             have e1:=lt25 b1
             have e2:=lt25 b2
             have e3:=lt25 b3
             replace b1:=eq_true b1
             replace b2:=eq_true b2
             replace b3:=eq_true b3
             go_wp2
             refine zcn (n:=31) (S:=fun w'=>w'.cell? ⟨g9,p,none⟩=some (.int .u64 A)∧w'.cell? ⟨g9,q,none⟩=some (.int .u64 U)∧w'.cell? ⟨g9,s,none⟩=some (.int .u64 V)) (ds:=[30]) (bs_ 31 0) (by kernel_rfl) rfl rfl ⟨hs0,hs1,hs2⟩ (fun hHeld=>?_)
             refine pu_ 0 111 (bs_ 31 1) ?_
             refine pu_ 1 112 (bs_ 31 3) ?_
             refine pu_ 2 113 (bs_ 31 7) ?_
             refine pu_ 3 114 (bs_ 31 15) ?_
             refine pu_ 4 115 (bs_ 31 31) ?_
             refine pu_ 5 116 (bs_ 31 63) ?_
             refine pu_ 6 117 (bs_ 31 127) ?_
             refine pu_ 7 118 (bs_ 31 255) ?_
             refine pu_ 8 119 (bs_ 31 511) ?_
             refine tk_ 9 (bs_ 31 1023) hHeld ?_
             refine pu_ 10 121 (bs_ 31 2047) ?_
             refine pu_ 11 122 (bs_ 31 4095) ?_
             refine pu_ 12 123 (bs_ 31 8191) ?_
             refine pu_ 13 124 (bs_ 31 16383) ?_
             refine pu_ 14 125 (bs_ 31 32767) ?_
             refine pu_ 15 126 (bs_ 31 65535) ?_
             refine pu_ 16 127 (bs_ 31 131071) ?_
             refine tk_ 17 (bs_ 31 262143) hHeld ?_
             refine pu_ 18 129 (bs_ 31 524287) ?_
             refine pu_ 19 130 (bs_ 31 1048575) ?_
             refine pu_ 20 131 (bs_ 31 2097151) ?_
             refine pu_ 21 132 (bs_ 31 4194303) ?_
             refine pu_ 22 133 (bs_ 31 8388607) ?_
             refine pu_ 23 134 (bs_ 31 16777215) ?_
             refine pu_ 24 135 (bs_ 31 33554431) ?_
             refine pu_ 25 136 (bs_ 31 67108863) ?_
             refine tk_ 26 (bs_ 31 134217727) hHeld ?_
             refine pu_ 27 138 (bs_ 31 268435455) ?_
             refine pu_ 28 139 (bs_ 31 536870911) ?_
             refine pu_ 29 140 (bs_ 31 1073741823) ?_
             refine last_ (i:=30) (N:=none) (bs_ 31 2147483647) rfl rfl (by kernel_rfl) (by decide) (fun K hK=>?_)
             refine skip_ (w1:=?_) (by rfl) rfl ?_ ?_
             rotate_left
             ·
              go_simp
              rfl
             refine hK.out _ _ ?_
             clear hK K
             refine done_ (by kernel_rfl) ?_
             clear f1 f2 f3 e1 e2 e3 b1 b2 b3 hun
             have HI2:=am_ (HI.out.set0 p (.int .u64 (xr A (bnd (cpl U) V))))
             rw [zf1] at HI2
             clear HI hs0 hs1 hs2 hsp hfs
             try go_wp2
             go_roundg k3
             case measure=>omega
             case rel=>exact⟨y + 1,_,by have:=HJ2.out;rw [w64_ (by omega) (by omega)];rfl,⟨(by have:=HJ2.out;omega)⟩,HR4,⟨HL2.out _⟩,⟨(by(with_reducible repeat(first|refine Inv.drewN ?_ _|refine Inv.drew ?_));exact HI2.out)⟩⟩
        | succ k2=>
         have hj:=HJ1.out
         have c1:decide ((x:Int)<5)=true:=decide_eq_true (by omega)
         have c2:decide (x<5)=true:=decide_eq_true (by omega)
         have HR2i:=am_ (show iter (bRw t) k2 (x + 1) (bRw t x b)=B from HR1.out)
         have HYD:=am_ (show iter (bS1 t x) 5 0 b=bRw t x b from rfl)
         have HYL:=am_ ((zko t x b).trans HBL2.out)
         generalize bRw t x b=Y at HR2i HYD HYL
         clear HR1 hj
         go_wp2
         clear c1 c2
         go_loopg [11] 5 (fun kq v11 w'=>∃ (y:Nat) (b:List Int),v11=.int .i64 y∧zal (y + kq=5)∧zal (iter (bS1 t x) kq y b=Y)∧zal (b.length=25)∧zal (Inv w NoB w' [blk g9 152 (uarr .u64 b),blk g1 152 (uarr .u64 t),blk g4 165 (uarr .u64 zcd),blk g3 163 (uarr .u64 zdk),blk g2 152 (uarr .u64 z25)] (fun _=>True)))
         case atStart=>exact⟨0,b,rfl,⟨(by omega)⟩,HYD,HBL2,HI⟩
         case round=>
          clear HYD HBL2 HI b
          obtain⟨y,b,rfl,HJ2,HR3,HBL,HI⟩:=hrel
          cases gk with
          | zero=>
           have hj:=HJ2.out
           have c1:decide ((y:Int)<5)=false:=decide_eq_false (by omega)
           have c2:decide (y<5)=false:=decide_eq_false (by omega)
           have hi:b=Y:=HR3.out
           subst hi
           clear HR3 hj HJ2
           try go_wp2
           clear c1 c2
           go_roundg k2
           case measure=>omega
           case rel=>exact⟨x + 1,_,by have:=HJ1.out;rw [w64_ (by omega) (by omega)];rfl,⟨(by have:=HJ1.out;omega)⟩,HR2i,HBL,HI⟩
          | succ k3=>
           have hj:=HJ2.out
           have c1:decide ((y:Int)<5)=true:=decide_eq_true (by omega)
           have c2:decide (y<5)=true:=decide_eq_true (by omega)
           have hi:=HR3.out
           rw [zdo] at hi
           unfold bS1 at hi
           have hj5:y<5:=by omega
           have hx5:x<5:=by have:=HJ1.out;omega
           have hl:=HBL.out
           have hla:=HTL2.out
           have h1:wr.heap[g1]?=_:=HI.out.get 1 rfl
           have h4:wr.heap[g4]?=_:=HI.out.get 2 rfl
           generalize hp:x + 5 * y=p at hi
           generalize hd:y + 5 * ((2 * x + 3 * y) % 5)=d at hi
           obtain⟨f1,b1⟩:=ix2 hx5 hj5 hp
           obtain⟨f2,b2⟩:=ix1 hx5 hj5 hd
           have HL2:=am_ (show ∀ v,(b.set d v).length=25 from fun v=>by rw [List.length_set];exact hl)
           clear hp hd hj5 hx5 hj
           have hs0:=zb4 h1 (i:=p) (by rw [hla];exact b1)
           have hs1:wr.cell? ⟨g4,p,none⟩=some (.int .u64 (zcd.getD p 0)):=zb4 h4 (i:=p) b1
           have HSH:=am_ (sh b1)
           have hsd:=zb4 HI.out.blk0 (i:=d) (by rw [hl];exact b2)
           have hfs:=zbu HI.out.blk0 d
           clear h1 h4 HR3 hl hla HBL
           generalize t.getD p 0=A at hs0 hi
           generalize zcd.getD p 0=D at hs1 hi HSH
           have HR4:=am_ hi
           clear hi
           have e1:=lt25 b1
           have e2:=lt25 b2
           replace b1:=eq_true b1
           replace b2:=eq_true b2
           go_wp2
           refine zcn (n:=24) (S:=fun w'=>w'.cell? ⟨g1,p,none⟩=some (.int .u64 A)∧w'.cell? ⟨g4,p,none⟩=some (.int .u64 D)) (ds:=[23]) (bs_ 24 0) (by kernel_rfl) rfl rfl ⟨hs0,hs1⟩ (fun hHeld=>?_)
           refine pu_ 0 80 (bs_ 24 1) ?_
           refine pu_ 1 81 (bs_ 24 3) ?_
           refine pu_ 2 82 (bs_ 24 7) ?_
           refine pu_ 3 83 (bs_ 24 15) ?_
           refine pu_ 4 84 (bs_ 24 31) ?_
           refine pu_ 5 85 (bs_ 24 63) ?_
           refine pu_ 6 86 (bs_ 24 127) ?_
           refine pu_ 7 87 (bs_ 24 255) ?_
           refine pu_ 8 88 (bs_ 24 511) ?_
           refine pu_ 9 89 (bs_ 24 1023) ?_
           refine pu_ 10 90 (bs_ 24 2047) ?_
           refine pu_ 11 91 (bs_ 24 4095) ?_
           refine pu_ 12 92 (bs_ 24 8191) ?_
           refine pu_ 13 93 (bs_ 24 16383) ?_
           refine tk_ 14 (bs_ 24 32767) hHeld ?_
           refine pu_ 15 95 (bs_ 24 65535) ?_
           refine pu_ 16 96 (bs_ 24 131071) ?_
           refine pu_ 17 97 (bs_ 24 262143) ?_
           refine pu_ 18 98 (bs_ 24 524287) ?_
           refine pu_ 19 99 (bs_ 24 1048575) ?_
           refine tk_ 20 (bs_ 24 2097151) hHeld ?_
           refine on_ 21 (some 101) (bs_ 24 4194303) (fun K hK=>?_)
           refine go_ Tryz.func180 #[.int .u64 A,.int .u64 D] ?_
           with_reducible refine(zdt.calls A D (turn A D) _ (zqh HSH.out.1 HSH.out.2)).mono ?_
           rintro e w12 ⟨rfl,⟨m1,rfl⟩⟩
           refine⟨_,rfl,?_⟩
           refine hK.out _ _ ⟨hs0,hs1⟩ (fun hHeld=>?_)
           clear hK K
           refine nm_ 101 ?_
           refine pu_ 22 102 (bs_ 24 8388607) ?_
           refine last_ (i:=23) (N:=none) (bs_ 24 16777215) rfl rfl (by kernel_rfl) (by decide) (fun K hK=>?_)
           refine skip_ (w1:=?_) (by rfl) rfl ?_ ?_
           rotate_left
           ·
            go_simp
            rfl
           refine hK.out _ _ ?_
           clear hK K
           refine done_ (by kernel_rfl) ?_
           clear f1 f2 e1 e2 b1 b2
           have HI2:=am_ (fun n=>by have h:=(HI.out.drewN n).set0 d (.int .u64 (turn A D));rw [zf1] at h;exact h)
           clear HI hs0 hs1 hsd hfs
           try go_wp2
           go_roundg k3
           case measure=>omega
           case rel=>exact⟨y + 1,_,by have:=HJ2.out;rw [w64_ (by omega) (by omega)];rfl,⟨(by have:=HJ2.out;omega)⟩,HR4,⟨HL2.out _⟩,⟨(by(with_reducible repeat(first|refine Inv.drewN ?_ _|refine Inv.drew ?_));exact HI2.out _)⟩⟩
      | succ k2=>
       have hj:=HJ1.out
       have c1:decide ((i:Int)<25)=true:=decide_eq_true (by omega)
       have c2:decide (i<25)=true:=decide_eq_true (by omega)
       have hi:=HR1.out
       rw [zdo] at hi
       unfold tS at hi
       have hi25:i<25:=by omega
       have hl:=HAL.out
       have hcl:=HCL.out
       have h6:wr.heap[g6]?=_:=HI.out.get 1 rfl
       have f3:=mv3' hi25
       generalize hp:(i + 4) % 5=p at hi
       have f2:=mv2' hi25 hp
       have hp5:=mv5 hp
       clear hp
       generalize hq:(i + 1) % 5=q at hi
       have f4:=mv4' hi25 hq
       have hq5:=mv5 hq
       clear hq
       have HL2:=am_ (show ∀ v,(t.set i v).length=25 from fun v=>by rw [List.length_set];exact hl)
       have hs0:=zb4 HI.out.blk0 (i:=i) (by omega)
       have hfs:=zbu HI.out.blk0 i
       have hs1:=zb4 h6 (i:=p) (by omega)
       have hs2:=zb4 h6 (i:=q) (by omega)
       clear h6 HR1 hj hl hcl HAL
       have f1:=mv1' hi25
       have ci:((i:Int)<25)=True:=eq_true (by omega)
       have cn:(i<25)=True:=eq_true hi25
       have pp:=lt5 hp5
       have pq:=lt5 hq5
       have pn:=eq_true hp5
       have qn:=eq_true hq5
       generalize t.getD i 0=A at hs0 hi
       generalize c.getD p 0=U at hs1 hi
       generalize c.getD q 0=V at hs2 hi
       have HR3:=am_ hi
       clear hi hi25 hp5 hq5
       go_wp2
       refine zcn (n:=18) (S:=fun w'=>w'.cell? ⟨g1,i,none⟩=some (.int .u64 A)∧w'.cell? ⟨g6,p,none⟩=some (.int .u64 U)∧w'.cell? ⟨g6,q,none⟩=some (.int .u64 V)) (ds:=[17]) (bs_ 18 0) (by kernel_rfl) rfl rfl ⟨hs0,hs1,hs2⟩ (fun hHeld=>?_)
       refine pu_ 0 54 (bs_ 18 1) ?_
       refine pu_ 1 55 (bs_ 18 3) ?_
       refine tk_ 2 (bs_ 18 7) hHeld ?_
       refine pu_ 3 57 (bs_ 18 15) ?_
       refine pu_ 4 58 (bs_ 18 31) ?_
       refine pu_ 5 59 (bs_ 18 63) ?_
       refine pu_ 6 60 (bs_ 18 127) ?_
       refine tk_ 7 (bs_ 18 255) hHeld ?_
       refine pu_ 8 62 (bs_ 18 511) ?_
       refine pu_ 9 63 (bs_ 18 1023) ?_
       refine pu_ 10 64 (bs_ 18 2047) ?_
       refine pu_ 11 65 (bs_ 18 4095) ?_
       refine tk_ 12 (bs_ 18 8191) hHeld ?_
       refine on_ 13 (some 67) (bs_ 18 16383) (fun K hK=>?_)
       refine go_ Tryz.func180 #[.int .u64 V,.int .u64 1] ?_
       with_reducible refine(zdt.calls V 1 (turn V 1) _ (zqh (by decide) (by decide))).mono ?_
       rintro e w12 ⟨rfl,⟨m1,rfl⟩⟩
       refine⟨_,rfl,?_⟩
       refine hK.out _ _ ⟨hs0,hs1,hs2⟩ (fun hHeld=>?_)
       clear hK K
       refine nm_ 67 ?_
       refine pu_ 14 68 (bs_ 18 32767) ?_
       refine pu_ 15 69 (bs_ 18 65535) ?_
       refine pu_ 16 70 (bs_ 18 131071) ?_
       refine last_ (i:=17) (N:=none) (bs_ 18 262143) rfl rfl (by kernel_rfl) (by decide) (fun K hK=>?_)
       refine skip_ (w1:=?_) (by rfl) rfl ?_ ?_
       rotate_left
       ·
        go_simp
        rfl
       refine hK.out _ _ ?_
       clear hK K
       refine done_ (by kernel_rfl) ?_
       clear f1 f2 f3 f4 pp pq pn qn
       have HI2:=am_ (fun n=>by have h:=(HI.out.drewN n).set0 i (.int .u64 (xr A (xr U (turn V 1))));rw [zf1] at h;exact h)
       clear HI hs0 hs1 hs2 hfs
       try go_wp2
       go_roundg k2
       case measure=>omega
       case rel=>exact⟨i + 1,_,by have:=HJ1.out;rw [w64_ (by omega) (by omega)];rfl,⟨(by have:=HJ1.out;omega)⟩,HR3,⟨HL2.out _⟩,⟨(by(with_reducible repeat(first|refine Inv.drewN ?_ _|refine Inv.drew ?_));exact HI2.out _)⟩⟩
    | succ k2=>
     have hj:=HJ1.out
     have c1:decide ((i:Int)<5)=true:=decide_eq_true (by omega)
     have c2:decide (i<5)=true:=decide_eq_true (by omega)
     have hi:=HR1.out
     rw [zdo] at hi
     unfold cS at hi
     have hi5:i<5:=by omega
     have hl:=HL.out
     have hl1:=HL1.out
     have h1:wr.heap[g1]?=_:=HI.out.get 1 rfl
     have HL2:=am_ (show ∀ v,(c.set i v).length=5 from fun v=>by rw [List.length_set];exact hl1)
     have hs0:=zb4 h1 (i:=i) (by omega)
     have hs1:=zb4 h1 (i:=i + 5) (by omega)
     have hs2:=zb4 h1 (i:=i + 10) (by omega)
     have hs3:=zb4 h1 (i:=i + 15) (by omega)
     have hs4:=zb4 h1 (i:=i + 20) (by omega)
     have hs6:=zb4 HI.out.blk0 (i:=i) (by omega)
     have hfs:=zbu HI.out.blk0 i
     clear h1 HR1 hj hl hl1
     have ci:((i:Int)<5)=True:=eq_true (by omega)
     have cn:(i<5)=True:=eq_true (by omega)
     have di:((i:Int)<25)=True:=eq_true (by omega)
     have dn:(i<25)=True:=eq_true (by omega)
     have f1:=wr_ (n:=(i:Int) + 5) (p:=i + 5) (by omega) (by omega)
     have f2:=wr_ (n:=(i:Int) + 10) (p:=i + 10) (by omega) (by omega)
     have f3:=wr_ (n:=(i:Int) + 15) (p:=i + 15) (by omega) (by omega)
     have f4:=wr_ (n:=(i:Int) + 20) (p:=i + 20) (by omega) (by omega)
     have b1:i + 5<25:=by omega
     have b2:i + 10<25:=by omega
     have b3:i + 15<25:=by omega
     have b4:i + 20<25:=by omega
     generalize a.getD i 0=A0 at hs0 hi
     generalize a.getD (i + 5) 0=A1 at hs1 hi
     generalize a.getD (i + 10) 0=A2 at hs2 hi
     generalize a.getD (i + 15) 0=A3 at hs3 hi
     generalize a.getD (i + 20) 0=A4 at hs4 hi
     have HR3:=am_ hi
     clear hi hi5
     generalize i + 5=p1 at f1 b1 hs1
     generalize i + 10=p2 at f2 b2 hs2
     generalize i + 15=p3 at f3 b3 hs3
     generalize i + 20=p4 at f4 b4 hs4
     have e1:=lt25 b1
     have e2:=lt25 b2
     have e3:=lt25 b3
     have e4:=lt25 b4
     replace b1:=eq_true b1
     replace b2:=eq_true b2
     replace b3:=eq_true b3
     replace b4:=eq_true b4
     go_wp2
     refine zcn (n:=26) (S:=fun w'=>w'.cell? ⟨g1,i,none⟩=some (.int .u64 A0)∧w'.cell? ⟨g1,p1,none⟩=some (.int .u64 A1)∧w'.cell? ⟨g1,p2,none⟩=some (.int .u64 A2)∧w'.cell? ⟨g1,p3,none⟩=some (.int .u64 A3)∧w'.cell? ⟨g1,p4,none⟩=some (.int .u64 A4)) (ds:=[25]) (bs_ 26 0) (by kernel_rfl) rfl rfl ⟨hs0,hs1,hs2,hs3,hs4⟩ (fun hHeld=>?_)
     refine pu_ 0 25 (bs_ 26 1) ?_
     refine pu_ 1 26 (bs_ 26 3) ?_
     refine pu_ 2 27 (bs_ 26 7) ?_
     refine tk_ 3 (bs_ 26 15) hHeld ?_
     refine pu_ 4 29 (bs_ 26 31) ?_
     refine pu_ 5 30 (bs_ 26 63) ?_
     refine pu_ 6 31 (bs_ 26 127) ?_
     refine tk_ 7 (bs_ 26 255) hHeld ?_
     refine pu_ 8 33 (bs_ 26 511) ?_
     refine pu_ 9 34 (bs_ 26 1023) ?_
     refine pu_ 10 35 (bs_ 26 2047) ?_
     refine pu_ 11 36 (bs_ 26 4095) ?_
     refine tk_ 12 (bs_ 26 8191) hHeld ?_
     refine pu_ 13 38 (bs_ 26 16383) ?_
     refine pu_ 14 39 (bs_ 26 32767) ?_
     refine pu_ 15 40 (bs_ 26 65535) ?_
     refine pu_ 16 41 (bs_ 26 131071) ?_
     refine tk_ 17 (bs_ 26 262143) hHeld ?_
     refine pu_ 18 43 (bs_ 26 524287) ?_
     refine pu_ 19 44 (bs_ 26 1048575) ?_
     refine pu_ 20 45 (bs_ 26 2097151) ?_
     refine pu_ 21 46 (bs_ 26 4194303) ?_
     refine tk_ 22 (bs_ 26 8388607) hHeld ?_
     refine pu_ 23 48 (bs_ 26 16777215) ?_
     refine pu_ 24 49 (bs_ 26 33554431) ?_
     refine last_ (i:=25) (N:=none) (bs_ 26 67108863) rfl rfl (by kernel_rfl) (by decide) (fun K hK=>?_)
     refine skip_ (w1:=?_) (by rfl) rfl ?_ ?_
     rotate_left
     ·
      go_simp
      rfl
     refine hK.out _ _ ?_
     clear hK K
     refine done_ (by kernel_rfl) ?_
     clear f1 f2 f3 f4 e1 e2 e3 e4 b1 b2 b3 b4
     have HI2:=am_ ((HI.out.set0 i (.int .u64 (xr (xr (xr (xr A0 A1) A2) A3) A4))).drew)
     rw [zf1] at HI2
     clear HI hs0 hs1 hs2 hs3 hs4 hs6 hfs
     try go_wp2
     go_roundg k2
     case measure=>omega
     case rel=>exact⟨i + 1,_,by have:=HJ1.out;rw [w64_ (by omega) (by omega)];rfl,⟨(by have:=HJ1.out;omega)⟩,HR3,⟨HL2.out _⟩,HI2⟩
end Go.Proofs.YtgookagndlfehaaGreat.PT
end
section
/- l03Hash: the reference's hash of a text. -/
namespace Go.Proofs.YtgookagndlfehaaGreat.PT
open Go.RowKit Go.Proofs.YtgookagndlfehaaGreatW.PrintWords Go.Proofs.YtgookagndlfehaaGreatW.PrintLast Go.Proofs.YtgookagndlfehaaGreatW.PrintMore
set_option linter.unusedVariables false
set_option linter.unusedSimpArgs false
def zf4:Nat→List Int→List Int→List Int
 | 0,_,s=>s
 | k + 1,ys,s=>zf4 k (ys.drop 136) (permS (xors (zdh (ys.take 136)) s))
def kecS (xs:List Int):ByteArray:=strOfNums ((text_ (zf4 ((padded xs).length / 136) (mark (padded xs)) z25)).take 32)
def Byt (xs:List Int):Prop:=∀ x,x∈xs→0≤x∧x<256
theorem nums_byt (t:ByteArray):Byt (nums_ t):=by
 intro x hx
 unfold nums_ at hx
 obtain⟨b,_,rfl⟩:=List.mem_map.1 hx
 have:=b.toNat_lt
 omega
theorem ziw {xs:List Int} (h:Byt xs):nums_ (strOfNums xs)=xs:=by
 unfold nums_
 rw [strOfNums_data,List.map_map]
 refine(List.map_congr_left (fun x hx=>?_)).trans (List.map_id xs)
 obtain⟨h0,h1⟩:=h x hx
 simp only [Function.comp,id]
 rw [UInt8.toNat_ofNat']
 omega
theorem zpj:∀ b:Fin 256,0≤Go.bits .or .u8 (b.val:Int) 128∧Go.bits .or .u8 (b.val:Int) 128<256:=by decide +kernel
theorem zom {xs:List Int} (h:Byt xs):Byt (padded xs):=by
 intro x hx
 unfold padded at hx
 rcases List.mem_append.1 hx with hx|hx
 ·
  rcases List.mem_append.1 hx with hx|hx
  ·
   exact h x hx
  ·
   simp at hx;omega
 ·
  have:=(List.mem_replicate.1 hx).2;omega
theorem mark_byt {ys:List Int} (h:Byt ys) (hn:0<ys.length):Byt (mark ys):=by
 intro x hx
 unfold mark at hx
 rcases List.mem_or_eq_of_mem_set hx with hx|hx
 ·
  exact h x hx
 ·
  have h2:=h (rdOf 0 ys ((ys.length - 1:Nat):Int)) (by unfold rdOf;simp [List.getD,show ys.length - 1<ys.length by omega])
  have h3:=zpj ⟨(rdOf 0 ys ((ys.length - 1:Nat):Int)).toNat,(by omega)⟩
  simp only [Int.toNat_of_nonneg h2.1] at h3
  rw [hx]
  exact h3
theorem byt_mid {xs:List Int} (h:Byt xs) (a b:Nat):Byt ((xs.take b).drop a):=fun x hx=>h x (List.mem_of_mem_take (List.mem_of_mem_drop hx))
theorem zm8 (ys:List Int):(mark ys).length=ys.length:=by unfold mark;rw [List.length_set]
theorem zcv.zox (t:ByteArray) (w:World) (ht:t.size≤2000000) :
  Calls Tryz.prog 116 #[.string t] w fun e w'=>e=.returned (.string (kecS (nums_ t)))∧Below w.heap.size w w':=by
 have HLEN:=am_ (show (nums_ t).length≤2000000 by rw [nums_length];exact ht)
 have hu152:=Tryz.underlying152
 have HKS:=am_ (show strOfNums ((text_ (zf4 ((padded (nums_ t)).length / 136) (mark (padded (nums_ t))) z25)).take 32)=kecS (nums_ t) from rfl)
 generalize kecS (nums_ t)=ks at HKS ⊢
 have HBY:=am_ (nums_byt t)
 obtain⟨i5,hi5,_,hsz5,_⟩:=info_parts info5
 have HI5:=am_ hi5
 have HZ5:=am_ hsz5
 have HRT:=am_ (RowT.bytes w t ht)
 have hcv:=Go.Lib.run_convert_string_bytes w 9 101 5 t Tryz.underlying9 Tryz.underlying101 Tryz.underlying5
 have HBW:=am_ (zgk w t)
 generalize Go.Lib.bytesWorld w 5 t=wb at HRT hcv HBW
 have HI:=am_ ((Inv.start w (fun _=>True) (fun _ _=>trivial)).pushT HBW.out HRT.out)
 generalize nums_ t=xs at HLEN HKS HBY HRT HI
 generalize Value.slice (some ⟨w.heap.size,0,none⟩) t.size (grownCap w t.size 0 5)=vb at HRT hcv HI
 clear hi5 hsz5 ht HRT HBW
 go_enter Tryz.func116,Tryz.ntmps116
 go_wp2_with (first|((with_reducible refine zb5 (b:=.append) (xs:=#[.tmp 9,.tmp 10]) rfl ?_);at_builtin;refine zkn (base:=w.heap.size) rfl (.tmp 9) (.tmp 10) rfl _ _ (1) rfl rfl (Inv.rowT0 HI.out) ?aL HI.out.agr.size ?_;(case aL=>have:=HLEN.out;omega);intro v11 w11 hR hg hat;replace HI:=am_ (HI.out.stepT hg hR hat);clear hR hg hat))
 clear hcv
 generalize hpd:padded xs=pd at HKS
 have HPD:=am_ hpd
 have HM:=am_ (show pd.length % 136=0∧pd.length≤4000200∧1≤pd.length by rw [←hpd];exact⟨(zgg (by have:=HLEN.out;omega)).1,(zgg (by have:=HLEN.out;omega)).2,(by unfold padded;simp;omega)⟩)
 have HPB:=am_ (show Byt pd by rw [←hpd];exact zom HBY.out)
 unfold padded at hpd
 have HP0:=am_ hpd
 clear hpd
 go_loopg [3] (padN (xs.length + 1)) (fun kq v3 w'=>∃ (o:List Int),zal (o++List.replicate kq 0=pd)∧zal (kq<136)∧zal (Inv w NoB w' [rowT w.heap.size v3 o] (fun _=>True)))
 case atStart=>exact⟨xs++[1],HP0,⟨Nat.mod_lt _ (by decide)⟩,HI⟩
 case round=>
  clear HI HP0
  obtain⟨o,HR,HQ,HI⟩:=hrel
  have hle:=congrArg List.length HR.out
  rw [List.length_append,List.length_replicate] at hle
  have hm:=HM.out
  have hq:=HQ.out
  cases gk with
  | zero=>
   have hi:o=pd:=by have h:=HR.out;rw [List.replicate_zero,List.append_nil] at h;exact h
   subst hi
   obtain⟨hm1,hm2,hm3⟩:=hm
   have m2:(o.length:Int) % 136=0:=by omega
   obtain⟨go,co,cur,fz,rfl,_,_,_,hco,_⟩:=id HI.out.rowT0
   obtain⟨n1,hn1⟩:∃ n1:Nat,o.length - 1=n1:=⟨_,rfl⟩
   have e10:wrap64 ((o.length:Int) - 1)=(n1:Int):=by unfold wrap64;omega
   have q10:((n1:Int)<(o.length:Int))=True:=eq_true (by omega)
   have q10n:(n1<o.length)=True:=eq_true (by omega)
   obtain⟨hx10,hf10⟩:=HI.out.rowT0.cell (g:=go) rfl (j:=n1) (by omega)
   have hmk:mark o=o.set n1 (Go.bits .or .u8 (o.getD n1 0) 128):=by unfold mark rdOf;rw [hn1,Int.toNat_natCast]
   have HML:=am_ (zm8 o)
   have HMB:=am_ (mark_byt HPB.out (show 0<o.length by omega))
   have HI2:=am_ (Inv.freeze (HI.out.stepT (w1:=wr.setCell ⟨go,n1,none⟩ (.int .u8 (Go.bits .or .u8 (o.getD n1 0) 128))) ⟨rfl,rfl,rfl,by simp [World.setCell],fun k _ hne=>Below.heap_setCell wr ⟨go,n1,none⟩ _ k (fun he=>hne (by simp [Value.ownBlock,he]))⟩ (HI.out.rowT0.set (g:=go) rfl (i:=n1) (by omega) _) (.inl rfl)))
   rw [←hmk] at HI2
   generalize mark o=mk at HKS HML HMB HI2
   generalize o.getD n1 0=b at hx10 HI2
   have HI3:=am_ (HI2.out.weaken (G:=fun w'=>(Kd.int .u8).C w' (some ⟨go,0,none⟩) mk.length mk∧True) (fun w' h=>by obtain⟨A,c,e,_,hC⟩:=RowT.reads h.1;injection e with e1 e2 e3;rw [e1];exact⟨hC,trivial⟩))
   have HCC:=am_ (show mk.length≤co by rw [HML.out];exact hco)
   have HOL:=am_ (show o.length % 136=0∧o.length≤4000200 from⟨hm1,hm2⟩)
   clear HR HQ hle hm1 hm2 hm3 hq hmk HI HI2 hn1 hco
   have HI:=HI3
   clear HI3
   go_wp2_with (first|((with_reducible refine za7 (t:=5) (p:=26) (v:=.tmp 25) rfl ?_);(refine zfd (t:=5) (p:=26) (v:=.tmp 25) (w1:=wr.setCell ⟨go,n1,none⟩ (.int .u8 (Go.bits .or .u8 b 128))) rfl rfl rfl ?hr ?_);(case hr=>first|(go_simp;done)|(go_simp;rfl));(intro w13 hw);rw [←hw] at HI;clear hw)|((with_reducible refine zad (N:=4) rfl ?_);refine zaj rfl (N:=4) rfl (cs:=uarr .u64 z25) (t:=152) bx_ ?_;intro g4 hg w14 hbox hb;replace HI:=am_ ((HI.out).box hg hbox hb);clear hb hbox hg)|((with_reducible refine za7 (p:=4) (v:=.tmp 27) (t:=152) rfl ?_);go_must (refine wpList_store_row rfl 152 _ _ rfl g4 (uarr .u64 z25) rfl qz36_ 152 (uarr .u64 z25) (Inv.blk0 (HI.out)) (by kernel_rfl) (by rfl) (zdp _ _) ?_;replace HI:=am_ (Inv.put0 (HI.out) (uarr .u64 z25));generalize World.setRow _ g4 (uarr .u64 z25)=w15 at HI ⊢)))
   clear m2 e10 q10 q10n hx10 hf10
   rw [←HML.out] at HKS HOL
   generalize hA:(some ⟨go,0,none⟩:Option Addr)=A at HI ⊢
   clear hA
   rw [←HML.out]
   have HTT:=am_ (show zf4 (mk.length / 136) (mk.drop 0) z25=zf4 (mk.length / 136) mk z25 from rfl)
   generalize zf4 (mk.length / 136) mk z25=tt at HKS HTT
   go_loopg [5] (mk.length / 136) (fun kq v5 w'=>∃ (q:Nat) (s:List Int),v5=.int .i64 q∧zal (q + 136 * kq=mk.length)∧zal (zf4 kq (mk.drop q) s=tt)∧zal (s.length=25)∧zal (Inv w NoB w' [blk g4 152 (uarr .u64 s)] (fun w=>(Kd.int .u8).C w A mk.length mk∧True)))
   case atStart=>exact⟨0,z25,rfl,⟨(by have:=HOL.out;omega)⟩,HTT,⟨rfl⟩,HI⟩
   case round=>
    clear HI HTT
    obtain⟨q,s,rfl,HJ,HR,HSL,HI⟩:=hrel
    have hj:=HJ.out
    cases gk with
    | zero=>
     have c1:decide ((q:Int)<(mk.length:Int))=false:=decide_eq_false (by omega)
     have c2:decide (q<mk.length)=false:=decide_eq_false (by omega)
     have hi:s=tt:=HR.out
     subst hi
     have hl:=HSL.out
     clear HR hj
     go_wp2_with (first|((with_reducible refine zad (N:=55) rfl ?_);go_must (refine wpList_load_row rfl 152 _ rfl g4 rfl 152 (uarr .u64 s) (0,0) _ (HI.out.blk0) hu152 rfl (by rw [zb7,hl];kernel_rfl) ?_))|(go_at_call 153;(refine(zlk.calls s 32 _ hl (by decide)).mono ?_);rintro e w56 ⟨rfl,hb⟩;replace HI:=am_ (HI.out.grow hb);clear hb))
     go_ret
     refine⟨?_,HI.out.below⟩
     rw [←HKS.out]
     rfl
    | succ k1=>
     have c1:decide ((q:Int)<(mk.length:Int))=true:=decide_eq_true (by omega)
     have c2:decide (q<mk.length)=true:=decide_eq_true (by omega)
     have hml:mk.length≤4000200:=HOL.out.2
     have e37:wrap64 ((q:Int) + 136)=(q:Int) + 136:=by unfold wrap64;omega
     obtain⟨A2,hcut,hC2,hc2⟩:=zh2 (P:=Tryz.prog) (k:=.u8) 101 5 Tryz.underlying101 HI5.out HZ5.out A co mk (q:Int) ((q:Int) + 136) (by omega) (by omega) (by omega) HCC.out
     have hC3:=Kd.zfq (h1:=fun _=>rfl) (hC2 _ (Kd.zfr HI.out.now.1))
     have hmid:(mk.take ((q:Int) + 136).toNat).drop (q:Int).toNat=(mk.drop q).take 136:=by
      rw [show ((q:Int) + 136).toNat=q + 136 by omega,Int.toNat_natCast,List.drop_take]
      congr 1
      omega
     have hpl:((mk.drop q).take 136).length=136:=by rw [List.length_take,List.length_drop];omega
     rw [hmid] at hcut hC3
     have HPC:=am_ (ziw (show Byt ((mk.drop q).take 136) from fun x hx=>HMB.out x (List.mem_of_mem_drop (List.mem_of_mem_take hx))))
     have hd2:(mk.drop q).drop 136=mk.drop (q + 136):=by rw [List.drop_drop]
     have HR2:=am_ (show zf4 k1 (mk.drop (q + 136)) (permS (xors (zdh ((mk.drop q).take 136)) s))=tt by rw [←hd2];exact HR.out)
     generalize (mk.drop q).take 136=pc at hcut hC3 hpl HPC HR2
     have hcv:=fun c=>Kd.znd (P:=Tryz.prog) (src:=101) (dst:=9) (c:=c) Tryz.underlying101 Tryz.underlying5 Tryz.underlying9 hC3
     have HPS:=am_ (show (strOfNums pc).size≤200 by rw [strOfNums_size,hpl];decide)
     clear hC2 hc2 hC3 hmid hpl hd2 HR hj hml
     have hcv1:=hcv (co - q)
     clear hcv
     go_wp2_with (first|(go_at_call 151;(refine(zlh.calls (strOfNums pc) _ HPS.out).mono ?_);rintro e w40 ⟨rfl,hb⟩;replace HI:=am_ (HI.out.grow hb);clear hb)|((with_reducible refine zad (N:=6) rfl ?_);refine zaj rfl (N:=6) rfl (cs:=uarr .u64 z25) (t:=152) bx_ ?_;intro g6 hg w41 hbox hb;replace HI:=am_ ((HI.out).box hg hbox hb);clear hb hbox hg)|((with_reducible refine za7 (p:=6) (v:=.tmp 40) (t:=152) rfl ?_);go_must (refine wpList_store_row rfl 152 _ _ rfl g6 (uarr .u64 (zdh (nums_ (strOfNums pc)))) rfl qz36_ 152 (uarr .u64 z25) (Inv.blk0 (HI.out)) (by rw [zb7,zcg];kernel_rfl) (by rw [zb7,zb7,zcg];rfl) (zdp _ _) ?_;replace HI:=am_ (Inv.put0 (HI.out) (uarr .u64 (zdh (nums_ (strOfNums pc)))));generalize World.setRow _ g6 (uarr .u64 (zdh (nums_ (strOfNums pc))))=w42 at HI ⊢)))
     clear hcut hcv1 e37 c1 c2
     rw [HPC.out] at HI ⊢
     have HLL:=am_ (zcg pc)
     generalize zdh pc=l at HI HR2 HLL ⊢
     have HXL:=am_ ((zhf l s).trans HSL.out)
     have HXD:=am_ (show iter (zhh l) 25 0 s=xors l s from rfl)
     generalize xors l s=X at HR2 HXL HXD
     have HI2:=am_ HI.out.swap
     clear HI
     have HI:=HI2
     clear HI2
     go_loopg [7] 25 (fun kq v7 w'=>∃ (i:Nat) (s:List Int),v7=.int .i64 i∧zal (i + kq=25)∧zal (iter (zhh l) kq i s=X)∧zal (s.length=25)∧zal (Inv w NoB w' [blk g4 152 (uarr .u64 s),blk g6 152 (uarr .u64 l)] (fun w=>(Kd.int .u8).C w A mk.length mk∧True)))
     case atStart=>exact⟨0,s,rfl,⟨(by omega)⟩,HXD,HSL,HI⟩
     case round=>
      clear HXD HSL HI s
      obtain⟨i,s,rfl,HJ1,HR1,HSL,HI⟩:=hrel
      cases gk with
      | zero=>
       have hj:=HJ1.out
       have c1:decide ((i:Int)<25)=false:=decide_eq_false (by omega)
       have c2:decide (i<25)=false:=decide_eq_false (by omega)
       have hi:s=X:=HR1.out
       subst hi
       have hl:=HSL.out
       have hpl:=zg3 s
       rw [hl] at hpl
       clear HR1 hj HJ1
       go_wp2_with (first|((with_reducible refine zad (N:=53) rfl ?_);go_must (refine wpList_load_row rfl 152 _ rfl g4 rfl 152 (uarr .u64 s) (0,0) _ (HI.out.blk0) hu152 rfl (by rw [zb7,hl];kernel_rfl) ?_))|(go_at_call 152;(refine(zje.calls s _ hl).mono ?_);rintro e w54 ⟨rfl,hb⟩;replace HI:=am_ (HI.out.grow hb);clear hb)|((with_reducible refine za7 (p:=4) (v:=.tmp 54) (t:=152) rfl ?_);go_must (refine wpList_store_row rfl 152 _ _ rfl g4 (uarr .u64 (permS s)) rfl qz36_ 152 (uarr .u64 s) (Inv.blk0 (HI.out)) (by rw [zb7,hpl];kernel_rfl) (by rw [zb7,zb7,hpl,hl]) (zdp _ _) ?_;replace HI:=am_ (Inv.put0 (HI.out) (uarr .u64 (permS s)));generalize World.setRow _ g4 (uarr .u64 (permS s))=w55 at HI ⊢)))
       clear c1 c2 hl
       have HI2:=am_ HI.out.swap.drop
       have e33:wrap64 ((q:Int) + 136)=(q:Int) + 136:=by have:=HJ.out;have:=HOL.out.2;unfold wrap64;omega
       try go_wp2
       go_roundg k1
       case measure=>omega
       case rel=>exact⟨q + 136,permS s,by first|rfl|(rw [e33];rfl)|go_num,⟨(by have:=HJ.out;omega)⟩,HR2,⟨hpl⟩,HI2⟩
      | succ k2=>
       have hj:=HJ1.out
       have c1:decide ((i:Int)<25)=true:=decide_eq_true (by omega)
       have c2:decide (i<25)=true:=decide_eq_true (by omega)
       have hi:=HR1.out
       rw [zdo] at hi
       unfold zhh at hi
       have hl:=HSL.out
       have hll:=HLL.out
       have h6:wr.heap[g6]?=_:=HI.out.get 1 rfl
       have HL2:=am_ (show ∀ v,(s.set i v).length=25 from fun v=>by rw [List.length_set];exact hl)
       have hs0:=zb4 HI.out.blk0 (i:=i) (by omega)
       have hs1:=zb4 h6 (i:=i) (by omega)
       have hfs:=zbu HI.out.blk0 i
       have ci:((i:Int)<25)=True:=eq_true (by omega)
       have cn:(i<25)=True:=eq_true (by omega)
       generalize s.getD i 0=A0 at hs0 hi
       generalize l.getD i 0=A1 at hs1 hi
       have HR3:=am_ hi
       clear hi hl hll h6 HR1 hj
       go_wp2
       refine zcn (n:=9) (S:=fun w'=>w'.cell? ⟨g4,i,none⟩=some (.int .u64 A0)∧w'.cell? ⟨g6,i,none⟩=some (.int .u64 A1)) (ds:=[8]) (bs_ 9 0) (by kernel_rfl) rfl rfl ⟨hs0,hs1⟩ (fun hHeld=>?_)
       refine pu_ 0 45 (bs_ 9 1) ?_
       refine pu_ 1 46 (bs_ 9 3) ?_
       refine tk_ 2 (bs_ 9 7) hHeld ?_
       refine pu_ 3 48 (bs_ 9 15) ?_
       refine pu_ 4 49 (bs_ 9 31) ?_
       refine tk_ 5 (bs_ 9 63) hHeld ?_
       refine pu_ 6 51 (bs_ 9 127) ?_
       refine pu_ 7 52 (bs_ 9 255) ?_
       refine last_ (i:=8) (N:=none) (bs_ 9 511) rfl rfl (by kernel_rfl) (by decide) (fun K hK=>?_)
       refine skip_ (w1:=?_) (by rfl) rfl ?_ ?_
       rotate_left
       ·
        go_simp
        rfl
       refine hK.out _ _ ?_
       clear hK K
       refine done_ (by kernel_rfl) ?_
       have HI2:=am_ (HI.out.set0 i (.int .u64 (xr A0 A1)))
       rw [zf1] at HI2
       clear HI hs0 hs1 hfs
       try go_wp2
       go_roundg k2
       case measure=>omega
       case rel=>exact⟨i + 1,_,by have:=HJ1.out;rw [w64_ (by omega) (by omega)];rfl,⟨(by have:=HJ1.out;omega)⟩,HR3,⟨HL2.out _⟩,⟨(by(with_reducible repeat(first|refine Inv.drewN ?_ _|refine Inv.drew ?_));exact HI2.out)⟩⟩
  | succ k1=>
   have m2:((o.length:Int) % 136 == 0)=false:=beq_eq_false_iff_ne.mpr (by omega)
   have m3:((o.length:Int) % 136 != 0)=true:=bne_iff_ne.mpr (by omega)
   have HR2:=am_ (show (o++[0])++List.replicate k1 0=pd by rw [←HR.out,List.append_assoc];congr 1)
   obtain⟨A3,c3,rfl,hc3,_⟩:=HI.out.rowT0.reads
   have HOL:=am_ (show o.length≤4000200 by omega)
   clear hle hm HR
   go_wp2_with (first|((with_reducible refine zb5 (b:=.append) (xs:=#[.tmp 16,.tmp 17]) rfl ?_);at_builtin;refine zkn (base:=w.heap.size) rfl (.tmp 16) (.tmp 17) rfl _ _ (0) rfl rfl (Inv.rowT0 HI.out) ?aL HI.out.agr.size ?_;(case aL=>have:=HOL.out;omega);intro v18 w18 hR hg hat;replace HI:=am_ (HI.out.stepT hg hR hat);clear hR hg hat))
   go_roundg k1
   case measure=>omega
   case rel=>exact⟨o++[0],HR2,⟨(by omega)⟩,HI⟩
end Go.Proofs.YtgookagndlfehaaGreat.PT
end
