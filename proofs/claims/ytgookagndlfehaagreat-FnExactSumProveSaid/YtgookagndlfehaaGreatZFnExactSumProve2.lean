/- Part 2 of the proof of FnExactSumProve: what functions compute, shown step by step, and what that says (the claim's last text states the law). -/
import Derived.Test.YtgookagndlfehaaGreatZFnExactSumProve1
set_option maxRecDepth 100000
set_option maxHeartbeats 8000000
section
namespace Go.Proofs.YtgookagndlfehaaGreat.PT
open Go.RowKit Go.Proofs.YtgookagndlfehaaGreatW.PrintWords Go.Proofs.YtgookagndlfehaaGreatW.PrintLast Go.Proofs.YtgookagndlfehaaGreatW.PrintMore
attribute [local go_sem] zez zey zfh zff zed zd9 zex zew   -- for this text's walks alone
set_option linter.unusedVariables false
set_option linter.unusedSimpArgs false
theorem zp0 (xs:List Int) (hb:xs.length≤1000):∀ (d i:Nat) (a:Int) (k:Nat),i + d=xs.length→d<k→∃ r,zce.l0 k a xs (xs.length:Int) (i:Int)=some r:=by
 intro d
 induction d with
 | zero=>
  intro i a k hi hk
  obtain⟨m,rfl⟩:∃ m,k=m + 1:=⟨k - 1,(by omega)⟩
  rw [zce.l0,if_neg (by omega)]
  exact⟨_,rfl⟩
 | succ d ih=>
  intro i a k hi hk
  obtain⟨m,rfl⟩:∃ m,k=m + 1:=⟨k - 1,(by omega)⟩
  rw [zce.l0,if_pos (by omega),if_pos (by omega),if_pos (by omega)]
  rw [show wrap64 ((i:Int) + 1)=((i + 1:Nat):Int) by rw [←i64_w];unfold IntKind.wrap;simp [IntKind.signed,IntKind.bits];omega]
  exact ih (i + 1) _ m (by omega) (by omega)
def mod8 (xs:List Int):Int:=(zce.f 20 xs).getD 0
theorem zp5 {xs:List Int} (h:xs.length=8):zce.f 20 xs=some (mod8 xs):=by
 obtain⟨r,hr⟩:=zp0 xs (by omega) 8 0 0 20 (by omega) (by omega)
 unfold mod8 zce.f
 rw [show ((0:Nat):Int)=0 from rfl] at hr
 rw [hr]
 rfl
theorem zk3 (xs:List Int):(kec xs).size=32:=by
 unfold kec
 rw [strOfNums_size,List.length_take,ze6]
 rfl
theorem zfx (m1 m2:Int):(Tryz.prog.info? 32).map (·.size)=some (#[Value.int .i64 m1,Value.int .i64 m2]:Array Value).size:=by kernel_rfl
theorem zk4 (m1 m2:Int):(#[Value.int .i64 m1,Value.int .i64 m2]:Array Value).all (·.oneCell')=true:=by simp [Value.oneCell']
theorem zla (m1 m2:Int):(#[Value.int .i64 0,Value.int .i64 0]:Array Value).size=(#[Value.int .i64 m1,Value.int .i64 m2]:Array Value).size:=rfl
def dpl (a n:Int):Int:=Int.tmod (wrap64 ((wrap64 (a + 1)) - 1)) n
def zc5.f (s0_0:List (S32)) (s0_1:Int) (s0_2:ByteArray) (s0_3:Int):Option (Int × Int × Int × ByteArray × Int):=
 if 0<s0_0.length then(if 0≤dpl s0_1 s0_0.length then(if dpl s0_1 s0_0.length<(s0_0.length:Int) then some ((zac s0_0 (dpl s0_1 s0_0.length)).f0,(zac s0_0 (dpl s0_1 s0_0.length)).f1,wrap64 (s0_1 + 1),s0_2,s0_3) else none) else none)
 else(if s0_2.size≤1000000 then some (mod8 ((nums_ (kec ([nums_ s0_2,[100,114,97,119],four_ s0_3].flatten))).take 8),mod8 (((nums_ (kec ([nums_ s0_2,[100,114,97,119],four_ s0_3].flatten))).take 16).drop 8),s0_1,s0_2,wrap64 (s0_3 + 1)) else none)
theorem zc5.calls (g:Nat) (s0_0:List (S32)) (s0_1:Int) (s0_2:ByteArray) (s0_3:Int) (r1:Int) (r2:Int) (r3:Int) (r4:ByteArray) (r5:Int) (w0 w:World) (hI:IsS38 w0 w g s0_0 s0_1 s0_2 s0_3) (hB:Below w0.heap.size w0 w) (h:zc5.f s0_0 s0_1 s0_2 s0_3=some (r1,r2,r3,r4,r5)) :
  Calls Tryz.prog 104 #[.pointer (some ⟨g,0,none⟩)] w fun e w'=>e=.returned (.agg #[.int .i64 r1,.int .i64 r2])∧IsS38 w0 w' g s0_0 r3 r4 r5∧Below w0.heap.size w0 w'∧zbn w w' g none:=by
 unfold zc5.f at h
 have HB:=am_ hB
 have HGE:=am_ (IsS38.ge hI)
 have hu32:=Tryz.underlying32
 obtain⟨A0,c0,hblk,hge,hr0⟩:=hI
 have HGQ:=am_ hge
 have HR0:=am_ hr0
 have HI:=am_ (Inv.zo7 w hblk (fun w2=>Kd.C k32 w2 A0 s0_0.length s0_0) (fun w' ha=>Kd.zbi hr0 (ha.onto hB (fun k hk=>by obtain rfl:k=g:=hk;exact HGE.out))))
 by_cases cl:0<s0_0.length
 ·
  rw [if_pos cl] at h
  by_cases cp:0≤dpl s0_1 s0_0.length
  ·
   rw [if_pos cp] at h
   by_cases cq:dpl s0_1 s0_0.length<(s0_0.length:Int)
   ·
    rw [if_pos cq] at h
    simp only [Option.some.injEq,Prod.mk.injEq] at h
    obtain⟨hx_,hy_,rfl,rfl,rfl⟩:=h
    have c1:decide (0<(s0_0.length:Int))=true:=decide_eq_true (by omega)
    have c2:decide (0<s0_0.length)=true:=decide_eq_true cl
    have c3:((s0_0.length:Int) == 0)=false:=beq_eq_false_iff_ne.mpr (by omega)
    have c4:((s0_0.length:Int) != 0)=true:=bne_iff_ne.mpr (by omega)
    have c5:¬(s0_0=[]):=fun h_=>by rw [h_] at cl;simp at cl
    obtain⟨q,hq⟩:∃ q:Nat,dpl s0_1 s0_0.length=(q:Int):=⟨(dpl s0_1 s0_0.length).toNat,(by omega)⟩
    rw [hq] at cp cq hx_ hy_
    have hdp:Int.tmod (wrap64 ((wrap64 (s0_1 + 1)) - 1)) (s0_0.length:Int)=(q:Int):=hq
    have HDP:=am_ hdp
    obtain⟨ad,eA,hx0,hx1⟩:=zdf hr0 (q:Int) cp cq
    subst eA
    rw [Int.toNat_natCast] at hx0 hx1
    have HX0:=am_ hx0
    have HX1:=am_ hx1
    generalize zac s0_0 (q:Int)=x at HX0 HX1 hx_ hy_
    subst hx_ hy_
    have p6:=eq_true cp
    have q6:=eq_true cq
    have q6n:(q<s0_0.length)=True:=eq_true (by omega)
    have hd0:w.cell? ⟨g,0,none⟩=some (.slice (some ad) s0_0.length c0):=(zaa hblk 0).trans rfl
    have hd1:w.cell? ⟨g,1,none⟩=some (.int .i64 s0_1):=(zaa hblk 1).trans rfl
    have hf1:=zbu hblk 1
    clear hB hblk hge hr0 cl hq hdp hx0 hx1 cp cq
    go_enter Tryz.func104,Tryz.ntmps104
    go_wp2_with (first|((with_reducible refine zad (N:=2) rfl ?_);refine zaj rfl (N:=2) rfl (cs:=#[.int .i64 0,.int .i64 0]) (t:=32) bx_ ?_;intro gb hg w2 hbox hb;replace HI:=am_ ((HI.out).box hg hbox hb);clear hb hbox hg;clear hd0 hd1 hf1;have hd0:w2.cell? ⟨g,0,none⟩=some (.slice (some ad) s0_0.length c0):=(zaa HI.out.swap.blk0 0).trans rfl;have hd1:w2.cell? ⟨g,1,none⟩=some (.int .i64 s0_1):=(zaa HI.out.swap.blk0 1).trans rfl;have hf1:=zbu HI.out.swap.blk0 1))
    have HI2:=am_ (HI.out.swap.set0 1 (.int .i64 (wrap64 (s0_1 + 1))))
    clear HI hd0 hd1 hf1
    generalize w2.setCell ⟨g,1,none⟩ (.int .i64 (wrap64 (s0_1 + 1)))=w3 at HI2 ⊢
    have HI:=HI2
    clear HI2
    have hd0:w3.cell? ⟨g,0,none⟩=some (.slice (some ad) s0_0.length c0):=(zaa HI.out.blk0 0).trans rfl
    have hd1:w3.cell? ⟨g,1,none⟩=some (.int .i64 (wrap64 (s0_1 + 1))):=(zaa HI.out.blk0 1).trans rfl
    have hb3:=HI.out.agr.onto HB.out (fun k hk=>by obtain rfl:k=g:=hk;exact HGE.out)
    have hx0:=(hb3.cell (World.block_lt_of_cell? _ _ HX0.out)).trans HX0.out
    have hx1:=(hb3.cell (World.block_lt_of_cell? _ _ HX1.out)).trans HX1.out
    have hdp:=HDP.out
    clear hb3
    refine zcn (n:=18) (S:=fun w'=>w'.cell? ⟨g,0,none⟩=some (.slice (some ad) s0_0.length c0)∧w'.cell? ⟨g,1,none⟩=some (.int .i64 (wrap64 (s0_1 + 1)))∧w'.cell? (ad.add (q * 2))=some (.int .i64 x.f0)∧w'.cell? ⟨(ad.add (q * 2)).block,(ad.add (q * 2)).off + 1,none⟩=some (.int .i64 x.f1)) (ds:=[17]) (bs_ 18 0) (by kernel_rfl) rfl rfl ⟨hd0,hd1,hx0,hx1⟩ (fun hHeld=>?_)
    refine pu_ 0 17 (bs_ 18 1) ?_
    refine pu_ 1 18 (bs_ 18 3) ?_
    refine pu_ 2 19 (bs_ 18 7) ?_
    refine tk_ 3 (bs_ 18 15) hHeld ?_
    refine pu_ 4 21 (bs_ 18 31) ?_
    refine pu_ 5 22 (bs_ 18 63) ?_
    refine pu_ 6 23 (bs_ 18 127) ?_
    refine tk_ 7 (bs_ 18 255) hHeld ?_
    refine pu_ 8 25 (bs_ 18 511) ?_
    refine pu_ 9 26 (bs_ 18 1023) ?_
    refine pu_ 10 27 (bs_ 18 2047) ?_
    refine pu_ 11 28 (bs_ 18 4095) ?_
    refine tk_ 12 (bs_ 18 8191) hHeld ?_
    refine pu_ 13 30 (bs_ 18 16383) ?_
    refine pu_ 14 31 (bs_ 18 32767) ?_
    refine pu_ 15 32 (bs_ 18 65535) ?_
    refine tk_ 16 (bs_ 18 131071) hHeld ?_
    refine last_ (i:=17) (N:=none) (bs_ 18 262143) rfl rfl (by kernel_rfl) (by decide) (fun K hK=>?_)
    rw [if_pos (by rfl)]
    refine wp_store_row 32 _ _ rfl gb (#[.int .i64 x.f0,.int .i64 x.f1]) rfl qz36_ 32 (#[.int .i64 0,.int .i64 0]) ((HI.out.swap.drew).blk0) (by kernel_rfl) rfl qz39_ ?_
    refine hK.out _ _ ?_
    clear hK K
    have HI2:=am_ (((HI.out.swap.drew).put0 (#[.int .i64 x.f0,.int .i64 x.f1])).swap)
    refine done_ (by kernel_rfl) ?_
    try go_wp2
    refine bodyPost_ret (v:=.agg #[.int .i64 x.f0,.int .i64 x.f1]) ?hres rfl ?_
    case hres=>exact results_cell_row (fn:=Tryz.f104) (p:=2) rfl _ _ gb 32 (#[.int .i64 x.f0,.int .i64 x.f1]) (0,0) _ (by first|rfl|(simp;done)) HI2.out.swap.blk0 hu32 rfl (by kernel_rfl)
    exact⟨rfl,⟨some ad,c0,HI2.out.blk0,HGQ.out,HR0.out⟩,HI2.out.agr.onto HB.out (fun k hk=>by obtain rfl:k=g:=hk;exact HGE.out),HI2.out.agr.keep⟩
   ·
    rw [if_neg cq] at h;cases h
  ·
   rw [if_neg cp] at h;cases h
 ·
  rw [if_neg cl] at h
  by_cases cs:s0_2.size≤1000000
  ·
   rw [if_pos cs] at h
   simp only [Option.some.injEq,Prod.mk.injEq] at h
   obtain⟨hm1_,hm2_,rfl,rfl,rfl⟩:=h
   have HST:=am_ (show s0_2.size≤2000000 by omega)
   have HKL:=am_ (zk3 ([nums_ s0_2,[100,114,97,119],four_ s0_3].flatten))
   generalize hke:kec ([nums_ s0_2,[100,114,97,119],four_ s0_3].flatten)=hs at HKL hm1_ hm2_
   have HKE:=am_ hke
   have HKZ:=am_ (show hs.size≤2000000 by have:=HKL.out;omega)
   obtain⟨i5,hi5,_,hsz5,_⟩:=info_parts info5
   have HI5:=am_ hi5
   have HZ5:=am_ hsz5
   subst hm1_ hm2_
   have hl0:s0_0.length=0:=by omega
   have c1:decide (0<(s0_0.length:Int))=false:=decide_eq_false (by omega)
   have c2:decide (0<s0_0.length)=false:=decide_eq_false cl
   have hd0:w.cell? ⟨g,0,none⟩=some (.slice A0 s0_0.length c0):=(zaa hblk 0).trans rfl
   clear hB hblk hge hr0 cl cs hke hi5 hsz5 hl0
   go_enter Tryz.func104,Tryz.ntmps104
   go_wp2_with (first|((with_reducible refine zad (N:=2) rfl ?_);refine zaj rfl (N:=2) rfl (cs:=#[.int .i64 0,.int .i64 0]) (t:=32) bx_ ?_;intro gb hg w2 hbox hb;replace HI:=am_ ((HI.out).box hg hbox hb);clear hb hbox hg;clear hd0;have hd0:w2.cell? ⟨g,0,none⟩=some (.slice A0 s0_0.length c0):=(zaa HI.out.swap.blk0 0).trans rfl))
   have HI2:=am_ HI.out.swap
   clear HI
   have HI:=HI2
   clear HI2 hd0 c1 c2
   refine zcn (n:=16) (S:=fun w'=>w'.cell? ⟨g,2,none⟩=some (.string s0_2)∧w'.cell? ⟨g,3,none⟩=some (.int .i64 s0_3)) (ds:=[]) (bs_ 16 0) (by kernel_rfl) rfl rfl ⟨(zaa ((HI.out).get 0 rfl) 2).trans rfl,(zaa ((HI.out).get 0 rfl) 3).trans rfl⟩ (fun hHeld=>?_)
   refine pu_ 0 34 (bs_ 16 1) ?_
   refine pu_ 1 35 (bs_ 16 3) ?_
   refine pu_ 2 36 (bs_ 16 7) ?_
   refine tk_ 3 (bs_ 16 15) hHeld ?_
   refine pu_ 7 41 (bs_ 16 143) ?_
   refine pu_ 8 42 (bs_ 16 399) ?_
   refine pu_ 9 43 (bs_ 16 911) ?_
   refine tk_ 10 (bs_ 16 1935) hHeld ?_
   replace HI:=am_ (HI.out.drew)
   generalize w2.drew=wd0 at HI hHeld ⊢
   refine join_ (σ:=Value × Value × Value × Value) 4 (bs_ 16 4095) (fun s=>[(38,s.1),(39,s.2.1),(40,s.2.2.1),(45,s.2.2.2)]) (fun s w'=>Inv w (fun k=>k=g) w' [blk g 38 #[.slice A0 s0_0.length c0,.int .i64 s0_1,.string s0_2,.int .i64 s0_3],blk gb 32 #[.int .i64 0,.int .i64 0]] (fun w2=>Piece s.1 (nums_ s0_2) w2∧Piece s.2.2.1 [100,114,97,119] w2∧Piece s.2.2.2 (four_ (s0_3)) w2∧(fun w2=>Kd.C k32 w2 A0 s0_0.length s0_0) w2)) ?_ ?_
   rotate_left
   ·
    intro hJ
    refine zlo (i:=4) (j:=5) (k:=11) (Ni:=some 38) (Nj:=some 39) (Nk:=some 45) (bs_ 16 1951) (bs_ 16 1967) (bs_ 16 3983) rfl rfl rfl rfl rfl rfl (by kernel_rfl) (by decide) (by decide) (by decide) (fun K hK=>?_) (fun K hK=>?_) (fun K hK=>?_)
    ·
     obtain⟨vconv,wv1,hcv,HI_⟩:=HI.out.zek HST.out
     refine zbg (by rfl) rfl (v:=vconv) (w1:=wv1) qz38_ ?_
     clear HI hcv;have HI:=am_ HI_;clear HI_
     refine hK.out _ _ ⟨(zaa ((HI.out).get 0 rfl) 2).trans rfl,(zaa ((HI.out).get 0 rfl) 3).trans rfl⟩ (fun hHeld=>?_)
     clear hK K
     refine nm_ 38 ?_
     refine two_ (i:=5) (j:=11) (Ni:=some 39) (Nj:=some 45) (bs_ 16 1983) (bs_ 16 3999) rfl rfl rfl rfl (by kernel_rfl) (by decide) (by decide) (fun K hK=>?_) (fun K hK=>?_)
     ·
      replace HI:=am_ (HI.out.zhe #[.int .u8 100,.int .u8 114,.int .u8 97,.int .u8 119] 5)
      refine zbg (by rfl) rfl (v:=.slice (some ⟨wv1.heap.size,0,none⟩) 4 4) (w1:=wv1.alloc (.cells #[.int .u8 100,.int .u8 114,.int .u8 97,.int .u8 119] 5)) qz38_ ?_
      generalize wv1.alloc (.cells #[.int .u8 100,.int .u8 114,.int .u8 97,.int .u8 119] 5)=wv2 at HI ⊢
      generalize wv1.heap.size=gl at HI ⊢
      refine hK.out _ _ ⟨(zaa ((HI.out).get 1 rfl) 2).trans rfl,(zaa ((HI.out).get 1 rfl) 3).trans rfl⟩ (fun hHeld=>?_)
      clear hK K
      refine nm_ 39 ?_
      refine two_ (i:=6) (j:=11) (Ni:=some 40) (Nj:=some 45) (bs_ 16 2047) (bs_ 16 4031) rfl rfl rfl rfl (by kernel_rfl) (by decide) (by decide) (fun K hK=>?_) (fun K hK=>?_)
      ·
       obtain⟨wv3,hcv,HI_⟩:=HI.out.zdy (xs:=[100,114,97,119]) (by decide)
       replace hcv:(convert 101 101 (.slice (some ⟨gl,0,none⟩) 4 4)).run Tryz.prog wv2=.ok (.slice (some ⟨gl,0,none⟩) 4 4) wv3:=hcv
       refine zbg (by rfl) rfl (v:=.slice (some ⟨gl,0,none⟩) 4 4) (w1:=wv3) qz38_ ?_
       clear HI hcv;have HI:=am_ HI_;clear HI_
       refine hK.out _ _ ⟨(zaa ((HI.out).get 0 rfl) 2).trans rfl,(zaa ((HI.out).get 0 rfl) 3).trans rfl⟩ (fun hHeld=>?_)
       clear hK K
       refine nm_ 40 ?_
       refine on_ 11 (some 45) (bs_ 16 4095) (fun K hK=>?_)
       refine go_ Tryz.func91 #[.slice none 0 0,.int .i64 s0_3] ?_
       refine(HI.out.zen (s0_3)).mono ?_
       rintro e wv4 ⟨vfour,rfl,HI_⟩
       refine⟨_,rfl,?_⟩
       clear HI;have HI:=am_ HI_;clear HI_
       refine hK.out _ _ ⟨(zaa ((HI.out).get 0 rfl) 2).trans rfl,(zaa ((HI.out).get 0 rfl) 3).trans rfl⟩ (fun hHeld=>?_)
       clear hK K
       refine nm_ 45 ?_
       refine norm_ ?_ (hJ (vconv,.slice (some ⟨gl,0,none⟩) 4 4,.slice (some ⟨gl,0,none⟩) 4 4,vfour) wv4 (HI.out.weaken (fun _ h=>?_)))
       ·
        simp only [zd3];simp only [Act.put,List.setIfInBounds_toArray,List.set_cons_zero,List.set_cons_succ,i64_w,i32_w]
        try rfl
       ·
        refine⟨?_,?_,?_,?_⟩ <;> first|exact h.1|exact h.2.1|exact h.2.2.1|exact h.2.2.2
      ·
       refine go_ Tryz.func91 #[.slice none 0 0,.int .i64 s0_3] ?_
       refine(HI.out.zen (s0_3)).mono ?_
       rintro e wv3 ⟨vfour,rfl,HI_⟩
       refine⟨_,rfl,?_⟩
       clear HI;have HI:=am_ HI_;clear HI_
       refine hK.out _ _ ⟨(zaa ((HI.out).get 1 rfl) 2).trans rfl,(zaa ((HI.out).get 1 rfl) 3).trans rfl⟩ (fun hHeld=>?_)
       clear hK K
       refine nm_ 45 ?_
       refine on_ 6 (some 40) (bs_ 16 4095) (fun K hK=>?_)
       obtain⟨wv4,hcv,HI_⟩:=HI.out.zdy (xs:=[100,114,97,119]) (by decide)
       replace hcv:(convert 101 101 (.slice (some ⟨gl,0,none⟩) 4 4)).run Tryz.prog wv3=.ok (.slice (some ⟨gl,0,none⟩) 4 4) wv4:=hcv
       refine zbg (by rfl) rfl (v:=.slice (some ⟨gl,0,none⟩) 4 4) (w1:=wv4) qz38_ ?_
       clear HI hcv;have HI:=am_ HI_;clear HI_
       refine hK.out _ _ ⟨(zaa ((HI.out).get 0 rfl) 2).trans rfl,(zaa ((HI.out).get 0 rfl) 3).trans rfl⟩ (fun hHeld=>?_)
       clear hK K
       refine nm_ 40 ?_
       refine norm_ ?_ (hJ (vconv,.slice (some ⟨gl,0,none⟩) 4 4,.slice (some ⟨gl,0,none⟩) 4 4,vfour) wv4 (HI.out.weaken (fun _ h=>?_)))
       ·
        simp only [zd3];simp only [Act.put,List.setIfInBounds_toArray,List.set_cons_zero,List.set_cons_succ,i64_w,i32_w]
        try rfl
       ·
        refine⟨?_,?_,?_,?_⟩ <;> first|exact h.1|exact h.2.1|exact h.2.2.1|exact h.2.2.2
     ·
      refine go_ Tryz.func91 #[.slice none 0 0,.int .i64 s0_3] ?_
      refine(HI.out.zen (s0_3)).mono ?_
      rintro e wv2 ⟨vfour,rfl,HI_⟩
      refine⟨_,rfl,?_⟩
      clear HI;have HI:=am_ HI_;clear HI_
      refine hK.out _ _ ⟨(zaa ((HI.out).get 0 rfl) 2).trans rfl,(zaa ((HI.out).get 0 rfl) 3).trans rfl⟩ (fun hHeld=>?_)
      clear hK K
      refine nm_ 45 ?_
      refine on_ 5 (some 39) (bs_ 16 4031) (fun K hK=>?_)
      replace HI:=am_ (HI.out.zhe #[.int .u8 100,.int .u8 114,.int .u8 97,.int .u8 119] 5)
      refine zbg (by rfl) rfl (v:=.slice (some ⟨wv2.heap.size,0,none⟩) 4 4) (w1:=wv2.alloc (.cells #[.int .u8 100,.int .u8 114,.int .u8 97,.int .u8 119] 5)) qz38_ ?_
      generalize wv2.alloc (.cells #[.int .u8 100,.int .u8 114,.int .u8 97,.int .u8 119] 5)=wv3 at HI ⊢
      generalize wv2.heap.size=gl at HI ⊢
      refine hK.out _ _ ⟨(zaa ((HI.out).get 1 rfl) 2).trans rfl,(zaa ((HI.out).get 1 rfl) 3).trans rfl⟩ (fun hHeld=>?_)
      clear hK K
      refine nm_ 39 ?_
      refine on_ 6 (some 40) (bs_ 16 4095) (fun K hK=>?_)
      obtain⟨wv4,hcv,HI_⟩:=HI.out.zdy (xs:=[100,114,97,119]) (by decide)
      replace hcv:(convert 101 101 (.slice (some ⟨gl,0,none⟩) 4 4)).run Tryz.prog wv3=.ok (.slice (some ⟨gl,0,none⟩) 4 4) wv4:=hcv
      refine zbg (by rfl) rfl (v:=.slice (some ⟨gl,0,none⟩) 4 4) (w1:=wv4) qz38_ ?_
      clear HI hcv;have HI:=am_ HI_;clear HI_
      refine hK.out _ _ ⟨(zaa ((HI.out).get 0 rfl) 2).trans rfl,(zaa ((HI.out).get 0 rfl) 3).trans rfl⟩ (fun hHeld=>?_)
      clear hK K
      refine nm_ 40 ?_
      refine norm_ ?_ (hJ (vconv,.slice (some ⟨gl,0,none⟩) 4 4,.slice (some ⟨gl,0,none⟩) 4 4,vfour) wv4 (HI.out.weaken (fun _ h=>?_)))
      ·
       simp only [zd3];simp only [Act.put,List.setIfInBounds_toArray,List.set_cons_zero,List.set_cons_succ,i64_w,i32_w]
       try rfl
      ·
       refine⟨?_,?_,?_,?_⟩ <;> first|exact h.1|exact h.2.1|exact h.2.2.1|exact h.2.2.2
    ·
     replace HI:=am_ (HI.out.zhe #[.int .u8 100,.int .u8 114,.int .u8 97,.int .u8 119] 5)
     refine zbg (by rfl) rfl (v:=.slice (some ⟨wd0.heap.size,0,none⟩) 4 4) (w1:=wd0.alloc (.cells #[.int .u8 100,.int .u8 114,.int .u8 97,.int .u8 119] 5)) qz38_ ?_
     generalize wd0.alloc (.cells #[.int .u8 100,.int .u8 114,.int .u8 97,.int .u8 119] 5)=wv1 at HI ⊢
     generalize wd0.heap.size=gl at HI ⊢
     refine hK.out _ _ ⟨(zaa ((HI.out).get 1 rfl) 2).trans rfl,(zaa ((HI.out).get 1 rfl) 3).trans rfl⟩ (fun hHeld=>?_)
     clear hK K
     refine nm_ 39 ?_
     refine zlo (i:=4) (j:=6) (k:=11) (Ni:=some 38) (Nj:=some 40) (Nk:=some 45) (bs_ 16 1983) (bs_ 16 2031) (bs_ 16 4015) rfl rfl rfl rfl rfl rfl (by kernel_rfl) (by decide) (by decide) (by decide) (fun K hK=>?_) (fun K hK=>?_) (fun K hK=>?_)
     ·
      obtain⟨vconv,wv2,hcv,HI_⟩:=HI.out.zek HST.out
      refine zbg (by rfl) rfl (v:=vconv) (w1:=wv2) qz38_ ?_
      clear HI hcv;have HI:=am_ HI_;clear HI_
      refine hK.out _ _ ⟨(zaa ((HI.out).get 1 rfl) 2).trans rfl,(zaa ((HI.out).get 1 rfl) 3).trans rfl⟩ (fun hHeld=>?_)
      clear hK K
      refine nm_ 38 ?_
      refine two_ (i:=6) (j:=11) (Ni:=some 40) (Nj:=some 45) (bs_ 16 2047) (bs_ 16 4031) rfl rfl rfl rfl (by kernel_rfl) (by decide) (by decide) (fun K hK=>?_) (fun K hK=>?_)
      ·
       obtain⟨wv3,hcv,HI_⟩:=HI.out.zdy (xs:=[100,114,97,119]) (by decide)
       replace hcv:(convert 101 101 (.slice (some ⟨gl,0,none⟩) 4 4)).run Tryz.prog wv2=.ok (.slice (some ⟨gl,0,none⟩) 4 4) wv3:=hcv
       refine zbg (by rfl) rfl (v:=.slice (some ⟨gl,0,none⟩) 4 4) (w1:=wv3) qz38_ ?_
       clear HI hcv;have HI:=am_ HI_;clear HI_
       refine hK.out _ _ ⟨(zaa ((HI.out).get 0 rfl) 2).trans rfl,(zaa ((HI.out).get 0 rfl) 3).trans rfl⟩ (fun hHeld=>?_)
       clear hK K
       refine nm_ 40 ?_
       refine on_ 11 (some 45) (bs_ 16 4095) (fun K hK=>?_)
       refine go_ Tryz.func91 #[.slice none 0 0,.int .i64 s0_3] ?_
       refine(HI.out.zen (s0_3)).mono ?_
       rintro e wv4 ⟨vfour,rfl,HI_⟩
       refine⟨_,rfl,?_⟩
       clear HI;have HI:=am_ HI_;clear HI_
       refine hK.out _ _ ⟨(zaa ((HI.out).get 0 rfl) 2).trans rfl,(zaa ((HI.out).get 0 rfl) 3).trans rfl⟩ (fun hHeld=>?_)
       clear hK K
       refine nm_ 45 ?_
       refine norm_ ?_ (hJ (vconv,.slice (some ⟨gl,0,none⟩) 4 4,.slice (some ⟨gl,0,none⟩) 4 4,vfour) wv4 (HI.out.weaken (fun _ h=>?_)))
       ·
        simp only [zd3];simp only [Act.put,List.setIfInBounds_toArray,List.set_cons_zero,List.set_cons_succ,i64_w,i32_w]
        try rfl
       ·
        refine⟨?_,?_,?_,?_⟩ <;> first|exact h.1|exact h.2.1|exact h.2.2.1|exact h.2.2.2
      ·
       refine go_ Tryz.func91 #[.slice none 0 0,.int .i64 s0_3] ?_
       refine(HI.out.zen (s0_3)).mono ?_
       rintro e wv3 ⟨vfour,rfl,HI_⟩
       refine⟨_,rfl,?_⟩
       clear HI;have HI:=am_ HI_;clear HI_
       refine hK.out _ _ ⟨(zaa ((HI.out).get 1 rfl) 2).trans rfl,(zaa ((HI.out).get 1 rfl) 3).trans rfl⟩ (fun hHeld=>?_)
       clear hK K
       refine nm_ 45 ?_
       refine on_ 6 (some 40) (bs_ 16 4095) (fun K hK=>?_)
       obtain⟨wv4,hcv,HI_⟩:=HI.out.zdy (xs:=[100,114,97,119]) (by decide)
       replace hcv:(convert 101 101 (.slice (some ⟨gl,0,none⟩) 4 4)).run Tryz.prog wv3=.ok (.slice (some ⟨gl,0,none⟩) 4 4) wv4:=hcv
       refine zbg (by rfl) rfl (v:=.slice (some ⟨gl,0,none⟩) 4 4) (w1:=wv4) qz38_ ?_
       clear HI hcv;have HI:=am_ HI_;clear HI_
       refine hK.out _ _ ⟨(zaa ((HI.out).get 0 rfl) 2).trans rfl,(zaa ((HI.out).get 0 rfl) 3).trans rfl⟩ (fun hHeld=>?_)
       clear hK K
       refine nm_ 40 ?_
       refine norm_ ?_ (hJ (vconv,.slice (some ⟨gl,0,none⟩) 4 4,.slice (some ⟨gl,0,none⟩) 4 4,vfour) wv4 (HI.out.weaken (fun _ h=>?_)))
       ·
        simp only [zd3];simp only [Act.put,List.setIfInBounds_toArray,List.set_cons_zero,List.set_cons_succ,i64_w,i32_w]
        try rfl
       ·
        refine⟨?_,?_,?_,?_⟩ <;> first|exact h.1|exact h.2.1|exact h.2.2.1|exact h.2.2.2
     ·
      obtain⟨wv2,hcv,HI_⟩:=HI.out.zdy (xs:=[100,114,97,119]) (by decide)
      replace hcv:(convert 101 101 (.slice (some ⟨gl,0,none⟩) 4 4)).run Tryz.prog wv1=.ok (.slice (some ⟨gl,0,none⟩) 4 4) wv2:=hcv
      refine zbg (by rfl) rfl (v:=.slice (some ⟨gl,0,none⟩) 4 4) (w1:=wv2) qz38_ ?_
      clear HI hcv;have HI:=am_ HI_;clear HI_
      refine hK.out _ _ ⟨(zaa ((HI.out).get 0 rfl) 2).trans rfl,(zaa ((HI.out).get 0 rfl) 3).trans rfl⟩ (fun hHeld=>?_)
      clear hK K
      refine nm_ 40 ?_
      refine two_ (i:=4) (j:=11) (Ni:=some 38) (Nj:=some 45) (bs_ 16 2047) (bs_ 16 4079) rfl rfl rfl rfl (by kernel_rfl) (by decide) (by decide) (fun K hK=>?_) (fun K hK=>?_)
      ·
       obtain⟨vconv,wv3,hcv,HI_⟩:=HI.out.zek HST.out
       refine zbg (by rfl) rfl (v:=vconv) (w1:=wv3) qz38_ ?_
       clear HI hcv;have HI:=am_ HI_;clear HI_
       refine hK.out _ _ ⟨(zaa ((HI.out).get 0 rfl) 2).trans rfl,(zaa ((HI.out).get 0 rfl) 3).trans rfl⟩ (fun hHeld=>?_)
       clear hK K
       refine nm_ 38 ?_
       refine on_ 11 (some 45) (bs_ 16 4095) (fun K hK=>?_)
       refine go_ Tryz.func91 #[.slice none 0 0,.int .i64 s0_3] ?_
       refine(HI.out.zen (s0_3)).mono ?_
       rintro e wv4 ⟨vfour,rfl,HI_⟩
       refine⟨_,rfl,?_⟩
       clear HI;have HI:=am_ HI_;clear HI_
       refine hK.out _ _ ⟨(zaa ((HI.out).get 0 rfl) 2).trans rfl,(zaa ((HI.out).get 0 rfl) 3).trans rfl⟩ (fun hHeld=>?_)
       clear hK K
       refine nm_ 45 ?_
       refine norm_ ?_ (hJ (vconv,.slice (some ⟨gl,0,none⟩) 4 4,.slice (some ⟨gl,0,none⟩) 4 4,vfour) wv4 (HI.out.weaken (fun _ h=>?_)))
       ·
        simp only [zd3];simp only [Act.put,List.setIfInBounds_toArray,List.set_cons_zero,List.set_cons_succ,i64_w,i32_w]
        try rfl
       ·
        refine⟨?_,?_,?_,?_⟩ <;> first|exact h.1|exact h.2.1|exact h.2.2.1|exact h.2.2.2
      ·
       refine go_ Tryz.func91 #[.slice none 0 0,.int .i64 s0_3] ?_
       refine(HI.out.zen (s0_3)).mono ?_
       rintro e wv3 ⟨vfour,rfl,HI_⟩
       refine⟨_,rfl,?_⟩
       clear HI;have HI:=am_ HI_;clear HI_
       refine hK.out _ _ ⟨(zaa ((HI.out).get 0 rfl) 2).trans rfl,(zaa ((HI.out).get 0 rfl) 3).trans rfl⟩ (fun hHeld=>?_)
       clear hK K
       refine nm_ 45 ?_
       refine on_ 4 (some 38) (bs_ 16 4095) (fun K hK=>?_)
       obtain⟨vconv,wv4,hcv,HI_⟩:=HI.out.zek HST.out
       refine zbg (by rfl) rfl (v:=vconv) (w1:=wv4) qz38_ ?_
       clear HI hcv;have HI:=am_ HI_;clear HI_
       refine hK.out _ _ ⟨(zaa ((HI.out).get 0 rfl) 2).trans rfl,(zaa ((HI.out).get 0 rfl) 3).trans rfl⟩ (fun hHeld=>?_)
       clear hK K
       refine nm_ 38 ?_
       refine norm_ ?_ (hJ (vconv,.slice (some ⟨gl,0,none⟩) 4 4,.slice (some ⟨gl,0,none⟩) 4 4,vfour) wv4 (HI.out.weaken (fun _ h=>?_)))
       ·
        simp only [zd3];simp only [Act.put,List.setIfInBounds_toArray,List.set_cons_zero,List.set_cons_succ,i64_w,i32_w]
        try rfl
       ·
        refine⟨?_,?_,?_,?_⟩ <;> first|exact h.1|exact h.2.1|exact h.2.2.1|exact h.2.2.2
     ·
      refine go_ Tryz.func91 #[.slice none 0 0,.int .i64 s0_3] ?_
      refine(HI.out.zen (s0_3)).mono ?_
      rintro e wv2 ⟨vfour,rfl,HI_⟩
      refine⟨_,rfl,?_⟩
      clear HI;have HI:=am_ HI_;clear HI_
      refine hK.out _ _ ⟨(zaa ((HI.out).get 1 rfl) 2).trans rfl,(zaa ((HI.out).get 1 rfl) 3).trans rfl⟩ (fun hHeld=>?_)
      clear hK K
      refine nm_ 45 ?_
      refine two_ (i:=4) (j:=6) (Ni:=some 38) (Nj:=some 40) (bs_ 16 4031) (bs_ 16 4079) rfl rfl rfl rfl (by kernel_rfl) (by decide) (by decide) (fun K hK=>?_) (fun K hK=>?_)
      ·
       obtain⟨vconv,wv3,hcv,HI_⟩:=HI.out.zek HST.out
       refine zbg (by rfl) rfl (v:=vconv) (w1:=wv3) qz38_ ?_
       clear HI hcv;have HI:=am_ HI_;clear HI_
       refine hK.out _ _ ⟨(zaa ((HI.out).get 1 rfl) 2).trans rfl,(zaa ((HI.out).get 1 rfl) 3).trans rfl⟩ (fun hHeld=>?_)
       clear hK K
       refine nm_ 38 ?_
       refine on_ 6 (some 40) (bs_ 16 4095) (fun K hK=>?_)
       obtain⟨wv4,hcv,HI_⟩:=HI.out.zdy (xs:=[100,114,97,119]) (by decide)
       replace hcv:(convert 101 101 (.slice (some ⟨gl,0,none⟩) 4 4)).run Tryz.prog wv3=.ok (.slice (some ⟨gl,0,none⟩) 4 4) wv4:=hcv
       refine zbg (by rfl) rfl (v:=.slice (some ⟨gl,0,none⟩) 4 4) (w1:=wv4) qz38_ ?_
       clear HI hcv;have HI:=am_ HI_;clear HI_
       refine hK.out _ _ ⟨(zaa ((HI.out).get 0 rfl) 2).trans rfl,(zaa ((HI.out).get 0 rfl) 3).trans rfl⟩ (fun hHeld=>?_)
       clear hK K
       refine nm_ 40 ?_
       refine norm_ ?_ (hJ (vconv,.slice (some ⟨gl,0,none⟩) 4 4,.slice (some ⟨gl,0,none⟩) 4 4,vfour) wv4 (HI.out.weaken (fun _ h=>?_)))
       ·
        simp only [zd3];simp only [Act.put,List.setIfInBounds_toArray,List.set_cons_zero,List.set_cons_succ,i64_w,i32_w]
        try rfl
       ·
        refine⟨?_,?_,?_,?_⟩ <;> first|exact h.1|exact h.2.1|exact h.2.2.1|exact h.2.2.2
      ·
       obtain⟨wv3,hcv,HI_⟩:=HI.out.zdy (xs:=[100,114,97,119]) (by decide)
       replace hcv:(convert 101 101 (.slice (some ⟨gl,0,none⟩) 4 4)).run Tryz.prog wv2=.ok (.slice (some ⟨gl,0,none⟩) 4 4) wv3:=hcv
       refine zbg (by rfl) rfl (v:=.slice (some ⟨gl,0,none⟩) 4 4) (w1:=wv3) qz38_ ?_
       clear HI hcv;have HI:=am_ HI_;clear HI_
       refine hK.out _ _ ⟨(zaa ((HI.out).get 0 rfl) 2).trans rfl,(zaa ((HI.out).get 0 rfl) 3).trans rfl⟩ (fun hHeld=>?_)
       clear hK K
       refine nm_ 40 ?_
       refine on_ 4 (some 38) (bs_ 16 4095) (fun K hK=>?_)
       obtain⟨vconv,wv4,hcv,HI_⟩:=HI.out.zek HST.out
       refine zbg (by rfl) rfl (v:=vconv) (w1:=wv4) qz38_ ?_
       clear HI hcv;have HI:=am_ HI_;clear HI_
       refine hK.out _ _ ⟨(zaa ((HI.out).get 0 rfl) 2).trans rfl,(zaa ((HI.out).get 0 rfl) 3).trans rfl⟩ (fun hHeld=>?_)
       clear hK K
       refine nm_ 38 ?_
       refine norm_ ?_ (hJ (vconv,.slice (some ⟨gl,0,none⟩) 4 4,.slice (some ⟨gl,0,none⟩) 4 4,vfour) wv4 (HI.out.weaken (fun _ h=>?_)))
       ·
        simp only [zd3];simp only [Act.put,List.setIfInBounds_toArray,List.set_cons_zero,List.set_cons_succ,i64_w,i32_w]
        try rfl
       ·
        refine⟨?_,?_,?_,?_⟩ <;> first|exact h.1|exact h.2.1|exact h.2.2.1|exact h.2.2.2
    ·
     refine go_ Tryz.func91 #[.slice none 0 0,.int .i64 s0_3] ?_
     refine(HI.out.zen (s0_3)).mono ?_
     rintro e wv1 ⟨vfour,rfl,HI_⟩
     refine⟨_,rfl,?_⟩
     clear HI;have HI:=am_ HI_;clear HI_
     refine hK.out _ _ ⟨(zaa ((HI.out).get 0 rfl) 2).trans rfl,(zaa ((HI.out).get 0 rfl) 3).trans rfl⟩ (fun hHeld=>?_)
     clear hK K
     refine nm_ 45 ?_
     refine two_ (i:=4) (j:=5) (Ni:=some 38) (Nj:=some 39) (bs_ 16 3999) (bs_ 16 4015) rfl rfl rfl rfl (by kernel_rfl) (by decide) (by decide) (fun K hK=>?_) (fun K hK=>?_)
     ·
      obtain⟨vconv,wv2,hcv,HI_⟩:=HI.out.zek HST.out
      refine zbg (by rfl) rfl (v:=vconv) (w1:=wv2) qz38_ ?_
      clear HI hcv;have HI:=am_ HI_;clear HI_
      refine hK.out _ _ ⟨(zaa ((HI.out).get 0 rfl) 2).trans rfl,(zaa ((HI.out).get 0 rfl) 3).trans rfl⟩ (fun hHeld=>?_)
      clear hK K
      refine nm_ 38 ?_
      refine on_ 5 (some 39) (bs_ 16 4031) (fun K hK=>?_)
      replace HI:=am_ (HI.out.zhe #[.int .u8 100,.int .u8 114,.int .u8 97,.int .u8 119] 5)
      refine zbg (by rfl) rfl (v:=.slice (some ⟨wv2.heap.size,0,none⟩) 4 4) (w1:=wv2.alloc (.cells #[.int .u8 100,.int .u8 114,.int .u8 97,.int .u8 119] 5)) qz38_ ?_
      generalize wv2.alloc (.cells #[.int .u8 100,.int .u8 114,.int .u8 97,.int .u8 119] 5)=wv3 at HI ⊢
      generalize wv2.heap.size=gl at HI ⊢
      refine hK.out _ _ ⟨(zaa ((HI.out).get 1 rfl) 2).trans rfl,(zaa ((HI.out).get 1 rfl) 3).trans rfl⟩ (fun hHeld=>?_)
      clear hK K
      refine nm_ 39 ?_
      refine on_ 6 (some 40) (bs_ 16 4095) (fun K hK=>?_)
      obtain⟨wv4,hcv,HI_⟩:=HI.out.zdy (xs:=[100,114,97,119]) (by decide)
      replace hcv:(convert 101 101 (.slice (some ⟨gl,0,none⟩) 4 4)).run Tryz.prog wv3=.ok (.slice (some ⟨gl,0,none⟩) 4 4) wv4:=hcv
      refine zbg (by rfl) rfl (v:=.slice (some ⟨gl,0,none⟩) 4 4) (w1:=wv4) qz38_ ?_
      clear HI hcv;have HI:=am_ HI_;clear HI_
      refine hK.out _ _ ⟨(zaa ((HI.out).get 0 rfl) 2).trans rfl,(zaa ((HI.out).get 0 rfl) 3).trans rfl⟩ (fun hHeld=>?_)
      clear hK K
      refine nm_ 40 ?_
      refine norm_ ?_ (hJ (vconv,.slice (some ⟨gl,0,none⟩) 4 4,.slice (some ⟨gl,0,none⟩) 4 4,vfour) wv4 (HI.out.weaken (fun _ h=>?_)))
      ·
       simp only [zd3];simp only [Act.put,List.setIfInBounds_toArray,List.set_cons_zero,List.set_cons_succ,i64_w,i32_w]
       try rfl
      ·
       refine⟨?_,?_,?_,?_⟩ <;> first|exact h.1|exact h.2.1|exact h.2.2.1|exact h.2.2.2
     ·
      replace HI:=am_ (HI.out.zhe #[.int .u8 100,.int .u8 114,.int .u8 97,.int .u8 119] 5)
      refine zbg (by rfl) rfl (v:=.slice (some ⟨wv1.heap.size,0,none⟩) 4 4) (w1:=wv1.alloc (.cells #[.int .u8 100,.int .u8 114,.int .u8 97,.int .u8 119] 5)) qz38_ ?_
      generalize wv1.alloc (.cells #[.int .u8 100,.int .u8 114,.int .u8 97,.int .u8 119] 5)=wv2 at HI ⊢
      generalize wv1.heap.size=gl at HI ⊢
      refine hK.out _ _ ⟨(zaa ((HI.out).get 1 rfl) 2).trans rfl,(zaa ((HI.out).get 1 rfl) 3).trans rfl⟩ (fun hHeld=>?_)
      clear hK K
      refine nm_ 39 ?_
      refine two_ (i:=4) (j:=6) (Ni:=some 38) (Nj:=some 40) (bs_ 16 4031) (bs_ 16 4079) rfl rfl rfl rfl (by kernel_rfl) (by decide) (by decide) (fun K hK=>?_) (fun K hK=>?_)
      ·
       obtain⟨vconv,wv3,hcv,HI_⟩:=HI.out.zek HST.out
       refine zbg (by rfl) rfl (v:=vconv) (w1:=wv3) qz38_ ?_
       clear HI hcv;have HI:=am_ HI_;clear HI_
       refine hK.out _ _ ⟨(zaa ((HI.out).get 1 rfl) 2).trans rfl,(zaa ((HI.out).get 1 rfl) 3).trans rfl⟩ (fun hHeld=>?_)
       clear hK K
       refine nm_ 38 ?_
       refine on_ 6 (some 40) (bs_ 16 4095) (fun K hK=>?_)
       obtain⟨wv4,hcv,HI_⟩:=HI.out.zdy (xs:=[100,114,97,119]) (by decide)
       replace hcv:(convert 101 101 (.slice (some ⟨gl,0,none⟩) 4 4)).run Tryz.prog wv3=.ok (.slice (some ⟨gl,0,none⟩) 4 4) wv4:=hcv
       refine zbg (by rfl) rfl (v:=.slice (some ⟨gl,0,none⟩) 4 4) (w1:=wv4) qz38_ ?_
       clear HI hcv;have HI:=am_ HI_;clear HI_
       refine hK.out _ _ ⟨(zaa ((HI.out).get 0 rfl) 2).trans rfl,(zaa ((HI.out).get 0 rfl) 3).trans rfl⟩ (fun hHeld=>?_)
       clear hK K
       refine nm_ 40 ?_
       refine norm_ ?_ (hJ (vconv,.slice (some ⟨gl,0,none⟩) 4 4,.slice (some ⟨gl,0,none⟩) 4 4,vfour) wv4 (HI.out.weaken (fun _ h=>?_)))
       ·
        simp only [zd3];simp only [Act.put,List.setIfInBounds_toArray,List.set_cons_zero,List.set_cons_succ,i64_w,i32_w]
        try rfl
       ·
        refine⟨?_,?_,?_,?_⟩ <;> first|exact h.1|exact h.2.1|exact h.2.2.1|exact h.2.2.2
      ·
       obtain⟨wv3,hcv,HI_⟩:=HI.out.zdy (xs:=[100,114,97,119]) (by decide)
       replace hcv:(convert 101 101 (.slice (some ⟨gl,0,none⟩) 4 4)).run Tryz.prog wv2=.ok (.slice (some ⟨gl,0,none⟩) 4 4) wv3:=hcv
       refine zbg (by rfl) rfl (v:=.slice (some ⟨gl,0,none⟩) 4 4) (w1:=wv3) qz38_ ?_
       clear HI hcv;have HI:=am_ HI_;clear HI_
       refine hK.out _ _ ⟨(zaa ((HI.out).get 0 rfl) 2).trans rfl,(zaa ((HI.out).get 0 rfl) 3).trans rfl⟩ (fun hHeld=>?_)
       clear hK K
       refine nm_ 40 ?_
       refine on_ 4 (some 38) (bs_ 16 4095) (fun K hK=>?_)
       obtain⟨vconv,wv4,hcv,HI_⟩:=HI.out.zek HST.out
       refine zbg (by rfl) rfl (v:=vconv) (w1:=wv4) qz38_ ?_
       clear HI hcv;have HI:=am_ HI_;clear HI_
       refine hK.out _ _ ⟨(zaa ((HI.out).get 0 rfl) 2).trans rfl,(zaa ((HI.out).get 0 rfl) 3).trans rfl⟩ (fun hHeld=>?_)
       clear hK K
       refine nm_ 38 ?_
       refine norm_ ?_ (hJ (vconv,.slice (some ⟨gl,0,none⟩) 4 4,.slice (some ⟨gl,0,none⟩) 4 4,vfour) wv4 (HI.out.weaken (fun _ h=>?_)))
       ·
        simp only [zd3];simp only [Act.put,List.setIfInBounds_toArray,List.set_cons_zero,List.set_cons_succ,i64_w,i32_w]
        try rfl
       ·
        refine⟨?_,?_,?_,?_⟩ <;> first|exact h.1|exact h.2.1|exact h.2.2.1|exact h.2.2.2
   ·
    rintro⟨v0,v1,v2,v3⟩ wj HI0
    have HI:=am_ HI0
    clear HI0
    refine norm_ (a':=?_) ?_ ?_
    rotate_left
    ·
     simp only [zd3];simp only [Act.put,List.setIfInBounds_toArray,List.set_cons_zero,List.set_cons_succ,i64_w,i32_w]
     try rfl
    obtain⟨Aq0,cq0,eq_,_,_⟩:=HI.out.now.1;subst eq_
    obtain⟨Aq2,cq2,eq_,_,_⟩:=HI.out.now.2.1;subst eq_
    obtain⟨Aq3,cq3,eq_,_,_⟩:=HI.out.now.2.2.1;subst eq_
    refine on_ 12 (some 46) (bs_ 16 8191) (fun K hK=>?_)
    refine zbg (by rfl) rfl (v:=.slice (some ⟨wj.heap.size,0,none⟩) 3 3) (w1:=wj.alloc (.cells #[.slice Aq0 (nums_ s0_2).length cq0,.slice Aq2 4 cq2,.slice Aq3 (four_ s0_3).length cq3] 101)) qz38_ ?_
    refine hK.out _ _ ⟨(zaa ((HI.out.alloc _).get 0 rfl) 2).trans rfl,(zaa ((HI.out.alloc _).get 0 rfl) 3).trans rfl⟩ (fun hHeld=>?_)
    clear hK K
    refine nm_ 46 ?_
    refine on_ 13 (some 47) (bs_ 16 16383) (fun K hK=>?_)
    refine go_ Tryz.func135 #[.slice (some ⟨wj.heap.size,0,none⟩) 3 3] ?_
    have hp:=pieces3 (W:=wj) (T:=101) HI.out.now.1 HI.out.now.2.1 HI.out.now.2.2.1
    refine(zep.walk (some ⟨wj.heap.size,0,none⟩) 3 [nums_ s0_2,[100,114,97,119],four_ s0_3] _ hp (by have:=HST.out;simp [nums_length,zcy];omega) (by simp)).mono ?_
    rintro e wk ⟨rfl,hb⟩
    rw [HKE.out]
    refine⟨_,rfl,?_⟩
    replace HI:=am_ ((HI.out.alloc _).grow hb)
    clear hb hp
    refine hK.out _ _ ⟨(zaa ((HI.out).get 0 rfl) 2).trans rfl,(zaa ((HI.out).get 0 rfl) 3).trans rfl⟩ (fun hHeld=>?_)
    clear hK K
    refine nm_ 47 ?_
    refine on_ 14 (some 48) (bs_ 16 32767) (fun K hK=>?_)
    obtain⟨v48,w48,hcv,HI_⟩:=HI.out.zek HKZ.out
    refine zbg (by rfl) rfl (v:=v48) (w1:=w48) qz38_ ?_
    clear HI hcv;have HI:=am_ HI_;clear HI_
    refine hK.out _ _ ⟨(zaa ((HI.out).get 0 rfl) 2).trans rfl,(zaa ((HI.out).get 0 rfl) 3).trans rfl⟩ (fun hHeld=>?_)
    clear hK K
    refine nm_ 48 ?_
    refine pu_ 15 3 (bs_ 16 65535) ?_
    refine done_ (by kernel_rfl) ?_
    obtain⟨A8,c8,eq_,hc8,hC8⟩:=HI.out.now.1
    subst eq_
    replace HI:=am_ (HI.out.weaken (G:=fun w2=>Kd.C (Kd.int .u8) w2 A8 (nums_ hs).length (nums_ hs)∧(fun w2=>Kd.C k32 w2 A0 s0_0.length s0_0) w2) (fun w2 h=>⟨by obtain⟨A,c,e,_,hC⟩:=h.1;injection e with e1 e2 e3;rw [e1];exact hC,h.2.2.2.2⟩))
    have hq3:w48.cell? ⟨g,3,none⟩=some (.int .i64 s0_3):=(zaa HI.out.blk0 3).trans rfl
    have hf3:=zbu HI.out.blk0 3
    clear hC8 hHeld
    go_wp2
    have HI2:=am_ (HI.out.set0 3 (.int .i64 (wrap64 (s0_3 + 1))))
    clear HI hq3 hf3
    generalize w48.setCell ⟨g,3,none⟩ (.int .i64 (wrap64 (s0_3 + 1)))=w5 at HI2 ⊢
    have HI:=HI2
    clear HI2
    have hbl:(nums_ hs).length=32:=by rw [nums_length];exact HKL.out
    obtain⟨hcut1,hA1,hD1⟩:=zka (P:=Tryz.prog) (k:=.u8) 101 5 Tryz.underlying101 HI5.out HZ5.out A8 c8 (nums_ hs) 8 (by omega) (by omega) hc8
    obtain⟨A9,hcut2,hA2,hD2⟩:=zh2 (P:=Tryz.prog) (k:=.u8) 101 5 Tryz.underlying101 HI5.out HZ5.out A8 c8 (nums_ hs) 8 16 (by omega) (by omega) (by omega) hc8
    have hE1:=am_ (zp5 (xs:=(nums_ hs).take 8) (by rw [List.length_take];omega))
    have hE2:=am_ (zp5 (xs:=((nums_ hs).take 16).drop 8) (by rw [List.length_drop,List.length_take];omega))
    rw [show (8:Int).toNat=8 from rfl] at hcut1 hA1 hD1
    rw [show (8:Int).toNat=8 from rfl,show (16:Int).toNat=16 from rfl] at hcut2 hA2 hD2
    have HR1:=am_ (show Kd.C (Kd.int .u8) w5 A8 ((nums_ hs).take 8).length ((nums_ hs).take 8) from Kd.zfq (h1:=fun _=>rfl) (hA1 _ (Kd.zfr HI.out.now.1)))
    have HR2:=am_ (show Kd.C (Kd.int .u8) w5 A9 (((nums_ hs).take 16).drop 8).length (((nums_ hs).take 16).drop 8) from Kd.zfq (h1:=fun _=>rfl) (hA2 _ (Kd.zfr HI.out.now.1)))
    have HD1:=am_ hD1
    have HD2:=am_ hD2
    generalize hm1:mod8 ((nums_ hs).take 8)=m1 at hE1
    generalize hm2:mod8 (((nums_ hs).take 16).drop 8)=m2 at hE2
    have HM1:=am_ hm1
    have HM2:=am_ hm2
    clear hm1 hm2
    generalize hx1:(nums_ hs).take 8=x1 at hcut1 HR1 HD1 hE1
    generalize hx2:((nums_ hs).take 16).drop 8=x2 at hcut2 HR2 HD2 hE2
    clear hx1 hx2
    clear hA1 hA2 hD1 hD2 hbl
    refine zcn (n:=8) (S:=fun w'=>True) (ds:=[7]) (bs_ 8 0) (by kernel_rfl) rfl rfl trivial (fun hHeld=>?_)
    refine pu_ 0 56 (bs_ 8 1) ?_
    refine pu_ 1 57 (bs_ 8 3) ?_
    refine pu_ 3 59 (bs_ 8 11) ?_
    refine pu_ 4 60 (bs_ 8 27) ?_
    refine on_ 2 (some 58) (bs_ 8 31) (fun K hK=>?_)
    refine go_ Tryz.func140 #[.slice A8 x1.length c8] ?_
    with_reducible refine(zce.calls 20 A8 c8 x1 m1 _ (Kd.zpg HR1.out) HD1.out hE1.out).mono ?_
    rintro e w58 ⟨rfl,⟨n1,rfl⟩⟩
    refine⟨_,rfl,?_⟩
    refine hK.out _ _ trivial (fun hHeld=>?_)
    clear hK K
    refine nm_ 58 ?_
    refine on_ 5 (some 61) (bs_ 8 63) (fun K hK=>?_)
    refine go_ Tryz.func140 #[.slice A9 x2.length (c8 - 8)] ?_
    with_reducible refine(zce.calls 20 A9 (c8 - 8) x2 m2 _ (Kd.zqi (Kd.zpg HR2.out) _) HD2.out hE2.out).mono ?_
    rintro e w61 ⟨rfl,⟨n2,rfl⟩⟩
    refine⟨_,rfl,?_⟩
    refine hK.out _ _ trivial (fun hHeld=>?_)
    clear hK K
    refine nm_ 61 ?_
    refine pu_ 6 62 (bs_ 8 127) ?_
    refine last_ (i:=7) (N:=none) (bs_ 8 255) rfl rfl (by kernel_rfl) (by decide) (fun K hK=>?_)
    rw [if_pos (by rfl)]
    have hG:((w5.drew.drewN n1).drewN n2).heap[gb]?=some (.cells #[.int .i64 0,.int .i64 0] 32 (0,0)):=(((HI.out.swap.drew).drewN n1).drewN n2).blk0
    refine wp_store_row 32 _ _ rfl gb (#[.int .i64 m1,.int .i64 m2]) rfl qz36_ 32 (#[.int .i64 0,.int .i64 0]) hG (zfx m1 m2) (zla m1 m2) (zk4 m1 m2) ?_
    refine hK.out _ _ ?_
    clear hK K
    have HI2:=am_ (((((HI.out.swap.drew).drewN n1).drewN n2).put0 (#[.int .i64 m1,.int .i64 m2])).swap)
    refine done_ (by kernel_rfl) ?_
    try go_wp2
    refine bodyPost_ret (v:=.agg #[.int .i64 m1,.int .i64 m2]) ?hres rfl ?_
    case hres=>exact results_cell_row (fn:=Tryz.f104) (p:=2) rfl _ _ gb 32 (#[.int .i64 m1,.int .i64 m2]) (0,0) _ (by first|rfl|(simp;done)) HI2.out.swap.blk0 hu32 rfl (by kernel_rfl)
    exact⟨by rw [HM1.out,HM2.out],⟨A0,c0,HI2.out.blk0,HGQ.out,HR0.out⟩,HI2.out.agr.onto HB.out (fun k hk=>by obtain rfl:k=g:=hk;exact HGE.out),HI2.out.agr.keep⟩
  ·
   rw [if_neg cs] at h;cases h
def zgz.f (a0_0:Int) (a0_1:Int):Option (Unit):=some ()
theorem zgz.calls (a0_0:Int) (a0_1:Int) (w:World) (h:zgz.f a0_0 a0_1=some ()) :
  Calls Tryz.prog 55 #[.agg #[.int .i64 a0_0,.int .i64 a0_1]] w fun e w'=>e=.returned (.tuple #[])∧Below w.heap.size w w':=by
 have hu32:=Tryz.underlying32
 have HB:=am_ (Below.refl w.heap.size w)
 have H:(some ())=some ():=h
 clear h
 go_enter Tryz.func55,Tryz.ntmps55
 go_wp2_with (first|((with_reducible refine zad (N:=1) rfl ?_);refine zaj rfl (N:=1) rfl (cs:=#[.int .i64 a0_0,.int .i64 a0_1]) (t:=32) bx_ ?_;intro gb101 hg w2 hbox hb;replace BK101:=am_ (hbox);replace GW101:=am_ ((by rw [hg];exact(zaf qz2_):w.heap.size≤gb101));replace GE101:=GW101;replace HB:=am_ (zab qz2_ hb);clear hb hbox hg))
 first|go_end0|((try simp only [Exit.inBlock,Exit.then]);refine bodyPost_ret (results_none rfl _ _ _) rfl ?_)
 exact⟨qz4_,qz5_⟩
def za8.l0:Nat→List Int→List (S32)→Int→Int→Option (List Int)
 | 0,_,_,_,_=>none
 | k + 1,x3,x7,x8,x9=>if x9<x8 then(if 0≤x9 then(if x9<(x7.length:Int) then((ze1.f x3 ((zac x7 x9).f0)).bind fun t106=>((ze1.f t106 ((zac x7 x9).f1)).bind fun t109=>(za8.l0 k t109 x7 x8 (wrap64 (x9 + 1))))) else(none)) else(none)) else(some x3)
def za8.f (k:Nat) (l0:List (S32)):Option (List Int):=za8.l0 k (([]:List Int)) l0 (l0.length:Int) 0
def za8.T5:Bool × List (List Nat × List Nat):=(true,[([],[]),([],[]),([1],[1]),([0,2],[0,2]),([],[]),([4],[4]),([3,5,3],[3,5]),([6,6,0,1,2,3,4,5,6],[0,6])])
def za8.B5:List Nat:=[0,0,2,7,0,16,63,127]
theorem za8.tab5:rtab .any (opsOf Tryz.f136 5)=za8.T5:=by kernel_rfl
theorem za8.bits5:zcu za8.T5.2 za8.B5=true:=by kernel_rfl
theorem za8.calls (k:Nat) (A0:Option Addr) (c0:Nat) (l0:List (S32)) (r:List Int) (w:World) (hr0:Kd.C k32 w A0 l0.length l0) (hc0:l0.length≤c0) (h:za8.f k l0=some r) :
  Calls Tryz.prog 136 #[.slice A0 l0.length c0] w fun e w'=>∃ v0_:Value,e=.returned (v0_)∧Kd.R (Kd.int .u8) 5 w' w.heap.size (fun _=>True) v0_ r∧Below w.heap.size w w':=by
 have hu32:=Tryz.underlying32
 have HR0:=am_ hr0
 have HC0:=am_ hc0
 clear hr0 hc0
 have HB:=am_ (Below.refl w.heap.size w)
 have H:(za8.l0 k (([]:List Int)) l0 (l0.length:Int) 0)=some r:=h
 clear h
 obtain⟨y101,hy101⟩:∃ y_:List Int,y_=(([]:List Int)):=⟨_,rfl⟩
 replace H:(za8.l0 k y101 l0 (l0.length:Int) 0)=some r:=by first|(rw [hy101];with_reducible exact H)|(have H2_:=(Option.bind_some _ _).symm.trans H;rw [hy101];with_reducible exact H2_)|(have H2_:=(Option.bind_some _ _).symm.trans H;with_reducible exact H2_)|with_reducible exact H|(rw [hy101];exact H)|exact H
 have Ny101:=am_ hy101
 clear hy101
 have H':=am_ H
 clear H
 go_enter Tryz.func136,Tryz.ntmps136
 go_wp2_with (first|((with_reducible refine zad (N:=6) rfl ?_);refine Kd.R_lit (Kd.int .u8) _ 5 ?hg (N:=6) ?hd (xs:=([]:List Int)) (inner:=[]) (ok:=fun _=>True) (okp:=fun _=>True) ?hr ?hp (fun _ hk=>hk) trivial (Below.refl _ _) (Nat.le_refl _) (by simp) ?_;(case hd=>rfl);(case hg=>rfl);(case hr=>first|(go_simp;done)|(go_simp;rfl));(case hp=>exact(Reps.none _ _));intro v102 w2 ho3 hb hg_ hnew_;clear hg_ hnew_;(first|rw [←Ny101.out] at ho3|(simp only [Int.reduceToNat] at ho3;rw [←Ny101.out] at ho3));replace HO103:=am_ (Kd.zcw ho3 (zaf qz2_));replace HB:=am_ (zab qz2_ hb);clear hb ho3))
 go_loopg [3,9] k (fun kq v3 v9 w'=>∃ (x3_1:List Int) (x9_1:Int),v9=.int .i64 x9_1∧zal (za8.l0 kq x3_1 l0 (l0.length:Int) x9_1=some r)∧zal (kq≤k)∧zal (Kd.R (Kd.int .u8) 5 w' w.heap.size (fun _=>True) v3 x3_1)∧zal (Below w.heap.size w w'))
 case atStart=>exact⟨(y101),(0),qz0_,H',⟨Nat.le_refl _⟩,⟨qz11_⟩,⟨qz2_⟩⟩
 case round=>
  clear H'
  try clear c1
  try clear p2
  obtain⟨x3_1,x9_1,rfl,HA,HK1,HO_3,HB⟩:=hrel
  cases gk with
  | zero=>exact absurd HA.out (by simp [za8.l0])
  | succ k1=>
   have H:=HA.out
   clear HA
   simp only [za8.l0] at H
   by_cases c4:x9_1<(l0.length:Int)
   ·
    rw [if_pos c4] at H
    have c4b0:decide (x9_1<(l0.length:Int))=true:=decide_eq_true c4
    clear c4
    by_cases c5:0≤x9_1
    ·
     rw [if_pos c5] at H
     have c5b0:decide (0≤x9_1)=true:=decide_eq_true c5
     clear c5
     by_cases c6:x9_1<(l0.length:Int)
     ·
      rw [if_pos c6] at H
      have c6b0:decide (x9_1<(l0.length:Int))=true:=decide_eq_true c6
      clear c6
      replace H:=Option.bind_eq_some_iff.mp H
      obtain⟨t106,A70,H⟩:=H
      replace H:((ze1.f t106 ((zac l0 x9_1).f1)).bind fun t109=>(za8.l0 k1 t109 l0 (l0.length:Int) (wrap64 (x9_1 + 1))))=some r:=H
      have A7:=am_ A70
      clear A70
      replace H:=Option.bind_eq_some_iff.mp H
      obtain⟨t109,A80,H⟩:=H
      replace H:(za8.l0 k1 t109 l0 (l0.length:Int) (wrap64 (x9_1 + 1)))=some r:=H
      have A8:=am_ A80
      clear A80
      have H':=am_ H
      clear H
      have p104:0≤(x9_1:Int):=of_decide_eq_true qz10_
      have q104:x9_1<(l0.length:Int):=of_decide_eq_true qz10_
      obtain⟨ad104,e104,hx104_0,hx104_1⟩:=zdf HR0.out x9_1 p104 q104
      cases e104
      replace hx104_0:=(HB.out.cell (World.block_lt_of_cell? w _ hx104_0)).trans hx104_0
      replace hx104_1:=(HB.out.cell (World.block_lt_of_cell? w _ hx104_1)).trans hx104_1
      replace p104:=eq_true p104
      replace q104:=eq_true q104
      try go_wp2_with (first|((with_reducible refine zad (N:=5) rfl ?_);refine zaj rfl (N:=5) rfl (cs:=#[.int .i64 0,.int .i64 0]) (t:=32) bx_ ?_;intro gb105 hg w9 hbox hb;replace HO_3:=am_ (Kd.zct qz12_ hb);replace BK105:=am_ (hbox);replace GW105:=am_ ((by rw [hg];exact(zaf qz2_):w.heap.size≤gb105));replace GE105:=GW105;replace HB:=am_ (zab qz2_ hb);clear hb hbox hg;obtain⟨hcz10_0,hcz10_1,hfz10_0,hfz10_1⟩:=bf2_ BK105.out))
      have n0_:zal (Kd.R (Kd.int .u8) 5 ((w9.setCell ⟨gb105,0,none⟩ (.int .i64 ((zac l0 x9_1).f0))).setCell ⟨gb105,1,none⟩ (.int .i64 ((zac l0 x9_1).f1))) w.heap.size (fun _=>True) u3 x3_1):=⟨by(with_reducible repeat(first|apply Kd.zbm|apply Kd.zbl|apply Kd.zbt));exact Kd.zba (Kd.R_far (p:=⟨gb105,1,none⟩) (Kd.R_far (p:=⟨gb105,0,none⟩) (Kd.zeq HO_3.out BK105.out (by decide)) (fun _ hk=>hk.2) (.int .i64 ((zac l0 x9_1).f0))) (fun _ hk=>hk.2) (.int .i64 ((zac l0 x9_1).f1))) (fun _ hk=>trivial)⟩
      have n1_:zal (((w9.setCell ⟨gb105,0,none⟩ (.int .i64 ((zac l0 x9_1).f0))).setCell ⟨gb105,1,none⟩ (.int .i64 ((zac l0 x9_1).f1))).heap[gb105]?=some (.cells #[.int .i64 ((zac l0 x9_1).f0),.int .i64 ((zac l0 x9_1).f1)] 32 (0,0))):=⟨(by(with_reducible repeat(first|refine zah ?_ _|refine zae ?_|refine zai ?_ _));refine za9 (cs:=#[.int .i64 ((zac l0 x9_1).f0),.int .i64 0]) ?_ 1 _ rfl;(with_reducible repeat(first|refine zah ?_ _|refine zae ?_|refine zai ?_ _));refine za9 (cs:=#[.int .i64 0,.int .i64 0]) ?_ 0 _ rfl;(with_reducible repeat(first|refine zah ?_ _|refine zae ?_|refine zai ?_ _));exact BK105.out)⟩
      have n2_:zal (Below w.heap.size w ((w9.setCell ⟨gb105,0,none⟩ (.int .i64 ((zac l0 x9_1).f0))).setCell ⟨gb105,1,none⟩ (.int .i64 ((zac l0 x9_1).f1)))):=⟨(by repeat(first|(with_reducible first|exact HB.out|apply za5|apply zaw|apply zao|refine za6 ?_ GE105.out)|exact HB.out))⟩
      (try clear HO_3)
      (try clear BK105)
      (try clear HB)
      generalize ((w9.setCell ⟨gb105,0,none⟩ (.int .i64 ((zac l0 x9_1).f0))).setCell ⟨gb105,1,none⟩ (.int .i64 ((zac l0 x9_1).f1)))=w11 at n0_ n1_ n2_ ⊢
      have HO_3:=n0_
      have BK105:=n1_
      have HB:=n2_
      clear n0_ n1_ n2_
      replace HO_3:=am_ (Kd.zbt HO_3.out)
      replace BK105:=am_ (zae BK105.out)
      replace HB:=am_ (zao HB.out)
      obtain⟨Ao13,co13,eo13⟩:=Kd.zcb HO_3.out
      (first|subst eo13|(injection eo13 with f1_ f2_ f3_;have f4_:=f1_.symm;have f5_:=f3_.symm;clear f1_ f2_ f3_;subst f4_;subst f5_))
      refine zcn (n:=8) (S:=fun w'=>w'.cell? ⟨gb105,0,none⟩=some (.int .i64 ((zac l0 x9_1).f0))∧w'.cell? ⟨gb105,1,none⟩=some (.int .i64 ((zac l0 x9_1).f1))) (ds:=[]) (bs_ 8 0) (by kernel_rfl) rfl rfl ⟨(zaa BK105.out 0).trans rfl,(zaa BK105.out 1).trans rfl⟩ (fun hHeld=>?_);refine zcj za8.tab5 za8.bits5 (fun HT_ HW_=>?_)
      generalize w11.drew=w12 at HO_3 BK105 HB hHeld ⊢
      refine pt_ HT_.out 0 13 (bs_ 8 1) ?_
      refine pt_ HT_.out 1 14 (bs_ 8 3) ?_
      refine pt_ HT_.out 4 17 (bs_ 8 19) ?_
      refine tt_ HT_ HW_ 2 (bs_ 8 23) hHeld ?_
      refine tt_ HT_ HW_ 5 (bs_ 8 55) hHeld ?_
      refine ot_ HT_ 3 (some 16) (bs_ 8 63) (fun K hK=>?_)
      refine go_ Tryz.func91 #[.slice Ao13 x3_1.length co13,.int .i64 ((zac l0 x9_1).f0)] ?_
      with_reducible refine(ze1.calls (fun k_=>some k_=(.slice Ao13 x3_1.length co13:Value).ownBlock) (.slice Ao13 x3_1.length co13) x3_1 ((zac l0 x9_1).f0) t106 w _ ?side1 ?side2 A7.out).mono ?_
      (case side1=>repeat(first|(with_reducible first|exact HB.out|apply za5|apply zaw|apply zao|refine za6 ?_ GE105.out)|exact HB.out))
      (case side2=>exact Kd.zem rfl HO_3.out)
      rintro e w14 ⟨v107,rfl,ho0,hb,hkp⟩
      refine⟨_,rfl,?_⟩
      replace BK105:=am_ (zh1 (g:=gb105) (o:=.cells #[.int .i64 ((zac l0 x9_1).f0),.int .i64 ((zac l0 x9_1).f1)] 32 (0,0)) (by(with_reducible repeat(first|refine zah ?_ _|refine zae ?_|refine zai ?_ _));exact BK105.out) hkp (fun hs_=>(fun e_=>(Kd.R_ne HO_3.out BK105.out (by decide)) e_) hs_))
      replace HO108:=am_ (Kd.zba (ok':=fun k_=>True) ho0 (fun k_ hk_=>trivial))
      replace HB:=am_ (hb)
      clear HO_3
      (try clear hb)
      (try clear hkp)
      (try clear ho0)
      obtain⟨Ao15,co15,eo15⟩:=Kd.zcb HO108.out
      (first|subst eo15|(injection eo15 with f1_ f2_ f3_;have f4_:=f1_.symm;have f5_:=f3_.symm;clear f1_ f2_ f3_;subst f4_;subst f5_))
      refine hK.out _ _ ⟨(zaa BK105.out 0).trans rfl,(zaa BK105.out 1).trans rfl⟩ (fun hHeld=>?_)
      clear hK K
      refine nm_ 16 ?_
      refine ot_ HT_ 6 (some 19) (bs_ 8 127) (fun K hK=>?_)
      refine go_ Tryz.func91 #[.slice Ao15 t106.length co15,.int .i64 ((zac l0 x9_1).f1)] ?_
      with_reducible refine(ze1.calls (fun k_=>some k_=(.slice Ao15 t106.length co15:Value).ownBlock) (.slice Ao15 t106.length co15) t106 ((zac l0 x9_1).f1) t109 w _ ?side1 ?side2 A8.out).mono ?_
      (case side1=>repeat(first|(with_reducible first|exact HB.out|apply za5|apply zaw|apply zao|refine za6 ?_ GE105.out)|exact HB.out))
      (case side2=>exact Kd.zem rfl HO108.out)
      rintro e w16 ⟨v110,rfl,ho0,hb,hkp⟩
      refine⟨_,rfl,?_⟩
      replace BK105:=am_ (zh1 (g:=gb105) (o:=.cells #[.int .i64 ((zac l0 x9_1).f0),.int .i64 ((zac l0 x9_1).f1)] 32 (0,0)) (by(with_reducible repeat(first|refine zah ?_ _|refine zae ?_|refine zai ?_ _));exact BK105.out) hkp (fun hs_=>(fun e_=>(Kd.R_ne HO108.out BK105.out (by decide)) e_) hs_))
      replace HO111:=am_ (Kd.zba (ok':=fun k_=>True) ho0 (fun k_ hk_=>trivial))
      replace HB:=am_ (hb)
      clear HO108
      (try clear hb)
      (try clear hkp)
      (try clear ho0)
      refine hK.out _ _ ⟨(zaa BK105.out 0).trans rfl,(zaa BK105.out 1).trans rfl⟩ (fun hHeld=>?_)
      clear hK K
      refine nm_ 19 ?_
      refine pt_ HT_.out 7 3 (bs_ 8 255) ?_
      refine done_ (zdr HT_.out (by kernel_rfl)) ?_
      try go_wp2
      go_roundg k1
      case measure=>have:=HK1.out;omega
      case rel=>exact⟨(t109),(wrap64 (x9_1 + 1)),qz0_,H',⟨qz13_⟩,⟨(by(with_reducible repeat(first|apply Kd.zbm|apply Kd.zbl|apply Kd.zbt));exact HO111.out)⟩,⟨(by repeat(first|(with_reducible first|exact HB.out|apply za5|apply zaw|apply zao|refine za6 ?_ GE105.out)|exact HB.out))⟩⟩
     ·
      rw [if_neg c6] at H
      exact absurd H (by simp)
    ·
     rw [if_neg c5] at H
     exact absurd H (by simp)
   ·
    rw [if_neg c4] at H
    have c4b0:decide (x9_1<(l0.length:Int))=false:=decide_eq_false c4
    clear c4
    obtain rfl:=Option.some.inj H
    go_wp2
    go_ret
    exact⟨_,qz4_,qz12_,qz2_⟩
def zcr.f (k:Nat) (s0_0:List (S32)) (s0_1:Int) (s0_2:ByteArray) (s0_3:Int) (l1:List (S32)):Option (Int × ByteArray × Int):=(za8.f k l1).bind fun t101=>((zca.f s0_0 s0_1 s0_2 s0_3 t101).bind fun bt104=>(some (bt104.1,bt104.2.1,bt104.2.2)))
theorem zcr.calls (k:Nat) (g:Nat) (s0_0:List (S32)) (s0_1:Int) (s0_2:ByteArray) (s0_3:Int) (A1:Option Addr) (c1:Nat) (l1:List (S32)) (r1:Int) (r2:ByteArray) (r3:Int) (w0 w:World) (hI:IsS38 w0 w g s0_0 s0_1 s0_2 s0_3) (hB:Below w0.heap.size w0 w) (hr1:∀ W_,zbn w W_ g none→Kd.C k32 W_ A1 l1.length l1) (hc1:l1.length≤c1) (h:zcr.f k s0_0 s0_1 s0_2 s0_3 l1=some (r1,r2,r3)) :
  Calls Tryz.prog 89 #[.pointer (some ⟨g,0,none⟩),.slice A1 l1.length c1] w fun e w'=>e=.returned (.tuple #[])∧IsS38 w0 w' g s0_0 r1 r2 r3∧Below w0.heap.size w0 w'∧zbn w w' g none:=by
 have HR1:=am_ hr1
 have HC1:=am_ hc1
 clear hr1 hc1
 have HI0:=am_ hI
 have HK:=am_ (zbn.refl w g none)
 have HL:=am_ hB.size
 clear hI
 have HW0:=am_ hB.size
 have HB:=am_ hB
 clear hB
 have H:((za8.f k l1).bind fun t101=>((zca.f s0_0 s0_1 s0_2 s0_3 t101).bind fun bt104=>(some (bt104.1,bt104.2.1,bt104.2.2))))=some (r1,r2,r3):=h
 clear h
 replace H:=Option.bind_eq_some_iff.mp H
 obtain⟨t101,A30,H⟩:=H
 replace H:((zca.f s0_0 s0_1 s0_2 s0_3 t101).bind fun bt104=>(some (bt104.1,bt104.2.1,bt104.2.2)))=some (r1,r2,r3):=H
 have A3:=am_ A30
 clear A30
 replace H:=Option.bind_eq_some_iff.mp H
 obtain⟨⟨t104,t105,t106⟩,A40,H⟩:=H
 replace H:(some (t104,t105,t106))=some (r1,r2,r3):=H
 have A4:=am_ A40
 clear A40
 simp only [Option.some.injEq,Prod.mk.injEq] at H
 obtain⟨rfl,rfl,rfl⟩:=H
 go_enter Tryz.func89,Tryz.ntmps89
 go_wp2_with (first|((with_reducible refine zan (f:=136) rfl ?_);refine gl_ (some 6) Tryz.func136 #[.slice A1 l1.length c1] ?_;(with_reducible refine(za8.calls k _ _ l1 t101 _ ?side1 ?side2 A3.out).mono ?_);(case side1=>exact Kd.zos HR1.out qz40_);(case side2=>exact HC1.out);rintro e w5 ⟨v102,rfl,ho0,hb⟩;refine⟨_,rfl,?_⟩;replace HO103:=am_ (Kd.zcw ho0 (zp3 (w:=w) (g:=g) (row:=none) qz40_));replace HK:=am_ (zbn.trans qz40_ (zbn.of_below hb g none) (.inl rfl));replace HB:=am_ (zab (by repeat(first|(with_reducible first|exact HB.out|apply za5|apply zaw|apply zao|refine za6 ?_ (IsS38.ge HI0.out))|exact HB.out)) hb);replace HI0:=am_ (IsS38.below (by repeat(first|(with_reducible first|exact HI0.out|apply IsS38.alloc|apply IsS38.drewN|apply IsS38.drew|apply IsS38.set_1|apply IsS38.set_2|apply IsS38.set_3)|exact HI0.out)) hb);(try clear hb);(try clear hb2);(try clear hk);(try clear hi);(try clear ho0);obtain⟨Ao6,co6,eo6⟩:=Kd.zcb HO103.out;subst eo6)|((with_reducible refine zan (f:=88) rfl ?_);refine gl_ (some 7) Tryz.func88 #[.pointer (some ⟨g,0,none⟩),.slice Ao6 t101.length co6] ?_;(with_reducible refine(zca.calls g s0_0 s0_1 s0_2 s0_3 _ _ t101 t104 t105 t106 w0 _ ?side1 ?side2 ?side3 ?side4 ?side5 A4.out).mono ?_);(case side1=>repeat(first|(with_reducible first|exact HI0.out|apply IsS38.alloc|apply IsS38.drewN|apply IsS38.drew|apply IsS38.set_1|apply IsS38.set_2|apply IsS38.set_3)|exact HI0.out));(case side2=>repeat(first|(with_reducible first|exact HB.out|apply za5|apply zaw|apply zao|refine za6 ?_ (IsS38.ge HI0.out))|exact HB.out));(case side3=>exact qc_ (Kd.R_reads' HO103.out).2.2);(case side4=>exact(Kd.R_reads' HO103.out).2.1);(case side5=>exact zqf (IsS38.own_ne HI0.out HO103.out (by decide)));rintro e w7 ⟨rfl,hi,hb,hk⟩;refine⟨_,rfl,?_⟩;replace HO103:=am_ (Kd.zba (Kd.R_keep (IsS38.apart (show IsS38 w0 _ g s0_0 s0_1 s0_2 s0_3 from by repeat(first|(with_reducible first|exact HI0.out|apply IsS38.alloc|apply IsS38.drewN|apply IsS38.drew|apply IsS38.set_1|apply IsS38.set_2|apply IsS38.set_3)|exact HI0.out)) qz11_ (by decide)) hk (fun _ h=>h.2)) (fun _ h=>h.1));replace HK:=am_ (zbn.trans qz40_ hk (.inl rfl));replace HB:=am_ (hb);replace HI0:=am_ (hi);(try clear hb);(try clear hb2);(try clear hk);(try clear hi)))
 first|go_end0|((try simp only [Exit.inBlock,Exit.then]);refine bodyPost_ret (results_none rfl _ _ _) rfl ?_)
 exact⟨qz4_,(by repeat(first|(with_reducible first|exact HI0.out|apply IsS38.alloc|apply IsS38.drewN|apply IsS38.drew|apply IsS38.set_1|apply IsS38.set_2|apply IsS38.set_3)|exact HI0.out)),(by repeat(first|(with_reducible first|exact HB.out|apply za5|apply zaw|apply zao|refine za6 ?_ (IsS38.ge HI0.out))|exact HB.out)),qz40_⟩
end Go.Proofs.YtgookagndlfehaaGreat.PT
end
section
namespace Go.Proofs.YtgookagndlfehaaGreat.PT
open Go Go.RowKit Go.Proofs.YtgookagndlfehaaGreatW.PrintWords Go.Proofs.YtgookagndlfehaaGreatW.PrintLast Go.Proofs.YtgookagndlfehaaGreatW.PrintMore
set_option linter.unusedVariables false
set_option linter.unusedSimpArgs false
theorem lit_two {W:World} {b:Nat} {u v:Value} (h0:W.cell? ⟨b,0,none⟩=some u) (h1:W.cell? ⟨b,1,none⟩=some v):∀ i x,[u,v][i]?=some x→W.cell? ⟨b,i,none⟩=some x:=by
 intro i x hx
 rcases i with _|_|i
 ·
  obtain rfl:u=x:=by simpa using hx
  exact h0
 ·
  obtain rfl:v=x:=by simpa using hx
  exact h1
 ·
  simp at hx
theorem zki {W:World} {B:Option Addr} {r:List S32} (hC:Kd.C k32 W B r.length r) (h:0<r.length):∃ ad,B=some ad:=by
 obtain⟨ad,e,_⟩:=zdf hC 0 (by omega) (by omega)
 exact⟨ad,e⟩
theorem ziv {W:World} {ad:Addr} {r:List S32} (hC:Kd.C k32 W (some ad) r.length r) (h:0<r.length):W.cell? ad=some (.int .i64 (zac r 0).f0)∧W.cell? ⟨ad.block,ad.off + 1,none⟩=some (.int .i64 (zac r 0).f1):=by
 obtain⟨a1,e1,h0,h1⟩:=zdf hC 0 (by omega) (by omega)
 injection e1 with e1
 subst e1
 have hz:ad.add ((0:Int).toNat * 2)=ad:=by cases ad;rfl
 rw [hz] at h0 h1
 exact⟨h0,h1⟩
theorem zma (ad:Addr):ad.add 0=ad:=by cases ad;rfl
def lastOf (l:List (List S32)):Option (List S32):=if l.length≤100000∧∀ r∈l,0<r.length then some (l.map (fun r=>zac r 0)) else none
def pv_ (k:Nat) (kind:Int) (s0:List S32):Nat→List (List S32)→List (List S32)→List S32→Int→ByteArray→Int→Option (List (List S32) × List S32 × List S32 × Int × ByteArray × Int)
 | 0,_,_,_,_,_,_=>none
 | n + 1,l,rs,pt,s1,s2,s3=>if 0<l.length then(if 1<(l.getD 0 []).length then((zb2.f k kind l).bind fun r=>(zcr.f k s0 s1 s2 s3 r).bind fun a=>(zc5.f s0 a.1 a.2.1 a.2.2).bind fun e=>(zch.f k l e.1 e.2.1).bind fun L=>if rs.length≤100000∧pt.length≤100000 then pv_ k kind s0 n L (rs++[r]) (pt++[⟨e.1,e.2.1⟩]) e.2.2.1 e.2.2.2.1 e.2.2.2.2 else none) else(lastOf l).bind fun la=>some (rs,pt,la,s1,s2,s3)) else none
theorem HI7 {w0 w:World} {P:Nat→Prop} {F:World→Prop} {a1 a2 a3 a4 a5 a6 b1 b2 b3 b4:Grp} (h:Inv w0 P w [a1,a2,a3,a4,a5,a6] F):Inv w0 P w [gif false b1,gif false b2,gif (!false) a4,gif (!false) a3,gif false b3,gif (!false) a5,gif false b4,a1,a2,a6] F:=by
 have on:∀ {w0 w:World} {P:Nat→Prop} {F:World→Prop} {a:Grp} {L:List Grp},Inv w0 P w (a::L) F→Inv w0 P w (gif (!false) a::L) F:=fun h=>h.head _ (fun _ hk=>hk.2) (fun w' hw hc=>h.own _ List.mem_cons_self w' (fun k hk=>hw k ⟨rfl,hk⟩))
 have h1:=(on (h.front 4 rfl)).off (g:=b4)
 have h2:=h1.swap.off (g:=b3)
 have h3:=on (h2.front 5 rfl)
 have h4:=on (h3.front 6 rfl)
 exact(h4.off (g:=b2)).off (g:=b1)
theorem zmy {P:Program} {fn:Func} {u v x:Tmp} (h:fn.results=#[.tmp u,.tmp v,.tmp x]) (tmps:Array Value) (w:World):(results fn tmps).run P w=.ok (.tuple #[tmps.getD u undef,tmps.getD v undef,tmps.getD x undef]) w:=by
 simp [results,h]
theorem zoo {α:Type} (a b c d:α):[a,b,c,d].Perm [c,b,a,d]:=((List.Perm.swap _ _ _).trans ((List.Perm.swap _ _ _).cons _)).trans (List.Perm.swap _ _ _)
theorem zpw {α:Type} (a b c d:α):[a,b,c,d].Perm [a,b,d,c]:=((List.Perm.swap _ _ _).cons _).cons _
theorem zgj {α:Type} {c:Prop} [Decidable c] {x:Option α} {r:α} (h:(if c then x else none)=some r):c∧x=some r:=by
 by_cases hc:c
 ·
  rw [if_pos hc] at h;exact⟨hc,h⟩
 ·
  rw [if_neg hc] at h;cases h
def zdi.T7:Bool × List (List Nat × List Nat):=(true,[([],[]),([],[]),([1],[1]),([0,2],[0,2]),([],[]),([],[]),([5],[5]),([4,6,3],[4,6]),([3,7,0,1,2,3],[0,3]),([7,8,0,1,2,3,4,5,6,7,8],[4,7])])
def zdi.B7:List Nat:=[0,0,2,7,0,0,32,127,255,511]
theorem zdi.tab7:rtab .any (opsOf Tryz.f54 7)=zdi.T7:=by kernel_rfl
theorem zdi.bits7:zcu zdi.T7.2 zdi.B7=true:=by kernel_rfl
theorem zdi.calls (k n:Nat) (g:Nat) (s0:List S32) (s1:Int) (s2:ByteArray) (s3:Int) (kind:Int) (A2:Option Addr) (c2:Nat) (l2:List (List S32)) (r1:List (List S32)) (r2 r3:List S32) (r4:Int) (r5:ByteArray) (r6:Int) (wb w:World) (hI:IsS38 wb w g s0 s1 s2 s3) (hB:Below wb.heap.size wb w) (hr2:∀ W_,zbn w W_ g none→Kd.C (Kd.slice 32 k32) W_ A2 l2.length l2) (hc2:l2.length≤c2) (h:pv_ k kind s0 n l2 [] [] s1 s2 s3=some (r1,r2,r3,r4,r5,r6)) :
  Calls Tryz.prog 54 #[.pointer (some ⟨g,0,none⟩),.int .i64 kind,.slice A2 l2.length c2,.func (.func 55) #[] #[]] w fun e w'=>∃ v0_ v1_ v2_:Value,e=.returned (.tuple #[v0_,v1_,v2_])∧Kd.S (Kd.slice 32 k32) 36 w' w.heap.size (fun k=>some k≠v1_.ownBlock∧some k≠v2_.ownBlock) v0_ r1∧Kd.R k32 32 w' w.heap.size (fun k=>some k≠v2_.ownBlock) v1_ r2∧Kd.R k32 32 w' w.heap.size (fun k=>some k≠v1_.ownBlock) v2_ r3∧IsS38 wb w' g s0 r4 r5 r6∧Below wb.heap.size wb w'∧zbn w w' g none:=by
 have hu32:=Tryz.underlying32
 have HB:=am_ hB
 have HGE:=am_ (IsS38.ge hI)
 obtain⟨A0,cap,hblk,hge,hr0⟩:=hI
 have HGQ:=am_ hge
 have HR0:=am_ hr0
 have HVS:=am_ h
 have HC2:=am_ hc2
 have HI:=am_ (Inv.zo7 w hblk (fun w2=>Kd.C k32 w2 A0 s0.length s0∧Kd.C (Kd.slice 32 k32) w2 A2 l2.length l2) (fun w' ha=>⟨Kd.zbi hr0 (ha.onto hB (fun k hk=>by obtain rfl:k=g:=hk;exact HGE.out)),hr2 w' ha.keep⟩))
 clear hB hblk hge hr0 hr2 h hc2
 go_enter Tryz.func54,Tryz.ntmps54
 go_wp2_with (first|((with_reducible refine zad (N:=18) rfl ?_);refine Kd.S_lit (Kd.slice 32 k32) (w0:=_) _ 36 ?hg (N:=18) ?hd (xs:=([]:List (List S32))) (inner:=[]) (ok:=fun _=>True) (okp:=fun _=>True) ?hr ?hp (fun _ hk=>hk) trivial (Below.refl _ _) (Nat.le_refl _) (by simp) ?_;(case hd=>rfl);(case hg=>rfl);(case hr=>first|(go_simp;done)|(go_simp;rfl));(case hp=>exact(Reps.none _ _));intro V11 w18 hR hb hg hat;replace HI:=am_ (HI.out.zfj hb hR);clear hR hb hg hat)|((with_reducible refine zad (N:=19) rfl ?_);refine Kd.R_lit k32 (w0:=_) _ 32 ?hg (N:=19) ?hd (xs:=([]:List S32)) (inner:=[]) (ok:=fun _=>True) (okp:=fun _=>True) ?hr ?hp (fun _ hk=>hk) trivial (Below.refl _ _) (Nat.le_refl _) (by simp) ?_;(case hd=>rfl);(case hg=>rfl);(case hr=>first|(go_simp;done)|(go_simp;rfl));(case hp=>exact(Reps.none _ _));intro V12 w19 hR hb hg hat;replace HI:=am_ ((HI.out).zd7 hb hR);clear hR hb hg hat)|((with_reducible refine zad (N:=20) rfl ?_);refine Kd.R_lit k32 (w0:=_) _ 32 ?hg (N:=20) ?hd (xs:=([]:List S32)) (inner:=[]) (ok:=fun _=>True) (okp:=fun _=>True) ?hr ?hp (fun _ hk=>hk) trivial (Below.refl _ _) (Nat.le_refl _) (by simp) ?_;(case hd=>rfl);(case hg=>rfl);(case hr=>first|(go_simp;done)|(go_simp;rfl));(case hp=>exact(Reps.none _ _));intro V13 w20 hR hb hg hat;replace HI:=am_ ((HI.out).zd7 hb hR);clear hR hb hg hat))
 have HE_:∃ (S13:Nat→Prop) (S12:Nat→Prop) (S11:Nat→Prop),Inv w (fun k=>k=g) _ [row k32 32 w.heap.size V13 [] S13,row k32 32 w.heap.size V12 [] S12,rowS (Kd.slice 32 k32) 36 w.heap.size V11 [] S11,blk g 38 #[.slice A0 s0.length cap,.int .i64 s1,.string s2,.int .i64 s3]] (fun w2=>Kd.C k32 w2 A0 s0.length s0∧Kd.C (Kd.slice 32 k32) w2 A2 l2.length l2):=⟨_,_,_,HI.out⟩
 clear HI
 obtain⟨S13,S12,S11,HI_⟩:=HE_
 have HI:=am_ HI_
 clear HI_
 replace HI:zal (Inv w _ _ [rowS (Kd.slice 32 k32) 36 w.heap.size V11 [] S11,row k32 32 w.heap.size V12 [] S12,row k32 32 w.heap.size V13 [] S13,blk g 38 #[.slice A0 s0.length cap,.int .i64 s1,.string s2,.int .i64 s3]] (fun w2=>Kd.C k32 w2 A0 s0.length s0∧Kd.C (Kd.slice 32 k32) w2 A2 l2.length l2)):=⟨HI.out.perm (zoo ..)⟩
 go_loopg [2,11,12] n (fun kq v2 v11 v12 w'=>∃ (A2:Option Addr) (c2:Nat) (l2:List (List S32)) (rs:List (List S32)) (pt:List S32) (s1:Int) (s2:ByteArray) (s3:Int) (S11 S12:Nat→Prop),v2=.slice A2 l2.length c2∧zal (l2.length≤c2)∧zal (pv_ k kind s0 kq l2 rs pt s1 s2 s3=some (r1,r2,r3,r4,r5,r6))∧zal (Inv w (fun k=>k=g) w' [rowS (Kd.slice 32 k32) 36 w.heap.size v11 rs S11,row k32 32 w.heap.size v12 pt S12,row k32 32 w.heap.size V13 [] S13,blk g 38 #[.slice A0 s0.length cap,.int .i64 s1,.string s2,.int .i64 s3]] (fun w2=>Kd.C k32 w2 A0 s0.length s0∧Kd.C (Kd.slice 32 k32) w2 A2 l2.length l2)))
 case atStart=>exact⟨A2,c2,l2,[],[],s1,s2,s3,S11,S12,rfl,HC2,HVS,HI⟩
 case round=>
  clear HI HVS HC2
  obtain⟨A2,c2,l2,rs,pt,s1,s2,s3,S11,S12,rfl,HC2,HVS,HI⟩:=hrel
  cases gk with
  | zero=>exact absurd HVS.out (by simp [pv_])
  | succ k1=>
   have h:=HVS.out
   clear HVS
   rw [pv_] at h
   obtain⟨hl0,h⟩:=zgj h
   obtain⟨ad3,B,cB,eA,hBl,hrow⟩:=ziy (S:=InL _) (fun W' hW=>(HI.out.facts W' hW).2) 0 hl0
   subst eA
   have hx:=(hrow _ (Agr.refl _ _)).1
   rw [zma] at hx
   have p6:=eq_true (show (0:Int)<(l2.length:Int) by omega)
   have p6n:=eq_true hl0
   clear hrow hBl hl0
   by_cases c1:1<(l2.getD 0 []).length
   ·
    rw [if_pos c1] at h
    have d1:decide (((l2.getD 0 []).length:Int)>1)=true:=decide_eq_true (by omega)
    have d2:decide (1<((l2.getD 0 []).length:Int))=true:=decide_eq_true (by omega)
    have d3:decide (1<(l2.getD 0 []).length)=true:=decide_eq_true c1
    clear c1
    generalize l2.getD 0 []=q at hx d1 d2 d3
    replace h:=Option.bind_eq_some_iff.1 h
    obtain⟨r,hrd,h⟩:=h
    replace h:=Option.bind_eq_some_iff.1 h
    obtain⟨⟨a1,a2,a3⟩,hae,h⟩:=h
    replace h:=Option.bind_eq_some_iff.1 h
    obtain⟨⟨y0,y1,e1,e2,e3⟩,hdw,h⟩:=h
    replace h:=Option.bind_eq_some_iff.1 h
    obtain⟨L2,hbd,h⟩:=h
    have HRD:=am_ hrd
    have HAE:=am_ (show zcr.f k s0 s1 s2 s3 r=some (a1,a2,a3) from hae)
    have HDW:=am_ (show zc5.f s0 a1 a2 a3=some (y0,y1,e1,e2,e3) from hdw)
    have HBD:=am_ (show zch.f k l2 y0 y1=some L2 from hbd)
    obtain⟨hll,h⟩:=zgj h
    have HRS:=am_ hll.1
    have HPT:=am_ hll.2
    have HVS:=am_ (show pv_ k kind s0 k1 L2 (rs++[r]) (pt++([(⟨y0,y1⟩:S32)]:List S32)) e1 e2 e3=some (r1,r2,r3,r4,r5,r6) from h)
    clear hrd hae hdw hbd hll h
    go_wp2_with (first|(go_at_call 103;(refine(zb2.calls k kind (some ad3) c2 l2 r _ HI.out.now.2 HC2.out HRD.out).mono ?_);rintro e w28 ⟨v28,rfl,hR,hb⟩;obtain⟨A28,c28,e28⟩:=Kd.zcb hR;subst e28;replace HI:zal (Inv w _ _ [row k32 32 w.heap.size (.slice A28 r.length c28) r _,rowS (Kd.slice 32 k32) 36 w.heap.size u11 rs S11,row k32 32 w.heap.size u12 pt S12,row k32 32 w.heap.size V13 [] S13,blk g 38 #[.slice A0 s0.length cap,.int .i64 s1,.string s2,.int .i64 s3]] (fun w2=>Kd.C k32 w2 A0 s0.length s0∧Kd.C (Kd.slice 32 k32) w2 (some ad3) l2.length l2)):=⟨HI.out.zd7 hb hR⟩;clear hR hb))
    clear hx
    go_wp2_with (first|(go_at_call 89;replace HI:zal (Inv w _ _ [blk g 38 #[.slice A0 s0.length cap,.int .i64 s1,.string s2,.int .i64 s3],row k32 32 w.heap.size (.slice A28 r.length c28) r _,rowS (Kd.slice 32 k32) 36 w.heap.size u11 rs S11,row k32 32 w.heap.size u12 pt S12,row k32 32 w.heap.size V13 [] S13] (fun w2=>Kd.C k32 w2 A0 s0.length s0∧Kd.C (Kd.slice 32 k32) w2 (some ad3) l2.length l2)):=⟨HI.out.front 4 rfl⟩;(refine(zcr.calls k g s0 s1 s2 s3 A28 c28 r a1 a2 a3 wb _ ⟨A0,cap,HI.out.blk0,HGQ.out,HR0.out⟩ (HI.out.agr.onto HB.out (fun k hk=>by obtain rfl:k=g:=hk;exact HGE.out)) (fun W_ hk=>(rowC (Inv.ownKeep0 HI.out hk (row k32 32 w.heap.size (.slice A28 r.length c28) r _) (by repeat(first|exact List.mem_cons_self|apply List.mem_cons_of_mem)))).2.2) (rowC (HI.out.get 1 rfl)).2.1 HAE.out).mono ?_);rintro e w31 ⟨rfl,⟨Aq_,cq_,hbq,⟨_,hdq⟩,_⟩,hBq,hkq⟩;obtain⟨e1_,e2_⟩:=zjo (HGQ.out.2.symm.trans hdq);subst e1_ e2_;replace HI:=am_ (Inv.keep0 (wb:=wb) HI.out (HI.out.agr.onto HB.out (fun k hk=>by obtain rfl:k=g:=hk;exact HGE.out)) hBq hkq hbq);clear hbq hdq hBq hkq)|(go_at_call 104;(refine(zc5.calls g s0 a1 a2 a3 y0 y1 e1 e2 e3 wb _ ⟨A0,cap,HI.out.blk0,HGQ.out,HR0.out⟩ (HI.out.agr.onto HB.out (fun k hk=>by obtain rfl:k=g:=hk;exact HGE.out)) HDW.out).mono ?_);rintro e w33 ⟨rfl,⟨Aq_,cq_,hbq,⟨_,hdq⟩,_⟩,hBq,hkq⟩;obtain⟨e1_,e2_⟩:=zjo (HGQ.out.2.symm.trans hdq);subst e1_ e2_;replace HI:=am_ (Inv.keep0 (wb:=wb) HI.out (HI.out.agr.onto HB.out (fun k hk=>by obtain rfl:k=g:=hk;exact HGE.out)) hBq hkq hbq);clear hbq hdq hBq hkq)|((with_reducible refine zad (N:=15) rfl ?_);refine zaj rfl (N:=15) rfl (cs:=#[.int .i64 0,.int .i64 0]) (t:=32) bx_ ?_;intro g15 hg w15 hbox hb;replace HI:=am_ ((HI.out).box hg hbox hb);clear hb hbox hg)|((with_reducible refine za7 (p:=15) (v:=(.tmp 33)) (t:=32) rfl ?_);go_must (refine wpList_store_row rfl 32 _ _ rfl g15 (#[.int .i64 y0,.int .i64 y1]) rfl (by first|rfl|(go_simp;done)|(go_simp;rfl)) 32 (#[.int .i64 0,.int .i64 0]) (Inv.blk0 (HI.out)) (zfx y0 y1) (zla y0 y1) (zk4 y0 y1) ?_;replace HI:=am_ (Inv.put0 (HI.out) (#[.int .i64 y0,.int .i64 y1]));generalize World.setRow _ g15 (#[.int .i64 y0,.int .i64 y1])=w17_ at HI ⊢))|((with_reducible refine zad (N:=35) rfl ?_);go_must (refine wpList_load_row rfl 32 _ rfl g15 rfl 32 (#[.int .i64 y0,.int .i64 y1]) (0,0) _ (HI.out.blk0) hu32 rfl (zfx y0 y1) ?_))|(go_at_call 105;(refine(zch.calls k (some ad3) c2 l2 y0 y1 L2 _ HI.out.now.2 HC2.out HBD.out).mono ?_);rintro e w36 ⟨v36,rfl,hS,hb⟩;obtain⟨A36,c36,rfl,hc36,HI_⟩:=HI.out.znw hb hS;have HC3:=am_ hc36;clear HI;have HI:=am_ (HI_.weaken (G:=(fun w2=>Kd.C k32 w2 A0 s0.length s0∧Kd.C (Kd.slice 32 k32) w2 A36 L2.length L2)) (fun _ h=>⟨h.2.1,h.1⟩));clear HI_ hS hb hc36))
    have HE_:∃ (S28:Nat→Prop),Inv w (fun k=>k=g) _ [blk g15 32 #[.int .i64 y0,.int .i64 y1],blk g 38 #[.slice A0 s0.length cap,.int .i64 e1,.string e2,.int .i64 e3],row k32 32 w.heap.size (.slice A28 r.length c28) r S28,rowS (Kd.slice 32 k32) 36 w.heap.size u11 rs S11,row k32 32 w.heap.size u12 pt S12,row k32 32 w.heap.size V13 [] S13] (fun w2=>Kd.C k32 w2 A0 s0.length s0∧Kd.C (Kd.slice 32 k32) w2 A36 L2.length L2):=⟨_,HI.out⟩
    clear HI
    obtain⟨S28,HI_⟩:=HE_
    have HI:=am_ HI_
    clear HI_
    refine zcn (n:=10) (S:=fun w'=>True) (ds:=[]) (bs_ 10 0) (by kernel_rfl) rfl rfl trivial (fun hHeld=>?_)
    refine zcj zdi.tab7 zdi.bits7 (fun HT_ HW_=>?_)
    replace HI:zal (Inv w _ _ [blk g15 32 #[.int .i64 y0,.int .i64 y1],blk g 38 #[.slice A0 s0.length cap,.int .i64 e1,.string e2,.int .i64 e3],row k32 32 w.heap.size (.slice A28 r.length c28) r S28,rowS (Kd.slice 32 k32) 36 w.heap.size u11 rs S11,row k32 32 w.heap.size u12 pt S12,row k32 32 w.heap.size V13 [] S13] (fun w2=>Kd.C k32 w2 A0 s0.length s0∧Kd.C (Kd.slice 32 k32) w2 A36 L2.length L2)):=⟨HI.out.drew⟩
    generalize World.drew _=wd7 at HI ⊢
    refine pt_ HT_.out 0 37 (bs_ 10 1) ?_
    refine pt_ HT_.out 1 38 (bs_ 10 3) ?_
    refine pt_ HT_.out 4 41 (bs_ 10 19) ?_
    refine zpq [2,3,5,6,7,8,9] (fun a0_ b a w'=>∃ (B39:Nat) (B43:Nat) (V40:Value) (S40:Nat→Prop) (V44:Value) (S44:Nat→Prop) (m2_:Value) (m6_:Value) (m8_:Value) (m9_:Value),a=zd1 a0_ b [(2,39,m2_),(3,40,V40),(5,42,.agg #[.int .i64 y0,.int .i64 y1]),(6,43,m6_),(7,44,V44),(8,11,m8_),(9,12,m9_)]∧(Inv w (fun k=>k=g) w' [gif (b 2) (blk B39 36 #[.slice A28 r.length c28]),gif (b 6) (blk B43 32 #[.int .i64 y0,.int .i64 y1]),gif (!(b 3)) (rowS (Kd.slice 32 k32) 36 w.heap.size u11 rs S11),gif (!(b 3)) (row k32 32 w.heap.size (.slice A28 r.length c28) r S28),gif (b 3) (rowS (Kd.slice 32 k32) 36 w.heap.size V40 (rs++[r]) S40),gif (!(b 7)) (row k32 32 w.heap.size u12 pt S12),gif (b 7) (row k32 32 w.heap.size V44 (pt++([(⟨y0,y1⟩:S32)]:List S32)) S44),blk g15 32 #[.int .i64 y0,.int .i64 y1],blk g 38 #[.slice A0 s0.length cap,.int .i64 e1,.string e2,.int .i64 e3],row k32 32 w.heap.size V13 [] S13] (fun w2=>Kd.C k32 w2 A0 s0.length s0∧Kd.C (Kd.slice 32 k32) w2 A36 L2.length L2))∧(b 2=true→(m2_:Value)=.slice (some ⟨B39,0,none⟩) 1 1)∧(b 6=true→(m6_:Value)=.slice (some ⟨B43,0,none⟩) 1 1)∧(b 8=true→(m8_:Value)=V40)∧(b 9=true→(m9_:Value)=V44)) HT_.out HW_.out (by kernel_rfl) (by kernel_rfl) ?_ ?_ ?_
    ·
     exact⟨0,0,.bool false,fun _=>False,.bool false,fun _=>False,.bool false,.bool false,.bool false,.bool false,(by simp only [zd1,Bool.false_eq_true,if_false]),(HI7 HI.out),fun h_=>absurd h_ (by decide),fun h_=>absurd h_ (by decide),fun h_=>absurd h_ (by decide),fun h_=>absurd h_ (by decide)⟩
    ·
     skip
     clear HI
     refine zbe ?_ ?_
     ·
      rintro b a w' ⟨B39,B43,V40,S40,V44,S44,m2_,m6_,m8_,m9_,ha,Q_HI,Q_X2_,Q_X6_,Q_X8_,Q_X9_⟩ hb_ hon hoff
      refine⟨_,rfl,fun K hK=>?_⟩
      have e38:a.tmps[38]?=some (.slice A28 r.length c28):=by rw [ha];exact(zdu rfl).trans rfl
      replace ha:=am_ ha
      have HI:=am_ Q_HI
      refine zbg (w1:=w'.alloc (.cells #[.slice A28 r.length c28] 36)) (v:=.slice (some ⟨w'.heap.size,0,none⟩) 1 1) (by rfl) rfl ?_ ?_
      ·
       first|(go_simp;done)|(go_simp;rfl)
      have HI2:=am_ (Inv.fill true (HI.out.zhu 36 (#[.slice A28 r.length c28])) 0 rfl)
      refine hK.out _ _ ⟨w'.heap.size,B43,V40,S40,V44,S44,(.slice (some ⟨w'.heap.size,0,none⟩) 1 1),m6_,m8_,m9_,(by rw [ha.out];exact zbh 0 hb_ rfl rfl rfl),HI2.out,fun _=>rfl,Q_X6_,fun h0_=>ab_ (hoff 8 (by kernel_rfl)) h0_,fun h0_=>ab_ (hoff 9 (by kernel_rfl)) h0_⟩
     refine zbe ?_ ?_
     ·
      rintro b a w' ⟨B39,B43,V40,S40,V44,S44,m2_,m6_,m8_,m9_,ha,Q_HI,Q_X2_,Q_X6_,Q_X8_,Q_X9_⟩ hb_ hon hoff
      refine⟨_,rfl,fun K hK=>?_⟩
      have e37:a.tmps[37]?=some (u11):=by rw [ha];exact(zdu rfl).trans rfl
      have e39:a.tmps[39]?=some (m2_):=by rw [ha];exact zbw (e:=(2,39,m2_)) 0 rfl rfl (hon 2 (by kernel_rfl)) rfl
      rw [Q_X2_ (hon 2 (by kernel_rfl))] at e39
      replace ha:=am_ ha
      have HI:=am_ Q_HI
      have hlit:=(zaa (gifA (HI.out.at_ (gif (b 2) (blk B39 36 #[.slice A28 r.length c28])) (by repeat(first|exact List.mem_cons_self|apply List.mem_cons_of_mem))) (hon 2 (by kernel_rfl))) 0).trans rfl
      have HI3:zal (Inv w (fun k=>k=g) w' (rowS (Kd.slice 32 k32) 36 w.heap.size u11 rs S11::row k32 32 w.heap.size (.slice A28 r.length c28) r S28::[gif (b 2) (blk B39 36 #[.slice A28 r.length c28]),gif (b 6) (blk B43 32 #[.int .i64 y0,.int .i64 y1]),gif false (rowS (Kd.slice 32 k32) 36 w.heap.size u11 rs S11),gif false (row k32 32 w.heap.size (.slice A28 r.length c28) r S28),gif (b 3) (rowS (Kd.slice 32 k32) 36 w.heap.size V40 (rs++[r]) S40),gif (!(b 7)) (row k32 32 w.heap.size u12 pt S12),gif (b 7) (row k32 32 w.heap.size V44 (pt++([(⟨y0,y1⟩:S32)]:List S32)) S44),blk g15 32 #[.int .i64 y0,.int .i64 y1],blk g 38 #[.slice A0 s0.length cap,.int .i64 e1,.string e2,.int .i64 e3],row k32 32 w.heap.size V13 [] S13]) (fun w2=>Kd.C k32 w2 A0 s0.length s0∧Kd.C (Kd.slice 32 k32) w2 A36 L2.length L2)):=⟨Inv.take (Inv.take HI.out 3 rfl (show (!(b 3))=true from by rw [hb_];rfl)) 3 rfl (show (!(b 3))=true from by rw [hb_];rfl)⟩
      refine Inv.zqa HI3.out (by rfl) (.tmp 37) (.tmp 39) 29 24 B39 1 rfl Tryz.underlying29 zmf (by decide) (zg4 e37) (zg4 e39) hlit HI3.out.agr.size ?aL ?_
      (case aL=>have:=HRS.out;omega)
      intro v_n w_n HI4
      have HI2:=am_ (Inv.fill true HI4 4 rfl)
      refine hK.out _ _ ⟨B39,B43,v_n,(fun k=>(S11 k∨S28 k∨w'.heap.size≤k)∧k<w_n.heap.size),V44,S44,m2_,m6_,m8_,m9_,(by rw [ha.out];exact zbh 1 hb_ rfl rfl rfl),HI2.out,Q_X2_,Q_X6_,fun h0_=>ab_ (hoff 8 (by kernel_rfl)) h0_,fun h0_=>ab_ (hoff 9 (by kernel_rfl)) h0_⟩
     refine zbe ?_ ?_
     ·
      rintro b a w' ⟨B39,B43,V40,S40,V44,S44,m2_,m6_,m8_,m9_,ha,Q_HI,Q_X2_,Q_X6_,Q_X8_,Q_X9_⟩ hb_ hon hoff
      refine⟨_,rfl,fun K hK=>?_⟩
      have e15:a.tmps[15]?=some (.pointer (some ⟨g15,0,none⟩)):=by rw [ha];exact(zdu rfl).trans rfl
      replace ha:=am_ ha
      have HI:=am_ Q_HI
      have y_0:w'.cell? ⟨g15,0,none⟩=some (.int .i64 y0):=(zaa (HI.out.at_ (blk g15 32 #[.int .i64 y0,.int .i64 y1]) (by repeat(first|exact List.mem_cons_self|apply List.mem_cons_of_mem))) 0).trans rfl
      have y_1:w'.cell? ⟨g15,1,none⟩=some (.int .i64 y1):=(zaa (HI.out.at_ (blk g15 32 #[.int .i64 y0,.int .i64 y1]) (by repeat(first|exact List.mem_cons_self|apply List.mem_cons_of_mem))) 1).trans rfl
      refine zbg (w1:=w') (v:=.agg #[.int .i64 y0,.int .i64 y1]) (by rfl) rfl ?_ ?_
      ·
       go_simp
       (try simp only [i64_w])
       try rfl
      refine hK.out _ _ ⟨B39,B43,V40,S40,V44,S44,m2_,m6_,m8_,m9_,(by rw [ha.out];exact zbh 2 hb_ rfl rfl rfl),Q_HI,Q_X2_,fun h0_=>ab_ (hoff 6 (by kernel_rfl)) h0_,fun h0_=>ab_ (hoff 8 (by kernel_rfl)) h0_,fun h0_=>ab_ (hoff 9 (by kernel_rfl)) h0_⟩
     refine zbe ?_ ?_
     ·
      rintro b a w' ⟨B39,B43,V40,S40,V44,S44,m2_,m6_,m8_,m9_,ha,Q_HI,Q_X2_,Q_X6_,Q_X8_,Q_X9_⟩ hb_ hon hoff
      refine⟨_,rfl,fun K hK=>?_⟩
      have e42:a.tmps[42]?=some (.agg #[.int .i64 y0,.int .i64 y1]):=by rw [ha];exact zbw (e:=(5,42,.agg #[.int .i64 y0,.int .i64 y1])) 2 rfl rfl (hon 5 (by kernel_rfl)) rfl
      replace ha:=am_ ha
      have HI:=am_ Q_HI
      refine zbg (w1:=w'.alloc (.cells #[.int .i64 y0,.int .i64 y1] 32)) (v:=.slice (some ⟨w'.heap.size,0,none⟩) 1 1) (by rfl) rfl ?_ ?_
      ·
       first|(go_simp;done)|(go_simp;rfl)
      have HI2:=am_ (Inv.fill true (HI.out.zhu 32 (#[.int .i64 y0,.int .i64 y1])) 1 rfl)
      refine hK.out _ _ ⟨B39,w'.heap.size,V40,S40,V44,S44,m2_,(.slice (some ⟨w'.heap.size,0,none⟩) 1 1),m8_,m9_,(by rw [ha.out];exact zbh 3 hb_ rfl rfl rfl),HI2.out,Q_X2_,fun _=>rfl,fun h0_=>ab_ (hoff 8 (by kernel_rfl)) h0_,fun h0_=>ab_ (hoff 9 (by kernel_rfl)) h0_⟩
     refine zbe ?_ ?_
     ·
      rintro b a w' ⟨B39,B43,V40,S40,V44,S44,m2_,m6_,m8_,m9_,ha,Q_HI,Q_X2_,Q_X6_,Q_X8_,Q_X9_⟩ hb_ hon hoff
      refine⟨_,rfl,fun K hK=>?_⟩
      have e41:a.tmps[41]?=some (u12):=by rw [ha];exact(zdu rfl).trans rfl
      have e43:a.tmps[43]?=some (m6_):=by rw [ha];exact zbw (e:=(6,43,m6_)) 3 rfl rfl (hon 6 (by kernel_rfl)) rfl
      rw [Q_X6_ (hon 6 (by kernel_rfl))] at e43
      replace ha:=am_ ha
      have HI:=am_ Q_HI
      have hlit0:=(zaa (gifA (HI.out.at_ (gif (b 6) (blk B43 32 #[.int .i64 y0,.int .i64 y1])) (by repeat(first|exact List.mem_cons_self|apply List.mem_cons_of_mem))) (hon 6 (by kernel_rfl))) 0).trans rfl
      have hlit1:=(zaa (gifA (HI.out.at_ (gif (b 6) (blk B43 32 #[.int .i64 y0,.int .i64 y1])) (by repeat(first|exact List.mem_cons_self|apply List.mem_cons_of_mem))) (hon 6 (by kernel_rfl))) 1).trans rfl
      have HI3:=am_ (Inv.take HI.out 5 rfl (show (!(b 7))=true from by rw [hb_];rfl))
      refine Inv.zpl HI3.out (by rfl) (.tmp 41) (.tmp 43) 36 (.agg #[(.int .i64 0),(.int .i64 0)]) 16 B43 1 rfl Tryz.underlying36 zgb rfl (by decide) (by omega) (⟨y0,y1⟩:S32) [.int .i64 y0,.int .i64 y1] (zg4 e41) (zg4 e43) rfl (lit_two hlit0 hlit1) (ze8 _ _ _ (⟨y0,y1⟩:S32)) HI3.out.agr.size ?aL ?_
      (case aL=>have:=HPT.out;omega)
      intro v_n w_n HI4
      have HI2:=am_ (Inv.fill true HI4 6 rfl)
      refine hK.out _ _ ⟨B39,B43,V40,S40,v_n,(fun k=>(S12 k∨w'.heap.size≤k)∧k<w_n.heap.size),m2_,m6_,m8_,m9_,(by rw [ha.out];exact zbh 4 hb_ rfl rfl rfl),HI2.out,Q_X2_,Q_X6_,fun h0_=>ab_ (hoff 8 (by kernel_rfl)) h0_,fun h0_=>ab_ (hoff 9 (by kernel_rfl)) h0_⟩
     refine zbe ?_ ?_
     ·
      rintro b a w' ⟨B39,B43,V40,S40,V44,S44,m2_,m6_,m8_,m9_,ha,Q_HI,Q_X2_,Q_X6_,Q_X8_,Q_X9_⟩ hb_ hon hoff
      refine⟨_,rfl,fun K hK=>?_⟩
      have e40:a.tmps[40]?=some (V40):=by rw [ha];exact zbw (e:=(3,40,V40)) 1 rfl rfl (hon 3 (by kernel_rfl)) rfl
      replace ha:=am_ ha
      have HI:=am_ Q_HI
      refine zbg (w1:=w') (v:=V40) (by rfl) rfl ?_ ?_
      ·
       go_simp
       (try simp only [i64_w])
       try rfl
      refine hK.out _ _ ⟨B39,B43,V40,S40,V44,S44,m2_,m6_,(V40),m9_,(by rw [ha.out];exact zbh 5 hb_ rfl rfl rfl),Q_HI,Q_X2_,Q_X6_,fun _=>rfl,fun h0_=>ab_ (hoff 9 (by kernel_rfl)) h0_⟩
     refine zbe ?_ ?_
     ·
      rintro b a w' ⟨B39,B43,V40,S40,V44,S44,m2_,m6_,m8_,m9_,ha,Q_HI,Q_X2_,Q_X6_,Q_X8_,Q_X9_⟩ hb_ hon hoff
      refine⟨_,rfl,fun K hK=>?_⟩
      have e44:a.tmps[44]?=some (V44):=by rw [ha];exact zbw (e:=(7,44,V44)) 4 rfl rfl (hon 7 (by kernel_rfl)) rfl
      replace ha:=am_ ha
      have HI:=am_ Q_HI
      refine zbg (w1:=w') (v:=V44) (by rfl) rfl ?_ ?_
      ·
       go_simp
       (try simp only [i64_w])
       try rfl
      refine hK.out _ _ ⟨B39,B43,V40,S40,V44,S44,m2_,m6_,m8_,(V44),(by rw [ha.out];exact zbh 6 hb_ rfl rfl rfl),Q_HI,Q_X2_,Q_X6_,Q_X8_,fun _=>rfl⟩
     exact zj2
    rintro b a w' hall ⟨B39,B43,V40,S40,V44,S44,m2_,m6_,m8_,m9_,ha,Q_HI,Q_X2_,Q_X6_,Q_X8_,Q_X9_⟩
    clear HI
    have hb2_:=hall 2 (by kernel_rfl)
    have hb3_:=hall 3 (by kernel_rfl)
    have hb5_:=hall 5 (by kernel_rfl)
    have hb6_:=hall 6 (by kernel_rfl)
    have hb7_:=hall 7 (by kernel_rfl)
    have hb8_:=hall 8 (by kernel_rfl)
    have hb9_:=hall 9 (by kernel_rfl)
    subst ha
    obtain rfl:=Q_X2_ hb2_
    obtain rfl:=Q_X6_ hb6_
    obtain rfl:=Q_X8_ hb8_
    obtain rfl:=Q_X9_ hb9_
    simp only [zd1,hb2_,hb3_,hb5_,hb6_,hb7_,hb8_,hb9_,if_true,Act.put,List.setIfInBounds_toArray,List.set_cons_zero,List.set_cons_succ]
    have HI:=am_ Q_HI
    replace HI:=am_ (Inv.take HI.out 6 rfl hb7_)
    replace HI:=am_ (Inv.take HI.out 5 rfl hb3_)
    replace HI:zal (Inv w _ _ [rowS (Kd.slice 32 k32) 36 w.heap.size m8_ (rs++[r]) S40,row k32 32 w.heap.size m9_ (pt++([(⟨y0,y1⟩:S32)]:List S32)) S44,blk g15 32 #[.int .i64 y0,.int .i64 y1],blk g 38 #[.slice A0 s0.length cap,.int .i64 e1,.string e2,.int .i64 e3],row k32 32 w.heap.size V13 [] S13] (fun w2=>Kd.C k32 w2 A0 s0.length s0∧Kd.C (Kd.slice 32 k32) w2 A36 L2.length L2)):=⟨HI.out.subL (L':=[rowS (Kd.slice 32 k32) 36 w.heap.size m8_ (rs++[r]) S40,row k32 32 w.heap.size m9_ (pt++([(⟨y0,y1⟩:S32)]:List S32)) S44,blk g15 32 #[.int .i64 y0,.int .i64 y1],blk g 38 #[.slice A0 s0.length cap,.int .i64 e1,.string e2,.int .i64 e3],row k32 32 w.heap.size V13 [] S13]) qz41_⟩
    clear Q_HI
    clear hall hb2_ hb3_ hb5_ hb6_ hb7_ hb8_ hb9_
    go_wp2_with (first|((with_reducible refine zad (N:=46) rfl ?_);go_must (refine wpList_load_row rfl 32 _ rfl g15 rfl 32 (#[.int .i64 y0,.int .i64 y1]) (0,0) _ ((HI.out.get 2 rfl)) hu32 rfl (zfx y0 y1) ?_))|(go_at_call 55;(refine(zgz.calls y0 y1 _ (by rfl)).mono ?_);rintro e w47 ⟨rfl,hb_⟩;replace HI:=am_ (HI.out.grow hb_);clear hb_))
    go_roundg k1
    case measure=>omega
    case rel=>exact⟨A36,c36,L2,_,_,e1,e2,e3,_,_,rfl,⟨HC3.out⟩,HVS,⟨((HI.out.front 2 rfl).drop).perm (zpw ..)⟩⟩
   ·
    rw [if_neg c1] at h
    have d1:decide (((l2.getD 0 []).length:Int)>1)=false:=decide_eq_false (by omega)
    have d2:decide (1<((l2.getD 0 []).length:Int))=false:=decide_eq_false (by omega)
    have d3:decide (1<(l2.getD 0 []).length)=false:=decide_eq_false c1
    clear c1
    generalize l2.getD 0 []=q at hx d1 d2 d3
    replace h:=Option.bind_eq_some_iff.1 h
    obtain⟨la0,hla,h⟩:=h
    simp only [Option.some.injEq,Prod.mk.injEq] at h
    obtain⟨rfl,rfl,rfl,rfl,rfl,rfl⟩:=h
    unfold lastOf at hla
    obtain⟨hll,hla⟩:=zgj hla
    have hl0:=Option.some.inj hla
    subst hl0
    have HLL:=am_ hll.1
    have HLP:=am_ hll.2
    clear hll hla
    go_wp2
    clear hx
    have HI_:=am_ (HI.out.front 2 rfl)
    clear HI
    have HI:=HI_
    clear HI_
    go_loopg [13,50] l2.length (fun kq v13 v50 w'=>∃ (j:Nat) (la:List S32) (S13:Nat→Prop),v50=.int .i64 j∧zal (j + kq=l2.length)∧zal (la.length=j)∧zal (la++(l2.drop j).map (fun r=>zac r 0)=l2.map (fun r=>zac r 0))∧zal (Inv w (fun k=>k=g) w' [row k32 32 w.heap.size v13 la S13,rowS (Kd.slice 32 k32) 36 w.heap.size u11 rs S11,row k32 32 w.heap.size u12 pt S12,blk g 38 #[.slice A0 s0.length cap,.int .i64 s1,.string s2,.int .i64 s3]] (fun w2=>Kd.C k32 w2 A0 s0.length s0∧Kd.C (Kd.slice 32 k32) w2 (some ad3) l2.length l2)))
    case atStart=>exact⟨0,[],S13,rfl,⟨(by omega)⟩,⟨rfl⟩,⟨rfl⟩,HI⟩
    case round=>
     clear HI
     obtain⟨j,la,S13,rfl,HJ,HLA,HLE,HI⟩:=hrel
     have hj:=HJ.out
     cases gk with
     | zero=>
      have he:=HLE.out
      rw [List.drop_eq_nil_of_le (by omega),List.map_nil,List.append_nil] at he
      subst he
      have d1:decide ((j:Int)<(l2.length:Int))=false:=decide_eq_false (by omega)
      have d2:decide (j<l2.length)=false:=decide_eq_false (by omega)
      clear hj HJ HLE HLA
      go_wp2
      refine bodyPost_ret (zmy rfl _ _) rfl ?_
      have hd1:=HI.out.disj 0 1 (by decide) rfl rfl
      have hd2:=HI.out.disj 1 2 (by decide) rfl rfl
      have hd3:=HI.out.disj 0 2 (by decide) rfl rfl
      have q0:=rowR (HI.out.get 0 rfl)
      have q2:=rowR (HI.out.get 2 rfl)
      exact⟨_,_,_,rfl,Kd.ze3 (HI.out.get 1 rfl) (fun k hk=>⟨fun e=>hd2 k hk (q2.1 k e.symm),fun e=>hd1 k (q0.1 k e.symm) hk⟩),Kd.zba q2 (fun k hk e=>hd3 k (q0.1 k e.symm) hk),Kd.zba q0 (fun k hk e=>hd3 k hk (q2.1 k e.symm)),⟨A0,cap,HI.out.get 3 rfl,HGQ.out,HR0.out⟩,(HI.out.agr.onto HB.out (fun k hk=>by obtain rfl:k=g:=hk;exact HGE.out)),HI.out.agr.keep⟩
     | succ k1=>
      have hjl:j<l2.length:=by omega
      have he:=HLE.out
      clear HLE
      rw [zkf l2 j [] hjl,List.map_cons] at he
      obtain⟨ad4,B,cB,eA,hBl,hrow⟩:=ziy (S:=InL _) (fun W' hW=>(HI.out.facts W' hW).2) j hjl
      injection eA with eA
      subst eA
      have hpos:0<(l2.getD j []).length:=HLP.out _ (by rw [List.getD_eq_getElem?_getD,List.getElem?_eq_getElem hjl];exact List.getElem_mem hjl)
      generalize l2.getD j []=r at he hBl hrow hpos
      have hN:=hrow _ (Agr.refl _ _)
      have hx:=hN.1
      obtain⟨ad,eB⟩:=zki hN.2 hpos
      subst eB
      have hx0:=(ziv hN.2 hpos).1
      have hx1:=(ziv hN.2 hpos).2
      clear hN hrow
      generalize zac r 0=x at he hx0 hx1
      have HLE:=am_ (show (la++[x])++(l2.drop (j + 1)).map (fun r=>zac r 0)=l2.map (fun r=>zac r 0) by rw [List.append_assoc];exact he)
      clear he
      have d1:decide ((j:Int)<(l2.length:Int))=true:=decide_eq_true (by omega)
      have d2:decide (j<l2.length)=true:=decide_eq_true hjl
      have p6:=eq_true (show 0≤(j:Int) by omega)
      have q6:=eq_true (show (j:Int)<(l2.length:Int) by omega)
      have q6n:=eq_true hjl
      have p7:=eq_true (show (0:Int)<(r.length:Int) by omega)
      have p7n:=eq_true hpos
      have HLL_:=HLL.out
      have HWJ:=am_ (show wrap64 ((j:Int) + 1)=((j + 1:Nat):Int) by unfold wrap64;omega)
      have HJ2:=am_ (show j + 1 + k1=l2.length by omega)
      clear hBl hj HJ hjl HLL_ hpos
      go_wp2_with (first|((with_reducible refine zb5 (b:=.append) (xs:=#[.tmp 54,.tmp 58]) rfl ?_);at_builtin;refine Kd.zev k32 (w0:=_) w.heap.size rfl (.tmp 54) (.tmp 58) 36 32 (.agg #[(.int .i64 0),(.int .i64 0)]) 16 rfl Tryz.underlying36 zgb rfl (by decide) (by omega) _ la x [.int .i64 x.f0,.int .i64 x.f1] _ (fun _=>False) rfl rfl ?aP (fun _ hk=>hk.elim) ?aF (Inv.row0W HI.out) (Below.refl _ _) HI.out.agr.size ?aL ?_;(case aP=>exact ze8 _ _ _ x);(case aF=>exact(fun _ hk=>.inr hk));(case aL=>have:=HLA.out;have:=HJ2.out;have:=HLL.out;omega);intro v59 w59 hR hb hg hat;replace HI:=am_ (HI.out.zkd hb hR (fun _ hk _=>hk) hg);clear hR hb hg hat))
      go_roundg k1
      case measure=>omega
      case rel=>exact⟨j + 1,la++[x],_,by first|rfl|(rw [HWJ.out]),HJ2,⟨(by have:=HLA.out;simp;omega)⟩,HLE,HI⟩
def zft.f (a0:Int):Option (Int × Int):=some (a0,0)
theorem zft.calls (a0:Int) (r1:Int) (r2:Int) (w:World) (h:zft.f a0=some (r1,r2)) :
  Calls Tryz.prog 114 #[.int .i64 a0] w fun e w'=>e=.returned (.agg #[.int .i64 r1,.int .i64 r2])∧Below w.heap.size w w':=by
 have hu32:=Tryz.underlying32
 have HB:=am_ (Below.refl w.heap.size w)
 have H:(some (a0,0))=some (r1,r2):=h
 clear h
 simp only [Option.some.injEq,Prod.mk.injEq] at H
 obtain⟨rfl,rfl⟩:=H
 go_enter Tryz.func114,Tryz.ntmps114
 go_wp2_with (first|((with_reducible refine zad (N:=2) rfl ?_);refine zaj rfl (N:=2) rfl (cs:=#[.int .i64 0,.int .i64 0]) (t:=32) bx_ ?_;intro gb101 hg w2 hbox hb;replace BK101:=am_ (hbox);replace GW101:=am_ ((by rw [hg];exact(zaf qz2_):w.heap.size≤gb101));replace GE101:=GW101;replace HB:=am_ (zab qz2_ hb);clear hb hbox hg;obtain⟨hcz3_0,hcz3_1,hfz3_0,hfz3_1⟩:=bf2_ BK101.out))
 refine bodyPost_ret (results_cell_row rfl _ _ gb101 32 #[.int .i64 a0,.int .i64 0] (0,0) _ rfl (by(with_reducible repeat(first|refine zah ?_ _|refine zae ?_|refine zai ?_ _));refine za9 (cs:=#[.int .i64 a0,.int .i64 0]) ?_ 1 _ rfl;(with_reducible repeat(first|refine zah ?_ _|refine zae ?_|refine zai ?_ _));refine za9 (cs:=#[.int .i64 0,.int .i64 0]) ?_ 0 _ rfl;(with_reducible repeat(first|refine zah ?_ _|refine zae ?_|refine zai ?_ _));exact BK101.out) Tryz.underlying32 rfl (by kernel_rfl)) rfl ?_
 exact⟨qz4_,qz5_⟩
def zb0.f (a0:Int) (a1:Int):Option (Int):=some (Int.tmod (wrap64 (a0 + a1)) 2130706433)
theorem zb0.calls (a0:Int) (a1:Int) (r:Int) (w:World) (h:zb0.f a0 a1=some r) :
  Calls Tryz.prog 143 #[.int .i64 a0,.int .i64 a1] w fun e w'=>e=.returned (.int .i64 r)∧zbx w w':=by
 have H:(some (Int.tmod (wrap64 (a0 + a1)) 2130706433))=some r:=h
 clear h
 obtain rfl:=Option.some.inj H
 go_enter Tryz.func143,Tryz.ntmps143
 go_wp2
 go_ret
 exact⟨qz0_,qz1_⟩
def zb1.f (a0:Int) (a1:Int):Option (Int):=some (Int.tmod (wrap64 (a0 * a1)) 2130706433)
theorem zb1.calls (a0:Int) (a1:Int) (r:Int) (w:World) (h:zb1.f a0 a1=some r) :
  Calls Tryz.prog 144 #[.int .i64 a0,.int .i64 a1] w fun e w'=>e=.returned (.int .i64 r)∧zbx w w':=by
 have H:(some (Int.tmod (wrap64 (a0 * a1)) 2130706433))=some r:=h
 clear h
 obtain rfl:=Option.some.inj H
 go_enter Tryz.func144,Tryz.ntmps144
 go_wp2
 go_ret
 exact⟨qz0_,qz1_⟩
end Go.Proofs.YtgookagndlfehaaGreat.PT
end
section
namespace Go.Proofs.YtgookagndlfehaaGreat.PT
open Go.RowKit Go.Proofs.YtgookagndlfehaaGreatW.PrintWords Go.Proofs.YtgookagndlfehaaGreatW.PrintLast Go.Proofs.YtgookagndlfehaaGreatW.PrintMore
attribute [local go_sem] zez zey zfh zff zed zd9 zex zew   -- for this text's walks alone
set_option linter.unusedVariables false
set_option linter.unusedSimpArgs false
def zbp.f (a0_0:Int) (a0_1:Int) (a1_0:Int) (a1_1:Int):Option (Int × Int):=(zb1.f a0_0 a1_0).bind fun t104=>((zb1.f a0_1 a1_1).bind fun t105=>((zb0.f t104 (Int.tmod (wrap64 (3 * t105)) 2130706433)).bind fun t106=>((zb1.f a0_0 a1_1).bind fun t107=>((zb1.f a0_1 a1_0).bind fun t108=>((zb0.f t107 t108).bind fun t109=>(some (t106,t109)))))))
def zbp.T1:Bool × List (List Nat × List Nat):=(true,[([],[]),([0],[0]),([],[]),([2],[2]),([1,3],[1,3]),([],[]),([5],[5]),([],[]),([7],[7]),([6,8,4],[6,8]),([9],[9]),([10],[10]),([4,11,9],[4,11]),([],[]),([13],[13]),([],[]),([15],[15]),([14,16,12],[14,16]),([],[]),([18],[18]),([],[]),([20],[20]),([19,21,17],[19,21]),([17,22,22],[17,22]),([12,23],[12,23]),([24,23,0,1,2,3,4,5,6,7,8,9,10,11,12,13,14,15,16,17,18,19,20,21,22,23,24],[24])])
def zbp.B1:List Nat:=[0,1,0,4,15,0,32,0,128,511,1023,2047,4095,0,8192,0,32768,131071,0,262144,0,1048576,4194303,8388607,16777215,33554431]
theorem zbp.tab1:rtab .any (opsOf Tryz.f108 1)=zbp.T1:=by kernel_rfl
theorem zbp.bits1:zcu zbp.T1.2 zbp.B1=true:=by kernel_rfl
theorem zbp.calls (a0_0:Int) (a0_1:Int) (a1_0:Int) (a1_1:Int) (r1:Int) (r2:Int) (w:World) (h:zbp.f a0_0 a0_1 a1_0 a1_1=some (r1,r2)) :
  Calls Tryz.prog 108 #[.agg #[.int .i64 a0_0,.int .i64 a0_1],.agg #[.int .i64 a1_0,.int .i64 a1_1]] w fun e w'=>e=.returned (.agg #[.int .i64 r1,.int .i64 r2])∧Below w.heap.size w w':=by
 have hu32:=Tryz.underlying32
 have HB:=am_ (Below.refl w.heap.size w)
 have H:((zb1.f a0_0 a1_0).bind fun t104=>((zb1.f a0_1 a1_1).bind fun t105=>((zb0.f t104 (Int.tmod (wrap64 (3 * t105)) 2130706433)).bind fun t106=>((zb1.f a0_0 a1_1).bind fun t107=>((zb1.f a0_1 a1_0).bind fun t108=>((zb0.f t107 t108).bind fun t109=>(some (t106,t109))))))))=some (r1,r2):=h
 clear h
 replace H:=Option.bind_eq_some_iff.mp H
 obtain⟨t104,A30,H⟩:=H
 replace H:((zb1.f a0_1 a1_1).bind fun t105=>((zb0.f t104 (Int.tmod (wrap64 (3 * t105)) 2130706433)).bind fun t106=>((zb1.f a0_0 a1_1).bind fun t107=>((zb1.f a0_1 a1_0).bind fun t108=>((zb0.f t107 t108).bind fun t109=>(some (t106,t109)))))))=some (r1,r2):=H
 have A3:=am_ A30
 clear A30
 replace H:=Option.bind_eq_some_iff.mp H
 obtain⟨t105,A40,H⟩:=H
 replace H:((zb0.f t104 (Int.tmod (wrap64 (3 * t105)) 2130706433)).bind fun t106=>((zb1.f a0_0 a1_1).bind fun t107=>((zb1.f a0_1 a1_0).bind fun t108=>((zb0.f t107 t108).bind fun t109=>(some (t106,t109))))))=some (r1,r2):=H
 have A4:=am_ A40
 clear A40
 replace H:=Option.bind_eq_some_iff.mp H
 obtain⟨t106,A50,H⟩:=H
 replace H:((zb1.f a0_0 a1_1).bind fun t107=>((zb1.f a0_1 a1_0).bind fun t108=>((zb0.f t107 t108).bind fun t109=>(some (t106,t109)))))=some (r1,r2):=H
 have A5:=am_ A50
 clear A50
 replace H:=Option.bind_eq_some_iff.mp H
 obtain⟨t107,A60,H⟩:=H
 replace H:((zb1.f a0_1 a1_0).bind fun t108=>((zb0.f t107 t108).bind fun t109=>(some (t106,t109))))=some (r1,r2):=H
 have A6:=am_ A60
 clear A60
 replace H:=Option.bind_eq_some_iff.mp H
 obtain⟨t108,A70,H⟩:=H
 replace H:((zb0.f t107 t108).bind fun t109=>(some (t106,t109)))=some (r1,r2):=H
 have A7:=am_ A70
 clear A70
 replace H:=Option.bind_eq_some_iff.mp H
 obtain⟨t109,A80,H⟩:=H
 replace H:(some (t106,t109))=some (r1,r2):=H
 have A8:=am_ A80
 clear A80
 simp only [Option.some.injEq,Prod.mk.injEq] at H
 obtain⟨rfl,rfl⟩:=H
 go_enter Tryz.func108,Tryz.ntmps108
 try go_wp2_with (first|((with_reducible refine zad (N:=2) rfl ?_);refine zaj rfl (N:=2) rfl (cs:=#[.int .i64 a0_0,.int .i64 a0_1]) (t:=32) bx_ ?_;intro gb101 hg w9 hbox hb;replace BK101:=am_ (hbox);replace GW101:=am_ ((by rw [hg];exact(zaf qz2_):w.heap.size≤gb101));replace GE101:=GW101;replace HB:=am_ (zab qz2_ hb);clear hb hbox hg)|((with_reducible refine zad (N:=3) rfl ?_);refine zaj rfl (N:=3) rfl (cs:=#[.int .i64 a1_0,.int .i64 a1_1]) (t:=32) bx_ ?_;intro gb102 hg w10 hbox hb;replace BK102:=am_ (hbox);replace GW102:=am_ ((by rw [hg];exact(zaf qz5_):w.heap.size≤gb102));replace GE102:=GW102;replace HB:=am_ (zab qz5_ hb);replace NB101_102:=am_ ((by rw [hg];exact Nat.ne_of_lt (zar (g:=gb101) (o:=.cells #[.int .i64 a0_0,.int .i64 a0_1] 32 (0,0)) qz6_):gb101≠gb102));replace NB102_101:=am_ ((by rw [hg];exact Nat.ne_of_gt (zar (g:=gb101) (o:=.cells #[.int .i64 a0_0,.int .i64 a0_1] 32 (0,0)) qz6_):gb102≠gb101));replace BK101:=am_ (zak (g:=gb101) (o:=.cells #[.int .i64 a0_0,.int .i64 a0_1] 32 (0,0)) qz6_ hb);clear hb hbox hg)|((with_reducible refine zad (N:=4) rfl ?_);refine zaj rfl (N:=4) rfl (cs:=#[.int .i64 0,.int .i64 0]) (t:=32) bx_ ?_;intro gb103 hg w11 hbox hb;replace BK103:=am_ (hbox);replace GW103:=am_ ((by rw [hg];exact(zaf qz8_):w.heap.size≤gb103));replace GE103:=GW103;replace HB:=am_ (zab qz8_ hb);replace NB101_103:=am_ ((by rw [hg];exact Nat.ne_of_lt (zar (g:=gb101) (o:=.cells #[.int .i64 a0_0,.int .i64 a0_1] 32 (0,0)) qz6_):gb101≠gb103));replace NB103_101:=am_ ((by rw [hg];exact Nat.ne_of_gt (zar (g:=gb101) (o:=.cells #[.int .i64 a0_0,.int .i64 a0_1] 32 (0,0)) qz6_):gb103≠gb101));replace BK101:=am_ (zak (g:=gb101) (o:=.cells #[.int .i64 a0_0,.int .i64 a0_1] 32 (0,0)) qz6_ hb);replace NB102_103:=am_ ((by rw [hg];exact Nat.ne_of_lt (zar (g:=gb102) (o:=.cells #[.int .i64 a1_0,.int .i64 a1_1] 32 (0,0)) qz7_):gb102≠gb103));replace NB103_102:=am_ ((by rw [hg];exact Nat.ne_of_gt (zar (g:=gb102) (o:=.cells #[.int .i64 a1_0,.int .i64 a1_1] 32 (0,0)) qz7_):gb103≠gb102));replace BK102:=am_ (zak (g:=gb102) (o:=.cells #[.int .i64 a1_0,.int .i64 a1_1] 32 (0,0)) qz7_ hb);clear hb hbox hg))
 replace BK101:=am_ (zae BK101.out)
 replace BK102:=am_ (zae BK102.out)
 replace BK103:=am_ (zae BK103.out)
 replace HB:=am_ (zao HB.out)
 refine zcn (n:=26) (S:=fun w'=>w'.cell? ⟨gb101,0,none⟩=some (.int .i64 a0_0)∧w'.cell? ⟨gb101,1,none⟩=some (.int .i64 a0_1)∧w'.cell? ⟨gb102,0,none⟩=some (.int .i64 a1_0)∧w'.cell? ⟨gb102,1,none⟩=some (.int .i64 a1_1)) (ds:=[]) (bs_ 26 0) (by kernel_rfl) rfl rfl ⟨(zaa BK101.out 0).trans rfl,(zaa BK101.out 1).trans rfl,(zaa BK102.out 0).trans rfl,(zaa BK102.out 1).trans rfl⟩ (fun hHeld=>?_);refine zcj zbp.tab1 zbp.bits1 (fun HT_ HW_=>?_)
 generalize w11.drew=w12 at BK101 BK102 BK103 HB hHeld ⊢
 refine pt_ HT_.out 0 5 (bs_ 26 1) ?_
 refine pt_ HT_.out 2 7 (bs_ 26 5) ?_
 refine pt_ HT_.out 5 10 (bs_ 26 37) ?_
 refine pt_ HT_.out 7 12 (bs_ 26 165) ?_
 refine pt_ HT_.out 13 18 (bs_ 26 8357) ?_
 refine pt_ HT_.out 15 20 (bs_ 26 41125) ?_
 refine pt_ HT_.out 18 23 (bs_ 26 303269) ?_
 refine pt_ HT_.out 20 25 (bs_ 26 1351845) ?_
 refine tt_ HT_ HW_ 1 (bs_ 26 1351847) hHeld ?_
 refine tt_ HT_ HW_ 3 (bs_ 26 1351855) hHeld ?_
 refine tt_ HT_ HW_ 6 (bs_ 26 1351919) hHeld ?_
 refine tt_ HT_ HW_ 8 (bs_ 26 1352175) hHeld ?_
 refine tt_ HT_ HW_ 14 (bs_ 26 1368559) hHeld ?_
 refine tt_ HT_ HW_ 16 (bs_ 26 1434095) hHeld ?_
 refine tt_ HT_ HW_ 19 (bs_ 26 1958383) hHeld ?_
 refine tt_ HT_ HW_ 21 (bs_ 26 4055535) hHeld ?_
 refine ot_ HT_ 4 (some 9) (bs_ 26 4055551) (fun K hK=>?_)
 refine go_ Tryz.func144 #[.int .i64 a0_0,.int .i64 a1_0] ?_
 with_reducible refine(zb1.calls a0_0 a1_0 t104 _ A3.out).mono ?_
 rintro e w' ⟨rfl,⟨nd,rfl⟩⟩
 refine⟨_,rfl,?_⟩
 refine hK.out _ _ ⟨(zaa BK101.out 0).trans rfl,(zaa BK101.out 1).trans rfl,(zaa BK102.out 0).trans rfl,(zaa BK102.out 1).trans rfl⟩ (fun hHeld=>?_)
 clear hK K
 refine nm_ 9 ?_
 refine ot_ HT_ 9 (some 14) (bs_ 26 4056063) (fun K hK=>?_)
 refine go_ Tryz.func144 #[.int .i64 a0_1,.int .i64 a1_1] ?_
 with_reducible refine(zb1.calls a0_1 a1_1 t105 _ A4.out).mono ?_
 rintro e w' ⟨rfl,⟨nd,rfl⟩⟩
 refine⟨_,rfl,?_⟩
 refine hK.out _ _ ⟨(zaa BK101.out 0).trans rfl,(zaa BK101.out 1).trans rfl,(zaa BK102.out 0).trans rfl,(zaa BK102.out 1).trans rfl⟩ (fun hHeld=>?_)
 clear hK K
 refine nm_ 14 ?_
 refine pt_ HT_.out 10 15 (bs_ 26 4057087) ?_
 refine pt_ HT_.out 11 16 (bs_ 26 4059135) ?_
 refine ot_ HT_ 12 (some 17) (bs_ 26 4063231) (fun K hK=>?_)
 refine go_ Tryz.func143 #[.int .i64 t104,.int .i64 (Int.tmod (wrap64 (3 * t105)) 2130706433)] ?_
 with_reducible refine(zb0.calls t104 (Int.tmod (wrap64 (3 * t105)) 2130706433) t106 _ A5.out).mono ?_
 rintro e w' ⟨rfl,⟨nd,rfl⟩⟩
 refine⟨_,rfl,?_⟩
 refine hK.out _ _ ⟨(zaa BK101.out 0).trans rfl,(zaa BK101.out 1).trans rfl,(zaa BK102.out 0).trans rfl,(zaa BK102.out 1).trans rfl⟩ (fun hHeld=>?_)
 clear hK K
 refine nm_ 17 ?_
 refine ot_ HT_ 17 (some 22) (bs_ 26 4194303) (fun K hK=>?_)
 refine go_ Tryz.func144 #[.int .i64 a0_0,.int .i64 a1_1] ?_
 with_reducible refine(zb1.calls a0_0 a1_1 t107 _ A6.out).mono ?_
 rintro e w' ⟨rfl,⟨nd,rfl⟩⟩
 refine⟨_,rfl,?_⟩
 refine hK.out _ _ ⟨(zaa BK101.out 0).trans rfl,(zaa BK101.out 1).trans rfl,(zaa BK102.out 0).trans rfl,(zaa BK102.out 1).trans rfl⟩ (fun hHeld=>?_)
 clear hK K
 refine nm_ 22 ?_
 refine ot_ HT_ 22 (some 27) (bs_ 26 8388607) (fun K hK=>?_)
 refine go_ Tryz.func144 #[.int .i64 a0_1,.int .i64 a1_0] ?_
 with_reducible refine(zb1.calls a0_1 a1_0 t108 _ A7.out).mono ?_
 rintro e w' ⟨rfl,⟨nd,rfl⟩⟩
 refine⟨_,rfl,?_⟩
 refine hK.out _ _ ⟨(zaa BK101.out 0).trans rfl,(zaa BK101.out 1).trans rfl,(zaa BK102.out 0).trans rfl,(zaa BK102.out 1).trans rfl⟩ (fun hHeld=>?_)
 clear hK K
 refine nm_ 27 ?_
 refine ot_ HT_ 23 (some 28) (bs_ 26 16777215) (fun K hK=>?_)
 refine go_ Tryz.func143 #[.int .i64 t107,.int .i64 t108] ?_
 with_reducible refine(zb0.calls t107 t108 t109 _ A8.out).mono ?_
 rintro e w' ⟨rfl,⟨nd,rfl⟩⟩
 refine⟨_,rfl,?_⟩
 refine hK.out _ _ ⟨(zaa BK101.out 0).trans rfl,(zaa BK101.out 1).trans rfl,(zaa BK102.out 0).trans rfl,(zaa BK102.out 1).trans rfl⟩ (fun hHeld=>?_)
 clear hK K
 refine nm_ 28 ?_
 refine pt_ HT_.out 24 29 (bs_ 26 33554431) ?_
 refine ot_ HT_ 25 none (bs_ 26 67108863) (fun K hK=>?_)
 obtain⟨hs13,hfs13⟩:=bi_ BK103.out 0
 have hns13_0:=NB101_103.out
 have hns13_1:=NB102_103.out
 have hms13_0:=NB103_101.out
 have hms13_1:=NB103_102.out
 obtain⟨hs14,hfs14⟩:=bi_ BK103.out 1
 have hns14_0:=NB101_103.out
 have hns14_1:=NB102_103.out
 have hms14_0:=NB103_101.out
 have hms14_1:=NB103_102.out
 refine skip_ (w1:=?_) (by rfl) rfl ?_ ?_
 rotate_left
 ·
  go_simp
  rfl
 refine hK.out _ _ ⟨((cell_far (p:=⟨gb103,_,none⟩) NB101_103.out _).trans (((cell_far (p:=⟨gb103,_,none⟩) NB101_103.out _).trans (hHeld.1)))),((cell_far (p:=⟨gb103,_,none⟩) NB101_103.out _).trans (((cell_far (p:=⟨gb103,_,none⟩) NB101_103.out _).trans (hHeld.2.1)))),((cell_far (p:=⟨gb103,_,none⟩) NB102_103.out _).trans (((cell_far (p:=⟨gb103,_,none⟩) NB102_103.out _).trans (hHeld.2.2.1)))),((cell_far (p:=⟨gb103,_,none⟩) NB102_103.out _).trans (((cell_far (p:=⟨gb103,_,none⟩) NB102_103.out _).trans (hHeld.2.2.2))))⟩ (fun hHeld=>?_)
 clear hK K
 refine done_ (zdr HT_.out (by kernel_rfl)) ?_
 try go_wp2
 refine bodyPost_ret (results_cell_row rfl _ _ gb103 32 #[.int .i64 t106,.int .i64 t109] (0,0) _ rfl (by(with_reducible repeat(first|refine zah ?_ _|refine zae ?_|refine zai ?_ _));refine za9 (cs:=#[.int .i64 t106,.int .i64 0]) ?_ 1 _ rfl;(with_reducible repeat(first|refine zah ?_ _|refine zae ?_|refine zai ?_ _));refine za9 (cs:=#[.int .i64 0,.int .i64 0]) ?_ 0 _ rfl;(with_reducible repeat(first|refine zah ?_ _|refine zae ?_|refine zai ?_ _));exact BK103.out) Tryz.underlying32 rfl (by kernel_rfl)) rfl ?_
 exact⟨qz4_,qz9_⟩
def zdv.f (a0:Int) (a1:Int):Option (Int):=some (Int.tmod (wrap64 ((wrap64 (a0 + 2130706433)) - a1)) 2130706433)
theorem zdv.calls (a0:Int) (a1:Int) (r:Int) (w:World) (h:zdv.f a0 a1=some r) :
  Calls Tryz.prog 176 #[.int .i64 a0,.int .i64 a1] w fun e w'=>e=.returned (.int .i64 r)∧zbx w w':=by
 have H:(some (Int.tmod (wrap64 ((wrap64 (a0 + 2130706433)) - a1)) 2130706433))=some r:=h
 clear h
 obtain rfl:=Option.some.inj H
 go_enter Tryz.func176,Tryz.ntmps176
 go_wp2
 go_ret
 exact⟨qz0_,qz1_⟩
def zci.f (a0_0:Int) (a0_1:Int) (a1_0:Int) (a1_1:Int):Option (Int × Int):=(zdv.f a0_0 a1_0).bind fun t104=>((zdv.f a0_1 a1_1).bind fun t105=>(some (t104,t105)))
def zci.T1:Bool × List (List Nat × List Nat):=(true,[([],[]),([0],[0]),([],[]),([2],[2]),([1,3],[1,3]),([],[]),([5],[5]),([],[]),([7],[7]),([6,8,4],[6,8]),([4,9],[4,9]),([10,9,0,1,2,3,4,5,6,7,8,9,10],[10])])
def zci.B1:List Nat:=[0,1,0,4,15,0,32,0,128,511,1023,2047]
theorem zci.tab1:rtab .any (opsOf Tryz.f145 1)=zci.T1:=by kernel_rfl
theorem zci.bits1:zcu zci.T1.2 zci.B1=true:=by kernel_rfl
theorem zci.calls (a0_0:Int) (a0_1:Int) (a1_0:Int) (a1_1:Int) (r1:Int) (r2:Int) (w:World) (h:zci.f a0_0 a0_1 a1_0 a1_1=some (r1,r2)) :
  Calls Tryz.prog 145 #[.agg #[.int .i64 a0_0,.int .i64 a0_1],.agg #[.int .i64 a1_0,.int .i64 a1_1]] w fun e w'=>e=.returned (.agg #[.int .i64 r1,.int .i64 r2])∧Below w.heap.size w w':=by
 have hu32:=Tryz.underlying32
 have HB:=am_ (Below.refl w.heap.size w)
 have H:((zdv.f a0_0 a1_0).bind fun t104=>((zdv.f a0_1 a1_1).bind fun t105=>(some (t104,t105))))=some (r1,r2):=h
 clear h
 replace H:=Option.bind_eq_some_iff.mp H
 obtain⟨t104,A30,H⟩:=H
 replace H:((zdv.f a0_1 a1_1).bind fun t105=>(some (t104,t105)))=some (r1,r2):=H
 have A3:=am_ A30
 clear A30
 replace H:=Option.bind_eq_some_iff.mp H
 obtain⟨t105,A40,H⟩:=H
 replace H:(some (t104,t105))=some (r1,r2):=H
 have A4:=am_ A40
 clear A40
 simp only [Option.some.injEq,Prod.mk.injEq] at H
 obtain⟨rfl,rfl⟩:=H
 go_enter Tryz.func145,Tryz.ntmps145
 try go_wp2_with (first|((with_reducible refine zad (N:=2) rfl ?_);refine zaj rfl (N:=2) rfl (cs:=#[.int .i64 a0_0,.int .i64 a0_1]) (t:=32) bx_ ?_;intro gb101 hg w5 hbox hb;replace BK101:=am_ (hbox);replace GW101:=am_ ((by rw [hg];exact(zaf qz2_):w.heap.size≤gb101));replace GE101:=GW101;replace HB:=am_ (zab qz2_ hb);clear hb hbox hg)|((with_reducible refine zad (N:=3) rfl ?_);refine zaj rfl (N:=3) rfl (cs:=#[.int .i64 a1_0,.int .i64 a1_1]) (t:=32) bx_ ?_;intro gb102 hg w6 hbox hb;replace BK102:=am_ (hbox);replace GW102:=am_ ((by rw [hg];exact(zaf qz5_):w.heap.size≤gb102));replace GE102:=GW102;replace HB:=am_ (zab qz5_ hb);replace NB101_102:=am_ ((by rw [hg];exact Nat.ne_of_lt (zar (g:=gb101) (o:=.cells #[.int .i64 a0_0,.int .i64 a0_1] 32 (0,0)) qz6_):gb101≠gb102));replace NB102_101:=am_ ((by rw [hg];exact Nat.ne_of_gt (zar (g:=gb101) (o:=.cells #[.int .i64 a0_0,.int .i64 a0_1] 32 (0,0)) qz6_):gb102≠gb101));replace BK101:=am_ (zak (g:=gb101) (o:=.cells #[.int .i64 a0_0,.int .i64 a0_1] 32 (0,0)) qz6_ hb);clear hb hbox hg)|((with_reducible refine zad (N:=4) rfl ?_);refine zaj rfl (N:=4) rfl (cs:=#[.int .i64 0,.int .i64 0]) (t:=32) bx_ ?_;intro gb103 hg w7 hbox hb;replace BK103:=am_ (hbox);replace GW103:=am_ ((by rw [hg];exact(zaf qz8_):w.heap.size≤gb103));replace GE103:=GW103;replace HB:=am_ (zab qz8_ hb);replace NB101_103:=am_ ((by rw [hg];exact Nat.ne_of_lt (zar (g:=gb101) (o:=.cells #[.int .i64 a0_0,.int .i64 a0_1] 32 (0,0)) qz6_):gb101≠gb103));replace NB103_101:=am_ ((by rw [hg];exact Nat.ne_of_gt (zar (g:=gb101) (o:=.cells #[.int .i64 a0_0,.int .i64 a0_1] 32 (0,0)) qz6_):gb103≠gb101));replace BK101:=am_ (zak (g:=gb101) (o:=.cells #[.int .i64 a0_0,.int .i64 a0_1] 32 (0,0)) qz6_ hb);replace NB102_103:=am_ ((by rw [hg];exact Nat.ne_of_lt (zar (g:=gb102) (o:=.cells #[.int .i64 a1_0,.int .i64 a1_1] 32 (0,0)) qz7_):gb102≠gb103));replace NB103_102:=am_ ((by rw [hg];exact Nat.ne_of_gt (zar (g:=gb102) (o:=.cells #[.int .i64 a1_0,.int .i64 a1_1] 32 (0,0)) qz7_):gb103≠gb102));replace BK102:=am_ (zak (g:=gb102) (o:=.cells #[.int .i64 a1_0,.int .i64 a1_1] 32 (0,0)) qz7_ hb);clear hb hbox hg))
 replace BK101:=am_ (zae BK101.out)
 replace BK102:=am_ (zae BK102.out)
 replace BK103:=am_ (zae BK103.out)
 replace HB:=am_ (zao HB.out)
 refine zcn (n:=12) (S:=fun w'=>w'.cell? ⟨gb101,0,none⟩=some (.int .i64 a0_0)∧w'.cell? ⟨gb101,1,none⟩=some (.int .i64 a0_1)∧w'.cell? ⟨gb102,0,none⟩=some (.int .i64 a1_0)∧w'.cell? ⟨gb102,1,none⟩=some (.int .i64 a1_1)) (ds:=[]) (bs_ 12 0) (by kernel_rfl) rfl rfl ⟨(zaa BK101.out 0).trans rfl,(zaa BK101.out 1).trans rfl,(zaa BK102.out 0).trans rfl,(zaa BK102.out 1).trans rfl⟩ (fun hHeld=>?_);refine zcj zci.tab1 zci.bits1 (fun HT_ HW_=>?_)
 generalize w7.drew=w8 at BK101 BK102 BK103 HB hHeld ⊢
 refine pt_ HT_.out 0 5 (bs_ 12 1) ?_
 refine pt_ HT_.out 2 7 (bs_ 12 5) ?_
 refine pt_ HT_.out 5 10 (bs_ 12 37) ?_
 refine pt_ HT_.out 7 12 (bs_ 12 165) ?_
 refine tt_ HT_ HW_ 1 (bs_ 12 167) hHeld ?_
 refine tt_ HT_ HW_ 3 (bs_ 12 175) hHeld ?_
 refine tt_ HT_ HW_ 6 (bs_ 12 239) hHeld ?_
 refine tt_ HT_ HW_ 8 (bs_ 12 495) hHeld ?_
 refine ot_ HT_ 4 (some 9) (bs_ 12 511) (fun K hK=>?_)
 refine go_ Tryz.func176 #[.int .i64 a0_0,.int .i64 a1_0] ?_
 with_reducible refine(zdv.calls a0_0 a1_0 t104 _ A3.out).mono ?_
 rintro e w' ⟨rfl,⟨nd,rfl⟩⟩
 refine⟨_,rfl,?_⟩
 refine hK.out _ _ ⟨(zaa BK101.out 0).trans rfl,(zaa BK101.out 1).trans rfl,(zaa BK102.out 0).trans rfl,(zaa BK102.out 1).trans rfl⟩ (fun hHeld=>?_)
 clear hK K
 refine nm_ 9 ?_
 refine ot_ HT_ 9 (some 14) (bs_ 12 1023) (fun K hK=>?_)
 refine go_ Tryz.func176 #[.int .i64 a0_1,.int .i64 a1_1] ?_
 with_reducible refine(zdv.calls a0_1 a1_1 t105 _ A4.out).mono ?_
 rintro e w' ⟨rfl,⟨nd,rfl⟩⟩
 refine⟨_,rfl,?_⟩
 refine hK.out _ _ ⟨(zaa BK101.out 0).trans rfl,(zaa BK101.out 1).trans rfl,(zaa BK102.out 0).trans rfl,(zaa BK102.out 1).trans rfl⟩ (fun hHeld=>?_)
 clear hK K
 refine nm_ 14 ?_
 refine pt_ HT_.out 10 15 (bs_ 12 2047) ?_
 refine ot_ HT_ 11 none (bs_ 12 4095) (fun K hK=>?_)
 obtain⟨hs9,hfs9⟩:=bi_ BK103.out 0
 have hns9_0:=NB101_103.out
 have hns9_1:=NB102_103.out
 have hms9_0:=NB103_101.out
 have hms9_1:=NB103_102.out
 obtain⟨hs10,hfs10⟩:=bi_ BK103.out 1
 have hns10_0:=NB101_103.out
 have hns10_1:=NB102_103.out
 have hms10_0:=NB103_101.out
 have hms10_1:=NB103_102.out
 refine skip_ (w1:=?_) (by rfl) rfl ?_ ?_
 rotate_left
 ·
  go_simp
  rfl
 refine hK.out _ _ ⟨((cell_far (p:=⟨gb103,_,none⟩) NB101_103.out _).trans (((cell_far (p:=⟨gb103,_,none⟩) NB101_103.out _).trans (hHeld.1)))),((cell_far (p:=⟨gb103,_,none⟩) NB101_103.out _).trans (((cell_far (p:=⟨gb103,_,none⟩) NB101_103.out _).trans (hHeld.2.1)))),((cell_far (p:=⟨gb103,_,none⟩) NB102_103.out _).trans (((cell_far (p:=⟨gb103,_,none⟩) NB102_103.out _).trans (hHeld.2.2.1)))),((cell_far (p:=⟨gb103,_,none⟩) NB102_103.out _).trans (((cell_far (p:=⟨gb103,_,none⟩) NB102_103.out _).trans (hHeld.2.2.2))))⟩ (fun hHeld=>?_)
 clear hK K
 refine done_ (zdr HT_.out (by kernel_rfl)) ?_
 try go_wp2
 refine bodyPost_ret (results_cell_row rfl _ _ gb103 32 #[.int .i64 t104,.int .i64 t105] (0,0) _ rfl qz20_ Tryz.underlying32 rfl (by kernel_rfl)) rfl ?_
 exact⟨qz4_,qz9_⟩
def zcc.f (a0_0:Int) (a0_1:Int) (a1_0:Int) (a1_1:Int):Option (Int × Int):=(zb0.f a0_0 a1_0).bind fun t104=>((zb0.f a0_1 a1_1).bind fun t105=>(some (t104,t105)))
def zcc.T1:Bool × List (List Nat × List Nat):=(true,[([],[]),([0],[0]),([],[]),([2],[2]),([1,3],[1,3]),([],[]),([5],[5]),([],[]),([7],[7]),([6,8,4],[6,8]),([4,9],[4,9]),([10,9,0,1,2,3,4,5,6,7,8,9,10],[10])])
def zcc.B1:List Nat:=[0,1,0,4,15,0,32,0,128,511,1023,2047]
theorem zcc.tab1:rtab .any (opsOf Tryz.f149 1)=zcc.T1:=by kernel_rfl
theorem zcc.bits1:zcu zcc.T1.2 zcc.B1=true:=by kernel_rfl
theorem zcc.calls (a0_0:Int) (a0_1:Int) (a1_0:Int) (a1_1:Int) (r1:Int) (r2:Int) (w:World) (h:zcc.f a0_0 a0_1 a1_0 a1_1=some (r1,r2)) :
  Calls Tryz.prog 149 #[.agg #[.int .i64 a0_0,.int .i64 a0_1],.agg #[.int .i64 a1_0,.int .i64 a1_1]] w fun e w'=>e=.returned (.agg #[.int .i64 r1,.int .i64 r2])∧Below w.heap.size w w':=by
 have hu32:=Tryz.underlying32
 have HB:=am_ (Below.refl w.heap.size w)
 have H:((zb0.f a0_0 a1_0).bind fun t104=>((zb0.f a0_1 a1_1).bind fun t105=>(some (t104,t105))))=some (r1,r2):=h
 clear h
 replace H:=Option.bind_eq_some_iff.mp H
 obtain⟨t104,A30,H⟩:=H
 replace H:((zb0.f a0_1 a1_1).bind fun t105=>(some (t104,t105)))=some (r1,r2):=H
 have A3:=am_ A30
 clear A30
 replace H:=Option.bind_eq_some_iff.mp H
 obtain⟨t105,A40,H⟩:=H
 replace H:(some (t104,t105))=some (r1,r2):=H
 have A4:=am_ A40
 clear A40
 simp only [Option.some.injEq,Prod.mk.injEq] at H
 obtain⟨rfl,rfl⟩:=H
 go_enter Tryz.func149,Tryz.ntmps149
 try go_wp2_with (first|((with_reducible refine zad (N:=2) rfl ?_);refine zaj rfl (N:=2) rfl (cs:=#[.int .i64 a0_0,.int .i64 a0_1]) (t:=32) bx_ ?_;intro gb101 hg w5 hbox hb;replace BK101:=am_ (hbox);replace GW101:=am_ ((by rw [hg];exact(zaf qz2_):w.heap.size≤gb101));replace GE101:=GW101;replace HB:=am_ (zab qz2_ hb);clear hb hbox hg)|((with_reducible refine zad (N:=3) rfl ?_);refine zaj rfl (N:=3) rfl (cs:=#[.int .i64 a1_0,.int .i64 a1_1]) (t:=32) bx_ ?_;intro gb102 hg w6 hbox hb;replace BK102:=am_ (hbox);replace GW102:=am_ ((by rw [hg];exact(zaf qz5_):w.heap.size≤gb102));replace GE102:=GW102;replace HB:=am_ (zab qz5_ hb);replace NB101_102:=am_ ((by rw [hg];exact Nat.ne_of_lt (zar (g:=gb101) (o:=.cells #[.int .i64 a0_0,.int .i64 a0_1] 32 (0,0)) qz6_):gb101≠gb102));replace NB102_101:=am_ ((by rw [hg];exact Nat.ne_of_gt (zar (g:=gb101) (o:=.cells #[.int .i64 a0_0,.int .i64 a0_1] 32 (0,0)) qz6_):gb102≠gb101));replace BK101:=am_ (zak (g:=gb101) (o:=.cells #[.int .i64 a0_0,.int .i64 a0_1] 32 (0,0)) qz6_ hb);clear hb hbox hg)|((with_reducible refine zad (N:=4) rfl ?_);refine zaj rfl (N:=4) rfl (cs:=#[.int .i64 0,.int .i64 0]) (t:=32) bx_ ?_;intro gb103 hg w7 hbox hb;replace BK103:=am_ (hbox);replace GW103:=am_ ((by rw [hg];exact(zaf qz8_):w.heap.size≤gb103));replace GE103:=GW103;replace HB:=am_ (zab qz8_ hb);replace NB101_103:=am_ ((by rw [hg];exact Nat.ne_of_lt (zar (g:=gb101) (o:=.cells #[.int .i64 a0_0,.int .i64 a0_1] 32 (0,0)) qz6_):gb101≠gb103));replace NB103_101:=am_ ((by rw [hg];exact Nat.ne_of_gt (zar (g:=gb101) (o:=.cells #[.int .i64 a0_0,.int .i64 a0_1] 32 (0,0)) qz6_):gb103≠gb101));replace BK101:=am_ (zak (g:=gb101) (o:=.cells #[.int .i64 a0_0,.int .i64 a0_1] 32 (0,0)) qz6_ hb);replace NB102_103:=am_ ((by rw [hg];exact Nat.ne_of_lt (zar (g:=gb102) (o:=.cells #[.int .i64 a1_0,.int .i64 a1_1] 32 (0,0)) qz7_):gb102≠gb103));replace NB103_102:=am_ ((by rw [hg];exact Nat.ne_of_gt (zar (g:=gb102) (o:=.cells #[.int .i64 a1_0,.int .i64 a1_1] 32 (0,0)) qz7_):gb103≠gb102));replace BK102:=am_ (zak (g:=gb102) (o:=.cells #[.int .i64 a1_0,.int .i64 a1_1] 32 (0,0)) qz7_ hb);clear hb hbox hg))
 replace BK101:=am_ (zae BK101.out)
 replace BK102:=am_ (zae BK102.out)
 replace BK103:=am_ (zae BK103.out)
 replace HB:=am_ (zao HB.out)
 refine zcn (n:=12) (S:=fun w'=>w'.cell? ⟨gb101,0,none⟩=some (.int .i64 a0_0)∧w'.cell? ⟨gb101,1,none⟩=some (.int .i64 a0_1)∧w'.cell? ⟨gb102,0,none⟩=some (.int .i64 a1_0)∧w'.cell? ⟨gb102,1,none⟩=some (.int .i64 a1_1)) (ds:=[]) (bs_ 12 0) (by kernel_rfl) rfl rfl ⟨(zaa BK101.out 0).trans rfl,(zaa BK101.out 1).trans rfl,(zaa BK102.out 0).trans rfl,(zaa BK102.out 1).trans rfl⟩ (fun hHeld=>?_);refine zcj zcc.tab1 zcc.bits1 (fun HT_ HW_=>?_)
 generalize w7.drew=w8 at BK101 BK102 BK103 HB hHeld ⊢
 refine pt_ HT_.out 0 5 (bs_ 12 1) ?_
 refine pt_ HT_.out 2 7 (bs_ 12 5) ?_
 refine pt_ HT_.out 5 10 (bs_ 12 37) ?_
 refine pt_ HT_.out 7 12 (bs_ 12 165) ?_
 refine tt_ HT_ HW_ 1 (bs_ 12 167) hHeld ?_
 refine tt_ HT_ HW_ 3 (bs_ 12 175) hHeld ?_
 refine tt_ HT_ HW_ 6 (bs_ 12 239) hHeld ?_
 refine tt_ HT_ HW_ 8 (bs_ 12 495) hHeld ?_
 refine ot_ HT_ 4 (some 9) (bs_ 12 511) (fun K hK=>?_)
 refine go_ Tryz.func143 #[.int .i64 a0_0,.int .i64 a1_0] ?_
 with_reducible refine(zb0.calls a0_0 a1_0 t104 _ A3.out).mono ?_
 rintro e w' ⟨rfl,⟨nd,rfl⟩⟩
 refine⟨_,rfl,?_⟩
 refine hK.out _ _ ⟨(zaa BK101.out 0).trans rfl,(zaa BK101.out 1).trans rfl,(zaa BK102.out 0).trans rfl,(zaa BK102.out 1).trans rfl⟩ (fun hHeld=>?_)
 clear hK K
 refine nm_ 9 ?_
 refine ot_ HT_ 9 (some 14) (bs_ 12 1023) (fun K hK=>?_)
 refine go_ Tryz.func143 #[.int .i64 a0_1,.int .i64 a1_1] ?_
 with_reducible refine(zb0.calls a0_1 a1_1 t105 _ A4.out).mono ?_
 rintro e w' ⟨rfl,⟨nd,rfl⟩⟩
 refine⟨_,rfl,?_⟩
 refine hK.out _ _ ⟨(zaa BK101.out 0).trans rfl,(zaa BK101.out 1).trans rfl,(zaa BK102.out 0).trans rfl,(zaa BK102.out 1).trans rfl⟩ (fun hHeld=>?_)
 clear hK K
 refine nm_ 14 ?_
 refine pt_ HT_.out 10 15 (bs_ 12 2047) ?_
 refine ot_ HT_ 11 none (bs_ 12 4095) (fun K hK=>?_)
 obtain⟨hs9,hfs9⟩:=bi_ BK103.out 0
 have hns9_0:=NB101_103.out
 have hns9_1:=NB102_103.out
 have hms9_0:=NB103_101.out
 have hms9_1:=NB103_102.out
 obtain⟨hs10,hfs10⟩:=bi_ BK103.out 1
 have hns10_0:=NB101_103.out
 have hns10_1:=NB102_103.out
 have hms10_0:=NB103_101.out
 have hms10_1:=NB103_102.out
 refine skip_ (w1:=?_) (by rfl) rfl ?_ ?_
 rotate_left
 ·
  go_simp
  rfl
 refine hK.out _ _ ⟨((cell_far (p:=⟨gb103,_,none⟩) NB101_103.out _).trans (((cell_far (p:=⟨gb103,_,none⟩) NB101_103.out _).trans (hHeld.1)))),((cell_far (p:=⟨gb103,_,none⟩) NB101_103.out _).trans (((cell_far (p:=⟨gb103,_,none⟩) NB101_103.out _).trans (hHeld.2.1)))),((cell_far (p:=⟨gb103,_,none⟩) NB102_103.out _).trans (((cell_far (p:=⟨gb103,_,none⟩) NB102_103.out _).trans (hHeld.2.2.1)))),((cell_far (p:=⟨gb103,_,none⟩) NB102_103.out _).trans (((cell_far (p:=⟨gb103,_,none⟩) NB102_103.out _).trans (hHeld.2.2.2))))⟩ (fun hHeld=>?_)
 clear hK K
 refine done_ (zdr HT_.out (by kernel_rfl)) ?_
 try go_wp2
 refine bodyPost_ret (results_cell_row rfl _ _ gb103 32 #[.int .i64 t104,.int .i64 t105] (0,0) _ rfl qz20_ Tryz.underlying32 rfl (by kernel_rfl)) rfl ?_
 exact⟨qz4_,qz9_⟩
def zbc.l0:Nat→List (S32)→List (S32)→Int→Int→Int→Option ((List (S32)))
 | 0,_,_,_,_,_=>none
 | k + 1,x0,x5,x6,x102000,x102001=>if x6<(x0.length:Int) then(if 0≤x6 then(if 0≤(wrap64 (x6 + 1)) then(if (wrap64 (x6 + 1))<(x0.length:Int) then((zci.f ((zac x0 (wrap64 (x6 + 1))).f0) ((zac x0 (wrap64 (x6 + 1))).f1) ((zac x0 x6).f0) ((zac x0 x6).f1)).bind fun bt108=>((zbp.f x102000 x102001 bt108.1 bt108.2).bind fun bt110=>((zcc.f ((zac x0 x6).f0) ((zac x0 x6).f1) bt110.1 bt110.2).bind fun bt112=>(if x5.length<8796093022208 then(zbc.l0 k x0 (x5++[(⟨bt112.1,bt112.2⟩:S32)]) (wrap64 (x6 + 2)) x102000 x102001) else(none))))) else(none)) else(none)) else(none)) else(some x5)
def zbc.f (k:Nat) (l0:List (S32)) (a1_0:Int) (a1_1:Int):Option ((List (S32))):=zbc.l0 k l0 (([]:List (S32))) 0 a1_0 a1_1
def zbc.T5:Bool × List (List Nat × List Nat):=(true,[([],[]),([],[]),([],[]),([1,2],[1,2]),([3],[3]),([],[]),([],[]),([],[]),([7],[7]),([6,8],[6,8]),([9],[9]),([],[]),([],[]),([11,12],[11,12]),([13],[13]),([10,14],[10,14]),([5,15,15],[5,15]),([4,16,16],[4,16]),([17],[17]),([0,18,17],[0,18]),([19,19,0,1,2,3,4,5,6,7,8,9,10,11,12,13,14,15,16,17,18,19],[0,19])])
def zbc.B5:List Nat:=[0,0,0,6,14,0,0,0,128,448,960,0,0,6144,14336,32704,65504,131070,262142,524287,1048575]
theorem zbc.tab5:rtab .any (opsOf Tryz.f118 5)=zbc.T5:=by kernel_rfl
theorem zbc.bits5:zcu zbc.T5.2 zbc.B5=true:=by kernel_rfl
theorem zbc.calls (k:Nat) (A0:Option Addr) (c0:Nat) (l0:List (S32)) (a1_0:Int) (a1_1:Int) (r:List (S32)) (w:World) (hr0:Kd.C k32 w A0 l0.length l0) (hc0:l0.length≤c0) (h:zbc.f k l0 a1_0 a1_1=some r) :
  Calls Tryz.prog 118 #[.slice A0 l0.length c0,.agg #[.int .i64 a1_0,.int .i64 a1_1]] w fun e w'=>∃ v0_:Value,e=.returned (v0_)∧Kd.R k32 32 w' w.heap.size (fun _=>True) v0_ r∧Below w.heap.size w w':=by
 have hu32:=Tryz.underlying32
 have HR0:=am_ hr0
 have HC0:=am_ hc0
 clear hr0 hc0
 have HB:=am_ (Below.refl w.heap.size w)
 have H:(zbc.l0 k l0 (([]:List (S32))) 0 a1_0 a1_1)=some r:=h
 clear h
 obtain⟨y102,hy102⟩:∃ y_:List (S32),y_=(([]:List (S32))):=⟨_,rfl⟩
 replace H:(zbc.l0 k l0 y102 0 a1_0 a1_1)=some r:=by first|(rw [hy102];with_reducible exact H)|(have H2_:=(Option.bind_some _ _).symm.trans H;rw [hy102];with_reducible exact H2_)|(have H2_:=(Option.bind_some _ _).symm.trans H;with_reducible exact H2_)|with_reducible exact H|(rw [hy102];exact H)|exact H
 have Ny102:=am_ hy102
 clear hy102
 have H':=am_ H
 clear H
 go_enter Tryz.func118,Tryz.ntmps118
 go_wp2_with (first|((with_reducible refine zad (N:=3) rfl ?_);refine zaj rfl (N:=3) rfl (cs:=#[.int .i64 a1_0,.int .i64 a1_1]) (t:=32) bx_ ?_;intro gb101 hg w3 hbox hb;replace BK101:=am_ (hbox);replace GW101:=am_ ((by rw [hg];exact(zaf qz2_):w.heap.size≤gb101));replace GE101:=GW101;replace HB:=am_ (zab qz2_ hb);clear hb hbox hg)|((with_reducible refine zad (N:=7) rfl ?_);refine Kd.R_lit k32 _ 32 ?hg (N:=7) ?hd (xs:=([]:List (S32))) (inner:=[]) (ok:=fun _=>True) (okp:=fun _=>True) ?hr ?hp (fun _ hk=>hk) trivial (Below.refl _ _) (Nat.le_refl _) (by simp) ?_;(case hd=>rfl);(case hg=>rfl);(case hr=>first|(go_simp;done)|(go_simp;rfl));(case hp=>exact(Reps.none _ _));intro v103 w4 ho5 hb hg_ hnew_;clear hg_ hnew_;(first|rw [←Ny102.out] at ho5|(simp only [Int.reduceToNat] at ho5;rw [←Ny102.out] at ho5));replace HO104:=am_ (Kd.zcw (Kd.zjf ho5 (g:=gb101) (o:=.cells #[.int .i64 a1_0,.int .i64 a1_1] 32 (0,0)) qz6_) (zaf qz5_));replace BK101:=am_ (zak (g:=gb101) (o:=.cells #[.int .i64 a1_0,.int .i64 a1_1] 32 (0,0)) qz6_ hb);replace HB:=am_ (zab qz5_ hb);clear hb ho5))
 go_loopg [5,6] k (fun kq v5 v6 w'=>∃ (x5_1:List (S32)) (x6_1:Int),v6=.int .i64 x6_1∧zal (zbc.l0 kq l0 x5_1 x6_1 a1_0 a1_1=some r)∧zal (kq≤k)∧zal (Kd.R k32 32 w' w.heap.size (fun k_=>k_≠gb101) v5 x5_1)∧zal (w'.heap[gb101]?=some (.cells #[.int .i64 a1_0,.int .i64 a1_1] 32 (0,0)))∧zal (Below w.heap.size w w'))
 case atStart=>exact⟨(y102),(0),qz0_,H',⟨Nat.le_refl _⟩,⟨(by(with_reducible repeat(first|apply Kd.zbm|apply Kd.zbl|apply Kd.zbt));exact Kd.zba HO104.out (fun _ hk=>hk.2))⟩,⟨qz6_⟩,⟨qz5_⟩⟩
 case round=>
  clear H'
  try clear c1
  try clear p2
  obtain⟨x5_1,x6_1,rfl,HA,HK1,HO_5,BK101,HB⟩:=hrel
  cases gk with
  | zero=>exact absurd HA.out (by simp [zbc.l0])
  | succ k1=>
   have H:=HA.out
   clear HA
   simp only [zbc.l0] at H
   by_cases c6:x6_1<(l0.length:Int)
   ·
    rw [if_pos c6] at H
    have c6b0:decide (x6_1<(l0.length:Int))=true:=decide_eq_true c6
    clear c6
    by_cases c7:0≤x6_1
    ·
     rw [if_pos c7] at H
     have c7b0:decide (0≤x6_1)=true:=decide_eq_true c7
     clear c7
     obtain⟨ji8,hji8⟩:∃ j_:Int,(wrap64 (x6_1 + 1))=j_:=⟨_,rfl⟩
     replace H:(if 0≤(ji8) then(if (ji8)<(l0.length:Int) then((zci.f ((zac l0 (ji8)).f0) ((zac l0 (ji8)).f1) ((zac l0 x6_1).f0) ((zac l0 x6_1).f1)).bind fun bt108=>((zbp.f a1_0 a1_1 bt108.1 bt108.2).bind fun bt110=>((zcc.f ((zac l0 x6_1).f0) ((zac l0 x6_1).f1) bt110.1 bt110.2).bind fun bt112=>(if x5_1.length<8796093022208 then(zbc.l0 k1 l0 (x5_1++[(⟨bt112.1,bt112.2⟩:S32)]) (wrap64 (x6_1 + 2)) a1_0 a1_1) else(none))))) else(none)) else(none))=some r:=by first|(rw [hji8] at H;exact H)|(simp only [hji8] at H ⊢;exact H)
     have hji8w:(IntKind.i64.wrap (x6_1 + 1))=ji8:=(i64_w _).trans hji8
     by_cases c9:0≤(ji8)
     ·
      rw [if_pos c9] at H
      have c9b0:decide (0≤(ji8))=true:=decide_eq_true c9
      clear c9
      by_cases c10:(ji8)<(l0.length:Int)
      ·
       rw [if_pos c10] at H
       have c10b0:decide ((ji8)<(l0.length:Int))=true:=decide_eq_true c10
       clear c10
       replace H:=Option.bind_eq_some_iff.mp H
       obtain⟨⟨t108,t109⟩,A110,H⟩:=H
       replace H:((zbp.f a1_0 a1_1 t108 t109).bind fun bt110=>((zcc.f ((zac l0 x6_1).f0) ((zac l0 x6_1).f1) bt110.1 bt110.2).bind fun bt112=>(if x5_1.length<8796093022208 then(zbc.l0 k1 l0 (x5_1++[(⟨bt112.1,bt112.2⟩:S32)]) (wrap64 (x6_1 + 2)) a1_0 a1_1) else(none))))=some r:=H
       have A11:=am_ A110
       clear A110
       replace H:=Option.bind_eq_some_iff.mp H
       obtain⟨⟨t110,t111⟩,A120,H⟩:=H
       replace H:((zcc.f ((zac l0 x6_1).f0) ((zac l0 x6_1).f1) t110 t111).bind fun bt112=>(if x5_1.length<8796093022208 then(zbc.l0 k1 l0 (x5_1++[(⟨bt112.1,bt112.2⟩:S32)]) (wrap64 (x6_1 + 2)) a1_0 a1_1) else(none)))=some r:=H
       have A12:=am_ A120
       clear A120
       replace H:=Option.bind_eq_some_iff.mp H
       obtain⟨⟨t112,t113⟩,A130,H⟩:=H
       replace H:(if x5_1.length<8796093022208 then(zbc.l0 k1 l0 (x5_1++[(⟨t112,t113⟩:S32)]) (wrap64 (x6_1 + 2)) a1_0 a1_1) else(none))=some r:=H
       have A13:=am_ A130
       clear A130
       by_cases c14:x5_1.length<8796093022208
       ·
        rw [if_pos c14] at H
        have LMc14:=am_ c14
        clear c14
        obtain⟨y114,hy114⟩:∃ y_:List (S32),y_=(x5_1++[(⟨t112,t113⟩:S32)]):=⟨_,rfl⟩
        replace H:(zbc.l0 k1 l0 y114 (wrap64 (x6_1 + 2)) a1_0 a1_1)=some r:=by first|(rw [hy114];with_reducible exact H)|(have H2_:=(Option.bind_some _ _).symm.trans H;rw [hy114];with_reducible exact H2_)|(have H2_:=(Option.bind_some _ _).symm.trans H;with_reducible exact H2_)|with_reducible exact H|(rw [hy114];exact H)|exact H
        have Ny114:=am_ hy114
        clear hy114
        have H':=am_ H
        clear H
        try go_wp2
        replace HO_5:=am_ (Kd.zbt HO_5.out)
        replace BK101:=am_ (zae BK101.out)
        replace HB:=am_ (zao HB.out)
        have p105:0≤(x6_1:Int):=of_decide_eq_true qz10_
        have q105:x6_1<(l0.length:Int):=of_decide_eq_true qz10_
        obtain⟨ad105,e105,hx105_0,hx105_1⟩:=zdf HR0.out x6_1 p105 q105
        have hw105_1:=hx105_1
        have hw105_0:=hx105_0
        cases e105
        replace hx105_0:=(HB.out.cell (World.block_lt_of_cell? w _ hx105_0)).trans hx105_0
        replace hx105_1:=(HB.out.cell (World.block_lt_of_cell? w _ hx105_1)).trans hx105_1
        replace p105:=eq_true p105
        replace q105:=eq_true q105
        have p106:0≤((ji8):Int):=of_decide_eq_true qz10_
        have q106:(ji8)<(l0.length:Int):=of_decide_eq_true qz10_
        obtain⟨ad106,e106,hx106_0,hx106_1⟩:=zdf HR0.out (ji8) p106 q106
        have hw106_1:=hx106_1
        have hw106_0:=hx106_0
        obtain rfl:ad105=ad106:=(by injection e106)
        replace hx106_0:=(HB.out.cell (World.block_lt_of_cell? w _ hx106_0)).trans hx106_0
        replace hx106_1:=(HB.out.cell (World.block_lt_of_cell? w _ hx106_1)).trans hx106_1
        replace p106:=eq_true p106
        replace q106:=eq_true q106
        have p107:0≤(x6_1:Int):=of_decide_eq_true qz10_
        have q107:x6_1<(l0.length:Int):=of_decide_eq_true qz10_
        obtain⟨ad107,e107,hx107_0,hx107_1⟩:=zdf HR0.out x6_1 p107 q107
        have hw107_1:=hx107_1
        have hw107_0:=hx107_0
        obtain rfl:ad105=ad107:=(by injection e107)
        replace hx107_0:=(HB.out.cell (World.block_lt_of_cell? w _ hx107_0)).trans hx107_0
        replace hx107_1:=(HB.out.cell (World.block_lt_of_cell? w _ hx107_1)).trans hx107_1
        replace p107:=eq_true p107
        replace q107:=eq_true q107
        refine zcn (n:=21) (S:=fun w'=>w'.cell? ⟨gb101,0,none⟩=some (.int .i64 a1_0)∧w'.cell? ⟨gb101,1,none⟩=some (.int .i64 a1_1)∧w'.cell? (ad105.add ((x6_1).toNat * 2))=some (.int .i64 ((zac l0 x6_1).f0))∧w'.cell? ⟨(ad105.add ((x6_1).toNat * 2)).block,(ad105.add ((x6_1).toNat * 2)).off + 1,none⟩=some (.int .i64 ((zac l0 x6_1).f1))∧w'.cell? (ad105.add (((ji8)).toNat * 2))=some (.int .i64 ((zac l0 (ji8)).f0))∧w'.cell? ⟨(ad105.add (((ji8)).toNat * 2)).block,(ad105.add (((ji8)).toNat * 2)).off + 1,none⟩=some (.int .i64 ((zac l0 (ji8)).f1))∧w'.cell? (ad105.add ((x6_1).toNat * 2))=some (.int .i64 ((zac l0 x6_1).f0))∧w'.cell? ⟨(ad105.add ((x6_1).toNat * 2)).block,(ad105.add ((x6_1).toNat * 2)).off + 1,none⟩=some (.int .i64 ((zac l0 x6_1).f1))) (ds:=[]) (bs_ 21 0) (by kernel_rfl) rfl rfl ⟨(zaa BK101.out 0).trans rfl,(zaa BK101.out 1).trans rfl,((HB.out.cell (World.block_lt_of_cell? w _ hw105_0)).trans hw105_0),((HB.out.cell (World.block_lt_of_cell? w _ hw105_1)).trans hw105_1),((HB.out.cell (World.block_lt_of_cell? w _ hw106_0)).trans hw106_0),((HB.out.cell (World.block_lt_of_cell? w _ hw106_1)).trans hw106_1),((HB.out.cell (World.block_lt_of_cell? w _ hw107_0)).trans hw107_0),((HB.out.cell (World.block_lt_of_cell? w _ hw107_1)).trans hw107_1)⟩ (fun hHeld=>?_);refine zcj zbc.tab5 zbc.bits5 (fun HT_ HW_=>?_)
        generalize wr.drew=w15 at HO_5 BK101 HB hx105_0 hx105_1 hx106_0 hx106_1 hx107_0 hx107_1 hHeld ⊢
        refine pt_ HT_.out 0 14 (bs_ 21 1) ?_
        refine pt_ HT_.out 1 15 (bs_ 21 3) ?_
        refine pt_ HT_.out 2 16 (bs_ 21 7) ?_
        refine pt_ HT_.out 3 17 (bs_ 21 15) ?_
        refine pt_ HT_.out 6 20 (bs_ 21 79) ?_
        refine pt_ HT_.out 7 21 (bs_ 21 207) ?_
        refine pt_ HT_.out 8 22 (bs_ 21 463) ?_
        refine pt_ HT_.out 9 23 (bs_ 21 975) ?_
        refine pt_ HT_.out 11 25 (bs_ 21 3023) ?_
        refine pt_ HT_.out 12 26 (bs_ 21 7119) ?_
        refine pt_ HT_.out 13 27 (bs_ 21 15311) ?_
        refine tt_ HT_ HW_ 4 (bs_ 21 15327) hHeld ?_
        refine tt_ HT_ HW_ 5 (bs_ 21 15359) hHeld ?_
        refine tt_ HT_ HW_ 10 (bs_ 21 16383) hHeld ?_
        refine tt_ HT_ HW_ 14 (bs_ 21 32767) hHeld ?_
        refine ot_ HT_ 15 (some 29) (bs_ 21 65535) (fun K hK=>?_)
        refine goes_ Tryz.func145 (by kernel_rfl) rfl #[.agg #[.int .i64 ((zac l0 (ji8)).f0),.int .i64 ((zac l0 (ji8)).f1)],.agg #[.int .i64 ((zac l0 x6_1).f0),.int .i64 ((zac l0 x6_1).f1)]] (by rfl) rfl rfl (by(try simp only [List.map_toArray,List.map_cons,List.map_nil]);first|done|(simp only [hji8];rfl)|rfl|(simp only [List.length_drop,List.length_take];rfl)) ?_
        with_reducible refine(zci.calls ((zac l0 (ji8)).f0) ((zac l0 (ji8)).f1) ((zac l0 x6_1).f0) ((zac l0 x6_1).f1) t108 t109 _ A11.out).mono ?_
        rintro e w16 ⟨rfl,hb⟩
        refine⟨_,rfl,?_⟩
        replace HO_5:=am_ (Kd.zct qz22_ hb)
        replace BK101:=am_ (zak (g:=gb101) (o:=.cells #[.int .i64 a1_0,.int .i64 a1_1] 32 (0,0)) qz6_ hb)
        replace HB:=am_ (zab qz5_ hb)
        (try clear hb)
        (try clear hb2)
        (try clear hk)
        (try clear hi)
        refine hK.out _ _ ⟨(zaa BK101.out 0).trans rfl,(zaa BK101.out 1).trans rfl,((HB.out.cell (World.block_lt_of_cell? w _ hw105_0)).trans hw105_0),((HB.out.cell (World.block_lt_of_cell? w _ hw105_1)).trans hw105_1),((HB.out.cell (World.block_lt_of_cell? w _ hw106_0)).trans hw106_0),((HB.out.cell (World.block_lt_of_cell? w _ hw106_1)).trans hw106_1),((HB.out.cell (World.block_lt_of_cell? w _ hw107_0)).trans hw107_0),((HB.out.cell (World.block_lt_of_cell? w _ hw107_1)).trans hw107_1)⟩ (fun hHeld=>?_)
        clear hK K
        refine nm_ 29 ?_
        refine ot_ HT_ 16 (some 30) (bs_ 21 131071) (fun K hK=>?_)
        refine go_ Tryz.func108 #[.agg #[.int .i64 a1_0,.int .i64 a1_1],.agg #[.int .i64 t108,.int .i64 t109]] ?_
        with_reducible refine(zbp.calls a1_0 a1_1 t108 t109 t110 t111 _ A12.out).mono ?_
        rintro e w17 ⟨rfl,hb⟩
        refine⟨_,rfl,?_⟩
        replace HO_5:=am_ (Kd.zct qz22_ hb)
        replace BK101:=am_ (zak (g:=gb101) (o:=.cells #[.int .i64 a1_0,.int .i64 a1_1] 32 (0,0)) qz6_ hb)
        replace HB:=am_ (zab qz5_ hb)
        (try clear hb)
        (try clear hb2)
        (try clear hk)
        (try clear hi)
        refine hK.out _ _ ⟨(zaa BK101.out 0).trans rfl,(zaa BK101.out 1).trans rfl,((HB.out.cell (World.block_lt_of_cell? w _ hw105_0)).trans hw105_0),((HB.out.cell (World.block_lt_of_cell? w _ hw105_1)).trans hw105_1),((HB.out.cell (World.block_lt_of_cell? w _ hw106_0)).trans hw106_0),((HB.out.cell (World.block_lt_of_cell? w _ hw106_1)).trans hw106_1),((HB.out.cell (World.block_lt_of_cell? w _ hw107_0)).trans hw107_0),((HB.out.cell (World.block_lt_of_cell? w _ hw107_1)).trans hw107_1)⟩ (fun hHeld=>?_)
        clear hK K
        refine nm_ 30 ?_
        refine ot_ HT_ 17 (some 31) (bs_ 21 262143) (fun K hK=>?_)
        refine go_ Tryz.func149 #[.agg #[.int .i64 ((zac l0 x6_1).f0),.int .i64 ((zac l0 x6_1).f1)],.agg #[.int .i64 t110,.int .i64 t111]] ?_
        with_reducible refine(zcc.calls ((zac l0 x6_1).f0) ((zac l0 x6_1).f1) t110 t111 t112 t113 _ A13.out).mono ?_
        rintro e w18 ⟨rfl,hb⟩
        refine⟨_,rfl,?_⟩
        replace HO_5:=am_ (Kd.zct qz22_ hb)
        replace BK101:=am_ (zak (g:=gb101) (o:=.cells #[.int .i64 a1_0,.int .i64 a1_1] 32 (0,0)) qz6_ hb)
        replace HB:=am_ (zab qz5_ hb)
        (try clear hb)
        (try clear hb2)
        (try clear hk)
        (try clear hi)
        refine hK.out _ _ ⟨(zaa BK101.out 0).trans rfl,(zaa BK101.out 1).trans rfl,((HB.out.cell (World.block_lt_of_cell? w _ hw105_0)).trans hw105_0),((HB.out.cell (World.block_lt_of_cell? w _ hw105_1)).trans hw105_1),((HB.out.cell (World.block_lt_of_cell? w _ hw106_0)).trans hw106_0),((HB.out.cell (World.block_lt_of_cell? w _ hw106_1)).trans hw106_1),((HB.out.cell (World.block_lt_of_cell? w _ hw107_0)).trans hw107_0),((HB.out.cell (World.block_lt_of_cell? w _ hw107_1)).trans hw107_1)⟩ (fun hHeld=>?_)
        clear hK K
        refine nm_ 31 ?_
        refine ot_ HT_ 18 (some 32) (bs_ 21 524287) (fun K hK=>?_)
        refine zbg (w1:=?_) (v:=?_) (by rfl) rfl ?_ ?_
        rotate_left 2
        ·
         go_simp
         constructor
         ·
          rfl
         ·
          rfl
        refine hK.out _ _ ⟨(zaa (zai BK101.out _) 0).trans rfl,(zaa (zai BK101.out _) 1).trans rfl,(World.cell?_alloc_lt _ _ _ (World.block_lt_of_cell? _ _ (((HB.out.cell (World.block_lt_of_cell? w _ hw105_0)).trans hw105_0)))).trans (((HB.out.cell (World.block_lt_of_cell? w _ hw105_0)).trans hw105_0)),(World.cell?_alloc_lt _ _ _ (World.block_lt_of_cell? _ _ (((HB.out.cell (World.block_lt_of_cell? w _ hw105_1)).trans hw105_1)))).trans (((HB.out.cell (World.block_lt_of_cell? w _ hw105_1)).trans hw105_1)),(World.cell?_alloc_lt _ _ _ (World.block_lt_of_cell? _ _ (((HB.out.cell (World.block_lt_of_cell? w _ hw106_0)).trans hw106_0)))).trans (((HB.out.cell (World.block_lt_of_cell? w _ hw106_0)).trans hw106_0)),(World.cell?_alloc_lt _ _ _ (World.block_lt_of_cell? _ _ (((HB.out.cell (World.block_lt_of_cell? w _ hw106_1)).trans hw106_1)))).trans (((HB.out.cell (World.block_lt_of_cell? w _ hw106_1)).trans hw106_1)),(World.cell?_alloc_lt _ _ _ (World.block_lt_of_cell? _ _ (((HB.out.cell (World.block_lt_of_cell? w _ hw107_0)).trans hw107_0)))).trans (((HB.out.cell (World.block_lt_of_cell? w _ hw107_0)).trans hw107_0)),(World.cell?_alloc_lt _ _ _ (World.block_lt_of_cell? _ _ (((HB.out.cell (World.block_lt_of_cell? w _ hw107_1)).trans hw107_1)))).trans (((HB.out.cell (World.block_lt_of_cell? w _ hw107_1)).trans hw107_1))⟩ (fun hHeld=>?_)
        clear hK K
        refine nm_ 32 ?_
        refine ot_ HT_ 19 (some 33) (bs_ 21 1048575) (fun K hK=>?_)
        refine Kd.zgf k32 (w0:=w) w.heap.size (by rfl) (.tmp 14) (.tmp 32) 36 32 (.agg #[(.int .i64 0),(.int .i64 0)]) 16 rfl Tryz.underlying36 zgb rfl (by decide) (by omega) u5 x5_1 (⟨t112,t113⟩:S32) [.int .i64 t112,.int .i64 t113] (fun k_=>k_≠gb101) (fun _=>False) rfl rfl ?aP (fun _ hk=>hk.elim) ?aF ?aO ?aB ?aS ?aL ?_
        (case aP=>exact ze8 _ _ _ (⟨t112,t113⟩:S32))
        (case aB=>exact qz5_)
        (case aF=>exact(fun k_ hk=>Kd.zj0 (g:=gb101) (o:=.cells #[.int .i64 a1_0,.int .i64 a1_1] 32 (0,0)) qz6_ k_ hk))
        (case aO=>exact qz22_)
        (case aS=>exact(zaf qz5_))
        (case aL=>have:=LMc14.out;omega)
        intro v115 w19 ho hb hg hat
        rw [←Ny114.out] at ho
        replace BK101:=am_ (ze2 (g:=gb101) (o:=.cells #[.int .i64 a1_0,.int .i64 a1_1] 32 (0,0)) qz6_ hg (Kd.zh5 HO_5.out (fun _ hk=>hk)))
        replace HB:=am_ (hb)
        replace HO116:=am_ (ho)
        clear HO_5
        clear ho hb hg hat
        refine hK.out _ _ ⟨(zaa BK101.out 0).trans rfl,(zaa BK101.out 1).trans rfl,((HB.out.cell (World.block_lt_of_cell? w _ hw105_0)).trans hw105_0),((HB.out.cell (World.block_lt_of_cell? w _ hw105_1)).trans hw105_1),((HB.out.cell (World.block_lt_of_cell? w _ hw106_0)).trans hw106_0),((HB.out.cell (World.block_lt_of_cell? w _ hw106_1)).trans hw106_1),((HB.out.cell (World.block_lt_of_cell? w _ hw107_0)).trans hw107_0),((HB.out.cell (World.block_lt_of_cell? w _ hw107_1)).trans hw107_1)⟩ (fun hHeld=>?_)
        clear hK K
        refine nm_ 33 ?_
        refine pt_ HT_.out 20 5 (bs_ 21 2097151) ?_
        refine done_ (zdr HT_.out (by kernel_rfl)) ?_
        try go_wp2
        go_roundg k1
        case measure=>have:=HK1.out;omega
        case rel=>exact⟨(y114),(wrap64 (x6_1 + 2)),qz0_,H',⟨qz13_⟩,⟨(by(with_reducible repeat(first|apply Kd.zbm|apply Kd.zbl|apply Kd.zbt));exact HO116.out)⟩,⟨qz6_⟩,⟨qz5_⟩⟩
       ·
        rw [if_neg c14] at H
        exact absurd H (by simp)
      ·
       rw [if_neg c10] at H
       exact absurd H (by simp)
     ·
      rw [if_neg c9] at H
      exact absurd H (by simp)
    ·
     rw [if_neg c7] at H
     exact absurd H (by simp)
   ·
    rw [if_neg c6] at H
    have c6b0:decide (x6_1<(l0.length:Int))=false:=decide_eq_false c6
    clear c6
    obtain rfl:=Option.some.inj H
    go_wp2
    go_ret
    exact⟨_,qz4_,(by(with_reducible repeat(first|apply Kd.zbm|apply Kd.zbl|apply Kd.zbt));exact Kd.zba HO_5.out (fun _ hk=>trivial)),qz5_⟩
def za3.l0:Nat→List (List (S32))→List (List (S32))→Int→Int→Int→Option ((List (List (S32))))
 | 0,_,_,_,_,_=>none
 | k + 1,x0,x5,x6,x102000,x102001=>if x6<(x0.length:Int) then(if 0≤x6 then((zbc.f k (rd_L3 x0 x6) x102000 x102001).bind fun t106=>(if x5.length<5864062014805 then(za3.l0 k x0 (x5++[t106]) (wrap64 (x6 + 1)) x102000 x102001) else(none))) else(none)) else(some x5)
def za3.f (k:Nat) (l0:List (List (S32))) (a1_0:Int) (a1_1:Int):Option ((List (List (S32)))):=za3.l0 k l0 (([]:List (List (S32)))) 0 a1_0 a1_1
def za3.T5:Bool × List (List Nat × List Nat):=(true,[([],[]),([],[]),([],[]),([1,2],[1,2]),([3],[3]),([],[]),([4,5],[4,5]),([6],[6]),([0,7,6],[0,7]),([8,8,0,1,2,3,4,5,6,7,8],[0,8])])
def za3.B5:List Nat:=[0,0,0,6,14,0,62,126,255,511]
theorem za3.tab5:rtab .any (opsOf Tryz.f65 5)=za3.T5:=by kernel_rfl
theorem za3.bits5:zcu za3.T5.2 za3.B5=true:=by kernel_rfl
theorem za3.calls (k:Nat) (A0:Option Addr) (c0:Nat) (l0:List (List (S32))) (a1_0:Int) (a1_1:Int) (r:List (List (S32))) (w:World) (hr0:Kd.C (Kd.slice 32 k32) w A0 l0.length l0) (hc0:l0.length≤c0) (h:za3.f k l0 a1_0 a1_1=some r) :
  Calls Tryz.prog 65 #[.slice A0 l0.length c0,.agg #[.int .i64 a1_0,.int .i64 a1_1]] w fun e w'=>∃ v0_:Value,e=.returned (v0_)∧Kd.S (Kd.slice 32 k32) 36 w' w.heap.size (fun _=>True) v0_ r∧Below w.heap.size w w':=by
 have hu32:=Tryz.underlying32
 have HR0:=am_ hr0
 have HC0:=am_ hc0
 clear hr0 hc0
 have HB:=am_ (Below.refl w.heap.size w)
 have H:(za3.l0 k l0 (([]:List (List (S32)))) 0 a1_0 a1_1)=some r:=h
 clear h
 obtain⟨y102,hy102⟩:∃ y_:List (List (S32)),y_=(([]:List (List (S32)))):=⟨_,rfl⟩
 replace H:(za3.l0 k l0 y102 0 a1_0 a1_1)=some r:=by first|(rw [hy102];with_reducible exact H)|(have H2_:=(Option.bind_some _ _).symm.trans H;rw [hy102];with_reducible exact H2_)|(have H2_:=(Option.bind_some _ _).symm.trans H;with_reducible exact H2_)|with_reducible exact H|(rw [hy102];exact H)|exact H
 have Ny102:=am_ hy102
 clear hy102
 have H':=am_ H
 clear H
 go_enter Tryz.func65,Tryz.ntmps65
 go_wp2_with (first|((with_reducible refine zad (N:=3) rfl ?_);refine zaj rfl (N:=3) rfl (cs:=#[.int .i64 a1_0,.int .i64 a1_1]) (t:=32) bx_ ?_;intro gb101 hg w3 hbox hb;replace BK101:=am_ (hbox);replace GW101:=am_ ((by rw [hg];exact(zaf qz2_):w.heap.size≤gb101));replace GE101:=GW101;replace HB:=am_ (zab qz2_ hb);clear hb hbox hg)|((with_reducible refine zad (N:=7) rfl ?_);refine Kd.S_lit (Kd.slice 32 k32) _ 36 ?hg (N:=7) ?hd (xs:=([]:List (List (S32)))) (inner:=[]) (ok:=fun _=>True) (okp:=fun _=>True) ?hr ?hp (fun _ hk=>hk) trivial (Below.refl _ _) (Nat.le_refl _) (by simp) ?_;(case hd=>rfl);(case hg=>rfl);(case hr=>first|(go_simp;done)|(go_simp;rfl));(case hp=>exact(Reps.none _ _));intro v103 w4 ho5 hb hg_ hnew_;clear hg_ hnew_;(first|rw [←Ny102.out] at ho5|(simp only [Int.reduceToNat] at ho5;rw [←Ny102.out] at ho5));replace HO104:=am_ (Kd.zhl (Kd.S_newB ho5 (g:=gb101) (o:=.cells #[.int .i64 a1_0,.int .i64 a1_1] 32 (0,0)) qz6_) (zaf qz5_));replace BK101:=am_ (zak (g:=gb101) (o:=.cells #[.int .i64 a1_0,.int .i64 a1_1] 32 (0,0)) qz6_ hb);replace HB:=am_ (zab qz5_ hb);clear hb ho5))
 go_loopg [5,6] k (fun kq v5 v6 w'=>∃ (x5_1:List (List (S32))) (x6_1:Int),v6=.int .i64 x6_1∧zal (za3.l0 kq l0 x5_1 x6_1 a1_0 a1_1=some r)∧zal (kq≤k)∧zal (Kd.S (Kd.slice 32 k32) 36 w' w.heap.size (fun k_=>k_≠gb101) v5 x5_1)∧zal (w'.heap[gb101]?=some (.cells #[.int .i64 a1_0,.int .i64 a1_1] 32 (0,0)))∧zal (Below w.heap.size w w'))
 case atStart=>exact⟨(y102),(0),qz0_,H',⟨Nat.le_refl _⟩,⟨(by(with_reducible repeat(first|apply Kd.zea|apply Kd.zec|apply Kd.ze4));exact Kd.ze3 HO104.out (fun _ hk=>hk.2))⟩,⟨qz6_⟩,⟨qz5_⟩⟩
 case round=>
  clear H'
  try clear p2
  obtain⟨x5_1,x6_1,rfl,HA,HK1,HO_5,BK101,HB⟩:=hrel
  cases gk with
  | zero=>exact absurd HA.out (by simp [za3.l0])
  | succ k1=>
   have H:=HA.out
   clear HA
   simp only [za3.l0] at H
   by_cases c6:x6_1<(l0.length:Int)
   ·
    rw [if_pos c6] at H
    have c6b0:decide (x6_1<(l0.length:Int))=true:=decide_eq_true c6
    clear c6
    by_cases c7:0≤x6_1
    ·
     rw [if_pos c7] at H
     have c7b0:decide (0≤x6_1)=true:=decide_eq_true c7
     clear c7
     replace H:=Option.bind_eq_some_iff.mp H
     obtain⟨t106,A80,H⟩:=H
     replace H:(if x5_1.length<5864062014805 then(za3.l0 k1 l0 (x5_1++[t106]) (wrap64 (x6_1 + 1)) a1_0 a1_1) else(none))=some r:=H
     have A8:=am_ A80
     clear A80
     by_cases c9:x5_1.length<5864062014805
     ·
      rw [if_pos c9] at H
      have LMc9:=am_ c9
      clear c9
      obtain⟨y109,hy109⟩:∃ y_:List (List (S32)),y_=(x5_1++[t106]):=⟨_,rfl⟩
      replace H:(za3.l0 k1 l0 y109 (wrap64 (x6_1 + 1)) a1_0 a1_1)=some r:=by first|(rw [hy109];with_reducible exact H)|(have H2_:=(Option.bind_some _ _).symm.trans H;rw [hy109];with_reducible exact H2_)|(have H2_:=(Option.bind_some _ _).symm.trans H;with_reducible exact H2_)|with_reducible exact H|(rw [hy109];exact H)|exact H
      have Ny109:=am_ hy109
      clear hy109
      have H':=am_ H
      clear H
      try go_wp2
      replace HO_5:=am_ (Kd.ze4 HO_5.out)
      replace BK101:=am_ (zae BK101.out)
      replace HB:=am_ (zao HB.out)
      have p105:0≤(x6_1:Int):=of_decide_eq_true qz10_
      have q105:x6_1<(l0.length:Int):=of_decide_eq_true qz10_
      obtain⟨ad105,A105_0,c105_0,e105,hx105_0,hl105_0,hi105_0⟩:=at_L3 HR0.out x6_1 p105 q105
      have hw105_0:=hx105_0
      cases e105
      replace hx105_0:=(HB.out.cell (World.block_lt_of_cell? w _ hx105_0)).trans hx105_0
      have HR105_0:=am_ hi105_0
      have HC105_0:=am_ hl105_0
      clear hi105_0 hl105_0
      replace p105:=eq_true p105
      replace q105:=eq_true q105
      refine zcn (n:=10) (S:=fun w'=>w'.cell? ⟨gb101,0,none⟩=some (.int .i64 a1_0)∧w'.cell? ⟨gb101,1,none⟩=some (.int .i64 a1_1)∧w'.cell? (ad105.add (x6_1).toNat)=some (.slice A105_0 (rd_L3 l0 x6_1).length c105_0)) (ds:=[]) (bs_ 10 0) (by kernel_rfl) rfl rfl ⟨(zaa BK101.out 0).trans rfl,(zaa BK101.out 1).trans rfl,((HB.out.cell (World.block_lt_of_cell? w _ hw105_0)).trans hw105_0)⟩ (fun hHeld=>?_);refine zcj za3.tab5 za3.bits5 (fun HT_ HW_=>?_)
      generalize wr.drew=w10 at HO_5 BK101 HB HR105_0 hx105_0 hHeld ⊢
      refine pt_ HT_.out 0 14 (bs_ 10 1) ?_
      refine pt_ HT_.out 1 15 (bs_ 10 3) ?_
      refine pt_ HT_.out 2 16 (bs_ 10 7) ?_
      refine pt_ HT_.out 3 17 (bs_ 10 15) ?_
      refine tt_ HT_ HW_ 4 (bs_ 10 31) hHeld ?_
      refine tt_ HT_ HW_ 5 (bs_ 10 63) hHeld ?_
      refine ot_ HT_ 6 (some 20) (bs_ 10 127) (fun K hK=>?_)
      refine go_ Tryz.func118 #[.slice A105_0 (rd_L3 l0 x6_1).length c105_0,.agg #[.int .i64 a1_0,.int .i64 a1_1]] ?_
      with_reducible refine(zbc.calls k1 _ _ (rd_L3 l0 x6_1) a1_0 a1_1 t106 _ ?side1 ?side2 A8.out).mono ?_
      (case side1=>exact qc_ (Kd.zbi HR105_0.out HB.out))
      (case side2=>exact HC105_0.out)
      rintro e w11 ⟨v107,rfl,ho0,hb⟩
      refine⟨_,rfl,?_⟩
      replace HO_5:=am_ (Kd.S_elder' (by(with_reducible repeat(first|apply Kd.zea|apply Kd.zec|apply Kd.ze4));exact HO_5.out) (Kd.zf8 ho0) hb)
      replace HO108:=am_ (Kd.zcw (Kd.zjf ho0 (g:=gb101) (o:=.cells #[.int .i64 a1_0,.int .i64 a1_1] 32 (0,0)) qz6_) (zaf qz5_))
      replace BK101:=am_ (zak (g:=gb101) (o:=.cells #[.int .i64 a1_0,.int .i64 a1_1] 32 (0,0)) qz6_ hb)
      replace HB:=am_ (zab qz5_ hb)
      (try clear hb)
      (try clear hb2)
      (try clear hk)
      (try clear hi)
      (try clear ho0)
      obtain⟨Ao13,co13,eo13⟩:=Kd.zcb HO108.out
      (first|subst eo13|(injection eo13 with f1_ f2_ f3_;have f4_:=f1_.symm;have f5_:=f3_.symm;clear f1_ f2_ f3_;subst f4_;subst f5_))
      refine hK.out _ _ ⟨(zaa BK101.out 0).trans rfl,(zaa BK101.out 1).trans rfl,((HB.out.cell (World.block_lt_of_cell? w _ hw105_0)).trans hw105_0)⟩ (fun hHeld=>?_)
      clear hK K
      refine nm_ 20 ?_
      refine ot_ HT_ 7 (some 21) (bs_ 10 255) (fun K hK=>?_)
      refine zbg (w1:=?_) (v:=?_) (by rfl) rfl ?_ ?_
      rotate_left 2
      ·
       go_simp
       constructor
       ·
        rfl
       ·
        rfl
      refine hK.out _ _ ⟨(zaa (zai BK101.out _) 0).trans rfl,(zaa (zai BK101.out _) 1).trans rfl,(World.cell?_alloc_lt _ _ _ (World.block_lt_of_cell? _ _ (((HB.out.cell (World.block_lt_of_cell? w _ hw105_0)).trans hw105_0)))).trans (((HB.out.cell (World.block_lt_of_cell? w _ hw105_0)).trans hw105_0))⟩ (fun hHeld=>?_)
      clear hK K
      refine nm_ 21 ?_
      refine ot_ HT_ 8 (some 22) (bs_ 10 511) (fun K hK=>?_)
      refine Kd.zkx (Kd.slice 32 k32) (w0:=w) w.heap.size (by rfl) (.tmp 14) (.tmp 21) 29 36 (.slice none 0 0) 24 rfl Tryz.underlying29 zmf rfl (by decide) (by omega) u5 x5_1 t106 [.slice Ao13 t106.length co13] (fun k_=>k_≠gb101) (fun k_=>some k_=(.slice Ao13 t106.length co13:Value).ownBlock) rfl rfl ?aP (fun k_ hk_=>((Kd.zba (ok':=fun k_=>((fun k_=>k_≠gb101)) k_∧some k_≠(u5:Value).ownBlock) (Kd.R_apart' (HO108.out) (Kd.zia HO_5.out) (by decide)) (fun k_ hk=>⟨hk.1.2,hk.2⟩))).1 k_ hk_.symm) ?aF ?aO ?aB ?aS ?aL ?_
      (case aP=>exact Kd.M_row (Kd.zba (Kd.zem rfl (Kd.zba (ok':=fun k_=>((fun k_=>k_≠gb101)) k_∧some k_≠(u5:Value).ownBlock) (Kd.R_apart' (HO108.out) (Kd.zia HO_5.out) (by decide)) (fun k_ hk=>⟨hk.1.2,hk.2⟩))) (fun _ h_=>h_)))
      (case aB=>exact qz5_)
      (case aF=>exact(fun k_ hk=>Kd.zj0 (g:=gb101) (o:=.cells #[.int .i64 a1_0,.int .i64 a1_1] 32 (0,0)) qz6_ k_ hk))
      (case aO=>exact(by(with_reducible repeat(first|apply Kd.zea|apply Kd.zec|apply Kd.ze4));exact Kd.ze3 HO_5.out (fun k_ hk=>⟨hk.1,fun e_=>hk.2 e_⟩)))
      (case aS=>exact(zaf qz5_))
      (case aL=>have:=LMc9.out;omega)
      intro v110 w12 ho hb hg hat
      rw [←Ny109.out] at ho
      replace BK101:=am_ (ze2 (g:=gb101) (o:=.cells #[.int .i64 a1_0,.int .i64 a1_1] 32 (0,0)) qz6_ hg (Kd.S_ne HO_5.out BK101.out (by decide)))
      replace HB:=am_ (hb)
      replace HO111:=am_ (ho)
      clear HO_5 HO108
      clear ho hb hg hat
      refine hK.out _ _ ⟨(zaa BK101.out 0).trans rfl,(zaa BK101.out 1).trans rfl,((HB.out.cell (World.block_lt_of_cell? w _ hw105_0)).trans hw105_0)⟩ (fun hHeld=>?_)
      clear hK K
      refine nm_ 22 ?_
      refine pt_ HT_.out 9 5 (bs_ 10 1023) ?_
      refine done_ (zdr HT_.out (by kernel_rfl)) ?_
      try go_wp2
      go_roundg k1
      case measure=>have:=HK1.out;omega
      case rel=>exact⟨(y109),(wrap64 (x6_1 + 1)),qz0_,H',⟨qz13_⟩,⟨(by(with_reducible repeat(first|apply Kd.zea|apply Kd.zec|apply Kd.ze4));exact HO111.out)⟩,⟨qz6_⟩,⟨qz5_⟩⟩
     ·
      rw [if_neg c9] at H
      exact absurd H (by simp)
    ·
     rw [if_neg c7] at H
     exact absurd H (by simp)
   ·
    rw [if_neg c6] at H
    have c6b0:decide (x6_1<(l0.length:Int))=false:=decide_eq_false c6
    clear c6
    obtain rfl:=Option.some.inj H
    go_wp2
    go_ret
    exact⟨_,qz4_,(by(with_reducible repeat(first|apply Kd.zea|apply Kd.zec|apply Kd.ze4));exact Kd.ze3 HO_5.out (fun _ hk=>trivial)),qz5_⟩
def zd8.f (a0:Int):Option (Int):=some (wrap64 (a0 + 1))
theorem zd8.calls (a0:Int) (r:Int) (w:World) (h:zd8.f a0=some r) :
  Calls Tryz.prog 112 #[.int .i64 a0] w fun e w'=>e=.returned (.int .i64 r)∧zbx w w':=by
 have H:(some (wrap64 (a0 + 1)))=some r:=h
 clear h
 obtain rfl:=Option.some.inj H
 go_enter Tryz.func112,Tryz.ntmps112
 go_wp2
 go_ret
 exact⟨qz0_,qz1_⟩
end Go.Proofs.YtgookagndlfehaaGreat.PT
end
section
namespace Go.Proofs.YtgookagndlfehaaGreat.PT
open Go.RowKit Go.Proofs.YtgookagndlfehaaGreatW.PrintWords Go.Proofs.YtgookagndlfehaaGreatW.PrintLast Go.Proofs.YtgookagndlfehaaGreatW.PrintMore
attribute [local go_sem] zez zey zfh zff zed zd9 zex zew   -- for this text's walks alone
set_option linter.unusedVariables false
set_option linter.unusedSimpArgs false
def za4.f (a0:Int) (l1:List (S32)):Option (Int × Int):=if a0=1 then(if 0<(l1.length:Int) then(if 1<(l1.length:Int) then((zbp.f ((zac l1 0).f0) ((zac l1 0).f1) ((zac l1 1).f0) ((zac l1 1).f1)).bind fun bt104=>(some (bt104.1,bt104.2))) else(none)) else(none)) else(if 0<(l1.length:Int) then(if 1<(l1.length:Int) then(if 2<(l1.length:Int) then((zbp.f ((zac l1 1).f0) ((zac l1 1).f1) ((zac l1 2).f0) ((zac l1 2).f1)).bind fun bt109=>(if 3<(l1.length:Int) then((zci.f bt109.1 bt109.2 ((zac l1 3).f0) ((zac l1 3).f1)).bind fun bt112=>((zbp.f ((zac l1 0).f0) ((zac l1 0).f1) bt112.1 bt112.2).bind fun bt114=>(some (bt114.1,bt114.2)))) else(none))) else(none)) else(none)) else(none))
def za4.T2:Bool × List (List Nat × List Nat):=(true,[([],[]),([0],[0]),([1],[1]),([],[]),([3],[3]),([4],[4]),([2,5],[2,5]),([6,6,0,1,2,3,4,5,6],[6])])
def za4.B2:List Nat:=[0,1,3,0,8,24,63,127]
theorem za4.tab2:rtab .any (opsOf Tryz.f177 2)=za4.T2:=by kernel_rfl
theorem za4.bits2:zcu za4.T2.2 za4.B2=true:=by kernel_rfl
def za4.T3:Bool × List (List Nat × List Nat):=(true,[([],[]),([0],[0]),([1],[1]),([],[]),([3],[3]),([4],[4]),([],[]),([6],[6]),([7],[7]),([5,8],[5,8]),([],[]),([10],[10]),([11],[11]),([9,12,9],[9,12]),([2,13,13],[2,13]),([14,14,0,1,2,3,4,5,6,7,8,9,10,11,12,13,14],[14])])
def za4.B3:List Nat:=[0,1,3,0,8,24,0,64,192,504,0,1024,3072,8184,16383,32767]
theorem za4.tab3:rtab .any (opsOf Tryz.f177 3)=za4.T3:=by kernel_rfl
theorem za4.bits3:zcu za4.T3.2 za4.B3=true:=by kernel_rfl
theorem za4.calls (a0:Int) (A1:Option Addr) (c1:Nat) (l1:List (S32)) (r1:Int) (r2:Int) (w:World) (hr1:Kd.C k32 w A1 l1.length l1) (hc1:l1.length≤c1) (h:za4.f a0 l1=some (r1,r2)) :
  Calls Tryz.prog 177 #[.int .i64 a0,.slice A1 l1.length c1] w fun e w'=>e=.returned (.agg #[.int .i64 r1,.int .i64 r2])∧Below w.heap.size w w':=by
 have hu32:=Tryz.underlying32
 have HR1:=am_ hr1
 have HC1:=am_ hc1
 clear hr1 hc1
 have HB:=am_ (Below.refl w.heap.size w)
 have H:(if a0=1 then(if 0<(l1.length:Int) then(if 1<(l1.length:Int) then((zbp.f ((zac l1 0).f0) ((zac l1 0).f1) ((zac l1 1).f0) ((zac l1 1).f1)).bind fun bt104=>(some (bt104.1,bt104.2))) else(none)) else(none)) else(if 0<(l1.length:Int) then(if 1<(l1.length:Int) then(if 2<(l1.length:Int) then((zbp.f ((zac l1 1).f0) ((zac l1 1).f1) ((zac l1 2).f0) ((zac l1 2).f1)).bind fun bt109=>(if 3<(l1.length:Int) then((zci.f bt109.1 bt109.2 ((zac l1 3).f0) ((zac l1 3).f1)).bind fun bt112=>((zbp.f ((zac l1 0).f0) ((zac l1 0).f1) bt112.1 bt112.2).bind fun bt114=>(some (bt114.1,bt114.2)))) else(none))) else(none)) else(none)) else(none)))=some (r1,r2):=h
 clear h
 by_cases c3:a0=1
 ·
  rw [if_pos c3] at H
  have c3b0:(a0 == 1)=true:=beq_iff_eq.mpr c3
  have c3b1:(a0 != 1)=false:=bne_eq_false_iff_eq.mpr c3
  clear c3
  by_cases c4:0<(l1.length:Int)
  ·
   rw [if_pos c4] at H
   have c4b0:decide (0<(l1.length:Int))=true:=decide_eq_true c4
   have c4b1:decide (0<l1.length)=true:=decide_eq_true (by omega)
   clear c4
   by_cases c5:1<(l1.length:Int)
   ·
    rw [if_pos c5] at H
    have c5b0:decide (1<(l1.length:Int))=true:=decide_eq_true c5
    have c5b1:decide (1<l1.length)=true:=decide_eq_true (by omega)
    clear c5
    replace H:=Option.bind_eq_some_iff.mp H
    obtain⟨⟨t104,t105⟩,A60,H⟩:=H
    replace H:(some (t104,t105))=some (r1,r2):=H
    have A6:=am_ A60
    clear A60
    simp only [Option.some.injEq,Prod.mk.injEq] at H
    obtain⟨rfl,rfl⟩:=H
    go_enter Tryz.func177,Tryz.ntmps177
    try go_wp2_with (first|((with_reducible refine zad (N:=4) rfl ?_);refine zaj rfl (N:=4) rfl (cs:=#[.int .i64 0,.int .i64 0]) (t:=32) bx_ ?_;intro gb101 hg w7 hbox hb;replace BK101:=am_ (hbox);replace GW101:=am_ ((by rw [hg];exact(zaf qz2_):w.heap.size≤gb101));replace GE101:=GW101;replace HB:=am_ (zab qz2_ hb);clear hb hbox hg))
    replace BK101:=am_ (zae BK101.out)
    replace HB:=am_ (zao HB.out)
    have p102:0≤(0:Int):=(by omega)
    have q102:0<(l1.length:Int):=of_decide_eq_true qz10_
    obtain⟨ad102,e102,hx102_0,hx102_1⟩:=zdf HR1.out 0 p102 q102
    have hw102_1:=hx102_1
    (try rw [show ((0:Int)).toNat=0 from rfl] at hw102_1)
    (try rw [show 0 * 2=0 from rfl] at hw102_1)
    (try rw [Addr.add_zero'] at hw102_1)
    have hw102_0:=hx102_0
    (try rw [show ((0:Int)).toNat=0 from rfl] at hw102_0)
    (try rw [show 0 * 2=0 from rfl] at hw102_0)
    (try rw [Addr.add_zero'] at hw102_0)
    cases e102
    have qi102:(0<l1.length)=True:=eq_true (by omega)
    (try rw [show ((0:Int)).toNat=0 from rfl] at hx102_0)
    (try rw [show 0 * 2=0 from rfl] at hx102_0)
    (try rw [Addr.add_zero'] at hx102_0)
    (try rw [show ((0:Int)).toNat=0 from rfl] at hx102_1)
    (try rw [show 0 * 2=0 from rfl] at hx102_1)
    (try rw [Addr.add_zero'] at hx102_1)
    replace hx102_0:=(HB.out.cell (World.block_lt_of_cell? w _ hx102_0)).trans hx102_0
    replace hx102_1:=(HB.out.cell (World.block_lt_of_cell? w _ hx102_1)).trans hx102_1
    replace p102:=eq_true p102
    replace q102:=eq_true q102
    have p103:0≤(1:Int):=(by omega)
    have q103:1<(l1.length:Int):=of_decide_eq_true qz10_
    obtain⟨ad103,e103,hx103_0,hx103_1⟩:=zdf HR1.out 1 p103 q103
    have hw103_1:=hx103_1
    (try rw [show ((1:Int)).toNat=1 from rfl] at hw103_1)
    (try rw [show 1 * 2=2 from rfl] at hw103_1)
    (try simp only [Nat.reduceMul,Nat.reduceEqDiff,Go.Addr.add,↓reduceIte] at hw103_1)
    have hw103_0:=hx103_0
    (try rw [show ((1:Int)).toNat=1 from rfl] at hw103_0)
    (try rw [show 1 * 2=2 from rfl] at hw103_0)
    (try simp only [Nat.reduceMul,Nat.reduceEqDiff,Go.Addr.add,↓reduceIte] at hw103_0)
    obtain rfl:ad102=ad103:=(by injection e103)
    (try simp only [show (1:Int).toNat=1 from rfl,Nat.reduceMul,Nat.reduceEqDiff,Go.Addr.add,↓reduceIte] at hx103_0)
    (try simp only [show (1:Int).toNat=1 from rfl,Nat.reduceMul,Nat.reduceEqDiff,Go.Addr.add,↓reduceIte] at hx103_1)
    have qi103:(1<l1.length)=True:=eq_true (by omega)
    (try rw [show ((1:Int)).toNat=1 from rfl] at hx103_0)
    (try rw [show 1 * 2=2 from rfl] at hx103_0)
    (try rw [show ((1:Int)).toNat=1 from rfl] at hx103_1)
    (try rw [show 1 * 2=2 from rfl] at hx103_1)
    replace hx103_0:=(HB.out.cell (World.block_lt_of_cell? w _ hx103_0)).trans hx103_0
    replace hx103_1:=(HB.out.cell (World.block_lt_of_cell? w _ hx103_1)).trans hx103_1
    replace p103:=eq_true p103
    replace q103:=eq_true q103
    refine zcn (n:=8) (S:=fun w'=>w'.cell? ad102=some (.int .i64 ((zac l1 0).f0))∧w'.cell? ⟨ad102.block,ad102.off + 1,none⟩=some (.int .i64 ((zac l1 0).f1))∧w'.cell? ⟨ad102.block,ad102.off + 2,none⟩=some (.int .i64 ((zac l1 1).f0))∧w'.cell? ⟨ad102.block,ad102.off + 2 + 1,none⟩=some (.int .i64 ((zac l1 1).f1))) (ds:=[]) (bs_ 8 0) (by kernel_rfl) rfl rfl ⟨((HB.out.cell (World.block_lt_of_cell? w _ hw102_0)).trans hw102_0),((HB.out.cell (World.block_lt_of_cell? w _ hw102_1)).trans hw102_1),((HB.out.cell (World.block_lt_of_cell? w _ hw103_0)).trans hw103_0),((HB.out.cell (World.block_lt_of_cell? w _ hw103_1)).trans hw103_1)⟩ (fun hHeld=>?_);refine zcj za4.tab2 za4.bits2 (fun HT_ HW_=>?_)
    generalize w7.drew=w8 at BK101 HB hx102_0 hx102_1 hx103_0 hx103_1 hHeld ⊢
    refine pt_ HT_.out 0 7 (bs_ 8 1) ?_
    refine pt_ HT_.out 1 8 (bs_ 8 3) ?_
    refine pt_ HT_.out 3 10 (bs_ 8 11) ?_
    refine pt_ HT_.out 4 11 (bs_ 8 27) ?_
    refine tt_ HT_ HW_ 2 (bs_ 8 31) hHeld ?_
    refine tt_ HT_ HW_ 5 (bs_ 8 63) hHeld ?_
    refine ot_ HT_ 6 (some 13) (bs_ 8 127) (fun K hK=>?_)
    refine go_ Tryz.func108 #[.agg #[.int .i64 ((zac l1 0).f0),.int .i64 ((zac l1 0).f1)],.agg #[.int .i64 ((zac l1 1).f0),.int .i64 ((zac l1 1).f1)]] ?_
    with_reducible refine(zbp.calls ((zac l1 0).f0) ((zac l1 0).f1) ((zac l1 1).f0) ((zac l1 1).f1) t104 t105 _ A6.out).mono ?_
    rintro e w9 ⟨rfl,hb⟩
    refine⟨_,rfl,?_⟩
    replace BK101:=am_ (zak (g:=gb101) (o:=.cells #[.int .i64 0,.int .i64 0] 32 (0,0)) qz6_ hb)
    replace HB:=am_ (zab qz5_ hb)
    (try clear hb)
    (try clear hb2)
    (try clear hk)
    (try clear hi)
    refine hK.out _ _ ⟨((HB.out.cell (World.block_lt_of_cell? w _ hw102_0)).trans hw102_0),((HB.out.cell (World.block_lt_of_cell? w _ hw102_1)).trans hw102_1),((HB.out.cell (World.block_lt_of_cell? w _ hw103_0)).trans hw103_0),((HB.out.cell (World.block_lt_of_cell? w _ hw103_1)).trans hw103_1)⟩ (fun hHeld=>?_)
    clear hK K
    refine nm_ 13 ?_
    refine ot_ HT_ 7 none (bs_ 8 255) (fun K hK=>?_)
    obtain⟨hs10,hfs10⟩:=bi_ BK101.out 0
    obtain⟨hs11,hfs11⟩:=bi_ BK101.out 1
    refine skip_ (w1:=?_) (by rfl) rfl ?_ ?_
    rotate_left
    ·
     go_simp
     rfl
    refine hK.out _ _ ⟨((cell_far (p:=⟨gb101,_,none⟩) qz48_ _).trans (((cell_far (p:=⟨gb101,_,none⟩) qz48_ _).trans (hHeld.1)))),((cell_far (p:=⟨gb101,_,none⟩) qz49_ _).trans (((cell_far (p:=⟨gb101,_,none⟩) qz49_ _).trans (hHeld.2.1)))),((cell_far (p:=⟨gb101,_,none⟩) qz50_ _).trans (((cell_far (p:=⟨gb101,_,none⟩) qz50_ _).trans (hHeld.2.2.1)))),((cell_far (p:=⟨gb101,_,none⟩) qz51_ _).trans (((cell_far (p:=⟨gb101,_,none⟩) qz51_ _).trans (hHeld.2.2.2))))⟩ (fun hHeld=>?_)
    clear hK K
    refine done_ (zdr HT_.out (by kernel_rfl)) ?_
    try go_wp2
    refine bodyPost_ret (results_cell_row rfl _ _ gb101 32 #[.int .i64 t104,.int .i64 t105] (0,0) _ rfl (by(with_reducible repeat(first|refine zah ?_ _|refine zae ?_|refine zai ?_ _));refine za9 (cs:=#[.int .i64 t104,.int .i64 0]) ?_ 1 _ rfl;(with_reducible repeat(first|refine zah ?_ _|refine zae ?_|refine zai ?_ _));refine za9 (cs:=#[.int .i64 0,.int .i64 0]) ?_ 0 _ rfl;(with_reducible repeat(first|refine zah ?_ _|refine zae ?_|refine zai ?_ _));exact BK101.out) Tryz.underlying32 rfl (by kernel_rfl)) rfl ?_
    exact⟨qz4_,qz5_⟩
   ·
    rw [if_neg c5] at H
    exact absurd H (by simp)
  ·
   rw [if_neg c4] at H
   exact absurd H (by simp)
 ·
  rw [if_neg c3] at H
  have c3b0:(a0 == 1)=false:=beq_eq_false_iff_ne.mpr c3
  have c3b1:(a0 != 1)=true:=bne_iff_ne.mpr c3
  by_cases c12:0<(l1.length:Int)
  ·
   rw [if_pos c12] at H
   have c12b0:decide (0<(l1.length:Int))=true:=decide_eq_true c12
   have c12b1:decide (0<l1.length)=true:=decide_eq_true (by omega)
   clear c12
   by_cases c13:1<(l1.length:Int)
   ·
    rw [if_pos c13] at H
    have c13b0:decide (1<(l1.length:Int))=true:=decide_eq_true c13
    have c13b1:decide (1<l1.length)=true:=decide_eq_true (by omega)
    clear c13
    by_cases c14:2<(l1.length:Int)
    ·
     rw [if_pos c14] at H
     have c14b0:decide (2<(l1.length:Int))=true:=decide_eq_true c14
     have c14b1:decide (2<l1.length)=true:=decide_eq_true (by omega)
     clear c14
     replace H:=Option.bind_eq_some_iff.mp H
     obtain⟨⟨t109,t110⟩,A150,H⟩:=H
     replace H:(if 3<(l1.length:Int) then((zci.f t109 t110 ((zac l1 3).f0) ((zac l1 3).f1)).bind fun bt112=>((zbp.f ((zac l1 0).f0) ((zac l1 0).f1) bt112.1 bt112.2).bind fun bt114=>(some (bt114.1,bt114.2)))) else(none))=some (r1,r2):=H
     have A15:=am_ A150
     clear A150
     by_cases c16:3<(l1.length:Int)
     ·
      rw [if_pos c16] at H
      have c16b0:decide (3<(l1.length:Int))=true:=decide_eq_true c16
      have c16b1:decide (3<l1.length)=true:=decide_eq_true (by omega)
      clear c16
      replace H:=Option.bind_eq_some_iff.mp H
      obtain⟨⟨t112,t113⟩,A170,H⟩:=H
      replace H:((zbp.f ((zac l1 0).f0) ((zac l1 0).f1) t112 t113).bind fun bt114=>(some (bt114.1,bt114.2)))=some (r1,r2):=H
      have A17:=am_ A170
      clear A170
      replace H:=Option.bind_eq_some_iff.mp H
      obtain⟨⟨t114,t115⟩,A180,H⟩:=H
      replace H:(some (t114,t115))=some (r1,r2):=H
      have A18:=am_ A180
      clear A180
      simp only [Option.some.injEq,Prod.mk.injEq] at H
      obtain⟨rfl,rfl⟩:=H
      go_enter Tryz.func177,Tryz.ntmps177
      try go_wp2_with (first|((with_reducible refine zad (N:=4) rfl ?_);refine zaj rfl (N:=4) rfl (cs:=#[.int .i64 0,.int .i64 0]) (t:=32) bx_ ?_;intro gb101 hg w19 hbox hb;replace BK101:=am_ (hbox);replace GW101:=am_ ((by rw [hg];exact(zaf qz2_):w.heap.size≤gb101));replace GE101:=GW101;replace HB:=am_ (zab qz2_ hb);clear hb hbox hg))
      replace BK101:=am_ (zae BK101.out)
      replace HB:=am_ (zao HB.out)
      have p106:0≤(0:Int):=(by omega)
      have q106:0<(l1.length:Int):=of_decide_eq_true qz10_
      obtain⟨ad106,e106,hx106_0,hx106_1⟩:=zdf HR1.out 0 p106 q106
      have hw106_1:=hx106_1
      (try rw [show ((0:Int)).toNat=0 from rfl] at hw106_1)
      (try rw [show 0 * 2=0 from rfl] at hw106_1)
      (try rw [Addr.add_zero'] at hw106_1)
      have hw106_0:=hx106_0
      (try rw [show ((0:Int)).toNat=0 from rfl] at hw106_0)
      (try rw [show 0 * 2=0 from rfl] at hw106_0)
      (try rw [Addr.add_zero'] at hw106_0)
      cases e106
      have qi106:(0<l1.length)=True:=eq_true (by omega)
      (try rw [show ((0:Int)).toNat=0 from rfl] at hx106_0)
      (try rw [show 0 * 2=0 from rfl] at hx106_0)
      (try rw [Addr.add_zero'] at hx106_0)
      (try rw [show ((0:Int)).toNat=0 from rfl] at hx106_1)
      (try rw [show 0 * 2=0 from rfl] at hx106_1)
      (try rw [Addr.add_zero'] at hx106_1)
      replace hx106_0:=(HB.out.cell (World.block_lt_of_cell? w _ hx106_0)).trans hx106_0
      replace hx106_1:=(HB.out.cell (World.block_lt_of_cell? w _ hx106_1)).trans hx106_1
      replace p106:=eq_true p106
      replace q106:=eq_true q106
      have p107:0≤(1:Int):=(by omega)
      have q107:1<(l1.length:Int):=of_decide_eq_true qz10_
      obtain⟨ad107,e107,hx107_0,hx107_1⟩:=zdf HR1.out 1 p107 q107
      have hw107_1:=hx107_1
      (try rw [show ((1:Int)).toNat=1 from rfl] at hw107_1)
      (try rw [show 1 * 2=2 from rfl] at hw107_1)
      (try simp only [Nat.reduceMul,Nat.reduceEqDiff,Go.Addr.add,↓reduceIte] at hw107_1)
      have hw107_0:=hx107_0
      (try rw [show ((1:Int)).toNat=1 from rfl] at hw107_0)
      (try rw [show 1 * 2=2 from rfl] at hw107_0)
      (try simp only [Nat.reduceMul,Nat.reduceEqDiff,Go.Addr.add,↓reduceIte] at hw107_0)
      obtain rfl:ad106=ad107:=(by injection e107)
      (try simp only [show (1:Int).toNat=1 from rfl,Nat.reduceMul,Nat.reduceEqDiff,Go.Addr.add,↓reduceIte] at hx107_0)
      (try simp only [show (1:Int).toNat=1 from rfl,Nat.reduceMul,Nat.reduceEqDiff,Go.Addr.add,↓reduceIte] at hx107_1)
      have qi107:(1<l1.length)=True:=eq_true (by omega)
      (try rw [show ((1:Int)).toNat=1 from rfl] at hx107_0)
      (try rw [show 1 * 2=2 from rfl] at hx107_0)
      (try rw [show ((1:Int)).toNat=1 from rfl] at hx107_1)
      (try rw [show 1 * 2=2 from rfl] at hx107_1)
      replace hx107_0:=(HB.out.cell (World.block_lt_of_cell? w _ hx107_0)).trans hx107_0
      replace hx107_1:=(HB.out.cell (World.block_lt_of_cell? w _ hx107_1)).trans hx107_1
      replace p107:=eq_true p107
      replace q107:=eq_true q107
      have p108:0≤(2:Int):=(by omega)
      have q108:2<(l1.length:Int):=of_decide_eq_true qz10_
      obtain⟨ad108,e108,hx108_0,hx108_1⟩:=zdf HR1.out 2 p108 q108
      have hw108_1:=hx108_1
      (try rw [show ((2:Int)).toNat=2 from rfl] at hw108_1)
      (try rw [show 2 * 2=4 from rfl] at hw108_1)
      (try simp only [Nat.reduceMul,Nat.reduceEqDiff,Go.Addr.add,↓reduceIte] at hw108_1)
      have hw108_0:=hx108_0
      (try rw [show ((2:Int)).toNat=2 from rfl] at hw108_0)
      (try rw [show 2 * 2=4 from rfl] at hw108_0)
      (try simp only [Nat.reduceMul,Nat.reduceEqDiff,Go.Addr.add,↓reduceIte] at hw108_0)
      obtain rfl:ad106=ad108:=(by injection e108)
      (try simp only [show (2:Int).toNat=2 from rfl,Nat.reduceMul,Nat.reduceEqDiff,Go.Addr.add,↓reduceIte] at hx108_0)
      (try simp only [show (2:Int).toNat=2 from rfl,Nat.reduceMul,Nat.reduceEqDiff,Go.Addr.add,↓reduceIte] at hx108_1)
      have qi108:(2<l1.length)=True:=eq_true (by omega)
      (try rw [show ((2:Int)).toNat=2 from rfl] at hx108_0)
      (try rw [show 2 * 2=4 from rfl] at hx108_0)
      (try rw [show ((2:Int)).toNat=2 from rfl] at hx108_1)
      (try rw [show 2 * 2=4 from rfl] at hx108_1)
      replace hx108_0:=(HB.out.cell (World.block_lt_of_cell? w _ hx108_0)).trans hx108_0
      replace hx108_1:=(HB.out.cell (World.block_lt_of_cell? w _ hx108_1)).trans hx108_1
      replace p108:=eq_true p108
      replace q108:=eq_true q108
      have p111:0≤(3:Int):=(by omega)
      have q111:3<(l1.length:Int):=of_decide_eq_true qz10_
      obtain⟨ad111,e111,hx111_0,hx111_1⟩:=zdf HR1.out 3 p111 q111
      have hw111_1:=hx111_1
      (try rw [show ((3:Int)).toNat=3 from rfl] at hw111_1)
      (try rw [show 3 * 2=6 from rfl] at hw111_1)
      (try simp only [Nat.reduceMul,Nat.reduceEqDiff,Go.Addr.add,↓reduceIte] at hw111_1)
      have hw111_0:=hx111_0
      (try rw [show ((3:Int)).toNat=3 from rfl] at hw111_0)
      (try rw [show 3 * 2=6 from rfl] at hw111_0)
      (try simp only [Nat.reduceMul,Nat.reduceEqDiff,Go.Addr.add,↓reduceIte] at hw111_0)
      obtain rfl:ad106=ad111:=(by injection e111)
      (try simp only [show (3:Int).toNat=3 from rfl,Nat.reduceMul,Nat.reduceEqDiff,Go.Addr.add,↓reduceIte] at hx111_0)
      (try simp only [show (3:Int).toNat=3 from rfl,Nat.reduceMul,Nat.reduceEqDiff,Go.Addr.add,↓reduceIte] at hx111_1)
      have qi111:(3<l1.length)=True:=eq_true (by omega)
      (try rw [show ((3:Int)).toNat=3 from rfl] at hx111_0)
      (try rw [show 3 * 2=6 from rfl] at hx111_0)
      (try rw [show ((3:Int)).toNat=3 from rfl] at hx111_1)
      (try rw [show 3 * 2=6 from rfl] at hx111_1)
      replace hx111_0:=(HB.out.cell (World.block_lt_of_cell? w _ hx111_0)).trans hx111_0
      replace hx111_1:=(HB.out.cell (World.block_lt_of_cell? w _ hx111_1)).trans hx111_1
      replace p111:=eq_true p111
      replace q111:=eq_true q111
      refine zcn (n:=16) (S:=fun w'=>w'.cell? ad106=some (.int .i64 ((zac l1 0).f0))∧w'.cell? ⟨ad106.block,ad106.off + 1,none⟩=some (.int .i64 ((zac l1 0).f1))∧w'.cell? ⟨ad106.block,ad106.off + 2,none⟩=some (.int .i64 ((zac l1 1).f0))∧w'.cell? ⟨ad106.block,ad106.off + 2 + 1,none⟩=some (.int .i64 ((zac l1 1).f1))∧w'.cell? ⟨ad106.block,ad106.off + 4,none⟩=some (.int .i64 ((zac l1 2).f0))∧w'.cell? ⟨ad106.block,ad106.off + 4 + 1,none⟩=some (.int .i64 ((zac l1 2).f1))∧w'.cell? ⟨ad106.block,ad106.off + 6,none⟩=some (.int .i64 ((zac l1 3).f0))∧w'.cell? ⟨ad106.block,ad106.off + 6 + 1,none⟩=some (.int .i64 ((zac l1 3).f1))) (ds:=[]) (bs_ 16 0) (by kernel_rfl) rfl rfl ⟨((HB.out.cell (World.block_lt_of_cell? w _ hw106_0)).trans hw106_0),((HB.out.cell (World.block_lt_of_cell? w _ hw106_1)).trans hw106_1),((HB.out.cell (World.block_lt_of_cell? w _ hw107_0)).trans hw107_0),((HB.out.cell (World.block_lt_of_cell? w _ hw107_1)).trans hw107_1),((HB.out.cell (World.block_lt_of_cell? w _ hw108_0)).trans hw108_0),((HB.out.cell (World.block_lt_of_cell? w _ hw108_1)).trans hw108_1),((HB.out.cell (World.block_lt_of_cell? w _ hw111_0)).trans hw111_0),((HB.out.cell (World.block_lt_of_cell? w _ hw111_1)).trans hw111_1)⟩ (fun hHeld=>?_);refine zcj za4.tab3 za4.bits3 (fun HT_ HW_=>?_)
      generalize w19.drew=w20 at BK101 HB hx106_0 hx106_1 hx107_0 hx107_1 hx108_0 hx108_1 hx111_0 hx111_1 hHeld ⊢
      refine pt_ HT_.out 0 14 (bs_ 16 1) ?_
      refine pt_ HT_.out 1 15 (bs_ 16 3) ?_
      refine pt_ HT_.out 3 17 (bs_ 16 11) ?_
      refine pt_ HT_.out 4 18 (bs_ 16 27) ?_
      refine pt_ HT_.out 6 20 (bs_ 16 91) ?_
      refine pt_ HT_.out 7 21 (bs_ 16 219) ?_
      refine pt_ HT_.out 10 24 (bs_ 16 1243) ?_
      refine pt_ HT_.out 11 25 (bs_ 16 3291) ?_
      refine tt_ HT_ HW_ 2 (bs_ 16 3295) hHeld ?_
      refine tt_ HT_ HW_ 5 (bs_ 16 3327) hHeld ?_
      refine tt_ HT_ HW_ 8 (bs_ 16 3583) hHeld ?_
      refine tt_ HT_ HW_ 12 (bs_ 16 7679) hHeld ?_
      refine ot_ HT_ 9 (some 23) (bs_ 16 8191) (fun K hK=>?_)
      refine go_ Tryz.func108 #[.agg #[.int .i64 ((zac l1 1).f0),.int .i64 ((zac l1 1).f1)],.agg #[.int .i64 ((zac l1 2).f0),.int .i64 ((zac l1 2).f1)]] ?_
      with_reducible refine(zbp.calls ((zac l1 1).f0) ((zac l1 1).f1) ((zac l1 2).f0) ((zac l1 2).f1) t109 t110 _ A15.out).mono ?_
      rintro e w21 ⟨rfl,hb⟩
      refine⟨_,rfl,?_⟩
      replace BK101:=am_ (zak (g:=gb101) (o:=.cells #[.int .i64 0,.int .i64 0] 32 (0,0)) qz6_ hb)
      replace HB:=am_ (zab qz5_ hb)
      (try clear hb)
      (try clear hb2)
      (try clear hk)
      (try clear hi)
      refine hK.out _ _ ⟨((HB.out.cell (World.block_lt_of_cell? w _ hw106_0)).trans hw106_0),((HB.out.cell (World.block_lt_of_cell? w _ hw106_1)).trans hw106_1),((HB.out.cell (World.block_lt_of_cell? w _ hw107_0)).trans hw107_0),((HB.out.cell (World.block_lt_of_cell? w _ hw107_1)).trans hw107_1),((HB.out.cell (World.block_lt_of_cell? w _ hw108_0)).trans hw108_0),((HB.out.cell (World.block_lt_of_cell? w _ hw108_1)).trans hw108_1),((HB.out.cell (World.block_lt_of_cell? w _ hw111_0)).trans hw111_0),((HB.out.cell (World.block_lt_of_cell? w _ hw111_1)).trans hw111_1)⟩ (fun hHeld=>?_)
      clear hK K
      refine nm_ 23 ?_
      refine ot_ HT_ 13 (some 27) (bs_ 16 16383) (fun K hK=>?_)
      refine go_ Tryz.func145 #[.agg #[.int .i64 t109,.int .i64 t110],.agg #[.int .i64 ((zac l1 3).f0),.int .i64 ((zac l1 3).f1)]] ?_
      with_reducible refine(zci.calls t109 t110 ((zac l1 3).f0) ((zac l1 3).f1) t112 t113 _ A17.out).mono ?_
      rintro e w22 ⟨rfl,hb⟩
      refine⟨_,rfl,?_⟩
      replace BK101:=am_ (zak (g:=gb101) (o:=.cells #[.int .i64 0,.int .i64 0] 32 (0,0)) qz6_ hb)
      replace HB:=am_ (zab qz5_ hb)
      (try clear hb)
      (try clear hb2)
      (try clear hk)
      (try clear hi)
      refine hK.out _ _ ⟨((HB.out.cell (World.block_lt_of_cell? w _ hw106_0)).trans hw106_0),((HB.out.cell (World.block_lt_of_cell? w _ hw106_1)).trans hw106_1),((HB.out.cell (World.block_lt_of_cell? w _ hw107_0)).trans hw107_0),((HB.out.cell (World.block_lt_of_cell? w _ hw107_1)).trans hw107_1),((HB.out.cell (World.block_lt_of_cell? w _ hw108_0)).trans hw108_0),((HB.out.cell (World.block_lt_of_cell? w _ hw108_1)).trans hw108_1),((HB.out.cell (World.block_lt_of_cell? w _ hw111_0)).trans hw111_0),((HB.out.cell (World.block_lt_of_cell? w _ hw111_1)).trans hw111_1)⟩ (fun hHeld=>?_)
      clear hK K
      refine nm_ 27 ?_
      refine ot_ HT_ 14 (some 28) (bs_ 16 32767) (fun K hK=>?_)
      refine go_ Tryz.func108 #[.agg #[.int .i64 ((zac l1 0).f0),.int .i64 ((zac l1 0).f1)],.agg #[.int .i64 t112,.int .i64 t113]] ?_
      with_reducible refine(zbp.calls ((zac l1 0).f0) ((zac l1 0).f1) t112 t113 t114 t115 _ A18.out).mono ?_
      rintro e w23 ⟨rfl,hb⟩
      refine⟨_,rfl,?_⟩
      replace BK101:=am_ (zak (g:=gb101) (o:=.cells #[.int .i64 0,.int .i64 0] 32 (0,0)) qz6_ hb)
      replace HB:=am_ (zab qz5_ hb)
      (try clear hb)
      (try clear hb2)
      (try clear hk)
      (try clear hi)
      refine hK.out _ _ ⟨((HB.out.cell (World.block_lt_of_cell? w _ hw106_0)).trans hw106_0),((HB.out.cell (World.block_lt_of_cell? w _ hw106_1)).trans hw106_1),((HB.out.cell (World.block_lt_of_cell? w _ hw107_0)).trans hw107_0),((HB.out.cell (World.block_lt_of_cell? w _ hw107_1)).trans hw107_1),((HB.out.cell (World.block_lt_of_cell? w _ hw108_0)).trans hw108_0),((HB.out.cell (World.block_lt_of_cell? w _ hw108_1)).trans hw108_1),((HB.out.cell (World.block_lt_of_cell? w _ hw111_0)).trans hw111_0),((HB.out.cell (World.block_lt_of_cell? w _ hw111_1)).trans hw111_1)⟩ (fun hHeld=>?_)
      clear hK K
      refine nm_ 28 ?_
      refine ot_ HT_ 15 none (bs_ 16 65535) (fun K hK=>?_)
      obtain⟨hs24,hfs24⟩:=bi_ BK101.out 0
      obtain⟨hs25,hfs25⟩:=bi_ BK101.out 1
      refine skip_ (w1:=?_) (by rfl) rfl ?_ ?_
      rotate_left
      ·
       go_simp
       rfl
      refine hK.out _ _ ⟨((cell_far (p:=⟨gb101,_,none⟩) qz52_ _).trans (((cell_far (p:=⟨gb101,_,none⟩) qz52_ _).trans (hHeld.1)))),((cell_far (p:=⟨gb101,_,none⟩) qz53_ _).trans (((cell_far (p:=⟨gb101,_,none⟩) qz53_ _).trans (hHeld.2.1)))),((cell_far (p:=⟨gb101,_,none⟩) qz54_ _).trans (((cell_far (p:=⟨gb101,_,none⟩) qz54_ _).trans (hHeld.2.2.1)))),((cell_far (p:=⟨gb101,_,none⟩) qz55_ _).trans (((cell_far (p:=⟨gb101,_,none⟩) qz55_ _).trans (hHeld.2.2.2.1)))),((cell_far (p:=⟨gb101,_,none⟩) qz56_ _).trans (((cell_far (p:=⟨gb101,_,none⟩) qz56_ _).trans (hHeld.2.2.2.2.1)))),((cell_far (p:=⟨gb101,_,none⟩) qz57_ _).trans (((cell_far (p:=⟨gb101,_,none⟩) qz57_ _).trans (hHeld.2.2.2.2.2.1)))),((cell_far (p:=⟨gb101,_,none⟩) qz58_ _).trans (((cell_far (p:=⟨gb101,_,none⟩) qz58_ _).trans (hHeld.2.2.2.2.2.2.1)))),((cell_far (p:=⟨gb101,_,none⟩) qz59_ _).trans (((cell_far (p:=⟨gb101,_,none⟩) qz59_ _).trans (hHeld.2.2.2.2.2.2.2))))⟩ (fun hHeld=>?_)
      clear hK K
      refine done_ (zdr HT_.out (by kernel_rfl)) ?_
      try go_wp2
      refine bodyPost_ret (results_cell_row rfl _ _ gb101 32 #[.int .i64 t114,.int .i64 t115] (0,0) _ rfl (by(with_reducible repeat(first|refine zah ?_ _|refine zae ?_|refine zai ?_ _));refine za9 (cs:=#[.int .i64 t114,.int .i64 0]) ?_ 1 _ rfl;(with_reducible repeat(first|refine zah ?_ _|refine zae ?_|refine zai ?_ _));refine za9 (cs:=#[.int .i64 0,.int .i64 0]) ?_ 0 _ rfl;(with_reducible repeat(first|refine zah ?_ _|refine zae ?_|refine zai ?_ _));exact BK101.out) Tryz.underlying32 rfl (by kernel_rfl)) rfl ?_
      exact⟨qz4_,qz5_⟩
     ·
      rw [if_neg c16] at H
      exact absurd H (by simp)
    ·
     rw [if_neg c14] at H
     exact absurd H (by simp)
   ·
    rw [if_neg c13] at H
    exact absurd H (by simp)
  ·
   rw [if_neg c12] at H
   exact absurd H (by simp)
def zc7.l0:Nat→Int→List (List (S32))→Int→List (S32)→Int→Option (Int × Int)
 | 0,_,_,_,_,_=>none
 | k + 1,x0,x1,x2,x7,x8=>if x8<(x1.length:Int) then(if 0≤x8 then(if 0≤x2 then(if x2<((rd_L3 x1 x8).length:Int) then(if x7.length<8796093022208 then(zc7.l0 k x0 x1 x2 (x7++[(⟨(zac (rd_L3 x1 x8) x2).f0,(zac (rd_L3 x1 x8) x2).f1⟩:S32)]) (wrap64 (x8 + 1))) else(none)) else(none)) else(none)) else(none)) else((za4.f x0 x7).bind fun bt110=>(some (bt110.1,bt110.2)))
def zc7.f (k:Nat) (a0:Int) (l1:List (List (S32))) (a2:Int):Option (Int × Int):=zc7.l0 k a0 l1 a2 (([]:List (S32))) 0
theorem zc7.calls (k:Nat) (a0:Int) (A1:Option Addr) (c1:Nat) (l1:List (List (S32))) (a2:Int) (r1:Int) (r2:Int) (w:World) (hr1:Kd.C (Kd.slice 32 k32) w A1 l1.length l1) (hc1:l1.length≤c1) (h:zc7.f k a0 l1 a2=some (r1,r2)) :
  Calls Tryz.prog 150 #[.int .i64 a0,.slice A1 l1.length c1,.int .i64 a2] w fun e w'=>e=.returned (.agg #[.int .i64 r1,.int .i64 r2])∧Below w.heap.size w w':=by
 have hu32:=Tryz.underlying32
 have HR1:=am_ hr1
 have HC1:=am_ hc1
 clear hr1 hc1
 have HB:=am_ (Below.refl w.heap.size w)
 have H:(zc7.l0 k a0 l1 a2 (([]:List (S32))) 0)=some (r1,r2):=h
 clear h
 obtain⟨y102,hy102⟩:∃ y_:List (S32),y_=(([]:List (S32))):=⟨_,rfl⟩
 replace H:(zc7.l0 k a0 l1 a2 y102 0)=some (r1,r2):=by first|(rw [hy102];with_reducible exact H)|(have H2_:=(Option.bind_some _ _).symm.trans H;rw [hy102];with_reducible exact H2_)|(have H2_:=(Option.bind_some _ _).symm.trans H;with_reducible exact H2_)|with_reducible exact H|(rw [hy102];exact H)|exact H
 have Ny102:=am_ hy102
 clear hy102
 have H':=am_ H
 clear H
 go_enter Tryz.func150,Tryz.ntmps150
 go_wp2_with (first|((with_reducible refine zad (N:=6) rfl ?_);refine zaj rfl (N:=6) rfl (cs:=#[.int .i64 0,.int .i64 0]) (t:=32) bx_ ?_;intro gb101 hg w4 hbox hb;replace BK101:=am_ (hbox);replace GW101:=am_ ((by rw [hg];exact(zaf qz2_):w.heap.size≤gb101));replace GE101:=GW101;replace HB:=am_ (zab qz2_ hb);clear hb hbox hg)|((with_reducible refine zad (N:=9) rfl ?_);refine Kd.R_lit k32 _ 32 ?hg (N:=9) ?hd (xs:=([]:List (S32))) (inner:=[]) (ok:=fun _=>True) (okp:=fun _=>True) ?hr ?hp (fun _ hk=>hk) trivial (Below.refl _ _) (Nat.le_refl _) (by simp) ?_;(case hd=>rfl);(case hg=>rfl);(case hr=>first|(go_simp;done)|(go_simp;rfl));(case hp=>exact(Reps.none _ _));intro v103 w5 ho6 hb hg_ hnew_;clear hg_ hnew_;(first|rw [←Ny102.out] at ho6|(simp only [Int.reduceToNat] at ho6;rw [←Ny102.out] at ho6));replace HO104:=am_ (Kd.zcw (Kd.zjf ho6 (g:=gb101) (o:=.cells #[.int .i64 0,.int .i64 0] 32 (0,0)) qz6_) (zaf qz5_));replace BK101:=am_ (zak (g:=gb101) (o:=.cells #[.int .i64 0,.int .i64 0] 32 (0,0)) qz6_ hb);replace HB:=am_ (zab qz5_ hb);clear hb ho6))
 go_loopg [7,8] k (fun kq v7 v8 w'=>∃ (x7_1:List (S32)) (x8_1:Int),v8=.int .i64 x8_1∧zal (zc7.l0 kq a0 l1 a2 x7_1 x8_1=some (r1,r2))∧zal (kq≤k)∧zal (Kd.R k32 32 w' w.heap.size (fun k_=>k_≠gb101) v7 x7_1)∧zal (w'.heap[gb101]?=some (.cells #[.int .i64 0,.int .i64 0] 32 (0,0)))∧zal (Below w.heap.size w w'))
 case atStart=>exact⟨(y102),(0),qz0_,H',⟨Nat.le_refl _⟩,⟨(by(with_reducible repeat(first|apply Kd.zbm|apply Kd.zbl|apply Kd.zbt));exact Kd.zba HO104.out (fun _ hk=>hk.2))⟩,⟨qz6_⟩,⟨qz5_⟩⟩
 case round=>
  clear H'
  try clear c1
  try clear p2
  obtain⟨x7_1,x8_1,rfl,HA,HK1,HO_7,BK101,HB⟩:=hrel
  cases gk with
  | zero=>exact absurd HA.out (by simp [zc7.l0])
  | succ k1=>
   have H:=HA.out
   clear HA
   simp only [zc7.l0] at H
   by_cases c7:x8_1<(l1.length:Int)
   ·
    rw [if_pos c7] at H
    have c7b0:decide (x8_1<(l1.length:Int))=true:=decide_eq_true c7
    clear c7
    by_cases c8:0≤x8_1
    ·
     rw [if_pos c8] at H
     have c8b0:decide (0≤x8_1)=true:=decide_eq_true c8
     clear c8
     by_cases c9:0≤a2
     ·
      rw [if_pos c9] at H
      have c9b0:decide (0≤a2)=true:=decide_eq_true c9
      clear c9
      by_cases c10:a2<((rd_L3 l1 x8_1).length:Int)
      ·
       rw [if_pos c10] at H
       have c10b0:decide (a2<((rd_L3 l1 x8_1).length:Int))=true:=decide_eq_true c10
       clear c10
       by_cases c11:x7_1.length<8796093022208
       ·
        rw [if_pos c11] at H
        have LMc11:=am_ c11
        clear c11
        obtain⟨y107,hy107⟩:∃ y_:List (S32),y_=(x7_1++[(⟨(zac (rd_L3 l1 x8_1) a2).f0,(zac (rd_L3 l1 x8_1) a2).f1⟩:S32)]):=⟨_,rfl⟩
        replace H:(zc7.l0 k1 a0 l1 a2 y107 (wrap64 (x8_1 + 1)))=some (r1,r2):=by first|(rw [hy107];with_reducible exact H)|(have H2_:=(Option.bind_some _ _).symm.trans H;rw [hy107];with_reducible exact H2_)|(have H2_:=(Option.bind_some _ _).symm.trans H;with_reducible exact H2_)|with_reducible exact H|(rw [hy107];exact H)|exact H
        have Ny107:=am_ hy107
        clear hy107
        have H':=am_ H
        clear H
        have p105:0≤(x8_1:Int):=of_decide_eq_true qz10_
        have q105:x8_1<(l1.length:Int):=of_decide_eq_true qz10_
        obtain⟨ad105,A105_0,c105_0,e105,hx105_0,hl105_0,hi105_0⟩:=at_L3 HR1.out x8_1 p105 q105
        cases e105
        replace hx105_0:=(HB.out.cell (World.block_lt_of_cell? w _ hx105_0)).trans hx105_0
        have HR105_0:=am_ hi105_0
        have HC105_0:=am_ hl105_0
        clear hi105_0 hl105_0
        replace p105:=eq_true p105
        replace q105:=eq_true q105
        have p106:0≤(a2:Int):=of_decide_eq_true qz10_
        have q106:a2<((rd_L3 l1 x8_1).length:Int):=of_decide_eq_true qz10_
        obtain⟨ad106,e106,hx106_0,hx106_1⟩:=zdf HR105_0.out a2 p106 q106
        cases e106
        replace hx106_0:=(HB.out.cell (World.block_lt_of_cell? w _ hx106_0)).trans hx106_0
        replace hx106_1:=(HB.out.cell (World.block_lt_of_cell? w _ hx106_1)).trans hx106_1
        replace p106:=eq_true p106
        replace q106:=eq_true q106
        go_wp2_with (first|((with_reducible refine zb5 (b:=.append) (xs:=#[.tmp 16,.tmp 24]) rfl ?_);at_builtin;refine Kd.zev k32 (w0:=w) w.heap.size rfl (.tmp 16) (.tmp 24) 36 32 (.agg #[(.int .i64 0),(.int .i64 0)]) 16 rfl Tryz.underlying36 zgb rfl (by decide) (by omega) u7 x7_1 (⟨(zac (rd_L3 l1 x8_1) a2).f0,(zac (rd_L3 l1 x8_1) a2).f1⟩:S32) [.int .i64 ((zac (rd_L3 l1 x8_1) a2).f0),.int .i64 ((zac (rd_L3 l1 x8_1) a2).f1)] (fun k_=>k_≠gb101) (fun _=>False) rfl rfl ?aP (fun _ hk=>hk.elim) ?aF ?aO ?aB ?aS ?aL ?_;(case aP=>exact ze8 _ _ _ (⟨(zac (rd_L3 l1 x8_1) a2).f0,(zac (rd_L3 l1 x8_1) a2).f1⟩:S32));(case aB=>exact qz5_);(case aF=>exact(fun k_ hk=>Kd.zj0 (g:=gb101) (o:=.cells #[.int .i64 0,.int .i64 0] 32 (0,0)) qz6_ k_ hk));(case aO=>exact(by(with_reducible repeat(first|apply Kd.zbm|apply Kd.zbl|apply Kd.zbt));exact HO_7.out));(case aS=>exact(zaf qz5_));(case aL=>have:=LMc11.out;omega);intro v108 w12 ho hb hg hat;rw [←Ny107.out] at ho;replace BK101:=am_ (ze2 (g:=gb101) (o:=.cells #[.int .i64 0,.int .i64 0] 32 (0,0)) qz6_ hg (Kd.zh5 HO_7.out (fun _ hk=>hk)));replace HB:=am_ (hb);replace HO109:=am_ (ho);clear HO_7;clear ho hb hg hat))
        go_roundg k1
        case measure=>have:=HK1.out;omega
        case rel=>exact⟨(y107),(wrap64 (x8_1 + 1)),qz0_,H',⟨qz13_⟩,⟨(by(with_reducible repeat(first|apply Kd.zbm|apply Kd.zbl|apply Kd.zbt));exact HO109.out)⟩,⟨qz6_⟩,⟨qz5_⟩⟩
       ·
        rw [if_neg c11] at H
        exact absurd H (by simp)
      ·
       rw [if_neg c10] at H
       exact absurd H (by simp)
     ·
      rw [if_neg c9] at H
      exact absurd H (by simp)
    ·
     rw [if_neg c8] at H
     exact absurd H (by simp)
   ·
    rw [if_neg c7] at H
    have c7b0:decide (x8_1<(l1.length:Int))=false:=decide_eq_false c7
    clear c7
    replace H:=Option.bind_eq_some_iff.mp H
    obtain⟨⟨t110,t111⟩,A130,H⟩:=H
    replace H:(some (t110,t111))=some (r1,r2):=H
    have A13:=am_ A130
    clear A130
    simp only [Option.some.injEq,Prod.mk.injEq] at H
    obtain⟨rfl,rfl⟩:=H
    obtain⟨Ao14,co14,eo14⟩:=Kd.zcb HO_7.out
    subst eo14
    go_wp2_with (first|((with_reducible refine zan (f:=177) rfl ?_);refine gl_ (some 28) Tryz.func177 #[.int .i64 a0,.slice Ao14 x7_1.length co14] ?_;(with_reducible refine(za4.calls a0 _ _ x7_1 t110 t111 _ ?side1 ?side2 A13.out).mono ?_);(case side1=>exact qc_ (Kd.R_reads' HO_7.out).2.2);(case side2=>exact(Kd.R_reads' HO_7.out).2.1);rintro e w15 ⟨rfl,hb⟩;refine⟨_,rfl,?_⟩;replace HO_7:=am_ (Kd.zct (by(with_reducible repeat(first|apply Kd.zbm|apply Kd.zbl|apply Kd.zbt));exact HO_7.out) hb);replace BK101:=am_ (zak (g:=gb101) (o:=.cells #[.int .i64 0,.int .i64 0] 32 (0,0)) qz6_ hb);replace HB:=am_ (zab qz5_ hb);(try clear hb);(try clear hb2);(try clear hk);(try clear hi);obtain⟨hcz16_0,hcz16_1,hfz16_0,hfz16_1⟩:=bf2_ BK101.out))
    refine bodyPost_ret (results_cell_row rfl _ _ gb101 32 #[.int .i64 t110,.int .i64 t111] (0,0) _ rfl (by(with_reducible repeat(first|refine zah ?_ _|refine zae ?_|refine zai ?_ _));refine za9 (cs:=#[.int .i64 t110,.int .i64 0]) ?_ 1 _ rfl;(with_reducible repeat(first|refine zah ?_ _|refine zae ?_|refine zai ?_ _));refine za9 (cs:=#[.int .i64 0,.int .i64 0]) ?_ 0 _ rfl;(with_reducible repeat(first|refine zah ?_ _|refine zae ?_|refine zai ?_ _));exact BK101.out) Tryz.underlying32 rfl (by kernel_rfl)) rfl ?_
    exact⟨qz4_,qz5_⟩
def zcf.l0:Nat→Int→List (List (S32))→Int→Int→Int→Option (Int × Int)
 | 0,_,_,_,_,_=>none
 | k + 1,x0,x1,x6,x103000,x103001=>if 0<(x1.length:Int) then(if x6<((rd_L3 x1 0).length:Int) then((zc7.f k x0 x1 x6).bind fun bt104=>((zcc.f x103000 x103001 bt104.1 bt104.2).bind fun bt106=>(zcf.l0 k x0 x1 (wrap64 (x6 + 1)) bt106.1 bt106.2))) else(some (x103000,x103001))) else(none)
def zcf.f (k:Nat) (a0:Int) (l1:List (List (S32))):Option (Int × Int):=zcf.l0 k a0 l1 0 0 0
theorem zcf.calls (k:Nat) (a0:Int) (A1:Option Addr) (c1:Nat) (l1:List (List (S32))) (r1:Int) (r2:Int) (w:World) (hr1:Kd.C (Kd.slice 32 k32) w A1 l1.length l1) (hc1:l1.length≤c1) (h:zcf.f k a0 l1=some (r1,r2)) :
  Calls Tryz.prog 113 #[.int .i64 a0,.slice A1 l1.length c1] w fun e w'=>e=.returned (.agg #[.int .i64 r1,.int .i64 r2])∧Below w.heap.size w w':=by
 have hu32:=Tryz.underlying32
 have HR1:=am_ hr1
 have HC1:=am_ hc1
 clear hr1 hc1
 have HB:=am_ (Below.refl w.heap.size w)
 have H:(zcf.l0 k a0 l1 0 0 0)=some (r1,r2):=h
 clear h
 have H':=am_ H
 clear H
 go_enter Tryz.func113,Tryz.ntmps113
 go_wp2_with (first|((with_reducible refine zad (N:=4) rfl ?_);refine zaj rfl (N:=4) rfl (cs:=#[.int .i64 0,.int .i64 0]) (t:=32) bx_ ?_;intro gb101 hg w3 hbox hb;replace BK101:=am_ (hbox);replace GW101:=am_ ((by rw [hg];exact(zaf qz2_):w.heap.size≤gb101));replace GE101:=GW101;replace HB:=am_ (zab qz2_ hb);clear hb hbox hg)|((with_reducible refine zad (N:=5) rfl ?_);refine zaj rfl (N:=5) rfl (cs:=#[.int .i64 0,.int .i64 0]) (t:=32) bx_ ?_;intro gb102 hg w4 hbox hb;replace BK102:=am_ (hbox);replace GW102:=am_ ((by rw [hg];exact(zaf qz5_):w.heap.size≤gb102));replace GE102:=GW102;replace HB:=am_ (zab qz5_ hb);replace NB101_102:=am_ ((by rw [hg];exact Nat.ne_of_lt (zar (g:=gb101) (o:=.cells #[.int .i64 0,.int .i64 0] 32 (0,0)) qz6_):gb101≠gb102));replace NB102_101:=am_ ((by rw [hg];exact Nat.ne_of_gt (zar (g:=gb101) (o:=.cells #[.int .i64 0,.int .i64 0] 32 (0,0)) qz6_):gb102≠gb101));replace BK101:=am_ (zak (g:=gb101) (o:=.cells #[.int .i64 0,.int .i64 0] 32 (0,0)) qz6_ hb);clear hb hbox hg;have hnb5:=NB102_101.out;have hnc5:=NB101_102.out;obtain⟨hcz6_0,hcz6_1,hfz6_0,hfz6_1⟩:=bf2_ BK102.out))
 go_loopg [6] k (fun kq v6 w'=>∃ (x6_1:Int) (x103000_1:Int) (x103001_1:Int),v6=.int .i64 x6_1∧zal (zcf.l0 kq a0 l1 x6_1 x103000_1 x103001_1=some (r1,r2))∧zal (kq≤k)∧zal (w'.heap[gb101]?=some (.cells #[.int .i64 0,.int .i64 0] 32 (0,0)))∧zal (w'.heap[gb102]?=some (.cells #[.int .i64 x103000_1,.int .i64 x103001_1] 32 (0,0)))∧zal (Below w.heap.size w w'))
 case atStart=>exact⟨(0),(0),(0),qz0_,H',⟨Nat.le_refl _⟩,⟨qz35_⟩,⟨(by(with_reducible repeat(first|refine zah ?_ _|refine zae ?_|refine zai ?_ _));refine za9 (cs:=#[.int .i64 0,.int .i64 0]) ?_ 1 _ rfl;(with_reducible repeat(first|refine zah ?_ _|refine zae ?_|refine zai ?_ _));refine za9 (cs:=#[.int .i64 0,.int .i64 0]) ?_ 0 _ rfl;(with_reducible repeat(first|refine zah ?_ _|refine zae ?_|refine zai ?_ _));exact BK102.out)⟩,⟨qz8_⟩⟩
 case round=>
  clear H'
  try clear c1
  try clear p2
  try clear c5
  try clear hcz6_0
  try clear hcz6_1
  try clear hfz6_0
  try clear hfz6_1
  obtain⟨x6_1,x103000_1,x103001_1,rfl,HA,HK1,BK101,BK102,HB⟩:=hrel
  cases gk with
  | zero=>exact absurd HA.out (by simp [zcf.l0])
  | succ k1=>
   have H:=HA.out
   clear HA
   simp only [zcf.l0] at H
   by_cases c7:0<(l1.length:Int)
   ·
    rw [if_pos c7] at H
    have c7b0:decide (0<(l1.length:Int))=true:=decide_eq_true c7
    have c7b1:decide (0<l1.length)=true:=decide_eq_true (by omega)
    clear c7
    by_cases c8:x6_1<((rd_L3 l1 0).length:Int)
    ·
     rw [if_pos c8] at H
     have c8b0:decide (x6_1<((rd_L3 l1 0).length:Int))=true:=decide_eq_true c8
     clear c8
     replace H:=Option.bind_eq_some_iff.mp H
     obtain⟨⟨t104,t105⟩,A90,H⟩:=H
     replace H:((zcc.f x103000_1 x103001_1 t104 t105).bind fun bt106=>(zcf.l0 k1 a0 l1 (wrap64 (x6_1 + 1)) bt106.1 bt106.2))=some (r1,r2):=H
     have A9:=am_ A90
     clear A90
     replace H:=Option.bind_eq_some_iff.mp H
     obtain⟨⟨t106,t107⟩,A100,H⟩:=H
     replace H:(zcf.l0 k1 a0 l1 (wrap64 (x6_1 + 1)) t106 t107)=some (r1,r2):=H
     have A10:=am_ A100
     clear A100
     have H':=am_ H
     clear H
     have p103:0≤(0:Int):=(by omega)
     have q103:0<(l1.length:Int):=of_decide_eq_true qz10_
     obtain⟨ad103,A103_0,c103_0,e103,hx103_0,hl103_0,hi103_0⟩:=at_L3 HR1.out 0 p103 q103
     cases e103
     have qi103:(0<l1.length)=True:=eq_true (by omega)
     (try rw [show ((0:Int)).toNat=0 from rfl] at hx103_0)
     (try rw [Addr.add_zero'] at hx103_0)
     replace hx103_0:=(HB.out.cell (World.block_lt_of_cell? w _ hx103_0)).trans hx103_0
     have HR103_0:=am_ hi103_0
     have HC103_0:=am_ hl103_0
     clear hi103_0 hl103_0
     replace p103:=eq_true p103
     replace q103:=eq_true q103
     try go_wp2
     replace BK101:=am_ (zae BK101.out)
     replace BK102:=am_ (zae BK102.out)
     replace HB:=am_ (zao HB.out)
     refine zcn (n:=7) (S:=fun w'=>w'.cell? ⟨gb102,0,none⟩=some (.int .i64 x103000_1)∧w'.cell? ⟨gb102,1,none⟩=some (.int .i64 x103001_1)) (ds:=[6]) (bs_ 7 0) (by kernel_rfl) rfl rfl ⟨(zaa BK102.out 0).trans rfl,(zaa BK102.out 1).trans rfl⟩ (fun hHeld=>?_)
     generalize wr.drew=w11 at BK101 BK102 HB hHeld ⊢
     refine pu_ 1 17 (bs_ 7 2) ?_
     refine pu_ 2 18 (bs_ 7 6) ?_
     refine pu_ 3 19 (bs_ 7 14) ?_
     refine tk_ 0 (bs_ 7 15) hHeld ?_
     refine on_ 4 (some 20) (bs_ 7 31) (fun K hK=>?_)
     refine go_ Tryz.func150 #[.int .i64 a0,.slice (some ad103) l1.length c1,.int .i64 x6_1] ?_
     with_reducible refine(zc7.calls k1 a0 _ _ l1 x6_1 t104 t105 _ ?side1 ?side2 A9.out).mono ?_
     (case side1=>exact qc_ (Kd.zbi HR1.out HB.out))
     (case side2=>exact HC1.out)
     rintro e w12 ⟨rfl,hb⟩
     refine⟨_,rfl,?_⟩
     replace BK101:=am_ (zak (g:=gb101) (o:=.cells #[.int .i64 0,.int .i64 0] 32 (0,0)) qz6_ hb)
     replace BK102:=am_ (zak (g:=gb102) (o:=.cells #[.int .i64 x103000_1,.int .i64 x103001_1] 32 (0,0)) qz7_ hb)
     replace HB:=am_ (zab qz8_ hb)
     (try clear hb)
     (try clear hb2)
     (try clear hk)
     (try clear hi)
     refine hK.out _ _ ⟨(zaa BK102.out 0).trans rfl,(zaa BK102.out 1).trans rfl⟩ (fun hHeld=>?_)
     clear hK K
     refine nm_ 20 ?_
     refine on_ 5 (some 21) (bs_ 7 63) (fun K hK=>?_)
     refine go_ Tryz.func149 #[.agg #[.int .i64 x103000_1,.int .i64 x103001_1],.agg #[.int .i64 t104,.int .i64 t105]] ?_
     with_reducible refine(zcc.calls x103000_1 x103001_1 t104 t105 t106 t107 _ A10.out).mono ?_
     rintro e w13 ⟨rfl,hb⟩
     refine⟨_,rfl,?_⟩
     replace BK101:=am_ (zak (g:=gb101) (o:=.cells #[.int .i64 0,.int .i64 0] 32 (0,0)) qz6_ hb)
     replace BK102:=am_ (zak (g:=gb102) (o:=.cells #[.int .i64 x103000_1,.int .i64 x103001_1] 32 (0,0)) qz7_ hb)
     replace HB:=am_ (zab qz8_ hb)
     (try clear hb)
     (try clear hb2)
     (try clear hk)
     (try clear hi)
     refine hK.out _ _ ⟨(zaa BK102.out 0).trans rfl,(zaa BK102.out 1).trans rfl⟩ (fun hHeld=>?_)
     clear hK K
     refine nm_ 21 ?_
     refine last_ (i:=6) (N:=none) (bs_ 7 127) rfl rfl (by kernel_rfl) (by decide) (fun K hK=>?_)
     obtain⟨hs14,hfs14⟩:=bi_ BK102.out 0
     have hns14_0:=NB101_102.out
     have hms14_0:=NB102_101.out
     obtain⟨hs15,hfs15⟩:=bi_ BK102.out 1
     have hns15_0:=NB101_102.out
     have hms15_0:=NB102_101.out
     refine skip_ (w1:=?_) (by rfl) rfl ?_ ?_
     rotate_left
     ·
      go_simp
      rfl
     refine hK.out _ _ ?_
     clear hK K
     refine done_ (by kernel_rfl) ?_
     try go_wp2
     go_roundg k1
     case measure=>have:=HK1.out;omega
     case rel=>exact⟨(wrap64 (x6_1 + 1)),(t106),(t107),qz0_,H',⟨qz13_⟩,⟨qz35_⟩,⟨(by(with_reducible repeat(first|refine zah ?_ _|refine zae ?_|refine zai ?_ _));refine za9 (cs:=#[.int .i64 t106,.int .i64 x103001_1]) ?_ 1 _ rfl;(with_reducible repeat(first|refine zah ?_ _|refine zae ?_|refine zai ?_ _));refine za9 (cs:=#[.int .i64 x103000_1,.int .i64 x103001_1]) ?_ 0 _ rfl;(with_reducible repeat(first|refine zah ?_ _|refine zae ?_|refine zai ?_ _));exact BK102.out)⟩,⟨qz8_⟩⟩
    ·
     rw [if_neg c8] at H
     have c8b0:decide (x6_1<((rd_L3 l1 0).length:Int))=false:=decide_eq_false c8
     clear c8
     simp only [Option.some.injEq,Prod.mk.injEq] at H
     obtain⟨rfl,rfl⟩:=H
     have p103:0≤(0:Int):=(by omega)
     have q103:0<(l1.length:Int):=of_decide_eq_true qz10_
     obtain⟨ad103,A103_0,c103_0,e103,hx103_0,hl103_0,hi103_0⟩:=at_L3 HR1.out 0 p103 q103
     cases e103
     have qi103:(0<l1.length)=True:=eq_true (by omega)
     (try rw [show ((0:Int)).toNat=0 from rfl] at hx103_0)
     (try rw [Addr.add_zero'] at hx103_0)
     replace hx103_0:=(HB.out.cell (World.block_lt_of_cell? w _ hx103_0)).trans hx103_0
     have HR103_0:=am_ hi103_0
     have HC103_0:=am_ hl103_0
     clear hi103_0 hl103_0
     replace p103:=eq_true p103
     replace q103:=eq_true q103
     have hnb16:=NB102_101.out
     have hnc16:=NB101_102.out
     obtain⟨hcz17_0,hcz17_1,hfz17_0,hfz17_1⟩:=bf2_ BK102.out
     obtain⟨hcz18_0,hcz18_1,hfz18_0,hfz18_1⟩:=bf2_ BK101.out
     go_wp2
     refine bodyPost_ret (results_cell_row rfl _ _ gb101 32 #[.int .i64 x103000_1,.int .i64 x103001_1] (0,0) _ rfl (by(with_reducible repeat(first|refine zah ?_ _|refine zae ?_|refine zai ?_ _));refine za9 (cs:=#[.int .i64 x103000_1,.int .i64 0]) ?_ 1 _ rfl;(with_reducible repeat(first|refine zah ?_ _|refine zae ?_|refine zai ?_ _));refine za9 (cs:=#[.int .i64 0,.int .i64 0]) ?_ 0 _ rfl;(with_reducible repeat(first|refine zah ?_ _|refine zae ?_|refine zai ?_ _));exact BK101.out) Tryz.underlying32 rfl (by kernel_rfl)) rfl ?_
     exact⟨qz4_,qz8_⟩
   ·
    rw [if_neg c7] at H
    exact absurd H (by simp)
def zbs.l0:Nat→Int→List (List (S32))→List (S32)→Int→Option ((List (S32)))
 | 0,_,_,_,_=>none
 | k + 1,x0,x1,x5,x6=>(zd8.f x0).bind fun t104=>(if x6≤t104 then((zft.f x6).bind fun bt105=>((za3.f k x1 bt105.1 bt105.2).bind fun t107=>((zcf.f k x0 t107).bind fun bt110=>(if x5.length<8796093022208 then(zbs.l0 k x0 x1 (x5++[(⟨bt110.1,bt110.2⟩:S32)]) (wrap64 (x6 + 1))) else(none))))) else(some x5))
def zbs.f (k:Nat) (a0:Int) (l1:List (List (S32))):Option ((List (S32))):=zbs.l0 k a0 l1 (([]:List (S32))) 0
theorem zbs.calls (k:Nat) (a0:Int) (A1:Option Addr) (c1:Nat) (l1:List (List (S32))) (r:List (S32)) (w:World) (hr1:Kd.C (Kd.slice 32 k32) w A1 l1.length l1) (hc1:l1.length≤c1) (h:zbs.f k a0 l1=some r) :
  Calls Tryz.prog 62 #[.int .i64 a0,.slice A1 l1.length c1] w fun e w'=>∃ v0_:Value,e=.returned (v0_)∧Kd.R k32 32 w' w.heap.size (fun _=>True) v0_ r∧Below w.heap.size w w':=by
 have HR1:=am_ hr1
 have HC1:=am_ hc1
 clear hr1 hc1
 have HB:=am_ (Below.refl w.heap.size w)
 have H:(zbs.l0 k a0 l1 (([]:List (S32))) 0)=some r:=h
 clear h
 obtain⟨y101,hy101⟩:∃ y_:List (S32),y_=(([]:List (S32))):=⟨_,rfl⟩
 replace H:(zbs.l0 k a0 l1 y101 0)=some r:=by first|(rw [hy101];with_reducible exact H)|(have H2_:=(Option.bind_some _ _).symm.trans H;rw [hy101];with_reducible exact H2_)|(have H2_:=(Option.bind_some _ _).symm.trans H;with_reducible exact H2_)|with_reducible exact H|(rw [hy101];exact H)|exact H
 have Ny101:=am_ hy101
 clear hy101
 have H':=am_ H
 clear H
 go_enter Tryz.func62,Tryz.ntmps62
 go_wp2_with (first|((with_reducible refine zad (N:=7) rfl ?_);refine Kd.R_lit k32 _ 32 ?hg (N:=7) ?hd (xs:=([]:List (S32))) (inner:=[]) (ok:=fun _=>True) (okp:=fun _=>True) ?hr ?hp (fun _ hk=>hk) trivial (Below.refl _ _) (Nat.le_refl _) (by simp) ?_;(case hd=>rfl);(case hg=>rfl);(case hr=>first|(go_simp;done)|(go_simp;rfl));(case hp=>exact(Reps.none _ _));intro v102 w3 ho4 hb hg_ hnew_;clear hg_ hnew_;(first|rw [←Ny101.out] at ho4|(simp only [Int.reduceToNat] at ho4;rw [←Ny101.out] at ho4));replace HO103:=am_ (Kd.zcw ho4 (zaf qz2_));replace HB:=am_ (zab qz2_ hb);clear hb ho4))
 go_loopg [5,6] k (fun kq v5 v6 w'=>∃ (x5_1:List (S32)) (x6_1:Int),v6=.int .i64 x6_1∧zal (zbs.l0 kq a0 l1 x5_1 x6_1=some r)∧zal (kq≤k)∧zal (Kd.R k32 32 w' w.heap.size (fun _=>True) v5 x5_1)∧zal (Below w.heap.size w w'))
 case atStart=>exact⟨(y101),(0),qz0_,H',⟨Nat.le_refl _⟩,⟨qz11_⟩,⟨qz2_⟩⟩
 case round=>
  clear H'
  try clear c1
  try clear p2
  obtain⟨x5_1,x6_1,rfl,HA,HK1,HO_5,HB⟩:=hrel
  cases gk with
  | zero=>exact absurd HA.out (by simp [zbs.l0])
  | succ k1=>
   have H:=HA.out
   clear HA
   simp only [zbs.l0] at H
   replace H:=Option.bind_eq_some_iff.mp H
   obtain⟨t104,A50,H⟩:=H
   replace H:(if x6_1≤t104 then((zft.f x6_1).bind fun bt105=>((za3.f k1 l1 bt105.1 bt105.2).bind fun t107=>((zcf.f k1 a0 t107).bind fun bt110=>(if x5_1.length<8796093022208 then(zbs.l0 k1 a0 l1 (x5_1++[(⟨bt110.1,bt110.2⟩:S32)]) (wrap64 (x6_1 + 1))) else(none))))) else(some x5_1))=some r:=H
   have A5:=am_ A50
   clear A50
   by_cases c6:x6_1≤t104
   ·
    rw [if_pos c6] at H
    have c6b0:decide (x6_1≤t104)=true:=decide_eq_true c6
    clear c6
    replace H:=Option.bind_eq_some_iff.mp H
    obtain⟨⟨t105,t106⟩,A70,H⟩:=H
    replace H:((za3.f k1 l1 t105 t106).bind fun t107=>((zcf.f k1 a0 t107).bind fun bt110=>(if x5_1.length<8796093022208 then(zbs.l0 k1 a0 l1 (x5_1++[(⟨bt110.1,bt110.2⟩:S32)]) (wrap64 (x6_1 + 1))) else(none))))=some r:=H
    have A7:=am_ A70
    clear A70
    replace H:=Option.bind_eq_some_iff.mp H
    obtain⟨t107,A80,H⟩:=H
    replace H:((zcf.f k1 a0 t107).bind fun bt110=>(if x5_1.length<8796093022208 then(zbs.l0 k1 a0 l1 (x5_1++[(⟨bt110.1,bt110.2⟩:S32)]) (wrap64 (x6_1 + 1))) else(none)))=some r:=H
    have A8:=am_ A80
    clear A80
    replace H:=Option.bind_eq_some_iff.mp H
    obtain⟨⟨t110,t111⟩,A90,H⟩:=H
    replace H:(if x5_1.length<8796093022208 then(zbs.l0 k1 a0 l1 (x5_1++[(⟨t110,t111⟩:S32)]) (wrap64 (x6_1 + 1))) else(none))=some r:=H
    have A9:=am_ A90
    clear A90
    by_cases c10:x5_1.length<8796093022208
    ·
     rw [if_pos c10] at H
     have LMc10:=am_ c10
     clear c10
     obtain⟨y112,hy112⟩:∃ y_:List (S32),y_=(x5_1++[(⟨t110,t111⟩:S32)]):=⟨_,rfl⟩
     replace H:(zbs.l0 k1 a0 l1 y112 (wrap64 (x6_1 + 1)))=some r:=by first|(rw [hy112];with_reducible exact H)|(have H2_:=(Option.bind_some _ _).symm.trans H;rw [hy112];with_reducible exact H2_)|(have H2_:=(Option.bind_some _ _).symm.trans H;with_reducible exact H2_)|with_reducible exact H|(rw [hy112];exact H)|exact H
     have Ny112:=am_ hy112
     clear hy112
     have H':=am_ H
     clear H
     go_wp2_with (first|((with_reducible refine zan (f:=112) rfl ?_);refine gl_ (some 10) Tryz.func112 #[.int .i64 a0] ?_;(with_reducible refine(zd8.calls a0 t104 _ A5.out).mono ?_);rintro e w' ⟨rfl,⟨nd,rfl⟩⟩;refine⟨_,rfl,?_⟩)|((with_reducible refine zan (f:=114) rfl ?_);refine gl_ (some 18) Tryz.func114 #[.int .i64 x6_1] ?_;(with_reducible refine(zft.calls x6_1 t105 t106 _ A7.out).mono ?_);rintro e w11 ⟨rfl,hb⟩;refine⟨_,rfl,?_⟩;replace HO_5:=am_ (Kd.zct qz22_ hb);replace HB:=am_ (zab qz2_ hb);(try clear hb);(try clear hb2);(try clear hk);(try clear hi))|((with_reducible refine zan (f:=65) rfl ?_);refine gl_ (some 19) Tryz.func65 #[.slice A1 l1.length c1,.agg #[.int .i64 t105,.int .i64 t106]] ?_;(with_reducible refine(za3.calls k1 _ _ l1 t105 t106 t107 _ ?side1 ?side2 A8.out).mono ?_);(case side1=>exact qc_ (Kd.zbi HR1.out HB.out));(case side2=>exact HC1.out);rintro e w12 ⟨v108,rfl,ho0,hb⟩;refine⟨_,rfl,?_⟩;replace HO109:=am_ (Kd.zhl (Kd.S_new' ho0 (Kd.R_lt qz22_)) (zaf qz2_));replace HO_5:=am_ (Kd.zct qz22_ hb);replace HB:=am_ (zab qz2_ hb);(try clear hb);(try clear hb2);(try clear hk);(try clear hi);(try clear ho0);obtain⟨Ao13,co13,eo13⟩:=Kd.zf6 HO109.out;subst eo13)|((with_reducible refine zan (f:=113) rfl ?_);refine gl_ (some 20) Tryz.func113 #[.int .i64 a0,.slice Ao13 t107.length co13] ?_;(with_reducible refine(zcf.calls k1 a0 _ _ t107 t110 t111 _ ?side1 ?side2 A9.out).mono ?_);(case side1=>exact qc_ (Kd.S_reads' HO109.out).2.2);(case side2=>exact(Kd.S_reads' HO109.out).2.1);rintro e w14 ⟨rfl,hb⟩;refine⟨_,rfl,?_⟩;replace HO_5:=am_ (Kd.zct qz22_ hb);replace HO109:=am_ (Kd.zj4 (by(with_reducible repeat(first|apply Kd.zea|apply Kd.zec|apply Kd.ze4));exact HO109.out) hb);replace HB:=am_ (zab qz2_ hb);(try clear hb);(try clear hb2);(try clear hk);(try clear hi))|((with_reducible refine zb5 (b:=.append) (xs:=#[.tmp 14,.tmp 21]) rfl ?_);at_builtin;refine Kd.zev k32 (w0:=w) w.heap.size rfl (.tmp 14) (.tmp 21) 36 32 (.agg #[(.int .i64 0),(.int .i64 0)]) 16 rfl Tryz.underlying36 zgb rfl (by decide) (by omega) u5 x5_1 (⟨t110,t111⟩:S32) [.int .i64 t110,.int .i64 t111] (fun _=>True) (fun _=>False) rfl rfl ?aP (fun _ hk=>hk.elim) ?aF ?aO ?aB ?aS ?aL ?_;(case aP=>exact ze8 _ _ _ (⟨t110,t111⟩:S32));(case aB=>exact qz2_);(case aF=>exact(fun _ _=>trivial));(case aO=>exact qz22_);(case aS=>exact(zaf qz2_));(case aL=>have:=LMc10.out;omega);intro v113 w15 ho hb hg hat;rw [←Ny112.out] at ho;replace HO109:=am_ (Kd.zo0 (ok:=(fun _=>True)) (by(with_reducible repeat(first|apply Kd.zea|apply Kd.zec|apply Kd.ze4));exact HO109.out) hg hat);replace HB:=am_ (hb);replace HO114:=am_ (ho);clear HO_5;clear ho hb hg hat))
     go_roundg k1
     case measure=>have:=HK1.out;omega
     case rel=>exact⟨(y112),(wrap64 (x6_1 + 1)),qz0_,H',⟨qz13_⟩,⟨(by(with_reducible repeat(first|apply Kd.zbm|apply Kd.zbl|apply Kd.zbt));exact HO114.out)⟩,⟨qz2_⟩⟩
    ·
     rw [if_neg c10] at H
     exact absurd H (by simp)
   ·
    rw [if_neg c6] at H
    have c6b0:decide (x6_1≤t104)=false:=decide_eq_false c6
    clear c6
    obtain rfl:=Option.some.inj H
    go_wp2_with (first|((with_reducible refine zan (f:=112) rfl ?_);refine gl_ (some 10) Tryz.func112 #[.int .i64 a0] ?_;(with_reducible refine(zd8.calls a0 t104 _ A5.out).mono ?_);rintro e w' ⟨rfl,⟨nd,rfl⟩⟩;refine⟨_,rfl,?_⟩))
    go_ret
    exact⟨_,qz4_,qz22_,qz2_⟩
end Go.Proofs.YtgookagndlfehaaGreat.PT
end
section
/- The two hashes are one: the reference's permutation is the program's. -/
namespace Go.Proofs.YtgookagndlfehaaGreat.PT
open Go.RowKit Go.Proofs.YtgookagndlfehaaGreatW.PrintWords Go.Proofs.YtgookagndlfehaaGreatW.PrintLast Go.Proofs.YtgookagndlfehaaGreatW.PrintMore
set_option linter.unusedVariables false
set_option linter.unusedSimpArgs false
def In64 (x:Int):Prop:=0≤x∧x<18446744073709551616
def U64 (l:List Int):Prop:=∀ x,x∈l→In64 x
theorem zm4 (op:BinOp) (x y:Int):In64 (Go.bits op .u64 x y):=by
 unfold Go.bits In64
 simp only [IntKind.wrap_u64]
 omega
theorem of_in {x:Int} (h:In64 x):((BitVec.ofInt 64 x).toNat:Int)=x:=by
 obtain⟨h0,h1⟩:=h
 rw [BitVec.toNat_ofInt]
 have:x % ((2 ^ 64:Nat):Int)=x:=Int.emod_eq_of_lt h0 (by simpa using h1)
 rw [this]
 exact Int.toNat_of_nonneg h0
theorem wrap_in {x:Int} (h:In64 x):IntKind.u64.wrap x=x:=by
 obtain⟨h0,h1⟩:=h
 rw [IntKind.wrap_u64]
 omega
theorem bv_in (b:BitVec 64):In64 (b.toNat:Int):=by
 have:=b.isLt
 unfold In64
 omega
theorem zov (b:BitVec 64):BitVec.ofInt 64 (IntKind.u64.wrap (b.toNat:Int))=b:=by
 rw [wrap_in (bv_in b)]
 apply BitVec.eq_of_toNat_eq
 have h:=of_in (bv_in b)
 exact Int.ofNat_inj.1 h
theorem xr0 {x:Int} (h:In64 x):xr 0 x=x:=by
 unfold xr Go.bits
 show IntKind.u64.wrap (((BitVec.ofInt 64 0 ^^^ BitVec.ofInt 64 x).toNat:Nat):Int)=x
 rw [show BitVec.ofInt 64 0=0#64 from rfl,BitVec.zero_xor,of_in h,wrap_in h]
theorem or0 {x:Int} (h:In64 x):Go.bits .or .u64 x 0=x:=by
 unfold Go.bits
 show IntKind.u64.wrap (((BitVec.ofInt 64 x ||| BitVec.ofInt 64 0).toNat:Nat):Int)=x
 rw [show BitVec.ofInt 64 0=0#64 from rfl,BitVec.or_zero,of_in h,wrap_in h]
theorem an_eq (x y:Int):bnd (cpl y) x=an x y:=by
 unfold bnd cpl an Go.bits
 show IntKind.u64.wrap (((BitVec.ofInt 64 (IntKind.u64.wrap (((BitVec.ofInt 64 IntKind.u64.max ^^^ BitVec.ofInt 64 y).toNat:Nat):Int)) &&& BitVec.ofInt 64 x).toNat:Nat):Int)=IntKind.u64.wrap (((BitVec.ofInt 64 x &&& ~~~ BitVec.ofInt 64 y).toNat:Nat):Int)
 rw [zov,show BitVec.ofInt 64 IntKind.u64.max=BitVec.allOnes 64 from by decide,BitVec.allOnes_xor,BitVec.and_comm]
theorem xr_in (x y:Int):In64 (xr x y):=zm4 _ _ _
theorem k63:∀ k:Fin 64,Go.bits .and .u64 (IntKind.u64.wrap (k.val:Int)) 63=(k.val:Int)∧0≤IntKind.u64.wrap (64 - (k.val:Int)):=by decide +kernel
theorem turn_in {x k:Int} (h:In64 x) (h0:0≤k) (h1:k≤64):In64 (turn x k):=by
 unfold turn zdt.f
 by_cases hk:k=0
 ·
  rw [if_pos hk];exact h
 ·
  rw [if_neg hk,if_pos h0,if_pos (by rw [IntKind.wrap_u64];omega),Option.getD_some]
  exact zm4 _ _ _
theorem znq {x:Int} (h:In64 x) (k:Nat) (hk:k<64):rot x (k:Int)=turn x (k:Int):=by
 obtain⟨h1,h2⟩:=k63 ⟨k,hk⟩
 simp only at h1 h2
 unfold rot zcx.f turn zdt.f
 rw [h1,if_pos (by omega),if_pos h2]
 by_cases h0:(k:Int)=0
 ·
  rw [if_pos h0,h0]
  have e1:shl .u64 x 0=x:=by
   show IntKind.u64.wrap (x * 2 ^ (min (0:Int).toNat 64))=x
   rw [show min (0:Int).toNat 64=0 from rfl,Int.pow_zero,Int.mul_one,wrap_in h]
  have e2:shr .u64 x (IntKind.u64.wrap (64 - 0))=0:=by
   obtain⟨a,b⟩:=h
   show x / 2 ^ (min (IntKind.u64.wrap (64 - 0)).toNat 64)=0
   rw [show min (IntKind.u64.wrap (64 - 0)).toNat 64=64 by decide]
   exact Int.ediv_eq_zero_of_lt a (by simpa using b)
  rw [e1,e2]
  exact or0 h
 ·
  rw [if_neg h0]
theorem U64.set {l:List Int} (h:U64 l) {v:Int} (hv:In64 v) (i:Nat):U64 (l.set i v):=fun x hx=>by
 rcases List.mem_or_eq_of_mem_set hx with hx|rfl
 ·
  exact h x hx
 ·
  exact hv
theorem U64.get {l:List Int} (h:U64 l) (i:Nat):In64 (l.getD i 0):=by
 rw [List.getD]
 cases hi:l[i]? with
 | none=>exact⟨(by simp),(by simp)⟩
 | some v=>exact h v (List.mem_of_getElem? hi)
theorem U64.iter {f:Nat→List Int→List Int} (hf:∀ i x,U64 x→U64 (f i x)):∀ k j x,U64 x→U64 (iter f k j x)
 | 0,_,_,h=>h
 | k + 1,j,x,h=>U64.iter hf k (j + 1) _ (hf j x h)
theorem zie {f g:Nat→List Int→List Int} {n:Nat} (h:∀ i x,i<n→f i x=g i x):∀ k j x,j + k≤n→iter f k j x=iter g k j x
 | 0,_,_,_=>rfl
 | k + 1,j,x,hj=>by rw [zdo,zdo,h j x (by omega)];exact zie h k (j + 1) _ (by omega)
theorem zpa:U64 z25:=fun x hx=>by simp [z25] at hx;subst hx;exact⟨(by decide),(by decide)⟩
theorem z5_in:U64 z5:=fun x hx=>by simp [z5] at hx;subst hx;exact⟨(by decide),(by decide)⟩
theorem lanes_in (xs:List Int):U64 (zdh xs):=U64.iter (fun i x h=>h.set (zm4 _ _ _) _) _ _ _ zpa
theorem xors_in (l:List Int) {s:List Int} (h:U64 s):U64 (xors l s):=U64.iter (fun i x h=>h.set (xr_in _ _) _) _ _ _ h
theorem sh64:∀ i:Fin 25,∃ k:Fin 64,zcd.getD i.val 0=(k.val:Int):=by decide +kernel
theorem sh64' (i:Nat):∃ k:Nat,k<64∧zcd.getD i 0=(k:Int):=by
 by_cases h:i<25
 ·
  obtain⟨k,hk⟩:=sh64 ⟨i,h⟩
  exact⟨k.val,k.isLt,hk⟩
 ·
  exact⟨0,(by decide),(by rw [List.getD,List.getElem?_eq_none (by simp [zcd];omega)];rfl)⟩
theorem c_in {a:List Int} (h:U64 a):U64 (c_ a):=U64.iter (fun i x h=>h.set (xr_in _ _) _) _ _ _ z5_in
theorem t_in {a:List Int} (h:U64 a):U64 (t_ a):=U64.iter (fun i x h=>h.set (xr_in _ _) _) _ _ _ h
theorem zoj {x:Int} (h:In64 x) (i:Nat):In64 (turn x (zcd.getD i 0)):=by
 obtain⟨k,hk,e⟩:=sh64' i
 rw [e]
 exact turn_in h (by omega) (by omega)
theorem b_in {a:List Int} (h:U64 a):U64 (b_ a):=U64.iter (fun i x hx=>U64.iter (fun j y hy=>hy.set (zoj (h.get _) _) _) _ _ _ hx) _ _ _ zpa
theorem h_in (b:List Int) {a:List Int} (h:U64 a):U64 (h_ b a):=U64.iter (fun i x hx=>U64.iter (fun j y hy=>hy.set (xr_in _ _) _) _ _ _ hx) _ _ _ h
theorem zll {a:List Int} (h:U64 a) (r:Nat):U64 (zfl r a):=by
 unfold zfl roundEnd
 exact U64.set (h_in _ (t_in h)) (xr_in _ _) _
theorem zmd {a:List Int} (h:a.length=25):∃ a0 a1 a2 a3 a4 a5 a6 a7 a8 a9 a10 a11 a12 a13 a14 a15 a16 a17 a18 a19 a20 a21 a22 a23 a24,a=[a0,a1,a2,a3,a4,a5,a6,a7,a8,a9,a10,a11,a12,a13,a14,a15,a16,a17,a18,a19,a20,a21,a22,a23,a24]:=by
 match a,h with
 | [a0,a1,a2,a3,a4,a5,a6,a7,a8,a9,a10,a11,a12,a13,a14,a15,a16,a17,a18,a19,a20,a21,a22,a23,a24],_=>exact⟨_,_,_,_,_,_,_,_,_,_,_,_,_,_,_,_,_,_,_,_,_,_,_,_,_,rfl⟩
theorem list5 {a:List Int} (h:a.length=5):∃ a0 a1 a2 a3 a4,a=[a0,a1,a2,a3,a4]:=by
 match a,h with
 | [a0,a1,a2,a3,a4],_=>exact⟨_,_,_,_,_,rfl⟩
theorem c_rfl (a0 a1 a2 a3 a4 a5 a6 a7 a8 a9 a10 a11 a12 a13 a14 a15 a16 a17 a18 a19 a20 a21 a22 a23 a24:Int):[xr (xr (xr (xr a0 a5) a10) a15) a20,xr (xr (xr (xr a1 a6) a11) a16) a21,xr (xr (xr (xr a2 a7) a12) a17) a22,xr (xr (xr (xr a3 a8) a13) a18) a23,xr (xr (xr (xr a4 a9) a14) a19) a24]=c_ [a0,a1,a2,a3,a4,a5,a6,a7,a8,a9,a10,a11,a12,a13,a14,a15,a16,a17,a18,a19,a20,a21,a22,a23,a24]:=by kernel_rfl
theorem sums_c {a:List Int} (h:a.length=25) (hu:U64 a):sums_ a=c_ a:=by
 obtain⟨a0,a1,a2,a3,a4,a5,a6,a7,a8,a9,a10,a11,a12,a13,a14,a15,a16,a17,a18,a19,a20,a21,a22,a23,a24,rfl⟩:=zmd h
 have e0:=xr0 (hu a0 (by simp))
 have e1:=xr0 (hu a1 (by simp))
 have e2:=xr0 (hu a2 (by simp))
 have e3:=xr0 (hu a3 (by simp))
 have e4:=xr0 (hu a4 (by simp))
 have h1:sums_ [a0,a1,a2,a3,a4,a5,a6,a7,a8,a9,a10,a11,a12,a13,a14,a15,a16,a17,a18,a19,a20,a21,a22,a23,a24]=[xr (xr (xr (xr (xr 0 a0) a5) a10) a15) a20,xr (xr (xr (xr (xr 0 a1) a6) a11) a16) a21,xr (xr (xr (xr (xr 0 a2) a7) a12) a17) a22,xr (xr (xr (xr (xr 0 a3) a8) a13) a18) a23,xr (xr (xr (xr (xr 0 a4) a9) a14) a19) a24]:=by kernel_rfl
 rw [h1,e0,e1,e2,e3,e4]
 exact c_rfl a0 a1 a2 a3 a4 a5 a6 a7 a8 a9 a10 a11 a12 a13 a14 a15 a16 a17 a18 a19 a20 a21 a22 a23 a24
def movT (ls s:List Int) (i:Nat) (m:List Int):List Int:=m.set (i / 5 + 5 * ((2 * (i % 5) + 3 * (i / 5)) % 5)) (turn (xr (ls.getD i 0) (xr (s.getD ((i % 5 + 4) % 5) 0) (turn (s.getD ((i % 5 + 1) % 5) 0) 1))) (zcd.getD i 0))
theorem mov_T (a:List Int) {s:List Int} (hs:U64 s) (i:Nat) (m:List Int):zh9 a s i m=movT a s i m:=by
 unfold zh9 movT
 obtain⟨k,hk,e⟩:=sh64' i
 have h1:rot (s.getD ((i % 5 + 1) % 5) 0) 1=turn (s.getD ((i % 5 + 1) % 5) 0) 1:=znq (hs.get _) 1 (by decide)
 rw [e,h1,znq (xr_in _ _) k hk]
theorem mv_gen (T X:Int→Int→Int) (a0 a1 a2 a3 a4 a5 a6 a7 a8 a9 a10 a11 a12 a13 a14 a15 a16 a17 a18 a19 a20 a21 a22 a23 a24 c0 c1 c2 c3 c4:Int):iter (fun i m=>m.set (i / 5 + 5 * ((2 * (i % 5) + 3 * (i / 5)) % 5)) (T (X ([a0,a1,a2,a3,a4,a5,a6,a7,a8,a9,a10,a11,a12,a13,a14,a15,a16,a17,a18,a19,a20,a21,a22,a23,a24].getD i 0) (X ([c0,c1,c2,c3,c4].getD ((i % 5 + 4) % 5) 0) (T ([c0,c1,c2,c3,c4].getD ((i % 5 + 1) % 5) 0) 1))) (zcd.getD i 0))) 25 0 z25
  = iter (fun x b=>iter (fun y b=>b.set (y + 5 * ((2 * x + 3 * y) % 5)) (T ((iter (fun i a=>a.set i (X (a.getD i 0) (X ([c0,c1,c2,c3,c4].getD ((i + 4) % 5) 0) (T ([c0,c1,c2,c3,c4].getD ((i + 1) % 5) 0) 1)))) 25 0 [a0,a1,a2,a3,a4,a5,a6,a7,a8,a9,a10,a11,a12,a13,a14,a15,a16,a17,a18,a19,a20,a21,a22,a23,a24]).getD (x + 5 * y) 0) (zcd.getD (x + 5 * y) 0))) 5 0 b) 5 0 z25:=by kernel_rfl
theorem moved_b {a:List Int} (h:a.length=25) {c:List Int} (hc:c_ a=c) (hu:U64 c):zke a c=b_ (t_ a):=by
 have e:zke a c=iter (movT a c) 25 0 z25:=zie (n:=25) (fun i x _=>mov_T a hu i x) 25 0 z25 (by decide)
 have ht:t_ a=iter (tS c) 25 0 a:=by unfold t_;rw [hc]
 have hcl:c.length=5:=by rw [←hc];exact znf a
 rw [e,ht]
 clear hc e ht hu
 obtain⟨a0,a1,a2,a3,a4,a5,a6,a7,a8,a9,a10,a11,a12,a13,a14,a15,a16,a17,a18,a19,a20,a21,a22,a23,a24,rfl⟩:=zmd h
 obtain⟨c0,c1,c2,c3,c4,rfl⟩:=list5 hcl
 exact mv_gen turn xr a0 a1 a2 a3 a4 a5 a6 a7 a8 a9 a10 a11 a12 a13 a14 a15 a16 a17 a18 a19 a20 a21 a22 a23 a24 c0 c1 c2 c3 c4
def newT (m:List Int) (i:Nat) (l:List Int):List Int:=l.set i (xr (m.getD i 0) (bnd (cpl (m.getD (i - i % 5 + (i % 5 + 1) % 5) 0)) (m.getD (i - i % 5 + (i % 5 + 2) % 5) 0)))
theorem nw_rfl (b0 b1 b2 b3 b4 b5 b6 b7 b8 b9 b10 b11 b12 b13 b14 b15 b16 b17 b18 b19 b20 b21 b22 b23 b24 a0 a1 a2 a3 a4 a5 a6 a7 a8 a9 a10 a11 a12 a13 a14 a15 a16 a17 a18 a19 a20 a21 a22 a23 a24 d0 d1 d2 d3 d4 d5 d6 d7 d8 d9 d10 d11 d12 d13 d14 d15 d16 d17 d18 d19 d20 d21 d22 d23 d24:Int):iter (newT [b0,b1,b2,b3,b4,b5,b6,b7,b8,b9,b10,b11,b12,b13,b14,b15,b16,b17,b18,b19,b20,b21,b22,b23,b24]) 25 0 [a0,a1,a2,a3,a4,a5,a6,a7,a8,a9,a10,a11,a12,a13,a14,a15,a16,a17,a18,a19,a20,a21,a22,a23,a24]=h_ [b0,b1,b2,b3,b4,b5,b6,b7,b8,b9,b10,b11,b12,b13,b14,b15,b16,b17,b18,b19,b20,b21,b22,b23,b24] [d0,d1,d2,d3,d4,d5,d6,d7,d8,d9,d10,d11,d12,d13,d14,d15,d16,d17,d18,d19,d20,d21,d22,d23,d24]:=by kernel_rfl
theorem new_h {b a:List Int} (hb:b.length=25) (ha:a.length=25) {a':List Int} (ha':a'.length=25):new_ b a=h_ b a':=by
 have e:new_ b a=iter (newT b) 25 0 a:=zie (n:=25) (fun i x _=>by unfold zjq newT;rw [an_eq]) 25 0 a (by decide)
 rw [e]
 obtain⟨a0,a1,a2,a3,a4,a5,a6,a7,a8,a9,a10,a11,a12,a13,a14,a15,a16,a17,a18,a19,a20,a21,a22,a23,a24,rfl⟩:=zmd ha
 obtain⟨c0,c1,c2,c3,c4,c5,c6,c7,c8,c9,c10,c11,c12,c13,c14,c15,c16,c17,c18,c19,c20,c21,c22,c23,c24,rfl⟩:=zmd ha'
 obtain⟨b0,b1,b2,b3,b4,b5,b6,b7,b8,b9,b10,b11,b12,b13,b14,b15,b16,b17,b18,b19,b20,b21,b22,b23,b24,rfl⟩:=zmd hb
 exact nw_rfl b0 b1 b2 b3 b4 b5 b6 b7 b8 b9 b10 b11 b12 b13 b14 b15 b16 b17 b18 b19 b20 b21 b22 b23 b24 a0 a1 a2 a3 a4 a5 a6 a7 a8 a9 a10 a11 a12 a13 a14 a15 a16 a17 a18 a19 a20 a21 a22 a23 a24 c0 c1 c2 c3 c4 c5 c6 c7 c8 c9 c10 c11 c12 c13 c14 c15 c16 c17 c18 c19 c20 c21 c22 c23 c24
theorem round_eq {a:List Int} (h:a.length=25) (hu:U64 a) (r:Nat):zfl r a=zeb r a:=by
 unfold zfl zeb
 rw [sums_c h hu,moved_b h rfl (c_in hu),new_h (znv _) h ((zky a).trans h)]
theorem zql:∀ k r a,a.length=25→U64 a→iter zfl k r a=iter zeb k r a
 | 0,_,a,_,_=>show a=a from rfl
 | k + 1,r,a,h,hu=>by
  have e:=zql k (r + 1) (zfl r a) ((zh0 r a).trans h) (zll hu r)
  exact(zdo zfl k r a).trans (e.trans ((congrArg (iter zeb k (r + 1)) (round_eq h hu r)).trans (zdo zeb k r a).symm))
theorem zoc {a:List Int} (h:a.length=25) (hu:U64 a):permS a=perm a:=zql 24 0 a h hu
theorem permS_in {a:List Int} (hu:U64 a):U64 (permS a):=U64.iter (fun i x hx=>zll hx i) 24 0 a hu
theorem zl6:∀ k ys s,s.length=25→U64 s→zf4 k ys s=zih k ys s
 | 0,_,_,_,_=>rfl
 | k + 1,ys,s,h,hu=>by
  have h1:=(zhf (zdh (ys.take 136)) s).trans h
  have h2:=xors_in (zdh (ys.take 136)) hu
  show zf4 k (ys.drop 136) (permS (xors (zdh (ys.take 136)) s))=zih k (ys.drop 136) (perm (xors (zdh (ys.take 136)) s))
  exact(zl6 k (ys.drop 136) (permS (xors (zdh (ys.take 136)) s)) ((zg3 _).trans h1) (permS_in h2)).trans (congrArg (zih k (ys.drop 136)) (zoc h1 h2))
theorem kecS_kec (xs:List Int):kecS xs=kec xs:=by
 unfold kecS kec
 rw [zl6 _ _ _ rfl zpa]
def zcv.f (a0:ByteArray):Option ByteArray:=if a0.size≤2000000 then some (kec (nums_ a0)) else none
theorem zcv.calls (a0:ByteArray) (r:ByteArray) (w:World) (h:zcv.f a0=some r) :
  Calls Tryz.prog 116 #[.string a0] w fun e w'=>e=.returned (.string r)∧Below w.heap.size w w':=by
 unfold zcv.f at h
 by_cases c:a0.size≤2000000
 ·
  rw [if_pos c] at h
  obtain rfl:=Option.some.inj h
  rw [←kecS_kec]
  exact zcv.zox a0 w c
 ·
  rw [if_neg c] at h;cases h
def zau.l0:Nat→Int→List Int→Int→Option (List Int)
 | 0,_,_,_=>none
 | k + 1,x0,x5,x6=>if x6≥0 then(if 0≤(IntKind.u64.wrap (wrap64 (8 * x6))) then(if x5.length<140737488355328 then(zau.l0 k x0 (x5++[(shr .i64 x0 (IntKind.u64.wrap (wrap64 (8 * x6)))) % 256]) (wrap64 (x6 - 1))) else(none)) else(none)) else(some x5)
def zau.f (k:Nat) (a0:Int) (a1:Int):Option (List Int):=zau.l0 k a0 (([]:List Int)) (wrap64 (a1 - 1))
theorem zau.calls (k:Nat) (a0:Int) (a1:Int) (r:List Int) (w:World) (h:zau.f k a0 a1=some r) :
  Calls Tryz.prog 71 #[.int .i64 a0,.int .i64 a1] w fun e w'=>∃ v0_:Value,e=.returned (v0_)∧Kd.R (Kd.int .u8) 5 w' w.heap.size (fun _=>True) v0_ r∧Below w.heap.size w w':=by
 have HB:=am_ (Below.refl w.heap.size w)
 have H:(zau.l0 k a0 (([]:List Int)) (wrap64 (a1 - 1)))=some r:=h
 clear h
 obtain⟨y101,hy101⟩:∃ y_:List Int,y_=(([]:List Int)):=⟨_,rfl⟩
 replace H:(zau.l0 k a0 y101 (wrap64 (a1 - 1)))=some r:=by first|(rw [hy101];with_reducible exact H)|(have H2_:=(Option.bind_some _ _).symm.trans H;rw [hy101];with_reducible exact H2_)|(have H2_:=(Option.bind_some _ _).symm.trans H;with_reducible exact H2_)|with_reducible exact H|(rw [hy101];exact H)|exact H
 have Ny101:=am_ hy101
 clear hy101
 have H':=am_ H
 clear H
 go_enter Tryz.func71,Tryz.ntmps71
 go_wp2_with (first|((with_reducible refine zad (N:=7) rfl ?_);refine Kd.R_lit (Kd.int .u8) _ 5 ?hg (N:=7) ?hd (xs:=([]:List Int)) (inner:=[]) (ok:=fun _=>True) (okp:=fun _=>True) ?hr ?hp (fun _ hk=>hk) trivial (Below.refl _ _) (Nat.le_refl _) (by simp) ?_;(case hd=>rfl);(case hg=>rfl);(case hr=>first|(go_simp;done)|(go_simp;rfl));(case hp=>exact(Reps.none _ _));intro v102 w3 ho4 hb hg_ hnew_;clear hg_ hnew_;(first|rw [←Ny101.out] at ho4|(simp only [Int.reduceToNat] at ho4;rw [←Ny101.out] at ho4));replace HO103:=am_ (Kd.zcw ho4 (zaf qz2_));replace HB:=am_ (zab qz2_ hb);clear hb ho4))
 go_loopg [5,6] k (fun kq v5 v6 w'=>∃ (x5_1:List Int) (x6_1:Int),v6=.int .i64 x6_1∧zal (zau.l0 kq a0 x5_1 x6_1=some r)∧zal (kq≤k)∧zal (Kd.R (Kd.int .u8) 5 w' w.heap.size (fun _=>True) v5 x5_1)∧zal (Below w.heap.size w w'))
 case atStart=>exact⟨(y101),(wrap64 (a1 - 1)),qz0_,H',⟨Nat.le_refl _⟩,⟨qz11_⟩,⟨qz2_⟩⟩
 case round=>
  clear H'
  try clear p2
  obtain⟨x5_1,x6_1,rfl,HA,HK1,HO_5,HB⟩:=hrel
  cases gk with
  | zero=>exact absurd HA.out (by simp [zau.l0])
  | succ k1=>
   have H:=HA.out
   clear HA
   simp only [zau.l0] at H
   by_cases c5:x6_1≥0
   ·
    rw [if_pos c5] at H
    have c5b0:decide (0≤x6_1)=true:=decide_eq_true c5
    clear c5
    obtain⟨ji6,hji6⟩:∃ j_:Int,(IntKind.u64.wrap (wrap64 (8 * x6_1)))=j_:=⟨_,rfl⟩
    replace H:(if 0≤(ji6) then(if x5_1.length<140737488355328 then(zau.l0 k1 a0 (x5_1++[(shr .i64 a0 (ji6)) % 256]) (wrap64 (x6_1 - 1))) else(none)) else(none))=some r:=by first|(rw [hji6] at H;exact H)|(simp only [hji6] at H ⊢;exact H)
    by_cases c7:0≤(ji6)
    ·
     rw [if_pos c7] at H
     have c7b0:=eq_true c7
     have c7b1:decide (0≤(ji6))=true:=decide_eq_true c7
     clear c7
     obtain⟨ji8,hji8⟩:∃ j_:Int,(shr .i64 a0 (ji6))=j_:=⟨_,rfl⟩
     replace H:(if x5_1.length<140737488355328 then(zau.l0 k1 a0 (x5_1++[(ji8) % 256]) (wrap64 (x6_1 - 1))) else(none))=some r:=by first|(rw [hji8] at H;exact H)|(simp only [hji8] at H ⊢;exact H)
     have hji8_:(a0 / 2 ^ min (ji6).toNat 64)=ji8:=hji8
     have hji8z:(ji6)≤64→(a0 / 2 ^ (ji6).toNat)=ji8:=zjv hji8
     by_cases c9:x5_1.length<140737488355328
     ·
      rw [if_pos c9] at H
      have LMc9:=am_ c9
      clear c9
      obtain⟨y104,hy104⟩:∃ y_:List Int,y_=(x5_1++[(ji8) % 256]):=⟨_,rfl⟩
      replace H:(zau.l0 k1 a0 y104 (wrap64 (x6_1 - 1)))=some r:=by first|(rw [hy104];with_reducible exact H)|(have H2_:=(Option.bind_some _ _).symm.trans H;rw [hy104];with_reducible exact H2_)|(have H2_:=(Option.bind_some _ _).symm.trans H;with_reducible exact H2_)|with_reducible exact H|(rw [hy104];exact H)|exact H
      have Ny104:=am_ hy104
      clear hy104
      have H':=am_ H
      clear H
      go_wp2_with (first|((with_reducible refine zb5 (b:=.append) (xs:=#[.tmp 14,.tmp 21]) rfl ?_);at_builtin;refine Kd.zev (Kd.int .u8) (w0:=w) w.heap.size rfl (.tmp 14) (.tmp 21) 101 5 (.int .u8 0) 1 rfl Tryz.underlying101 info5 rfl (by decide) (by omega) u5 x5_1 ((ji8) % 256) [.int .u8 ((ji8) % 256)] (fun _=>True) (fun _=>False) rfl rfl ?aP (fun _ hk=>hk.elim) ?aF ?aO ?aB ?aS ?aL ?_;(case aP=>exact rfl);(case aB=>exact qz2_);(case aF=>exact(fun _ _=>trivial));(case aO=>exact qz22_);(case aS=>exact(zaf qz2_));(case aL=>have:=LMc9.out;omega);intro v105 w10 ho hb hg hat;rw [←Ny104.out] at ho;replace HB:=am_ (hb);replace HO106:=am_ (ho);clear HO_5;clear ho hb hg hat))
      go_roundg k1
      case measure=>have:=HK1.out;omega
      case rel=>exact⟨(y104),(wrap64 (x6_1 - 1)),qz0_,H',⟨qz13_⟩,⟨(by(with_reducible repeat(first|apply Kd.zbm|apply Kd.zbl|apply Kd.zbt));exact HO106.out)⟩,⟨qz2_⟩⟩
     ·
      rw [if_neg c9] at H
      exact absurd H (by simp)
    ·
     rw [if_neg c7] at H
     exact absurd H (by simp)
   ·
    rw [if_neg c5] at H
    have c5b0:decide (0≤x6_1)=false:=decide_eq_false c5
    clear c5
    obtain rfl:=Option.some.inj H
    go_wp2
    go_ret
    exact⟨_,qz4_,qz22_,qz2_⟩
end Go.Proofs.YtgookagndlfehaaGreat.PT
end
section
namespace Go.Proofs.YtgookagndlfehaaGreat.PT
open Go.RowKit Go.Proofs.YtgookagndlfehaaGreatW.PrintWords Go.Proofs.YtgookagndlfehaaGreatW.PrintLast Go.Proofs.YtgookagndlfehaaGreatW.PrintMore
attribute [local go_sem] zez zey zfh zff zed zd9 zex zew   -- for this text's walks alone
set_option linter.unusedVariables false
set_option linter.unusedSimpArgs false
def zb6.f (k:Nat) (l0_0:List (S32)) (a0_1:Int) (a0_2:ByteArray) (a0_3:Int) (a1:ByteArray):Option ((List (S32)) × Int × ByteArray × Int):=if a0_2.size + 6≤9223372036854775807 then((zau.f k (a1.size:Int) 4).bind fun t103=>(if (a0_2++(⟨#[97,98,115,111,114,98]⟩:ByteArray)).size + (strOfNums t103).size≤9223372036854775807 then(if ((a0_2++(⟨#[97,98,115,111,114,98]⟩:ByteArray))++(strOfNums t103)).size + a1.size≤9223372036854775807 then((zcv.f (((a0_2++(⟨#[97,98,115,111,114,98]⟩:ByteArray))++(strOfNums t103))++a1)).bind fun t106=>(some (l0_0,a0_1,t106,0))) else(none)) else(none))) else(none)
def zb6.T1:Bool × List (List Nat × List Nat):=(true,[([],[]),([0],[0]),([1],[1]),([],[]),([3],[3]),([4],[4]),([5],[5]),([2,6],[2,6]),([],[]),([7,8],[7,8]),([9,5],[9]),([0,1,2,3,4,5,6,7,8,9,10],[]),([11,10,10,0,1,2,3,4,5,6,7,8,9,10],[10,11])])
def zb6.B1:List Nat:=[0,1,3,0,8,24,56,127,0,511,1023,2047,4095]
theorem zb6.tab1:rtab .any (opsOf Tryz.f69 1)=zb6.T1:=by kernel_rfl
theorem zb6.bits1:zcu zb6.T1.2 zb6.B1=true:=by kernel_rfl
theorem zb6.calls (k:Nat) (P0_0_:Nat→Prop) (u9000_:Value) (l0_0:List (S32)) (a0_1:Int) (a0_2:ByteArray) (a0_3:Int) (a1:ByteArray) (r1:List (S32)) (r2:Int) (r3:ByteArray) (r4:Int) (w0 w:World) (hB:Below w0.heap.size w0 w) (ho0_0:Kd.R k32 32 w w0.heap.size P0_0_ u9000_ l0_0) (h:zb6.f k l0_0 a0_1 a0_2 a0_3 a1=some (r1,r2,r3,r4)) :
  Calls Tryz.prog 69 #[.agg #[u9000_,.int .i64 a0_1,.string a0_2,.int .i64 a0_3],.string a1] w fun e w'=>∃ v0_:Value,e=.returned (.agg #[v0_,.int .i64 r2,.string r3,.int .i64 r4])∧Kd.R k32 32 w' w0.heap.size (fun k_=>(P0_0_ k_∨w.heap.size≤k_)) v0_ r1∧Below w0.heap.size w0 w'∧Kept w w' (fun k_=>P0_0_ k_):=by
 have hu38:=Tryz.underlying38
 have HO0_0:=am_ (show Kd.R k32 32 w w0.heap.size (fun k_=>(P0_0_ k_∨w.heap.size≤k_)) u9000_ l0_0 from Kd.zba ho0_0 (fun k_ hk=>(.inl hk)))
 have HK:=am_ (Kept.refl w (fun k_=>P0_0_ k_))
 have HW0:=am_ hB.size
 have HB:=am_ hB
 clear hB
 have H:(if a0_2.size + 6≤9223372036854775807 then((zau.f k (a1.size:Int) 4).bind fun t103=>(if (a0_2++(⟨#[97,98,115,111,114,98]⟩:ByteArray)).size + (strOfNums t103).size≤9223372036854775807 then(if ((a0_2++(⟨#[97,98,115,111,114,98]⟩:ByteArray))++(strOfNums t103)).size + a1.size≤9223372036854775807 then((zcv.f (((a0_2++(⟨#[97,98,115,111,114,98]⟩:ByteArray))++(strOfNums t103))++a1)).bind fun t106=>(some (l0_0,a0_1,t106,0))) else(none)) else(none))) else(none))=some (r1,r2,r3,r4):=h
 clear h
 by_cases c3:a0_2.size + 6≤9223372036854775807
 ·
  rw [if_pos c3] at H
  have c3b0:=eq_true c3
  have c3b1:decide (a0_2.size + 6≤9223372036854775807)=true:=decide_eq_true c3
  try have c3b2:(9223372036854775807<a0_2.size + 6)=False:=eq_false (Nat.not_lt.2 c3)
  replace H:=Option.bind_eq_some_iff.mp H
  obtain⟨t103,A40,H⟩:=H
  replace H:(if (a0_2++(⟨#[97,98,115,111,114,98]⟩:ByteArray)).size + (strOfNums t103).size≤9223372036854775807 then(if ((a0_2++(⟨#[97,98,115,111,114,98]⟩:ByteArray))++(strOfNums t103)).size + a1.size≤9223372036854775807 then((zcv.f (((a0_2++(⟨#[97,98,115,111,114,98]⟩:ByteArray))++(strOfNums t103))++a1)).bind fun t106=>(some (l0_0,a0_1,t106,0))) else(none)) else(none))=some (r1,r2,r3,r4):=H
  have A4:=am_ A40
  clear A40
  by_cases c5:(a0_2++(⟨#[97,98,115,111,114,98]⟩:ByteArray)).size + (strOfNums t103).size≤9223372036854775807
  ·
   rw [if_pos c5] at H
   have c5b0:=eq_true c5
   have c5b1:decide ((a0_2++(⟨#[97,98,115,111,114,98]⟩:ByteArray)).size + (strOfNums t103).size≤9223372036854775807)=true:=decide_eq_true c5
   try have c5b2:(9223372036854775807<(a0_2++(⟨#[97,98,115,111,114,98]⟩:ByteArray)).size + (strOfNums t103).size)=False:=eq_false (Nat.not_lt.2 c5)
   try have c5b3:(9223372036854775807<a0_2.size + 6 + (strOfNums t103).size)=False:=eq_false (Nat.not_lt.2 (by have h_:=c5;simp only [ByteArray.size_append] at h_;exact h_))
   by_cases c6:((a0_2++(⟨#[97,98,115,111,114,98]⟩:ByteArray))++(strOfNums t103)).size + a1.size≤9223372036854775807
   ·
    rw [if_pos c6] at H
    have c6b0:=eq_true c6
    have c6b1:decide (((a0_2++(⟨#[97,98,115,111,114,98]⟩:ByteArray))++(strOfNums t103)).size + a1.size≤9223372036854775807)=true:=decide_eq_true c6
    try have c6b2:(9223372036854775807<((a0_2++(⟨#[97,98,115,111,114,98]⟩:ByteArray))++(strOfNums t103)).size + a1.size)=False:=eq_false (Nat.not_lt.2 c6)
    try have c6b3:(9223372036854775807<a0_2.size + 6 + (strOfNums t103).size + a1.size)=False:=eq_false (Nat.not_lt.2 (by have h_:=c6;simp only [ByteArray.size_append] at h_;exact h_))
    replace H:=Option.bind_eq_some_iff.mp H
    obtain⟨t106,A70,H⟩:=H
    replace H:(some (l0_0,a0_1,t106,0))=some (r1,r2,r3,r4):=H
    have A7:=am_ A70
    clear A70
    simp only [Option.some.injEq,Prod.mk.injEq] at H
    obtain⟨rfl,rfl,rfl,rfl⟩:=H
    obtain⟨Ao8,co8,eo8⟩:=Kd.zcb HO0_0.out
    subst eo8
    go_enter Tryz.func69,Tryz.ntmps69
    try go_wp2_with (first|((with_reducible refine zad (N:=2) rfl ?_);refine zaj rfl (N:=2) rfl (cs:=#[.slice Ao8 l0_0.length co8,.int .i64 a0_1,.string a0_2,.int .i64 a0_3]) (t:=38) bx_ ?_;intro gb101 hg w9 hbox hb;replace HO0_0:=am_ (Kd.zct qz16_ hb);replace BK101:=am_ (hbox);replace GW101:=am_ ((by rw [hg];exact qz17_:w.heap.size≤gb101));replace HK:=am_ (Kept.below (S:=(fun k_=>P0_0_ k_)) qz15_ hb);replace GE101:=am_ ((by rw [hg];exact(zaf qz2_):w0.heap.size≤gb101));replace HB:=am_ (zab qz2_ hb);clear hb hbox hg)|((with_reducible refine zad (N:=4) rfl ?_);refine zaj rfl (N:=4) rfl (cs:=#[.slice none 0 0,.int .i64 0,.string (⟨#[]⟩:ByteArray),.int .i64 0]) (t:=38) bx_ ?_;intro gb102 hg w10 hbox hb;replace HO0_0:=am_ (Kd.zct qz16_ hb);replace BK102:=am_ (hbox);replace GW102:=am_ ((by rw [hg];exact qz42_:w.heap.size≤gb102));replace HK:=am_ (Kept.below (S:=(fun k_=>P0_0_ k_)) qz18_ hb);replace GE102:=am_ ((by rw [hg];exact(zaf qz5_):w0.heap.size≤gb102));replace HB:=am_ (zab qz5_ hb);replace NB101_102:=am_ ((by rw [hg];exact Nat.ne_of_lt (zar (g:=gb101) (o:=.cells #[.slice Ao8 l0_0.length co8,.int .i64 a0_1,.string a0_2,.int .i64 a0_3] 38 (0,0)) qz6_):gb101≠gb102));replace NB102_101:=am_ ((by rw [hg];exact Nat.ne_of_gt (zar (g:=gb101) (o:=.cells #[.slice Ao8 l0_0.length co8,.int .i64 a0_1,.string a0_2,.int .i64 a0_3] 38 (0,0)) qz6_):gb102≠gb101));replace BK101:=am_ (zak (g:=gb101) (o:=.cells #[.slice Ao8 l0_0.length co8,.int .i64 a0_1,.string a0_2,.int .i64 a0_3] 38 (0,0)) qz6_ hb);clear hb hbox hg))
    replace HO0_0:=am_ (Kd.zbt HO0_0.out)
    replace BK101:=am_ (zae BK101.out)
    replace BK102:=am_ (zae BK102.out)
    replace HK:=am_ (Kept.drew HK.out)
    replace HB:=am_ (zao HB.out)
    refine zcn (n:=13) (S:=fun w'=>w'.cell? ⟨gb101,0,none⟩=some (.slice Ao8 l0_0.length co8)∧w'.cell? ⟨gb101,1,none⟩=some (.int .i64 a0_1)∧w'.cell? ⟨gb101,2,none⟩=some (.string a0_2)∧w'.cell? ⟨gb101,3,none⟩=some (.int .i64 a0_3)) (ds:=[12]) (bs_ 13 0) (by kernel_rfl) rfl rfl ⟨(zaa BK101.out 0).trans rfl,(zaa BK101.out 1).trans rfl,(zaa BK101.out 2).trans rfl,(zaa BK101.out 3).trans rfl⟩ (fun hHeld=>?_);refine zcj zb6.tab1 zb6.bits1 (fun HT_ HW_=>?_)
    generalize w10.drew=w11 at HO0_0 BK101 BK102 HK HB hHeld ⊢
    refine pt_ HT_.out 0 5 (bs_ 13 1) ?_
    refine pt_ HT_.out 3 8 (bs_ 13 9) ?_
    refine pt_ HT_.out 4 9 (bs_ 13 25) ?_
    refine pt_ HT_.out 8 13 (bs_ 13 281) ?_
    refine tt_ HT_ HW_ 1 (bs_ 13 283) hHeld ?_
    refine pt_ HT_.out 2 7 (bs_ 13 287) ?_
    refine ot_ HT_ 5 (some 10) (bs_ 13 319) (fun K hK=>?_)
    refine go_ Tryz.func71 #[.int .i64 (a1.size:Int),.int .i64 4] ?_
    with_reducible refine(zau.calls k (a1.size:Int) 4 t103 _ A4.out).mono ?_
    rintro e w12 ⟨v104,rfl,ho0,hb⟩
    refine⟨_,rfl,?_⟩
    replace HO0_0:=am_ (Kd.zct qz16_ hb)
    replace HO105:=am_ (Kd.zcw (Kd.zn3 (M:=fun k_=>(P0_0_ k_∨w.heap.size≤k_)) ho0 qz43_ (fun k_ h_=>.inr h_)) (zaf qz8_))
    replace BK101:=am_ (zak (g:=gb101) (o:=.cells #[.slice Ao8 l0_0.length co8,.int .i64 a0_1,.string a0_2,.int .i64 a0_3] 38 (0,0)) qz6_ hb)
    replace BK102:=am_ (zak (g:=gb102) (o:=.cells #[.slice none 0 0,.int .i64 0,.string (⟨#[]⟩:ByteArray),.int .i64 0] 38 (0,0)) qz7_ hb)
    replace HK:=am_ (Kept.below (S:=(fun k_=>P0_0_ k_)) qz44_ hb)
    replace HB:=am_ (zab qz8_ hb)
    (try clear hb)
    (try clear hb2)
    (try clear hk)
    (try clear hi)
    (try clear ho0)
    refine hK.out _ _ ⟨(zaa BK101.out 0).trans rfl,(zaa BK101.out 1).trans rfl,(zaa BK101.out 2).trans rfl,(zaa BK101.out 3).trans rfl⟩ (fun hHeld=>?_)
    clear hK K
    refine nm_ 10 ?_
    refine ot_ HT_ 6 (some 11) (bs_ 13 383) (fun K hK=>?_)
    have hcv13:=zh7 (P:=Tryz.prog) Tryz.underlying101 Tryz.underlying5 Tryz.underlying9 (Kd.zh4 HO105.out)
    refine zbg (w1:=?_) (v:=?_) (by rfl) rfl ?_ ?_
    rotate_left 2
    ·
     go_simp
     constructor
     ·
      rfl
     ·
      rfl
    clear hcv13
    refine hK.out _ _ ⟨(zaa BK101.out 0).trans rfl,(zaa BK101.out 1).trans rfl,(zaa BK101.out 2).trans rfl,(zaa BK101.out 3).trans rfl⟩ (fun hHeld=>?_)
    clear hK K
    refine nm_ 11 ?_
    refine pt_ HT_.out 7 12 (bs_ 13 511) ?_
    refine pt_ HT_.out 9 14 (bs_ 13 1023) ?_
    refine ot_ HT_ 10 (some 15) (bs_ 13 2047) (fun K hK=>?_)
    refine go_ Tryz.func116 #[.string (((a0_2++(⟨#[97,98,115,111,114,98]⟩:ByteArray))++(strOfNums t103))++a1)] ?_
    with_reducible refine(zcv.calls (((a0_2++(⟨#[97,98,115,111,114,98]⟩:ByteArray))++(strOfNums t103))++a1) t106 _ A7.out).mono ?_
    rintro e w14 ⟨rfl,hb⟩
    refine⟨_,rfl,?_⟩
    replace HO0_0:=am_ (Kd.zct qz16_ hb)
    replace HO105:=am_ (Kd.zct (by(with_reducible repeat(first|apply Kd.zbm|apply Kd.zbl|apply Kd.zbt));exact HO105.out) hb)
    replace BK101:=am_ (zak (g:=gb101) (o:=.cells #[.slice Ao8 l0_0.length co8,.int .i64 a0_1,.string a0_2,.int .i64 a0_3] 38 (0,0)) qz6_ hb)
    replace BK102:=am_ (zak (g:=gb102) (o:=.cells #[.slice none 0 0,.int .i64 0,.string (⟨#[]⟩:ByteArray),.int .i64 0] 38 (0,0)) qz7_ hb)
    replace HK:=am_ (Kept.below (S:=(fun k_=>P0_0_ k_)) qz44_ hb)
    replace HB:=am_ (zab qz8_ hb)
    (try clear hb)
    (try clear hb2)
    (try clear hk)
    (try clear hi)
    refine hK.out _ _ ⟨(zaa BK101.out 0).trans rfl,(zaa BK101.out 1).trans rfl,(zaa BK101.out 2).trans rfl,(zaa BK101.out 3).trans rfl⟩ (fun hHeld=>?_)
    clear hK K
    refine nm_ 15 ?_
    refine pt_ HT_.out 11 16 (bs_ 13 4095) ?_
    refine last_ (i:=12) (N:=none) (bs_ 13 8191) rfl rfl (one_of HT_.out (by kernel_rfl)) (by decide) (fun K hK=>?_)
    obtain⟨hs15,hfs15⟩:=bi_ BK101.out 2
    have hns15_1:=NB102_101.out
    have hms15_1:=NB101_102.out
    refine skip_ (w1:=?_) (by rfl) rfl ?_ ?_
    rotate_left
    ·
     go_simp
     rfl
    refine hK.out _ _ ?_
    clear hK K
    refine done_ (zdr HT_.out (by kernel_rfl)) ?_
    have hnb16:=NB101_102.out
    have hnc16:=NB102_101.out
    obtain⟨hcz17_0,hcz17_1,hcz17_2,hcz17_3,hfz17_0,hfz17_1,hfz17_2,hfz17_3⟩:=bf4_ BK101.out
    obtain⟨hcz18_0,hcz18_1,hcz18_2,hcz18_3,hfz18_0,hfz18_1,hfz18_2,hfz18_3⟩:=bf4_ BK102.out
    try go_wp2
    refine bodyPost_ret (results_cell_row rfl _ _ gb102 38 #[.slice Ao8 l0_0.length co8,.int .i64 a0_1,.string t106,.int .i64 0] (0,0) _ rfl (by(with_reducible repeat(first|refine zah ?_ _|refine zae ?_|refine zai ?_ _));refine za9 (cs:=#[.slice Ao8 l0_0.length co8,.int .i64 a0_1,.string t106,.int .i64 0]) ?_ 3 _ rfl;(with_reducible repeat(first|refine zah ?_ _|refine zae ?_|refine zai ?_ _));refine za9 (cs:=#[.slice Ao8 l0_0.length co8,.int .i64 a0_1,.string (⟨#[]⟩:ByteArray),.int .i64 0]) ?_ 2 _ rfl;(with_reducible repeat(first|refine zah ?_ _|refine zae ?_|refine zai ?_ _));refine za9 (cs:=#[.slice Ao8 l0_0.length co8,.int .i64 0,.string (⟨#[]⟩:ByteArray),.int .i64 0]) ?_ 1 _ rfl;(with_reducible repeat(first|refine zah ?_ _|refine zae ?_|refine zai ?_ _));refine za9 (cs:=#[.slice none 0 0,.int .i64 0,.string (⟨#[]⟩:ByteArray),.int .i64 0]) ?_ 0 _ rfl;(with_reducible repeat(first|refine zah ?_ _|refine zae ?_|refine zai ?_ _));refine zb8 ?_ NB102_101.out _;(with_reducible repeat(first|refine zah ?_ _|refine zae ?_|refine zai ?_ _));refine zb8 ?_ NB102_101.out _;(with_reducible repeat(first|refine zah ?_ _|refine zae ?_|refine zai ?_ _));exact BK102.out) Tryz.underlying38 rfl (by kernel_rfl)) rfl ?_
    exact⟨_,by first|rfl|(simp [zc9,zda] <;> rfl)|(simp [*,zc9,zda] <;> rfl),by(with_reducible repeat(first|apply Kd.zbm|apply Kd.zbl|apply Kd.zbt));exact Kd.zba (Kd.R_far (p:=⟨gb102,3,none⟩) (Kd.R_far (p:=⟨gb102,2,none⟩) (Kd.R_far (p:=⟨gb102,1,none⟩) (Kd.R_far (p:=⟨gb102,0,none⟩) (Kd.R_far (p:=⟨gb101,3,none⟩) (Kd.R_far (p:=⟨gb101,2,none⟩) (Kd.zeq (Kd.zeq HO0_0.out BK101.out (by decide)) BK102.out (by decide)) (fun _ hk=>hk.1.2) (.string t106)) (fun _ hk=>hk.1.2) (.int .i64 0)) (fun _ hk=>hk.2) (.slice Ao8 l0_0.length co8)) (fun _ hk=>hk.2) (.int .i64 a0_1)) (fun _ hk=>hk.2) (.string t106)) (fun _ hk=>hk.2) (.int .i64 0)) (fun _ hk=>hk.1.1),by repeat(first|(with_reducible first|exact HB.out|apply za5|apply zaw|apply zao|refine za6 ?_ GE101.out|refine za6 ?_ GE102.out)|exact HB.out),by repeat(first|(with_reducible first|exact HK.out|apply Kept.alloc|apply Kept.drewN|apply Kept.drew|refine Kept.setCell ?_ (.inr GW101.out) _|refine Kept.setCell ?_ (.inr GW102.out) _)|exact HK.out)⟩
   ·
    rw [if_neg c6] at H
    exact absurd H (by simp)
  ·
   rw [if_neg c5] at H
   exact absurd H (by simp)
 ·
  rw [if_neg c3] at H
  exact absurd H (by simp)
def za0.l0:Nat→List (S32)→List Int→Int→Option (List Int)
 | 0,_,_,_=>none
 | k + 1,x0,x3,x4=>if x4<(x0.length:Int) then(if 0≤x4 then((zau.f k ((zac x0 x4).f0) 4).bind fun t105=>(if x3.length + t105.length<140737488355328 then((some (x3++t105:List Int)).bind fun y108=>((zau.f k ((zac x0 x4).f1) 4).bind fun t112=>(if y108.length + t112.length<140737488355328 then(za0.l0 k x0 (y108++t112) (wrap64 (x4 + 1))) else(none)))) else(none))) else(none)) else(some x3)
def za0.f (k:Nat) (l0:List (S32)):Option (List Int):=za0.l0 k l0 (([]:List Int)) 0
def za0.T5:Bool × List (List Nat × List Nat):=(true,[([],[]),([],[]),([],[]),([1,2],[1,2]),([3],[3]),([4],[4]),([5],[5]),([0,6,6],[0,6]),([],[]),([],[]),([8,9],[8,9]),([10],[10]),([11],[11]),([12,7],[12]),([7,13,13],[7,13]),([14,14,0,1,2,3,4,5,6,7,8,9,10,11,12,13,14],[0,14])])
def za0.B5:List Nat:=[0,0,0,6,14,30,62,127,0,0,768,1792,3840,8191,16383,32767]
theorem za0.tab5:rtab .any (opsOf Tryz.f115 5)=za0.T5:=by kernel_rfl
theorem za0.bits5:zcu za0.T5.2 za0.B5=true:=by kernel_rfl
theorem za0.calls (k:Nat) (A0:Option Addr) (c0:Nat) (l0:List (S32)) (r:List Int) (w:World) (hr0:Kd.C k32 w A0 l0.length l0) (hc0:l0.length≤c0) (h:za0.f k l0=some r) :
  Calls Tryz.prog 115 #[.slice A0 l0.length c0] w fun e w'=>∃ v0_:Value,e=.returned (v0_)∧Kd.R (Kd.int .u8) 5 w' w.heap.size (fun _=>True) v0_ r∧Below w.heap.size w w':=by
 have HR0:=am_ hr0
 have HC0:=am_ hc0
 clear hr0 hc0
 have HB:=am_ (Below.refl w.heap.size w)
 have H:(za0.l0 k l0 (([]:List Int)) 0)=some r:=h
 clear h
 obtain⟨y101,hy101⟩:∃ y_:List Int,y_=(([]:List Int)):=⟨_,rfl⟩
 replace H:(za0.l0 k l0 y101 0)=some r:=by first|(rw [hy101];with_reducible exact H)|(have H2_:=(Option.bind_some _ _).symm.trans H;rw [hy101];with_reducible exact H2_)|(have H2_:=(Option.bind_some _ _).symm.trans H;with_reducible exact H2_)|with_reducible exact H|(rw [hy101];exact H)|exact H
 have Ny101:=am_ hy101
 clear hy101
 have H':=am_ H
 clear H
 go_enter Tryz.func115,Tryz.ntmps115
 go_wp2_with (first|((with_reducible refine zad (N:=5) rfl ?_);refine Kd.R_lit (Kd.int .u8) _ 5 ?hg (N:=5) ?hd (xs:=([]:List Int)) (inner:=[]) (ok:=fun _=>True) (okp:=fun _=>True) ?hr ?hp (fun _ hk=>hk) trivial (Below.refl _ _) (Nat.le_refl _) (by simp) ?_;(case hd=>rfl);(case hg=>rfl);(case hr=>first|(go_simp;done)|(go_simp;rfl));(case hp=>exact(Reps.none _ _));intro v102 w2 ho3 hb hg_ hnew_;clear hg_ hnew_;(first|rw [←Ny101.out] at ho3|(simp only [Int.reduceToNat] at ho3;rw [←Ny101.out] at ho3));replace HO103:=am_ (Kd.zcw ho3 (zaf qz2_));replace HB:=am_ (zab qz2_ hb);clear hb ho3))
 go_loopg [3,4] k (fun kq v3 v4 w'=>∃ (x3_1:List Int) (x4_1:Int),v4=.int .i64 x4_1∧zal (za0.l0 kq l0 x3_1 x4_1=some r)∧zal (kq≤k)∧zal (Kd.R (Kd.int .u8) 5 w' w.heap.size (fun _=>True) v3 x3_1)∧zal (Below w.heap.size w w'))
 case atStart=>exact⟨(y101),(0),qz0_,H',⟨Nat.le_refl _⟩,⟨qz11_⟩,⟨qz2_⟩⟩
 case round=>
  clear H'
  try clear c1
  try clear p2
  obtain⟨x3_1,x4_1,rfl,HA,HK1,HO_3,HB⟩:=hrel
  cases gk with
  | zero=>exact absurd HA.out (by simp [za0.l0])
  | succ k1=>
   have H:=HA.out
   clear HA
   simp only [za0.l0] at H
   by_cases c4:x4_1<(l0.length:Int)
   ·
    rw [if_pos c4] at H
    have c4b0:decide (x4_1<(l0.length:Int))=true:=decide_eq_true c4
    clear c4
    by_cases c5:0≤x4_1
    ·
     rw [if_pos c5] at H
     have c5b0:decide (0≤x4_1)=true:=decide_eq_true c5
     clear c5
     replace H:=Option.bind_eq_some_iff.mp H
     obtain⟨t105,A60,H⟩:=H
     replace H:(if x3_1.length + t105.length<140737488355328 then((some (x3_1++t105:List Int)).bind fun y108=>((zau.f k1 ((zac l0 x4_1).f1) 4).bind fun t112=>(if y108.length + t112.length<140737488355328 then(za0.l0 k1 l0 (y108++t112) (wrap64 (x4_1 + 1))) else(none)))) else(none))=some r:=H
     have A6:=am_ A60
     clear A60
     by_cases c7:x3_1.length + t105.length<140737488355328
     ·
      rw [if_pos c7] at H
      have LMc7:=am_ c7
      clear c7
      obtain⟨y108,hy108⟩:∃ y_:List Int,y_=(x3_1++t105):=⟨_,rfl⟩
      replace H:((zau.f k1 ((zac l0 x4_1).f1) 4).bind fun t112=>(if y108.length + t112.length<140737488355328 then(za0.l0 k1 l0 (y108++t112) (wrap64 (x4_1 + 1))) else(none)))=some r:=by first|(rw [hy108];with_reducible exact H)|(have H2_:=(Option.bind_some _ _).symm.trans H;rw [hy108];with_reducible exact H2_)|(have H2_:=(Option.bind_some _ _).symm.trans H;with_reducible exact H2_)|with_reducible exact H|(rw [hy108];exact H)|exact H
      have Ny108:=am_ hy108
      clear hy108
      replace H:=Option.bind_eq_some_iff.mp H
      obtain⟨t112,A80,H⟩:=H
      replace H:(if y108.length + t112.length<140737488355328 then(za0.l0 k1 l0 (y108++t112) (wrap64 (x4_1 + 1))) else(none))=some r:=H
      have A8:=am_ A80
      clear A80
      by_cases c9:y108.length + t112.length<140737488355328
      ·
       rw [if_pos c9] at H
       have LMc9:=am_ c9
       clear c9
       obtain⟨y115,hy115⟩:∃ y_:List Int,y_=(y108++t112):=⟨_,rfl⟩
       replace H:(za0.l0 k1 l0 y115 (wrap64 (x4_1 + 1)))=some r:=by first|(rw [hy115];with_reducible exact H)|(have H2_:=(Option.bind_some _ _).symm.trans H;rw [hy115];with_reducible exact H2_)|(have H2_:=(Option.bind_some _ _).symm.trans H;with_reducible exact H2_)|with_reducible exact H|(rw [hy115];exact H)|exact H
       have Ny115:=am_ hy115
       clear hy115
       have H':=am_ H
       clear H
       try go_wp2
       replace HO_3:=am_ (Kd.zbt HO_3.out)
       replace HB:=am_ (zao HB.out)
       have p104:0≤(x4_1:Int):=of_decide_eq_true qz10_
       have q104:x4_1<(l0.length:Int):=of_decide_eq_true qz10_
       obtain⟨ad104,e104,hx104_0,hx104_1⟩:=zdf HR0.out x4_1 p104 q104
       have hw104_1:=hx104_1
       have hw104_0:=hx104_0
       cases e104
       replace hx104_0:=(HB.out.cell (World.block_lt_of_cell? w _ hx104_0)).trans hx104_0
       replace hx104_1:=(HB.out.cell (World.block_lt_of_cell? w _ hx104_1)).trans hx104_1
       replace p104:=eq_true p104
       replace q104:=eq_true q104
       have p111:0≤(x4_1:Int):=of_decide_eq_true qz10_
       have q111:x4_1<(l0.length:Int):=of_decide_eq_true qz10_
       obtain⟨ad111,e111,hx111_0,hx111_1⟩:=zdf HR0.out x4_1 p111 q111
       have hw111_1:=hx111_1
       have hw111_0:=hx111_0
       obtain rfl:ad104=ad111:=(by injection e111)
       replace hx111_0:=(HB.out.cell (World.block_lt_of_cell? w _ hx111_0)).trans hx111_0
       replace hx111_1:=(HB.out.cell (World.block_lt_of_cell? w _ hx111_1)).trans hx111_1
       replace p111:=eq_true p111
       replace q111:=eq_true q111
       refine zcn (n:=16) (S:=fun w'=>w'.cell? (ad104.add ((x4_1).toNat * 2))=some (.int .i64 ((zac l0 x4_1).f0))∧w'.cell? ⟨(ad104.add ((x4_1).toNat * 2)).block,(ad104.add ((x4_1).toNat * 2)).off + 1,none⟩=some (.int .i64 ((zac l0 x4_1).f1))∧w'.cell? (ad104.add ((x4_1).toNat * 2))=some (.int .i64 ((zac l0 x4_1).f0))∧w'.cell? ⟨(ad104.add ((x4_1).toNat * 2)).block,(ad104.add ((x4_1).toNat * 2)).off + 1,none⟩=some (.int .i64 ((zac l0 x4_1).f1))) (ds:=[]) (bs_ 16 0) (by kernel_rfl) rfl rfl ⟨((HB.out.cell (World.block_lt_of_cell? w _ hw104_0)).trans hw104_0),((HB.out.cell (World.block_lt_of_cell? w _ hw104_1)).trans hw104_1),((HB.out.cell (World.block_lt_of_cell? w _ hw111_0)).trans hw111_0),((HB.out.cell (World.block_lt_of_cell? w _ hw111_1)).trans hw111_1)⟩ (fun hHeld=>?_);refine zcj za0.tab5 za0.bits5 (fun HT_ HW_=>?_)
       generalize wr.drew=w10 at HO_3 HB hx104_0 hx104_1 hx111_0 hx111_1 hHeld ⊢
       refine pt_ HT_.out 0 12 (bs_ 16 1) ?_
       refine pt_ HT_.out 1 13 (bs_ 16 3) ?_
       refine pt_ HT_.out 2 14 (bs_ 16 7) ?_
       refine pt_ HT_.out 3 15 (bs_ 16 15) ?_
       refine pt_ HT_.out 4 16 (bs_ 16 31) ?_
       refine pt_ HT_.out 8 20 (bs_ 16 287) ?_
       refine pt_ HT_.out 9 21 (bs_ 16 799) ?_
       refine pt_ HT_.out 10 22 (bs_ 16 1823) ?_
       refine pt_ HT_.out 11 23 (bs_ 16 3871) ?_
       refine tt_ HT_ HW_ 5 (bs_ 16 3903) hHeld ?_
       refine tt_ HT_ HW_ 12 (bs_ 16 7999) hHeld ?_
       refine ot_ HT_ 6 (some 18) (bs_ 16 8063) (fun K hK=>?_)
       refine go_ Tryz.func71 #[.int .i64 ((zac l0 x4_1).f0),.int .i64 4] ?_
       with_reducible refine(zau.calls k1 ((zac l0 x4_1).f0) 4 t105 _ A6.out).mono ?_
       rintro e w11 ⟨v106,rfl,ho0,hb⟩
       refine⟨_,rfl,?_⟩
       replace HO107:=am_ (Kd.zcw (Kd.R_new' ho0 (Kd.R_lt qz12_)) (zaf qz2_))
       replace HO_3:=am_ (Kd.R_elder' qz12_ (Kd.zf8 ho0) hb)
       replace HB:=am_ (zab qz2_ hb)
       (try clear hb)
       (try clear hb2)
       (try clear hk)
       (try clear hi)
       (try clear ho0)
       obtain⟨Ao13,co13,eo13⟩:=Kd.zcb HO107.out
       (first|subst eo13|(injection eo13 with f1_ f2_ f3_;have f4_:=f1_.symm;have f5_:=f3_.symm;clear f1_ f2_ f3_;subst f4_;subst f5_))
       refine hK.out _ _ ⟨((HB.out.cell (World.block_lt_of_cell? w _ hw104_0)).trans hw104_0),((HB.out.cell (World.block_lt_of_cell? w _ hw104_1)).trans hw104_1),((HB.out.cell (World.block_lt_of_cell? w _ hw111_0)).trans hw111_0),((HB.out.cell (World.block_lt_of_cell? w _ hw111_1)).trans hw111_1)⟩ (fun hHeld=>?_)
       clear hK K
       refine nm_ 18 ?_
       refine ot_ HT_ 7 (some 19) (bs_ 16 8191) (fun K hK=>?_)
       refine Kd.zeo (Kd.int .u8) (w0:=w) w.heap.size (by rfl) (.tmp 12) (.tmp 18) 101 5 (.int .u8 0) 1 rfl Tryz.underlying101 info5 rfl (by decide) (by omega) u3 x3_1 t105 _ _ _ (fun k_=>some k_≠(.slice Ao13 t105.length co13:Value).ownBlock) (fun _=>False) rfl rfl ?aO ?aR (fun _ _ h=>h) (fun _ h=>h.elim) ?aF ?aB ?aS ?aL ?_
       (case aR=>exact qc_ (Kd.R_reads' HO107.out).2.2)
       (case aB=>exact qz2_)
       (case aF=>exact(fun k_ hk=>Kd.fresh' (Kd.R_lt (by(with_reducible repeat(first|apply Kd.zbm|apply Kd.zbl|apply Kd.zbt));exact HO107.out)) k_ hk))
       (case aO=>exact(by(with_reducible repeat(first|apply Kd.zbm|apply Kd.zbl|apply Kd.zbt));exact Kd.zba HO_3.out (fun _ hk=>hk.2)))
       (case aS=>exact(zaf qz2_))
       (case aL=>have:=LMc7.out;omega)
       intro v109 w12 ho hb hg hat
       rw [←Ny108.out] at ho
       replace HO107:=am_ (Kd.zj1 (ok:=(fun _=>True)) (by(with_reducible repeat(first|apply Kd.zbm|apply Kd.zbl|apply Kd.zbt));exact HO107.out) hg hat)
       replace HB:=am_ (hb)
       replace HO110:=am_ (ho)
       clear HO_3
       clear ho hb hg hat
       refine hK.out _ _ ⟨((HB.out.cell (World.block_lt_of_cell? w _ hw104_0)).trans hw104_0),((HB.out.cell (World.block_lt_of_cell? w _ hw104_1)).trans hw104_1),((HB.out.cell (World.block_lt_of_cell? w _ hw111_0)).trans hw111_0),((HB.out.cell (World.block_lt_of_cell? w _ hw111_1)).trans hw111_1)⟩ (fun hHeld=>?_)
       clear hK K
       refine nm_ 19 ?_
       refine ot_ HT_ 13 (some 25) (bs_ 16 16383) (fun K hK=>?_)
       refine go_ Tryz.func71 #[.int .i64 ((zac l0 x4_1).f1),.int .i64 4] ?_
       with_reducible refine(zau.calls k1 ((zac l0 x4_1).f1) 4 t112 _ A8.out).mono ?_
       rintro e w14 ⟨v113,rfl,ho0,hb⟩
       refine⟨_,rfl,?_⟩
       replace HO114:=am_ (Kd.zcw (Kd.R_new' (Kd.R_new' ho0 (Kd.R_lt (by(with_reducible repeat(first|apply Kd.zbm|apply Kd.zbl|apply Kd.zbt));exact HO107.out))) (Kd.R_lt (by(with_reducible repeat(first|apply Kd.zbm|apply Kd.zbl|apply Kd.zbt));exact HO110.out))) (zaf qz2_))
       replace HO107:=am_ (Kd.R_elder' (by(with_reducible repeat(first|apply Kd.zbm|apply Kd.zbl|apply Kd.zbt));exact HO107.out) (Kd.zf8 ho0) hb)
       replace HO110:=am_ (Kd.R_elder' (by(with_reducible repeat(first|apply Kd.zbm|apply Kd.zbl|apply Kd.zbt));exact HO110.out) (Kd.zf8 ho0) hb)
       replace HB:=am_ (zab qz2_ hb)
       (try clear hb)
       (try clear hb2)
       (try clear hk)
       (try clear hi)
       (try clear ho0)
       obtain⟨Ao16,co16,eo16⟩:=Kd.zcb HO114.out
       (first|subst eo16|(injection eo16 with f1_ f2_ f3_;have f4_:=f1_.symm;have f5_:=f3_.symm;clear f1_ f2_ f3_;subst f4_;subst f5_))
       refine hK.out _ _ ⟨((HB.out.cell (World.block_lt_of_cell? w _ hw104_0)).trans hw104_0),((HB.out.cell (World.block_lt_of_cell? w _ hw104_1)).trans hw104_1),((HB.out.cell (World.block_lt_of_cell? w _ hw111_0)).trans hw111_0),((HB.out.cell (World.block_lt_of_cell? w _ hw111_1)).trans hw111_1)⟩ (fun hHeld=>?_)
       clear hK K
       refine nm_ 25 ?_
       refine ot_ HT_ 14 (some 26) (bs_ 16 32767) (fun K hK=>?_)
       refine Kd.zeo (Kd.int .u8) (w0:=w) w.heap.size (by rfl) (.tmp 19) (.tmp 25) 101 5 (.int .u8 0) 1 rfl Tryz.underlying101 info5 rfl (by decide) (by omega) v109 y108 t112 _ _ _ (fun k_=>some k_≠(.slice Ao13 t105.length co13:Value).ownBlock∧some k_≠(.slice Ao16 t112.length co16:Value).ownBlock) (fun _=>False) rfl rfl ?aO ?aR (fun _ _ h=>h) (fun _ h=>h.elim) ?aF ?aB ?aS ?aL ?_
       (case aR=>exact qc_ (Kd.R_reads' HO114.out).2.2)
       (case aB=>exact qz2_)
       (case aF=>exact(fun k_ hk=>⟨Kd.fresh' (Kd.R_lt (by(with_reducible repeat(first|apply Kd.zbm|apply Kd.zbl|apply Kd.zbt));exact HO107.out)) k_ hk,Kd.fresh' (Kd.R_lt (by(with_reducible repeat(first|apply Kd.zbm|apply Kd.zbl|apply Kd.zbt));exact HO114.out)) k_ hk⟩))
       (case aO=>exact(by(with_reducible repeat(first|apply Kd.zbm|apply Kd.zbl|apply Kd.zbt));exact HO110.out))
       (case aS=>exact(zaf qz2_))
       (case aL=>have:=LMc9.out;omega)
       intro v116 w15 ho hb hg hat
       rw [←Ny115.out] at ho
       replace HO107:=am_ (Kd.zj1 (ok:=(fun k_=>some k_≠(.slice Ao16 t112.length co16:Value).ownBlock)) (by(with_reducible repeat(first|apply Kd.zbm|apply Kd.zbl|apply Kd.zbt));exact Kd.zba HO107.out (fun _ hk=>⟨hk.2,hk.1.2⟩)) hg hat)
       replace HO114:=am_ (Kd.zj1 (ok:=(fun k_=>some k_≠(.slice Ao13 t105.length co13:Value).ownBlock)) (by(with_reducible repeat(first|apply Kd.zbm|apply Kd.zbl|apply Kd.zbt));exact Kd.zba HO114.out (fun _ hk=>⟨hk.1.2,hk.2⟩)) hg hat)
       replace HB:=am_ (hb)
       replace HO117:=am_ (ho)
       clear HO110
       clear ho hb hg hat
       refine hK.out _ _ ⟨((HB.out.cell (World.block_lt_of_cell? w _ hw104_0)).trans hw104_0),((HB.out.cell (World.block_lt_of_cell? w _ hw104_1)).trans hw104_1),((HB.out.cell (World.block_lt_of_cell? w _ hw111_0)).trans hw111_0),((HB.out.cell (World.block_lt_of_cell? w _ hw111_1)).trans hw111_1)⟩ (fun hHeld=>?_)
       clear hK K
       refine nm_ 26 ?_
       refine pt_ HT_.out 15 3 (bs_ 16 65535) ?_
       refine done_ (zdr HT_.out (by kernel_rfl)) ?_
       try go_wp2
       go_roundg k1
       case measure=>have:=HK1.out;omega
       case rel=>exact⟨(y115),(wrap64 (x4_1 + 1)),qz0_,H',⟨qz13_⟩,⟨(by(with_reducible repeat(first|apply Kd.zbm|apply Kd.zbl|apply Kd.zbt));exact Kd.zba HO117.out (fun _ hk=>trivial))⟩,⟨qz2_⟩⟩
      ·
       rw [if_neg c9] at H
       exact absurd H (by simp)
     ·
      rw [if_neg c7] at H
      exact absurd H (by simp)
    ·
     rw [if_neg c5] at H
     exact absurd H (by simp)
   ·
    rw [if_neg c4] at H
    have c4b0:decide (x4_1<(l0.length:Int))=false:=decide_eq_false c4
    clear c4
    obtain rfl:=Option.some.inj H
    go_wp2
    go_ret
    exact⟨_,qz4_,qz12_,qz2_⟩
def zet.f (k:Nat) (l0_0:List (S32)) (a0_1:Int) (a0_2:ByteArray) (a0_3:Int) (l1:List (S32)):Option ((List (S32)) × Int × ByteArray × Int):=(za0.f k l1).bind fun t103=>((zb6.f k l0_0 a0_1 a0_2 a0_3 (strOfNums t103)).bind fun bt106=>(some (bt106.1,bt106.2.1,bt106.2.2.1,bt106.2.2.2)))
theorem zet.calls (k:Nat) (P0_0_:Nat→Prop) (u9000_:Value) (l0_0:List (S32)) (a0_1:Int) (a0_2:ByteArray) (a0_3:Int) (A1:Option Addr) (c1:Nat) (l1:List (S32)) (r1:List (S32)) (r2:Int) (r3:ByteArray) (r4:Int) (w0 w:World) (hB:Below w0.heap.size w0 w) (ho0_0:Kd.R k32 32 w w0.heap.size P0_0_ u9000_ l0_0) (hr1:∀ W_,Kept w W_ (fun k_=>P0_0_ k_)→Kd.C k32 W_ A1 l1.length l1) (hc1:l1.length≤c1) (h:zet.f k l0_0 a0_1 a0_2 a0_3 l1=some (r1,r2,r3,r4)) :
  Calls Tryz.prog 63 #[.agg #[u9000_,.int .i64 a0_1,.string a0_2,.int .i64 a0_3],.slice A1 l1.length c1] w fun e w'=>∃ v0_:Value,e=.returned (.agg #[v0_,.int .i64 r2,.string r3,.int .i64 r4])∧Kd.R k32 32 w' w0.heap.size (fun k_=>(P0_0_ k_∨w.heap.size≤k_)) v0_ r1∧Below w0.heap.size w0 w'∧Kept w w' (fun k_=>P0_0_ k_):=by
 have hu38:=Tryz.underlying38
 have HO0_0:=am_ (show Kd.R k32 32 w w0.heap.size (fun k_=>(P0_0_ k_∨w.heap.size≤k_)) u9000_ l0_0 from Kd.zba ho0_0 (fun k_ hk=>(.inl hk)))
 have HR1:=am_ hr1
 have HC1:=am_ hc1
 clear hr1 hc1
 have HK:=am_ (Kept.refl w (fun k_=>P0_0_ k_))
 have HW0:=am_ hB.size
 have HB:=am_ hB
 clear hB
 have H:((za0.f k l1).bind fun t103=>((zb6.f k l0_0 a0_1 a0_2 a0_3 (strOfNums t103)).bind fun bt106=>(some (bt106.1,bt106.2.1,bt106.2.2.1,bt106.2.2.2))))=some (r1,r2,r3,r4):=h
 clear h
 replace H:=Option.bind_eq_some_iff.mp H
 obtain⟨t103,A30,H⟩:=H
 replace H:((zb6.f k l0_0 a0_1 a0_2 a0_3 (strOfNums t103)).bind fun bt106=>(some (bt106.1,bt106.2.1,bt106.2.2.1,bt106.2.2.2)))=some (r1,r2,r3,r4):=H
 have A3:=am_ A30
 clear A30
 replace H:=Option.bind_eq_some_iff.mp H
 obtain⟨⟨t106,t109,t110,t111⟩,A40,H⟩:=H
 replace H:(some (t106,t109,t110,t111))=some (r1,r2,r3,r4):=H
 have A4:=am_ A40
 clear A40
 simp only [Option.some.injEq,Prod.mk.injEq] at H
 obtain⟨rfl,rfl,rfl,rfl⟩:=H
 obtain⟨Ao5,co5,eo5⟩:=Kd.zcb HO0_0.out
 subst eo5
 go_enter Tryz.func63,Tryz.ntmps63
 try go_wp2_with (first|((with_reducible refine zad (N:=2) rfl ?_);refine zaj rfl (N:=2) rfl (cs:=#[.slice Ao5 l0_0.length co5,.int .i64 a0_1,.string a0_2,.int .i64 a0_3]) (t:=38) bx_ ?_;intro gb101 hg w6 hbox hb;replace HO0_0:=am_ (Kd.zct qz16_ hb);replace BK101:=am_ (hbox);replace GW101:=am_ ((by rw [hg];exact qz17_:w.heap.size≤gb101));replace HK:=am_ (Kept.below (S:=(fun k_=>P0_0_ k_)) qz15_ hb);replace GE101:=am_ ((by rw [hg];exact(zaf qz2_):w0.heap.size≤gb101));replace HB:=am_ (zab qz2_ hb);clear hb hbox hg)|((with_reducible refine zad (N:=4) rfl ?_);refine zaj rfl (N:=4) rfl (cs:=#[.slice none 0 0,.int .i64 0,.string (⟨#[]⟩:ByteArray),.int .i64 0]) (t:=38) bx_ ?_;intro gb102 hg w7 hbox hb;replace HO0_0:=am_ (Kd.zct qz16_ hb);replace BK102:=am_ (hbox);replace GW102:=am_ ((by rw [hg];exact qz42_:w.heap.size≤gb102));replace HK:=am_ (Kept.below (S:=(fun k_=>P0_0_ k_)) qz18_ hb);replace GE102:=am_ ((by rw [hg];exact(zaf qz5_):w0.heap.size≤gb102));replace HB:=am_ (zab qz5_ hb);replace NB101_102:=am_ ((by rw [hg];exact Nat.ne_of_lt (zar (g:=gb101) (o:=.cells #[.slice Ao5 l0_0.length co5,.int .i64 a0_1,.string a0_2,.int .i64 a0_3] 38 (0,0)) qz6_):gb101≠gb102));replace NB102_101:=am_ ((by rw [hg];exact Nat.ne_of_gt (zar (g:=gb101) (o:=.cells #[.slice Ao5 l0_0.length co5,.int .i64 a0_1,.string a0_2,.int .i64 a0_3] 38 (0,0)) qz6_):gb102≠gb101));replace BK101:=am_ (zak (g:=gb101) (o:=.cells #[.slice Ao5 l0_0.length co5,.int .i64 a0_1,.string a0_2,.int .i64 a0_3] 38 (0,0)) qz6_ hb);clear hb hbox hg))
 replace HO0_0:=am_ (Kd.zbt HO0_0.out)
 replace BK101:=am_ (zae BK101.out)
 replace BK102:=am_ (zae BK102.out)
 replace HK:=am_ (Kept.drew HK.out)
 replace HB:=am_ (zao HB.out)
 refine zcn (n:=6) (S:=fun w'=>w'.cell? ⟨gb101,0,none⟩=some (.slice Ao5 l0_0.length co5)∧w'.cell? ⟨gb101,1,none⟩=some (.int .i64 a0_1)∧w'.cell? ⟨gb101,2,none⟩=some (.string a0_2)∧w'.cell? ⟨gb101,3,none⟩=some (.int .i64 a0_3)) (ds:=[]) (bs_ 6 0) (by kernel_rfl) rfl rfl ⟨(zaa BK101.out 0).trans rfl,(zaa BK101.out 1).trans rfl,(zaa BK101.out 2).trans rfl,(zaa BK101.out 3).trans rfl⟩ (fun hHeld=>?_)
 generalize w7.drew=w8 at HO0_0 BK101 BK102 HK HB hHeld ⊢
 refine pu_ 1 6 (bs_ 6 2) ?_
 refine tk_ 0 (bs_ 6 3) hHeld ?_
 refine on_ 2 (some 7) (bs_ 6 7) (fun K hK=>?_)
 refine go_ Tryz.func115 #[.slice A1 l1.length c1] ?_
 with_reducible refine(za0.calls k _ _ l1 t103 _ ?side1 ?side2 A3.out).mono ?_
 (case side1=>exact Kd.zoi HR1.out qz44_)
 (case side2=>exact HC1.out)
 rintro e w9 ⟨v104,rfl,ho0,hb⟩
 refine⟨_,rfl,?_⟩
 replace HO0_0:=am_ (Kd.zct qz16_ hb)
 replace HO105:=am_ (Kd.zcw (Kd.zn3 (M:=fun k_=>(P0_0_ k_∨w.heap.size≤k_)) ho0 qz43_ (fun k_ h_=>.inr h_)) (zaf qz8_))
 replace BK101:=am_ (zak (g:=gb101) (o:=.cells #[.slice Ao5 l0_0.length co5,.int .i64 a0_1,.string a0_2,.int .i64 a0_3] 38 (0,0)) qz6_ hb)
 replace BK102:=am_ (zak (g:=gb102) (o:=.cells #[.slice none 0 0,.int .i64 0,.string (⟨#[]⟩:ByteArray),.int .i64 0] 38 (0,0)) qz7_ hb)
 replace HK:=am_ (Kept.below (S:=(fun k_=>P0_0_ k_)) qz44_ hb)
 replace HB:=am_ (zab qz8_ hb)
 (try clear hb)
 (try clear hb2)
 (try clear hk)
 (try clear hi)
 (try clear ho0)
 refine hK.out _ _ ⟨(zaa BK101.out 0).trans rfl,(zaa BK101.out 1).trans rfl,(zaa BK101.out 2).trans rfl,(zaa BK101.out 3).trans rfl⟩ (fun hHeld=>?_)
 clear hK K
 refine nm_ 7 ?_
 refine on_ 3 (some 8) (bs_ 6 15) (fun K hK=>?_)
 have hcv10:=zh7 (P:=Tryz.prog) Tryz.underlying101 Tryz.underlying5 Tryz.underlying9 (Kd.zh4 HO105.out)
 refine zbg (w1:=?_) (v:=?_) (by rfl) rfl ?_ ?_
 rotate_left 2
 ·
  go_simp
  constructor
  ·
   rfl
  ·
   rfl
 clear hcv10
 refine hK.out _ _ ⟨(zaa BK101.out 0).trans rfl,(zaa BK101.out 1).trans rfl,(zaa BK101.out 2).trans rfl,(zaa BK101.out 3).trans rfl⟩ (fun hHeld=>?_)
 clear hK K
 refine nm_ 8 ?_
 refine on_ 4 (some 9) (bs_ 6 31) (fun K hK=>?_)
 refine go_ Tryz.func69 #[.agg #[.slice Ao5 l0_0.length co5,.int .i64 a0_1,.string a0_2,.int .i64 a0_3],.string (strOfNums t103)] ?_
 with_reducible refine(zb6.calls k (fun k_=>some k_=(.slice Ao5 l0_0.length co5:Value).ownBlock) (.slice Ao5 l0_0.length co5) l0_0 a0_1 a0_2 a0_3 (strOfNums t103) t106 t109 t110 t111 w0 _ ?side1 ?side2 A4.out).mono ?_
 (case side1=>repeat(first|(with_reducible first|exact HB.out|apply za5|apply zaw|apply zao|refine za6 ?_ GE101.out|refine za6 ?_ GE102.out)|exact HB.out))
 (case side2=>exact Kd.zem rfl HO0_0.out)
 rintro e w11 ⟨v107,rfl,ho0,hb,hkp⟩
 refine⟨_,rfl,?_⟩
 replace BK101:=am_ (zh1 (g:=gb101) (o:=.cells #[.slice Ao5 l0_0.length co5,.int .i64 a0_1,.string a0_2,.int .i64 a0_3] 38 (0,0)) qz6_ hkp (fun hs_=>(fun e_=>(Kd.R_ne HO0_0.out BK101.out (by decide)) e_) hs_))
 replace BK102:=am_ (zh1 (g:=gb102) (o:=.cells #[.slice none 0 0,.int .i64 0,.string (⟨#[]⟩:ByteArray),.int .i64 0] 38 (0,0)) qz7_ hkp (fun hs_=>(fun e_=>(Kd.R_ne HO0_0.out BK102.out (by decide)) e_) hs_))
 replace HO105:=am_ (Kd.zba (ok':=fun k_=>(P0_0_ k_∨w.heap.size≤k_)) (Kd.R_keptB ((Kd.R_apart' HO105.out (Kd.zoz HO0_0.out) (by decide))) hkp (fun k_ hk_ hs_=>(hk_.2) hs_)) (fun k_ hk_=>hk_.1.1.1))
 replace HO108:=am_ (Kd.zba (ok':=fun k_=>(P0_0_ k_∨w.heap.size≤k_)) ho0 (fun k_ hk_=>Or.elim hk_ (fun hs_=>(HO0_0.out.1 k_ (hs_).symm)) (fun hn_=>(.inr (Nat.le_trans qz43_ hn_)))))
 replace HK:=am_ (Kept.then_ (S:=(fun k_=>P0_0_ k_)) qz44_ hkp (fun k_ hs_=>(fun e_=>(HO0_0.out.1 k_ e_.symm)) hs_))
 replace HB:=am_ (hb)
 clear HO0_0
 (try clear hb)
 (try clear hkp)
 (try clear ho0)
 obtain⟨Ao12,co12,eo12⟩:=Kd.zcb HO108.out
 (first|subst eo12|(injection eo12 with f1_ f2_ f3_;have f4_:=f1_.symm;have f5_:=f3_.symm;clear f1_ f2_ f3_;subst f4_;subst f5_))
 refine hK.out _ _ ⟨(zaa BK101.out 0).trans rfl,(zaa BK101.out 1).trans rfl,(zaa BK101.out 2).trans rfl,(zaa BK101.out 3).trans rfl⟩ (fun hHeld=>?_)
 clear hK K
 refine nm_ 9 ?_
 refine on_ 5 none (bs_ 6 63) (fun K hK=>?_)
 obtain⟨hs13,hfs13⟩:=bi_ BK102.out 0
 have hns13_0:=NB101_102.out
 have hms13_0:=NB102_101.out
 obtain⟨hs14,hfs14⟩:=bi_ BK102.out 1
 have hns14_0:=NB101_102.out
 have hms14_0:=NB102_101.out
 obtain⟨hs15,hfs15⟩:=bi_ BK102.out 2
 have hns15_0:=NB101_102.out
 have hms15_0:=NB102_101.out
 obtain⟨hs16,hfs16⟩:=bi_ BK102.out 3
 have hns16_0:=NB101_102.out
 have hms16_0:=NB102_101.out
 refine skip_ (w1:=?_) (by rfl) rfl ?_ ?_
 rotate_left
 ·
  go_simp
  rfl
 refine hK.out _ _ ⟨((cell_far (p:=⟨gb102,_,none⟩) NB101_102.out _).trans (((cell_far (p:=⟨gb102,_,none⟩) NB101_102.out _).trans (((cell_far (p:=⟨gb102,_,none⟩) NB101_102.out _).trans (((cell_far (p:=⟨gb102,_,none⟩) NB101_102.out _).trans (hHeld.1)))))))),((cell_far (p:=⟨gb102,_,none⟩) NB101_102.out _).trans (((cell_far (p:=⟨gb102,_,none⟩) NB101_102.out _).trans (((cell_far (p:=⟨gb102,_,none⟩) NB101_102.out _).trans (((cell_far (p:=⟨gb102,_,none⟩) NB101_102.out _).trans (hHeld.2.1)))))))),((cell_far (p:=⟨gb102,_,none⟩) NB101_102.out _).trans (((cell_far (p:=⟨gb102,_,none⟩) NB101_102.out _).trans (((cell_far (p:=⟨gb102,_,none⟩) NB101_102.out _).trans (((cell_far (p:=⟨gb102,_,none⟩) NB101_102.out _).trans (hHeld.2.2.1)))))))),((cell_far (p:=⟨gb102,_,none⟩) NB101_102.out _).trans (((cell_far (p:=⟨gb102,_,none⟩) NB101_102.out _).trans (((cell_far (p:=⟨gb102,_,none⟩) NB101_102.out _).trans (((cell_far (p:=⟨gb102,_,none⟩) NB101_102.out _).trans (hHeld.2.2.2))))))))⟩ (fun hHeld=>?_)
 clear hK K
 refine done_ (by kernel_rfl) ?_
 try go_wp2
 refine bodyPost_ret (results_cell_row rfl _ _ gb102 38 #[.slice Ao12 t106.length co12,.int .i64 t109,.string t110,.int .i64 t111] (0,0) _ rfl (by(with_reducible repeat(first|refine zah ?_ _|refine zae ?_|refine zai ?_ _));refine za9 (cs:=#[.slice Ao12 t106.length co12,.int .i64 t109,.string t110,.int .i64 0]) ?_ 3 _ rfl;(with_reducible repeat(first|refine zah ?_ _|refine zae ?_|refine zai ?_ _));refine za9 (cs:=#[.slice Ao12 t106.length co12,.int .i64 t109,.string (⟨#[]⟩:ByteArray),.int .i64 0]) ?_ 2 _ rfl;(with_reducible repeat(first|refine zah ?_ _|refine zae ?_|refine zai ?_ _));refine za9 (cs:=#[.slice Ao12 t106.length co12,.int .i64 0,.string (⟨#[]⟩:ByteArray),.int .i64 0]) ?_ 1 _ rfl;(with_reducible repeat(first|refine zah ?_ _|refine zae ?_|refine zai ?_ _));refine za9 (cs:=#[.slice none 0 0,.int .i64 0,.string (⟨#[]⟩:ByteArray),.int .i64 0]) ?_ 0 _ rfl;(with_reducible repeat(first|refine zah ?_ _|refine zae ?_|refine zai ?_ _));exact BK102.out) Tryz.underlying38 rfl (by kernel_rfl)) rfl ?_
 exact⟨_,by first|rfl|(simp [zc9,zda] <;> rfl)|(simp [*,zc9,zda] <;> rfl),by(with_reducible repeat(first|apply Kd.zbm|apply Kd.zbl|apply Kd.zbt));exact Kd.zba (Kd.R_far (p:=⟨gb102,3,none⟩) (Kd.R_far (p:=⟨gb102,2,none⟩) (Kd.R_far (p:=⟨gb102,1,none⟩) (Kd.R_far (p:=⟨gb102,0,none⟩) (Kd.zeq HO108.out BK102.out (by decide)) (fun _ hk=>hk.2) (.slice Ao12 t106.length co12)) (fun _ hk=>hk.2) (.int .i64 t109)) (fun _ hk=>hk.2) (.string t110)) (fun _ hk=>hk.2) (.int .i64 t111)) (fun _ hk=>hk.1),by repeat(first|(with_reducible first|exact HB.out|apply za5|apply zaw|apply zao|refine za6 ?_ GE101.out|refine za6 ?_ GE102.out)|exact HB.out),by repeat(first|(with_reducible first|exact HK.out|apply Kept.alloc|apply Kept.drewN|apply Kept.drew|refine Kept.setCell ?_ (.inr GW101.out) _|refine Kept.setCell ?_ (.inr GW102.out) _)|exact HK.out)⟩
def zbj.l0:Nat→ByteArray→Int→Int→Option (Int)
 | 0,_,_,_=>none
 | k + 1,x0,x3,x4=>if x4<8 then(if 0≤x4 then(if x4<(x0.size:Int) then(zbj.l0 k x0 (Int.tmod (wrap64 ((wrap64 (x3 * 256)) + (wrap64 (bt x0 x4)))) 2130706433) (wrap64 (x4 + 1))) else(none)) else(none)) else(some x3)
def zbj.f (k:Nat) (a0:ByteArray):Option (Int):=zbj.l0 k a0 0 0
theorem zbj.calls (k:Nat) (a0:ByteArray) (r:Int) (w:World) (h:zbj.f k a0=some r) :
  Calls Tryz.prog 117 #[.string a0] w fun e w'=>e=.returned (.int .i64 r)∧zbx w w':=by
 have H:(zbj.l0 k a0 0 0)=some r:=h
 clear h
 have H':=am_ H
 clear H
 go_enter Tryz.func117,Tryz.ntmps117
 go_wp2
 go_loopg [3,4] k (fun kq v3 v4 w'=>∃ (x3_1:Int) (x4_1:Int),v3=.int .i64 x3_1∧v4=.int .i64 x4_1∧zal (zbj.l0 kq a0 x3_1 x4_1=some r)∧zal (kq≤k)∧zbx w w')
 case atStart=>exact⟨(0),(0),qz0_,qz0_,H',⟨Nat.le_refl _⟩,by repeat(first|exact zbx.refl _|apply zbx.step)⟩
 case round=>
  clear H'
  try clear c1
  obtain⟨x3_1,x4_1,rfl,rfl,HA,HK1,⟨m1,rfl⟩⟩:=hrel
  cases gk with
  | zero=>exact absurd HA.out (by simp [zbj.l0])
  | succ k1=>
   have H:=HA.out
   clear HA
   simp only [zbj.l0] at H
   by_cases c2:x4_1<8
   ·
    rw [if_pos c2] at H
    have c2b0:decide (x4_1<8)=true:=decide_eq_true c2
    clear c2
    by_cases c3:0≤x4_1
    ·
     rw [if_pos c3] at H
     have c3b0:decide (0≤x4_1)=true:=decide_eq_true c3
     clear c3
     by_cases c4:x4_1<(a0.size:Int)
     ·
      rw [if_pos c4] at H
      have c4b0:decide (x4_1<(a0.size:Int))=true:=decide_eq_true c4
      clear c4
      have H':=am_ H
      clear H
      have p5:0≤(x4_1:Int):=of_decide_eq_true qz10_
      have q5:x4_1<(a0.size:Int):=of_decide_eq_true qz10_
      have hx5:=bt_at a0 x4_1
      replace p5:=eq_true p5
      replace q5:=eq_true q5
      go_wp2
      go_roundg k1
      case measure=>have:=HK1.out;omega
      case rel=>exact⟨(Int.tmod (wrap64 ((wrap64 (x3_1 * 256)) + (wrap64 (bt a0 x4_1)))) 2130706433),(wrap64 (x4_1 + 1)),qz0_,qz0_,H',⟨qz13_⟩,by repeat(first|exact zbx.refl _|apply zbx.step)⟩
     ·
      rw [if_neg c4] at H
      exact absurd H (by simp)
    ·
     rw [if_neg c3] at H
     exact absurd H (by simp)
   ·
    rw [if_neg c2] at H
    have c2b0:decide (x4_1<8)=false:=decide_eq_false c2
    clear c2
    obtain rfl:=Option.some.inj H
    go_wp2
    go_ret
    exact⟨qz0_,qz1_⟩
end Go.Proofs.YtgookagndlfehaaGreat.PT
end
