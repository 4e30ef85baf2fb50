/- Part 1 of the proof of FnExactSumVerify: what functions compute, shown step by step, and what that says (the claim's last text states the law). -/
import Derived.Test.YtgookagndlfehaaProg
import Derived.Test.YtgookagndlfehaaVMore
import Derived.Test.YtgookagndlfehaaVWords
import Derived.Test.YtgookagndlfehaaVLast
import Derived.Test.YtgookagndlfehaaVTab
import Derived.Test.YtgookagndlfehaaVFour
import Derived.Test.YtgookagndlfehaaVQPut
import Derived.Test.YtgookagndlfehaaVApart
import Derived.Test.YtgookagndlfehaaVArr
import Derived.Test.YtgookagndlfehaaVZeros
import Derived.Test.YtgookagndlfehaaVFoot
import Derived.Test.YtgookagndlfehaaVKept
import Derived.Test.YtgookagndlfehaaVShare
import Derived.Test.YtgookagndlfehaaVN
import Derived.Test.YtgookagndlfehaaVFootNe
import Derived.Test.YtgookagndlfehaaVAt
import Derived.Test.YtgookagndlfehaaVRepsOne
import Derived.Test.YtgookagndlfehaaVInv
import Derived.Test.YtgookagndlfehaaVInvWords
import Derived.Test.YtgookagndlfehaaVGuard
import Derived.Test.YtgookagndlfehaaVNEv
import Derived.Test.YtgookagndlfehaaRows
import Derived.JoinedOf
import Derived.WalkKit
import Derived.ProofKit
import Derived.Below
import Derived.Deep.Draws
import Derived.Deep.AppendLies
import Derived.Maps.AppendAt
import Derived.OwnWalk
import Derived.Laws.BytesArg
import Derived.Laws.MakeOwn
import Derived.Laws.OwnMore
import Derived.Deep.OwnRows
import Derived.Tactics
import Derived.Lib.ConvBytes
import Derived.Laws.Slices
import Derived.KernelRfl
import Derived.RowKit3
import Derived.Deep.LoopGhost
import Derived.Deep.QuietTactic
import Derived.BigQuiet
import Derived.WideLaws
import Derived.Deep.DeepCutAuto
import Derived.Deep.CutBlock
import Derived.Deep.RegionHeld3
import Derived.Laws.Rows
import Derived.Lib.AppendStr
import Derived.ArgAppend
import Derived.Laws.IdiomCopy
import Derived.OrdersHeld
import Derived.Laws.BitsLemmas
import Derived.RowKit
import Derived.Deep.DeepMust
import Derived.Laws.CopyOwn
import Derived.Lib.BufferMore
import Derived.Lib.SliceRun
import Derived.OpenShut
import Derived.ShutString
import Derived.ChangeOld
import Derived.SizedLaws
import Derived.Deep.Slices
import Derived.ChangeArms
import Derived.Shelf.Small.Bits
import Derived.Shelf.Strconv.Itoa0
import Derived.Laws.Bits64b
import Derived.Test.YtgookagndlfehaaZFnExactSumVerify0
set_option maxRecDepth 100000
set_option maxHeartbeats 8000000
section
namespace Go.Proofs.Ytgookagndlfehaa.PT
open Go.RowKit Go.Proofs.YtgookagndlfehaaW.PrintWords Go.Proofs.YtgookagndlfehaaW.PrintLast Go.Proofs.YtgookagndlfehaaW.PrintMore
attribute [local go_sem] zex zev zfa ze8 zec zed zeu zew   -- for this text's walks alone
set_option linter.unusedVariables false
set_option linter.unusedSimpArgs false
theorem zok (xs:List Int) (hb:xs.length≤1000):∀ (d i:Nat) (a:Int) (k:Nat),i + d=xs.length→d<k→∃ r,zcc.l0 k a xs (xs.length:Int) (i:Int)=some r:=by
 intro d
 induction d with
 | zero=>
  intro i a k hi hk
  obtain⟨m,rfl⟩:∃ m,k=m + 1:=⟨k - 1,(by omega)⟩
  rw [zcc.l0,if_neg (by omega)]
  exact⟨_,rfl⟩
 | succ d ih=>
  intro i a k hi hk
  obtain⟨m,rfl⟩:∃ m,k=m + 1:=⟨k - 1,(by omega)⟩
  rw [zcc.l0,if_pos (by omega),if_pos (by omega),if_pos (by omega)]
  rw [show wrap64 ((i:Int) + 1)=((i + 1:Nat):Int) by rw [←i64_w];unfold IntKind.wrap;simp [IntKind.signed,IntKind.bits];omega]
  exact ih (i + 1) _ m (by omega) (by omega)
def mod8 (xs:List Int):Int:=(zcc.f 20 xs).getD 0
theorem zo2 {xs:List Int} (h:xs.length=8):zcc.f 20 xs=some (mod8 xs):=by
 obtain⟨r,hr⟩:=zok xs (by omega) 8 0 0 20 (by omega) (by omega)
 unfold mod8 zcc.f
 rw [show ((0:Nat):Int)=0 from rfl] at hr
 rw [hr]
 rfl
theorem zkp (xs:List Int):(kec xs).size=32:=by
 unfold kec
 rw [strOfNums_size,List.length_take,ze0]
 rfl
theorem zby (m1 m2:Int):(Try.prog.info? 34).map (·.size)=some (#[Value.int .i64 m1,Value.int .i64 m2]:Array Value).size:=by kernel_rfl
theorem zd8 (m1 m2:Int):(#[Value.int .i64 m1,Value.int .i64 m2]:Array Value).all (·.oneCell')=true:=by simp [Value.oneCell']
theorem zeo (m1 m2:Int):(#[Value.int .i64 0,Value.int .i64 0]:Array Value).size=(#[Value.int .i64 m1,Value.int .i64 m2]:Array Value).size:=rfl
def dpl (a n:Int):Int:=Int.tmod (wrap64 ((wrap64 (a + 1)) - 1)) n
def zcz.f (s0_0:List (S34)) (s0_1:Int) (s0_2:ByteArray) (s0_3:Int):Option (Int × Int × Int × ByteArray × Int):=
 if 0<s0_0.length then(if 0≤dpl s0_1 s0_0.length then(if dpl s0_1 s0_0.length<(s0_0.length:Int) then some ((zan s0_0 (dpl s0_1 s0_0.length)).f0,(zan s0_0 (dpl s0_1 s0_0.length)).f1,wrap64 (s0_1 + 1),s0_2,s0_3) else none) else none)
 else(if s0_2.size≤1000000 then some (mod8 ((nums_ (kec ([nums_ s0_2,[100,114,97,119],four_ s0_3].flatten))).take 8),mod8 (((nums_ (kec ([nums_ s0_2,[100,114,97,119],four_ s0_3].flatten))).take 16).drop 8),s0_1,s0_2,wrap64 (s0_3 + 1)) else none)
theorem zcz.calls (g:Nat) (s0_0:List (S34)) (s0_1:Int) (s0_2:ByteArray) (s0_3:Int) (r1:Int) (r2:Int) (r3:Int) (r4:ByteArray) (r5:Int) (w0 w:World) (hI:IsS27 w0 w g s0_0 s0_1 s0_2 s0_3) (hB:Below w0.heap.size w0 w) (h:zcz.f s0_0 s0_1 s0_2 s0_3=some (r1,r2,r3,r4,r5)) :
  Calls Try.prog 123 #[.pointer (some ⟨g,0,none⟩)] w fun e w'=>e=.returned (.agg #[.int .i64 r1,.int .i64 r2])∧IsS27 w0 w' g s0_0 r3 r4 r5∧Below w0.heap.size w0 w'∧zbj w w' g none:=by
 unfold zcz.f at h
 have HB:=am_ hB
 have HGE:=am_ (IsS27.ge hI)
 have hu34:=Try.underlying34
 obtain⟨A0,c0,hblk,hge,hr0⟩:=hI
 have HGQ:=am_ hge
 have HR0:=am_ hr0
 have HI:=am_ (Inv.zoz w hblk (fun w2=>Kd.C k34 w2 A0 s0_0.length s0_0) (fun w' ha=>Kd.zbs hr0 (ha.onto hB (fun k hk=>by obtain rfl:k=g:=hk;exact HGE.out))))
 by_cases cl:0<s0_0.length
 ·
  rw [if_pos cl] at h
  by_cases cp:0≤dpl s0_1 s0_0.length
  ·
   rw [if_pos cp] at h
   by_cases cq:dpl s0_1 s0_0.length<(s0_0.length:Int)
   ·
    rw [if_pos cq] at h
    simp only [Option.some.injEq,Prod.mk.injEq] at h
    obtain⟨hx_,hy_,rfl,rfl,rfl⟩:=h
    have c1:decide (0<(s0_0.length:Int))=true:=decide_eq_true (by omega)
    have c2:decide (0<s0_0.length)=true:=decide_eq_true cl
    have c3:((s0_0.length:Int) == 0)=false:=beq_eq_false_iff_ne.mpr (by omega)
    have c4:((s0_0.length:Int) != 0)=true:=bne_iff_ne.mpr (by omega)
    have c5:¬(s0_0=[]):=fun h_=>by rw [h_] at cl;simp at cl
    obtain⟨q,hq⟩:∃ q:Nat,dpl s0_1 s0_0.length=(q:Int):=⟨(dpl s0_1 s0_0.length).toNat,(by omega)⟩
    rw [hq] at cp cq hx_ hy_
    have hdp:Int.tmod (wrap64 ((wrap64 (s0_1 + 1)) - 1)) (s0_0.length:Int)=(q:Int):=hq
    have HDP:=am_ hdp
    obtain⟨ad,eA,hx0,hx1⟩:=zey hr0 (q:Int) cp cq
    subst eA
    rw [Int.toNat_natCast] at hx0 hx1
    have HX0:=am_ hx0
    have HX1:=am_ hx1
    generalize zan s0_0 (q:Int)=x at HX0 HX1 hx_ hy_
    subst hx_ hy_
    have p6:=eq_true cp
    have q6:=eq_true cq
    have q6n:(q<s0_0.length)=True:=eq_true (by omega)
    have hd0:w.cell? ⟨g,0,none⟩=some (.slice (some ad) s0_0.length c0):=(zaa hblk 0).trans rfl
    have hd1:w.cell? ⟨g,1,none⟩=some (.int .i64 s0_1):=(zaa hblk 1).trans rfl
    have hf1:=zab hblk 1
    clear hB hblk hge hr0 cl hq hdp hx0 hx1 cp cq
    go_enter Try.func123,Try.ntmps123
    go_wp2_with (first|((with_reducible refine zad (N:=2) rfl ?_);refine zae rfl (N:=2) rfl (cs:=#[.int .i64 0,.int .i64 0]) (t:=34) bx_ ?_;intro gb hg w2 hbox hb;replace HI:=am_ ((HI.out).box hg hbox hb);clear hb hbox hg;clear hd0 hd1 hf1;have hd0:w2.cell? ⟨g,0,none⟩=some (.slice (some ad) s0_0.length c0):=(zaa HI.out.swap.blk0 0).trans rfl;have hd1:w2.cell? ⟨g,1,none⟩=some (.int .i64 s0_1):=(zaa HI.out.swap.blk0 1).trans rfl;have hf1:=zab HI.out.swap.blk0 1))
    have HI2:=am_ (HI.out.swap.set0 1 (.int .i64 (wrap64 (s0_1 + 1))))
    clear HI hd0 hd1 hf1
    generalize w2.setCell ⟨g,1,none⟩ (.int .i64 (wrap64 (s0_1 + 1)))=w3 at HI2 ⊢
    have HI:=HI2
    clear HI2
    have hd0:w3.cell? ⟨g,0,none⟩=some (.slice (some ad) s0_0.length c0):=(zaa HI.out.blk0 0).trans rfl
    have hd1:w3.cell? ⟨g,1,none⟩=some (.int .i64 (wrap64 (s0_1 + 1))):=(zaa HI.out.blk0 1).trans rfl
    have hb3:=HI.out.agr.onto HB.out (fun k hk=>by obtain rfl:k=g:=hk;exact HGE.out)
    have hx0:=(hb3.cell (World.block_lt_of_cell? _ _ HX0.out)).trans HX0.out
    have hx1:=(hb3.cell (World.block_lt_of_cell? _ _ HX1.out)).trans HX1.out
    have hdp:=HDP.out
    clear hb3
    refine zcb (n:=18) (S:=fun w'=>w'.cell? ⟨g,0,none⟩=some (.slice (some ad) s0_0.length c0)∧w'.cell? ⟨g,1,none⟩=some (.int .i64 (wrap64 (s0_1 + 1)))∧w'.cell? (ad.add (q * 2))=some (.int .i64 x.f0)∧w'.cell? ⟨(ad.add (q * 2)).block,(ad.add (q * 2)).off + 1,none⟩=some (.int .i64 x.f1)) (ds:=[17]) (bs_ 18 0) (by kernel_rfl) rfl rfl ⟨hd0,hd1,hx0,hx1⟩ (fun hHeld=>?_)
    refine pu_ 0 17 (bs_ 18 1) ?_
    refine pu_ 1 18 (bs_ 18 3) ?_
    refine pu_ 2 19 (bs_ 18 7) ?_
    refine take_ (i:=3) (N:=some 20) (v:=?_) (a':=?_) (bs_ 18 15) rfl rfl (by kernel_rfl) (fun _ _ _ h=>h) (Or.inl ⟨(by rfl),?_⟩) hHeld ?_ ?_
    rotate_left
    ·
     rintro w' ⟨s0,s1,s2,s3⟩
     go_simp
     with_reducible rfl
    rotate_left
    ·
     exact ap_
    refine pu_ 4 21 (bs_ 18 31) ?_
    refine pu_ 5 22 (bs_ 18 63) ?_
    refine pu_ 6 23 (bs_ 18 127) ?_
    refine take_ (i:=7) (N:=some 24) (v:=?_) (a':=?_) (bs_ 18 255) rfl rfl (by kernel_rfl) (fun _ _ _ h=>h) (Or.inl ⟨(by rfl),?_⟩) hHeld ?_ ?_
    rotate_left
    ·
     rintro w' ⟨s0,s1,s2,s3⟩
     go_simp
     with_reducible rfl
    rotate_left
    ·
     exact ap_
    refine pu_ 8 25 (bs_ 18 511) ?_
    refine pu_ 9 26 (bs_ 18 1023) ?_
    refine pu_ 10 27 (bs_ 18 2047) ?_
    refine pu_ 11 28 (bs_ 18 4095) ?_
    refine take_ (i:=12) (N:=some 29) (v:=?_) (a':=?_) (bs_ 18 8191) rfl rfl (by kernel_rfl) (fun _ _ _ h=>h) (Or.inl ⟨(by rfl),?_⟩) hHeld ?_ ?_
    rotate_left
    ·
     rintro w' ⟨s0,s1,s2,s3⟩
     go_simp
     with_reducible rfl
    rotate_left
    ·
     exact ap_
    refine pu_ 13 30 (bs_ 18 16383) ?_
    refine pu_ 14 31 (bs_ 18 32767) ?_
    refine pu_ 15 32 (bs_ 18 65535) ?_
    refine take_ (i:=16) (N:=some 33) (v:=?_) (a':=?_) (bs_ 18 131071) rfl rfl (by kernel_rfl) (fun _ _ _ h=>h) (Or.inl ⟨(by rfl),?_⟩) hHeld ?_ ?_
    rotate_left
    ·
     rintro w' ⟨s0,s1,s2,s3⟩
     go_simp
     with_reducible rfl
    rotate_left
    ·
     exact ap_
    refine last_ (i:=17) (N:=none) (bs_ 18 262143) rfl rfl (by kernel_rfl) (by decide) (fun K hK=>?_)
    rw [if_pos (by rfl)]
    refine wp_store_row 34 _ _ rfl gb (#[.int .i64 x.f0,.int .i64 x.f1]) rfl qz0_ 34 (#[.int .i64 0,.int .i64 0]) ((HI.out.swap.drew).blk0) (by kernel_rfl) rfl qz12_ ?_
    refine hK.out _ _ ?_
    clear hK K
    have HI2:=am_ (((HI.out.swap.drew).put0 (#[.int .i64 x.f0,.int .i64 x.f1])).swap)
    refine done_ (by kernel_rfl) ?_
    try go_wp2
    refine bodyPost_ret (v:=.agg #[.int .i64 x.f0,.int .i64 x.f1]) ?hres rfl ?_
    case hres=>exact results_cell_row (fn:=Try.f123) (p:=2) rfl _ _ gb 34 (#[.int .i64 x.f0,.int .i64 x.f1]) (0,0) _ (by first|rfl|(simp;done)) HI2.out.swap.blk0 hu34 rfl (by kernel_rfl)
    exact⟨rfl,⟨some ad,c0,HI2.out.blk0,HGQ.out,HR0.out⟩,HI2.out.agr.onto HB.out (fun k hk=>by obtain rfl:k=g:=hk;exact HGE.out),HI2.out.agr.keep⟩
   ·
    rw [if_neg cq] at h;cases h
  ·
   rw [if_neg cp] at h;cases h
 ·
  rw [if_neg cl] at h
  by_cases cs:s0_2.size≤1000000
  ·
   rw [if_pos cs] at h
   simp only [Option.some.injEq,Prod.mk.injEq] at h
   obtain⟨hm1_,hm2_,rfl,rfl,rfl⟩:=h
   have HST:=am_ (show s0_2.size≤2000000 by omega)
   have HKL:=am_ (zkp ([nums_ s0_2,[100,114,97,119],four_ s0_3].flatten))
   generalize hke:kec ([nums_ s0_2,[100,114,97,119],four_ s0_3].flatten)=hs at HKL hm1_ hm2_
   have HKE:=am_ hke
   have HKZ:=am_ (show hs.size≤2000000 by have:=HKL.out;omega)
   obtain⟨i5,hi5,_,hsz5,_⟩:=info_parts info5
   have HI5:=am_ hi5
   have HZ5:=am_ hsz5
   subst hm1_ hm2_
   have hl0:s0_0.length=0:=by omega
   have c1:decide (0<(s0_0.length:Int))=false:=decide_eq_false (by omega)
   have c2:decide (0<s0_0.length)=false:=decide_eq_false cl
   have hd0:w.cell? ⟨g,0,none⟩=some (.slice A0 s0_0.length c0):=(zaa hblk 0).trans rfl
   clear hB hblk hge hr0 cl cs hke hi5 hsz5 hl0
   go_enter Try.func123,Try.ntmps123
   go_wp2_with (first|((with_reducible refine zad (N:=2) rfl ?_);refine zae rfl (N:=2) rfl (cs:=#[.int .i64 0,.int .i64 0]) (t:=34) bx_ ?_;intro gb hg w2 hbox hb;replace HI:=am_ ((HI.out).box hg hbox hb);clear hb hbox hg;clear hd0;have hd0:w2.cell? ⟨g,0,none⟩=some (.slice A0 s0_0.length c0):=(zaa HI.out.swap.blk0 0).trans rfl))
   have HI2:=am_ HI.out.swap
   clear HI
   have HI:=HI2
   clear HI2 hd0 c1 c2
   refine zcb (n:=16) (S:=fun w'=>w'.cell? ⟨g,2,none⟩=some (.string s0_2)∧w'.cell? ⟨g,3,none⟩=some (.int .i64 s0_3)) (ds:=[]) (bs_ 16 0) (by kernel_rfl) rfl rfl ⟨(zaa ((HI.out).get 0 rfl) 2).trans rfl,(zaa ((HI.out).get 0 rfl) 3).trans rfl⟩ (fun hHeld=>?_)
   refine pu_ 0 34 (bs_ 16 1) ?_
   refine pu_ 1 35 (bs_ 16 3) ?_
   refine pu_ 2 36 (bs_ 16 7) ?_
   refine take_ (i:=3) (N:=some 37) (v:=?_) (a':=?_) (bs_ 16 15) rfl rfl (by kernel_rfl) (fun _ _ _ h=>h) (Or.inl ⟨(by rfl),?_⟩) hHeld ?_ ?_
   rotate_left
   ·
    rintro w' ⟨s0,s1⟩
    go_simp
    with_reducible rfl
   rotate_left
   ·
    exact ap_
   refine pu_ 7 41 (bs_ 16 143) ?_
   refine pu_ 8 42 (bs_ 16 399) ?_
   refine pu_ 9 43 (bs_ 16 911) ?_
   refine take_ (i:=10) (N:=some 44) (v:=?_) (a':=?_) (bs_ 16 1935) rfl rfl (by kernel_rfl) (fun _ _ _ h=>h) (Or.inl ⟨(by rfl),?_⟩) hHeld ?_ ?_
   rotate_left
   ·
    rintro w' ⟨s0,s1⟩
    go_simp
    with_reducible rfl
   rotate_left
   ·
    exact ap_
   replace HI:=am_ (HI.out.drew)
   generalize w2.drew=wd0 at HI hHeld ⊢
   refine join_ (σ:=Value × Value × Value × Value) 4 (bs_ 16 4095) (fun s=>[(38,s.1),(39,s.2.1),(40,s.2.2.1),(45,s.2.2.2)]) (fun s w'=>Inv w (fun k=>k=g) w' [blk g 27 #[.slice A0 s0_0.length c0,.int .i64 s0_1,.string s0_2,.int .i64 s0_3],blk gb 34 #[.int .i64 0,.int .i64 0]] (fun w2=>Piece s.1 (nums_ s0_2) w2∧Piece s.2.2.1 [100,114,97,119] w2∧Piece s.2.2.2 (four_ (s0_3)) w2∧(fun w2=>Kd.C k34 w2 A0 s0_0.length s0_0) w2)) ?_ ?_
   rotate_left
   ·
    intro hJ
    refine zle (i:=4) (j:=5) (k:=11) (Ni:=some 38) (Nj:=some 39) (Nk:=some 45) (bs_ 16 1951) (bs_ 16 1967) (bs_ 16 3983) rfl rfl rfl rfl rfl rfl (by kernel_rfl) (by decide) (by decide) (by decide) (fun K hK=>?_) (fun K hK=>?_) (fun K hK=>?_)
    ·
     obtain⟨vconv,wv1,hcv,HI_⟩:=HI.out.zei HST.out
     refine zbf (by rfl) rfl (v:=vconv) (w1:=wv1) qz9_ ?_
     clear HI hcv;have HI:=am_ HI_;clear HI_
     refine hK.out _ _ ⟨(zaa ((HI.out).get 0 rfl) 2).trans rfl,(zaa ((HI.out).get 0 rfl) 3).trans rfl⟩ (fun hHeld=>?_)
     clear hK K
     refine norm_ (a':=?_) ?_ ?_
     rotate_left
     ·
      show Act.put _ (some 38) _=_
      exact ap_
     refine two_ (i:=5) (j:=11) (Ni:=some 39) (Nj:=some 45) (bs_ 16 1983) (bs_ 16 3999) rfl rfl rfl rfl (by kernel_rfl) (by decide) (by decide) (fun K hK=>?_) (fun K hK=>?_)
     ·
      replace HI:=am_ (HI.out.zgr #[.int .u8 100,.int .u8 114,.int .u8 97,.int .u8 119] 5)
      refine zbf (by rfl) rfl (v:=.slice (some ⟨wv1.heap.size,0,none⟩) 4 4) (w1:=wv1.alloc (.cells #[.int .u8 100,.int .u8 114,.int .u8 97,.int .u8 119] 5)) qz9_ ?_
      generalize wv1.alloc (.cells #[.int .u8 100,.int .u8 114,.int .u8 97,.int .u8 119] 5)=wv2 at HI ⊢
      generalize wv1.heap.size=gl at HI ⊢
      refine hK.out _ _ ⟨(zaa ((HI.out).get 1 rfl) 2).trans rfl,(zaa ((HI.out).get 1 rfl) 3).trans rfl⟩ (fun hHeld=>?_)
      clear hK K
      refine norm_ (a':=?_) ?_ ?_
      rotate_left
      ·
       show Act.put _ (some 39) _=_
       exact ap_
      refine two_ (i:=6) (j:=11) (Ni:=some 40) (Nj:=some 45) (bs_ 16 2047) (bs_ 16 4031) rfl rfl rfl rfl (by kernel_rfl) (by decide) (by decide) (fun K hK=>?_) (fun K hK=>?_)
      ·
       obtain⟨wv3,hcv,HI_⟩:=HI.out.zdx (xs:=[100,114,97,119]) (by decide)
       replace hcv:(convert 22 22 (.slice (some ⟨gl,0,none⟩) 4 4)).run Try.prog wv2=.ok (.slice (some ⟨gl,0,none⟩) 4 4) wv3:=hcv
       refine zbf (by rfl) rfl (v:=.slice (some ⟨gl,0,none⟩) 4 4) (w1:=wv3) qz9_ ?_
       clear HI hcv;have HI:=am_ HI_;clear HI_
       refine hK.out _ _ ⟨(zaa ((HI.out).get 0 rfl) 2).trans rfl,(zaa ((HI.out).get 0 rfl) 3).trans rfl⟩ (fun hHeld=>?_)
       clear hK K
       refine norm_ (a':=?_) ?_ ?_
       rotate_left
       ·
        show Act.put _ (some 40) _=_
        exact ap_
       refine one_ (i:=11) (N:=some 45) (bs_ 16 4095) rfl rfl (by kernel_rfl) (by decide) (fun K hK=>?_)
       refine goes_ Try.func88 (by kernel_rfl) rfl #[.slice none 0 0,.int .i64 s0_3] (by rfl) rfl rfl qz3_ ?_
       refine(HI.out.zen (s0_3)).mono ?_
       rintro e wv4 ⟨vfour,rfl,HI_⟩
       refine⟨_,rfl,?_⟩
       clear HI;have HI:=am_ HI_;clear HI_
       refine hK.out _ _ ⟨(zaa ((HI.out).get 0 rfl) 2).trans rfl,(zaa ((HI.out).get 0 rfl) 3).trans rfl⟩ (fun hHeld=>?_)
       clear hK K
       refine norm_ (a':=?_) ?_ ?_
       rotate_left
       ·
        show Act.put _ (some 45) _=_
        exact ap_
       refine norm_ ?_ (hJ (vconv,.slice (some ⟨gl,0,none⟩) 4 4,.slice (some ⟨gl,0,none⟩) 4 4,vfour) wv4 (HI.out.weaken (fun _ h=>?_)))
       ·
        simp only [zdu];simp only [Act.put,List.setIfInBounds_toArray,List.set_cons_zero,List.set_cons_succ,i64_w,i32_w]
        try rfl
       ·
        refine⟨?_,?_,?_,?_⟩ <;> first|exact h.1|exact h.2.1|exact h.2.2.1|exact h.2.2.2
      ·
       refine goes_ Try.func88 (by kernel_rfl) rfl #[.slice none 0 0,.int .i64 s0_3] (by rfl) rfl rfl qz3_ ?_
       refine(HI.out.zen (s0_3)).mono ?_
       rintro e wv3 ⟨vfour,rfl,HI_⟩
       refine⟨_,rfl,?_⟩
       clear HI;have HI:=am_ HI_;clear HI_
       refine hK.out _ _ ⟨(zaa ((HI.out).get 1 rfl) 2).trans rfl,(zaa ((HI.out).get 1 rfl) 3).trans rfl⟩ (fun hHeld=>?_)
       clear hK K
       refine norm_ (a':=?_) ?_ ?_
       rotate_left
       ·
        show Act.put _ (some 45) _=_
        exact ap_
       refine one_ (i:=6) (N:=some 40) (bs_ 16 4095) rfl rfl (by kernel_rfl) (by decide) (fun K hK=>?_)
       obtain⟨wv4,hcv,HI_⟩:=HI.out.zdx (xs:=[100,114,97,119]) (by decide)
       replace hcv:(convert 22 22 (.slice (some ⟨gl,0,none⟩) 4 4)).run Try.prog wv3=.ok (.slice (some ⟨gl,0,none⟩) 4 4) wv4:=hcv
       refine zbf (by rfl) rfl (v:=.slice (some ⟨gl,0,none⟩) 4 4) (w1:=wv4) qz9_ ?_
       clear HI hcv;have HI:=am_ HI_;clear HI_
       refine hK.out _ _ ⟨(zaa ((HI.out).get 0 rfl) 2).trans rfl,(zaa ((HI.out).get 0 rfl) 3).trans rfl⟩ (fun hHeld=>?_)
       clear hK K
       refine norm_ (a':=?_) ?_ ?_
       rotate_left
       ·
        show Act.put _ (some 40) _=_
        exact ap_
       refine norm_ ?_ (hJ (vconv,.slice (some ⟨gl,0,none⟩) 4 4,.slice (some ⟨gl,0,none⟩) 4 4,vfour) wv4 (HI.out.weaken (fun _ h=>?_)))
       ·
        simp only [zdu];simp only [Act.put,List.setIfInBounds_toArray,List.set_cons_zero,List.set_cons_succ,i64_w,i32_w]
        try rfl
       ·
        refine⟨?_,?_,?_,?_⟩ <;> first|exact h.1|exact h.2.1|exact h.2.2.1|exact h.2.2.2
     ·
      refine goes_ Try.func88 (by kernel_rfl) rfl #[.slice none 0 0,.int .i64 s0_3] (by rfl) rfl rfl qz3_ ?_
      refine(HI.out.zen (s0_3)).mono ?_
      rintro e wv2 ⟨vfour,rfl,HI_⟩
      refine⟨_,rfl,?_⟩
      clear HI;have HI:=am_ HI_;clear HI_
      refine hK.out _ _ ⟨(zaa ((HI.out).get 0 rfl) 2).trans rfl,(zaa ((HI.out).get 0 rfl) 3).trans rfl⟩ (fun hHeld=>?_)
      clear hK K
      refine norm_ (a':=?_) ?_ ?_
      rotate_left
      ·
       show Act.put _ (some 45) _=_
       exact ap_
      refine one_ (i:=5) (N:=some 39) (bs_ 16 4031) rfl rfl (by kernel_rfl) (by decide) (fun K hK=>?_)
      replace HI:=am_ (HI.out.zgr #[.int .u8 100,.int .u8 114,.int .u8 97,.int .u8 119] 5)
      refine zbf (by rfl) rfl (v:=.slice (some ⟨wv2.heap.size,0,none⟩) 4 4) (w1:=wv2.alloc (.cells #[.int .u8 100,.int .u8 114,.int .u8 97,.int .u8 119] 5)) qz9_ ?_
      generalize wv2.alloc (.cells #[.int .u8 100,.int .u8 114,.int .u8 97,.int .u8 119] 5)=wv3 at HI ⊢
      generalize wv2.heap.size=gl at HI ⊢
      refine hK.out _ _ ⟨(zaa ((HI.out).get 1 rfl) 2).trans rfl,(zaa ((HI.out).get 1 rfl) 3).trans rfl⟩ (fun hHeld=>?_)
      clear hK K
      refine norm_ (a':=?_) ?_ ?_
      rotate_left
      ·
       show Act.put _ (some 39) _=_
       exact ap_
      refine one_ (i:=6) (N:=some 40) (bs_ 16 4095) rfl rfl (by kernel_rfl) (by decide) (fun K hK=>?_)
      obtain⟨wv4,hcv,HI_⟩:=HI.out.zdx (xs:=[100,114,97,119]) (by decide)
      replace hcv:(convert 22 22 (.slice (some ⟨gl,0,none⟩) 4 4)).run Try.prog wv3=.ok (.slice (some ⟨gl,0,none⟩) 4 4) wv4:=hcv
      refine zbf (by rfl) rfl (v:=.slice (some ⟨gl,0,none⟩) 4 4) (w1:=wv4) qz9_ ?_
      clear HI hcv;have HI:=am_ HI_;clear HI_
      refine hK.out _ _ ⟨(zaa ((HI.out).get 0 rfl) 2).trans rfl,(zaa ((HI.out).get 0 rfl) 3).trans rfl⟩ (fun hHeld=>?_)
      clear hK K
      refine norm_ (a':=?_) ?_ ?_
      rotate_left
      ·
       show Act.put _ (some 40) _=_
       exact ap_
      refine norm_ ?_ (hJ (vconv,.slice (some ⟨gl,0,none⟩) 4 4,.slice (some ⟨gl,0,none⟩) 4 4,vfour) wv4 (HI.out.weaken (fun _ h=>?_)))
      ·
       simp only [zdu];simp only [Act.put,List.setIfInBounds_toArray,List.set_cons_zero,List.set_cons_succ,i64_w,i32_w]
       try rfl
      ·
       refine⟨?_,?_,?_,?_⟩ <;> first|exact h.1|exact h.2.1|exact h.2.2.1|exact h.2.2.2
    ·
     replace HI:=am_ (HI.out.zgr #[.int .u8 100,.int .u8 114,.int .u8 97,.int .u8 119] 5)
     refine zbf (by rfl) rfl (v:=.slice (some ⟨wd0.heap.size,0,none⟩) 4 4) (w1:=wd0.alloc (.cells #[.int .u8 100,.int .u8 114,.int .u8 97,.int .u8 119] 5)) qz9_ ?_
     generalize wd0.alloc (.cells #[.int .u8 100,.int .u8 114,.int .u8 97,.int .u8 119] 5)=wv1 at HI ⊢
     generalize wd0.heap.size=gl at HI ⊢
     refine hK.out _ _ ⟨(zaa ((HI.out).get 1 rfl) 2).trans rfl,(zaa ((HI.out).get 1 rfl) 3).trans rfl⟩ (fun hHeld=>?_)
     clear hK K
     refine norm_ (a':=?_) ?_ ?_
     rotate_left
     ·
      show Act.put _ (some 39) _=_
      exact ap_
     refine zle (i:=4) (j:=6) (k:=11) (Ni:=some 38) (Nj:=some 40) (Nk:=some 45) (bs_ 16 1983) (bs_ 16 2031) (bs_ 16 4015) rfl rfl rfl rfl rfl rfl (by kernel_rfl) (by decide) (by decide) (by decide) (fun K hK=>?_) (fun K hK=>?_) (fun K hK=>?_)
     ·
      obtain⟨vconv,wv2,hcv,HI_⟩:=HI.out.zei HST.out
      refine zbf (by rfl) rfl (v:=vconv) (w1:=wv2) qz9_ ?_
      clear HI hcv;have HI:=am_ HI_;clear HI_
      refine hK.out _ _ ⟨(zaa ((HI.out).get 1 rfl) 2).trans rfl,(zaa ((HI.out).get 1 rfl) 3).trans rfl⟩ (fun hHeld=>?_)
      clear hK K
      refine norm_ (a':=?_) ?_ ?_
      rotate_left
      ·
       show Act.put _ (some 38) _=_
       exact ap_
      refine two_ (i:=6) (j:=11) (Ni:=some 40) (Nj:=some 45) (bs_ 16 2047) (bs_ 16 4031) rfl rfl rfl rfl (by kernel_rfl) (by decide) (by decide) (fun K hK=>?_) (fun K hK=>?_)
      ·
       obtain⟨wv3,hcv,HI_⟩:=HI.out.zdx (xs:=[100,114,97,119]) (by decide)
       replace hcv:(convert 22 22 (.slice (some ⟨gl,0,none⟩) 4 4)).run Try.prog wv2=.ok (.slice (some ⟨gl,0,none⟩) 4 4) wv3:=hcv
       refine zbf (by rfl) rfl (v:=.slice (some ⟨gl,0,none⟩) 4 4) (w1:=wv3) qz9_ ?_
       clear HI hcv;have HI:=am_ HI_;clear HI_
       refine hK.out _ _ ⟨(zaa ((HI.out).get 0 rfl) 2).trans rfl,(zaa ((HI.out).get 0 rfl) 3).trans rfl⟩ (fun hHeld=>?_)
       clear hK K
       refine norm_ (a':=?_) ?_ ?_
       rotate_left
       ·
        show Act.put _ (some 40) _=_
        exact ap_
       refine one_ (i:=11) (N:=some 45) (bs_ 16 4095) rfl rfl (by kernel_rfl) (by decide) (fun K hK=>?_)
       refine goes_ Try.func88 (by kernel_rfl) rfl #[.slice none 0 0,.int .i64 s0_3] (by rfl) rfl rfl qz3_ ?_
       refine(HI.out.zen (s0_3)).mono ?_
       rintro e wv4 ⟨vfour,rfl,HI_⟩
       refine⟨_,rfl,?_⟩
       clear HI;have HI:=am_ HI_;clear HI_
       refine hK.out _ _ ⟨(zaa ((HI.out).get 0 rfl) 2).trans rfl,(zaa ((HI.out).get 0 rfl) 3).trans rfl⟩ (fun hHeld=>?_)
       clear hK K
       refine norm_ (a':=?_) ?_ ?_
       rotate_left
       ·
        show Act.put _ (some 45) _=_
        exact ap_
       refine norm_ ?_ (hJ (vconv,.slice (some ⟨gl,0,none⟩) 4 4,.slice (some ⟨gl,0,none⟩) 4 4,vfour) wv4 (HI.out.weaken (fun _ h=>?_)))
       ·
        simp only [zdu];simp only [Act.put,List.setIfInBounds_toArray,List.set_cons_zero,List.set_cons_succ,i64_w,i32_w]
        try rfl
       ·
        refine⟨?_,?_,?_,?_⟩ <;> first|exact h.1|exact h.2.1|exact h.2.2.1|exact h.2.2.2
      ·
       refine goes_ Try.func88 (by kernel_rfl) rfl #[.slice none 0 0,.int .i64 s0_3] (by rfl) rfl rfl qz3_ ?_
       refine(HI.out.zen (s0_3)).mono ?_
       rintro e wv3 ⟨vfour,rfl,HI_⟩
       refine⟨_,rfl,?_⟩
       clear HI;have HI:=am_ HI_;clear HI_
       refine hK.out _ _ ⟨(zaa ((HI.out).get 1 rfl) 2).trans rfl,(zaa ((HI.out).get 1 rfl) 3).trans rfl⟩ (fun hHeld=>?_)
       clear hK K
       refine norm_ (a':=?_) ?_ ?_
       rotate_left
       ·
        show Act.put _ (some 45) _=_
        exact ap_
       refine one_ (i:=6) (N:=some 40) (bs_ 16 4095) rfl rfl (by kernel_rfl) (by decide) (fun K hK=>?_)
       obtain⟨wv4,hcv,HI_⟩:=HI.out.zdx (xs:=[100,114,97,119]) (by decide)
       replace hcv:(convert 22 22 (.slice (some ⟨gl,0,none⟩) 4 4)).run Try.prog wv3=.ok (.slice (some ⟨gl,0,none⟩) 4 4) wv4:=hcv
       refine zbf (by rfl) rfl (v:=.slice (some ⟨gl,0,none⟩) 4 4) (w1:=wv4) qz9_ ?_
       clear HI hcv;have HI:=am_ HI_;clear HI_
       refine hK.out _ _ ⟨(zaa ((HI.out).get 0 rfl) 2).trans rfl,(zaa ((HI.out).get 0 rfl) 3).trans rfl⟩ (fun hHeld=>?_)
       clear hK K
       refine norm_ (a':=?_) ?_ ?_
       rotate_left
       ·
        show Act.put _ (some 40) _=_
        exact ap_
       refine norm_ ?_ (hJ (vconv,.slice (some ⟨gl,0,none⟩) 4 4,.slice (some ⟨gl,0,none⟩) 4 4,vfour) wv4 (HI.out.weaken (fun _ h=>?_)))
       ·
        simp only [zdu];simp only [Act.put,List.setIfInBounds_toArray,List.set_cons_zero,List.set_cons_succ,i64_w,i32_w]
        try rfl
       ·
        refine⟨?_,?_,?_,?_⟩ <;> first|exact h.1|exact h.2.1|exact h.2.2.1|exact h.2.2.2
     ·
      obtain⟨wv2,hcv,HI_⟩:=HI.out.zdx (xs:=[100,114,97,119]) (by decide)
      replace hcv:(convert 22 22 (.slice (some ⟨gl,0,none⟩) 4 4)).run Try.prog wv1=.ok (.slice (some ⟨gl,0,none⟩) 4 4) wv2:=hcv
      refine zbf (by rfl) rfl (v:=.slice (some ⟨gl,0,none⟩) 4 4) (w1:=wv2) qz9_ ?_
      clear HI hcv;have HI:=am_ HI_;clear HI_
      refine hK.out _ _ ⟨(zaa ((HI.out).get 0 rfl) 2).trans rfl,(zaa ((HI.out).get 0 rfl) 3).trans rfl⟩ (fun hHeld=>?_)
      clear hK K
      refine norm_ (a':=?_) ?_ ?_
      rotate_left
      ·
       show Act.put _ (some 40) _=_
       exact ap_
      refine two_ (i:=4) (j:=11) (Ni:=some 38) (Nj:=some 45) (bs_ 16 2047) (bs_ 16 4079) rfl rfl rfl rfl (by kernel_rfl) (by decide) (by decide) (fun K hK=>?_) (fun K hK=>?_)
      ·
       obtain⟨vconv,wv3,hcv,HI_⟩:=HI.out.zei HST.out
       refine zbf (by rfl) rfl (v:=vconv) (w1:=wv3) qz9_ ?_
       clear HI hcv;have HI:=am_ HI_;clear HI_
       refine hK.out _ _ ⟨(zaa ((HI.out).get 0 rfl) 2).trans rfl,(zaa ((HI.out).get 0 rfl) 3).trans rfl⟩ (fun hHeld=>?_)
       clear hK K
       refine norm_ (a':=?_) ?_ ?_
       rotate_left
       ·
        show Act.put _ (some 38) _=_
        exact ap_
       refine one_ (i:=11) (N:=some 45) (bs_ 16 4095) rfl rfl (by kernel_rfl) (by decide) (fun K hK=>?_)
       refine goes_ Try.func88 (by kernel_rfl) rfl #[.slice none 0 0,.int .i64 s0_3] (by rfl) rfl rfl qz3_ ?_
       refine(HI.out.zen (s0_3)).mono ?_
       rintro e wv4 ⟨vfour,rfl,HI_⟩
       refine⟨_,rfl,?_⟩
       clear HI;have HI:=am_ HI_;clear HI_
       refine hK.out _ _ ⟨(zaa ((HI.out).get 0 rfl) 2).trans rfl,(zaa ((HI.out).get 0 rfl) 3).trans rfl⟩ (fun hHeld=>?_)
       clear hK K
       refine norm_ (a':=?_) ?_ ?_
       rotate_left
       ·
        show Act.put _ (some 45) _=_
        exact ap_
       refine norm_ ?_ (hJ (vconv,.slice (some ⟨gl,0,none⟩) 4 4,.slice (some ⟨gl,0,none⟩) 4 4,vfour) wv4 (HI.out.weaken (fun _ h=>?_)))
       ·
        simp only [zdu];simp only [Act.put,List.setIfInBounds_toArray,List.set_cons_zero,List.set_cons_succ,i64_w,i32_w]
        try rfl
       ·
        refine⟨?_,?_,?_,?_⟩ <;> first|exact h.1|exact h.2.1|exact h.2.2.1|exact h.2.2.2
      ·
       refine goes_ Try.func88 (by kernel_rfl) rfl #[.slice none 0 0,.int .i64 s0_3] (by rfl) rfl rfl qz3_ ?_
       refine(HI.out.zen (s0_3)).mono ?_
       rintro e wv3 ⟨vfour,rfl,HI_⟩
       refine⟨_,rfl,?_⟩
       clear HI;have HI:=am_ HI_;clear HI_
       refine hK.out _ _ ⟨(zaa ((HI.out).get 0 rfl) 2).trans rfl,(zaa ((HI.out).get 0 rfl) 3).trans rfl⟩ (fun hHeld=>?_)
       clear hK K
       refine norm_ (a':=?_) ?_ ?_
       rotate_left
       ·
        show Act.put _ (some 45) _=_
        exact ap_
       refine one_ (i:=4) (N:=some 38) (bs_ 16 4095) rfl rfl (by kernel_rfl) (by decide) (fun K hK=>?_)
       obtain⟨vconv,wv4,hcv,HI_⟩:=HI.out.zei HST.out
       refine zbf (by rfl) rfl (v:=vconv) (w1:=wv4) qz9_ ?_
       clear HI hcv;have HI:=am_ HI_;clear HI_
       refine hK.out _ _ ⟨(zaa ((HI.out).get 0 rfl) 2).trans rfl,(zaa ((HI.out).get 0 rfl) 3).trans rfl⟩ (fun hHeld=>?_)
       clear hK K
       refine norm_ (a':=?_) ?_ ?_
       rotate_left
       ·
        show Act.put _ (some 38) _=_
        exact ap_
       refine norm_ ?_ (hJ (vconv,.slice (some ⟨gl,0,none⟩) 4 4,.slice (some ⟨gl,0,none⟩) 4 4,vfour) wv4 (HI.out.weaken (fun _ h=>?_)))
       ·
        simp only [zdu];simp only [Act.put,List.setIfInBounds_toArray,List.set_cons_zero,List.set_cons_succ,i64_w,i32_w]
        try rfl
       ·
        refine⟨?_,?_,?_,?_⟩ <;> first|exact h.1|exact h.2.1|exact h.2.2.1|exact h.2.2.2
     ·
      refine goes_ Try.func88 (by kernel_rfl) rfl #[.slice none 0 0,.int .i64 s0_3] (by rfl) rfl rfl qz3_ ?_
      refine(HI.out.zen (s0_3)).mono ?_
      rintro e wv2 ⟨vfour,rfl,HI_⟩
      refine⟨_,rfl,?_⟩
      clear HI;have HI:=am_ HI_;clear HI_
      refine hK.out _ _ ⟨(zaa ((HI.out).get 1 rfl) 2).trans rfl,(zaa ((HI.out).get 1 rfl) 3).trans rfl⟩ (fun hHeld=>?_)
      clear hK K
      refine norm_ (a':=?_) ?_ ?_
      rotate_left
      ·
       show Act.put _ (some 45) _=_
       exact ap_
      refine two_ (i:=4) (j:=6) (Ni:=some 38) (Nj:=some 40) (bs_ 16 4031) (bs_ 16 4079) rfl rfl rfl rfl (by kernel_rfl) (by decide) (by decide) (fun K hK=>?_) (fun K hK=>?_)
      ·
       obtain⟨vconv,wv3,hcv,HI_⟩:=HI.out.zei HST.out
       refine zbf (by rfl) rfl (v:=vconv) (w1:=wv3) qz9_ ?_
       clear HI hcv;have HI:=am_ HI_;clear HI_
       refine hK.out _ _ ⟨(zaa ((HI.out).get 1 rfl) 2).trans rfl,(zaa ((HI.out).get 1 rfl) 3).trans rfl⟩ (fun hHeld=>?_)
       clear hK K
       refine norm_ (a':=?_) ?_ ?_
       rotate_left
       ·
        show Act.put _ (some 38) _=_
        exact ap_
       refine one_ (i:=6) (N:=some 40) (bs_ 16 4095) rfl rfl (by kernel_rfl) (by decide) (fun K hK=>?_)
       obtain⟨wv4,hcv,HI_⟩:=HI.out.zdx (xs:=[100,114,97,119]) (by decide)
       replace hcv:(convert 22 22 (.slice (some ⟨gl,0,none⟩) 4 4)).run Try.prog wv3=.ok (.slice (some ⟨gl,0,none⟩) 4 4) wv4:=hcv
       refine zbf (by rfl) rfl (v:=.slice (some ⟨gl,0,none⟩) 4 4) (w1:=wv4) qz9_ ?_
       clear HI hcv;have HI:=am_ HI_;clear HI_
       refine hK.out _ _ ⟨(zaa ((HI.out).get 0 rfl) 2).trans rfl,(zaa ((HI.out).get 0 rfl) 3).trans rfl⟩ (fun hHeld=>?_)
       clear hK K
       refine norm_ (a':=?_) ?_ ?_
       rotate_left
       ·
        show Act.put _ (some 40) _=_
        exact ap_
       refine norm_ ?_ (hJ (vconv,.slice (some ⟨gl,0,none⟩) 4 4,.slice (some ⟨gl,0,none⟩) 4 4,vfour) wv4 (HI.out.weaken (fun _ h=>?_)))
       ·
        simp only [zdu];simp only [Act.put,List.setIfInBounds_toArray,List.set_cons_zero,List.set_cons_succ,i64_w,i32_w]
        try rfl
       ·
        refine⟨?_,?_,?_,?_⟩ <;> first|exact h.1|exact h.2.1|exact h.2.2.1|exact h.2.2.2
      ·
       obtain⟨wv3,hcv,HI_⟩:=HI.out.zdx (xs:=[100,114,97,119]) (by decide)
       replace hcv:(convert 22 22 (.slice (some ⟨gl,0,none⟩) 4 4)).run Try.prog wv2=.ok (.slice (some ⟨gl,0,none⟩) 4 4) wv3:=hcv
       refine zbf (by rfl) rfl (v:=.slice (some ⟨gl,0,none⟩) 4 4) (w1:=wv3) qz9_ ?_
       clear HI hcv;have HI:=am_ HI_;clear HI_
       refine hK.out _ _ ⟨(zaa ((HI.out).get 0 rfl) 2).trans rfl,(zaa ((HI.out).get 0 rfl) 3).trans rfl⟩ (fun hHeld=>?_)
       clear hK K
       refine norm_ (a':=?_) ?_ ?_
       rotate_left
       ·
        show Act.put _ (some 40) _=_
        exact ap_
       refine one_ (i:=4) (N:=some 38) (bs_ 16 4095) rfl rfl (by kernel_rfl) (by decide) (fun K hK=>?_)
       obtain⟨vconv,wv4,hcv,HI_⟩:=HI.out.zei HST.out
       refine zbf (by rfl) rfl (v:=vconv) (w1:=wv4) qz9_ ?_
       clear HI hcv;have HI:=am_ HI_;clear HI_
       refine hK.out _ _ ⟨(zaa ((HI.out).get 0 rfl) 2).trans rfl,(zaa ((HI.out).get 0 rfl) 3).trans rfl⟩ (fun hHeld=>?_)
       clear hK K
       refine norm_ (a':=?_) ?_ ?_
       rotate_left
       ·
        show Act.put _ (some 38) _=_
        exact ap_
       refine norm_ ?_ (hJ (vconv,.slice (some ⟨gl,0,none⟩) 4 4,.slice (some ⟨gl,0,none⟩) 4 4,vfour) wv4 (HI.out.weaken (fun _ h=>?_)))
       ·
        simp only [zdu];simp only [Act.put,List.setIfInBounds_toArray,List.set_cons_zero,List.set_cons_succ,i64_w,i32_w]
        try rfl
       ·
        refine⟨?_,?_,?_,?_⟩ <;> first|exact h.1|exact h.2.1|exact h.2.2.1|exact h.2.2.2
    ·
     refine goes_ Try.func88 (by kernel_rfl) rfl #[.slice none 0 0,.int .i64 s0_3] (by rfl) rfl rfl qz3_ ?_
     refine(HI.out.zen (s0_3)).mono ?_
     rintro e wv1 ⟨vfour,rfl,HI_⟩
     refine⟨_,rfl,?_⟩
     clear HI;have HI:=am_ HI_;clear HI_
     refine hK.out _ _ ⟨(zaa ((HI.out).get 0 rfl) 2).trans rfl,(zaa ((HI.out).get 0 rfl) 3).trans rfl⟩ (fun hHeld=>?_)
     clear hK K
     refine norm_ (a':=?_) ?_ ?_
     rotate_left
     ·
      show Act.put _ (some 45) _=_
      exact ap_
     refine two_ (i:=4) (j:=5) (Ni:=some 38) (Nj:=some 39) (bs_ 16 3999) (bs_ 16 4015) rfl rfl rfl rfl (by kernel_rfl) (by decide) (by decide) (fun K hK=>?_) (fun K hK=>?_)
     ·
      obtain⟨vconv,wv2,hcv,HI_⟩:=HI.out.zei HST.out
      refine zbf (by rfl) rfl (v:=vconv) (w1:=wv2) qz9_ ?_
      clear HI hcv;have HI:=am_ HI_;clear HI_
      refine hK.out _ _ ⟨(zaa ((HI.out).get 0 rfl) 2).trans rfl,(zaa ((HI.out).get 0 rfl) 3).trans rfl⟩ (fun hHeld=>?_)
      clear hK K
      refine norm_ (a':=?_) ?_ ?_
      rotate_left
      ·
       show Act.put _ (some 38) _=_
       exact ap_
      refine one_ (i:=5) (N:=some 39) (bs_ 16 4031) rfl rfl (by kernel_rfl) (by decide) (fun K hK=>?_)
      replace HI:=am_ (HI.out.zgr #[.int .u8 100,.int .u8 114,.int .u8 97,.int .u8 119] 5)
      refine zbf (by rfl) rfl (v:=.slice (some ⟨wv2.heap.size,0,none⟩) 4 4) (w1:=wv2.alloc (.cells #[.int .u8 100,.int .u8 114,.int .u8 97,.int .u8 119] 5)) qz9_ ?_
      generalize wv2.alloc (.cells #[.int .u8 100,.int .u8 114,.int .u8 97,.int .u8 119] 5)=wv3 at HI ⊢
      generalize wv2.heap.size=gl at HI ⊢
      refine hK.out _ _ ⟨(zaa ((HI.out).get 1 rfl) 2).trans rfl,(zaa ((HI.out).get 1 rfl) 3).trans rfl⟩ (fun hHeld=>?_)
      clear hK K
      refine norm_ (a':=?_) ?_ ?_
      rotate_left
      ·
       show Act.put _ (some 39) _=_
       exact ap_
      refine one_ (i:=6) (N:=some 40) (bs_ 16 4095) rfl rfl (by kernel_rfl) (by decide) (fun K hK=>?_)
      obtain⟨wv4,hcv,HI_⟩:=HI.out.zdx (xs:=[100,114,97,119]) (by decide)
      replace hcv:(convert 22 22 (.slice (some ⟨gl,0,none⟩) 4 4)).run Try.prog wv3=.ok (.slice (some ⟨gl,0,none⟩) 4 4) wv4:=hcv
      refine zbf (by rfl) rfl (v:=.slice (some ⟨gl,0,none⟩) 4 4) (w1:=wv4) qz9_ ?_
      clear HI hcv;have HI:=am_ HI_;clear HI_
      refine hK.out _ _ ⟨(zaa ((HI.out).get 0 rfl) 2).trans rfl,(zaa ((HI.out).get 0 rfl) 3).trans rfl⟩ (fun hHeld=>?_)
      clear hK K
      refine norm_ (a':=?_) ?_ ?_
      rotate_left
      ·
       show Act.put _ (some 40) _=_
       exact ap_
      refine norm_ ?_ (hJ (vconv,.slice (some ⟨gl,0,none⟩) 4 4,.slice (some ⟨gl,0,none⟩) 4 4,vfour) wv4 (HI.out.weaken (fun _ h=>?_)))
      ·
       simp only [zdu];simp only [Act.put,List.setIfInBounds_toArray,List.set_cons_zero,List.set_cons_succ,i64_w,i32_w]
       try rfl
      ·
       refine⟨?_,?_,?_,?_⟩ <;> first|exact h.1|exact h.2.1|exact h.2.2.1|exact h.2.2.2
     ·
      replace HI:=am_ (HI.out.zgr #[.int .u8 100,.int .u8 114,.int .u8 97,.int .u8 119] 5)
      refine zbf (by rfl) rfl (v:=.slice (some ⟨wv1.heap.size,0,none⟩) 4 4) (w1:=wv1.alloc (.cells #[.int .u8 100,.int .u8 114,.int .u8 97,.int .u8 119] 5)) qz9_ ?_
      generalize wv1.alloc (.cells #[.int .u8 100,.int .u8 114,.int .u8 97,.int .u8 119] 5)=wv2 at HI ⊢
      generalize wv1.heap.size=gl at HI ⊢
      refine hK.out _ _ ⟨(zaa ((HI.out).get 1 rfl) 2).trans rfl,(zaa ((HI.out).get 1 rfl) 3).trans rfl⟩ (fun hHeld=>?_)
      clear hK K
      refine norm_ (a':=?_) ?_ ?_
      rotate_left
      ·
       show Act.put _ (some 39) _=_
       exact ap_
      refine two_ (i:=4) (j:=6) (Ni:=some 38) (Nj:=some 40) (bs_ 16 4031) (bs_ 16 4079) rfl rfl rfl rfl (by kernel_rfl) (by decide) (by decide) (fun K hK=>?_) (fun K hK=>?_)
      ·
       obtain⟨vconv,wv3,hcv,HI_⟩:=HI.out.zei HST.out
       refine zbf (by rfl) rfl (v:=vconv) (w1:=wv3) qz9_ ?_
       clear HI hcv;have HI:=am_ HI_;clear HI_
       refine hK.out _ _ ⟨(zaa ((HI.out).get 1 rfl) 2).trans rfl,(zaa ((HI.out).get 1 rfl) 3).trans rfl⟩ (fun hHeld=>?_)
       clear hK K
       refine norm_ (a':=?_) ?_ ?_
       rotate_left
       ·
        show Act.put _ (some 38) _=_
        exact ap_
       refine one_ (i:=6) (N:=some 40) (bs_ 16 4095) rfl rfl (by kernel_rfl) (by decide) (fun K hK=>?_)
       obtain⟨wv4,hcv,HI_⟩:=HI.out.zdx (xs:=[100,114,97,119]) (by decide)
       replace hcv:(convert 22 22 (.slice (some ⟨gl,0,none⟩) 4 4)).run Try.prog wv3=.ok (.slice (some ⟨gl,0,none⟩) 4 4) wv4:=hcv
       refine zbf (by rfl) rfl (v:=.slice (some ⟨gl,0,none⟩) 4 4) (w1:=wv4) qz9_ ?_
       clear HI hcv;have HI:=am_ HI_;clear HI_
       refine hK.out _ _ ⟨(zaa ((HI.out).get 0 rfl) 2).trans rfl,(zaa ((HI.out).get 0 rfl) 3).trans rfl⟩ (fun hHeld=>?_)
       clear hK K
       refine norm_ (a':=?_) ?_ ?_
       rotate_left
       ·
        show Act.put _ (some 40) _=_
        exact ap_
       refine norm_ ?_ (hJ (vconv,.slice (some ⟨gl,0,none⟩) 4 4,.slice (some ⟨gl,0,none⟩) 4 4,vfour) wv4 (HI.out.weaken (fun _ h=>?_)))
       ·
        simp only [zdu];simp only [Act.put,List.setIfInBounds_toArray,List.set_cons_zero,List.set_cons_succ,i64_w,i32_w]
        try rfl
       ·
        refine⟨?_,?_,?_,?_⟩ <;> first|exact h.1|exact h.2.1|exact h.2.2.1|exact h.2.2.2
      ·
       obtain⟨wv3,hcv,HI_⟩:=HI.out.zdx (xs:=[100,114,97,119]) (by decide)
       replace hcv:(convert 22 22 (.slice (some ⟨gl,0,none⟩) 4 4)).run Try.prog wv2=.ok (.slice (some ⟨gl,0,none⟩) 4 4) wv3:=hcv
       refine zbf (by rfl) rfl (v:=.slice (some ⟨gl,0,none⟩) 4 4) (w1:=wv3) qz9_ ?_
       clear HI hcv;have HI:=am_ HI_;clear HI_
       refine hK.out _ _ ⟨(zaa ((HI.out).get 0 rfl) 2).trans rfl,(zaa ((HI.out).get 0 rfl) 3).trans rfl⟩ (fun hHeld=>?_)
       clear hK K
       refine norm_ (a':=?_) ?_ ?_
       rotate_left
       ·
        show Act.put _ (some 40) _=_
        exact ap_
       refine one_ (i:=4) (N:=some 38) (bs_ 16 4095) rfl rfl (by kernel_rfl) (by decide) (fun K hK=>?_)
       obtain⟨vconv,wv4,hcv,HI_⟩:=HI.out.zei HST.out
       refine zbf (by rfl) rfl (v:=vconv) (w1:=wv4) qz9_ ?_
       clear HI hcv;have HI:=am_ HI_;clear HI_
       refine hK.out _ _ ⟨(zaa ((HI.out).get 0 rfl) 2).trans rfl,(zaa ((HI.out).get 0 rfl) 3).trans rfl⟩ (fun hHeld=>?_)
       clear hK K
       refine norm_ (a':=?_) ?_ ?_
       rotate_left
       ·
        show Act.put _ (some 38) _=_
        exact ap_
       refine norm_ ?_ (hJ (vconv,.slice (some ⟨gl,0,none⟩) 4 4,.slice (some ⟨gl,0,none⟩) 4 4,vfour) wv4 (HI.out.weaken (fun _ h=>?_)))
       ·
        simp only [zdu];simp only [Act.put,List.setIfInBounds_toArray,List.set_cons_zero,List.set_cons_succ,i64_w,i32_w]
        try rfl
       ·
        refine⟨?_,?_,?_,?_⟩ <;> first|exact h.1|exact h.2.1|exact h.2.2.1|exact h.2.2.2
   ·
    rintro⟨v0,v1,v2,v3⟩ wj HI0
    have HI:=am_ HI0
    clear HI0
    refine norm_ (a':=?_) ?_ ?_
    rotate_left
    ·
     simp only [zdu];simp only [Act.put,List.setIfInBounds_toArray,List.set_cons_zero,List.set_cons_succ,i64_w,i32_w]
     try rfl
    obtain⟨Aq0,cq0,eq_,_,_⟩:=HI.out.now.1;subst eq_
    obtain⟨Aq2,cq2,eq_,_,_⟩:=HI.out.now.2.1;subst eq_
    obtain⟨Aq3,cq3,eq_,_,_⟩:=HI.out.now.2.2.1;subst eq_
    refine one_ (i:=12) (N:=some 46) (bs_ 16 8191) rfl rfl (by kernel_rfl) (by decide) (fun K hK=>?_)
    refine zbf (by rfl) rfl (v:=.slice (some ⟨wj.heap.size,0,none⟩) 3 3) (w1:=wj.alloc (.cells #[.slice Aq0 (nums_ s0_2).length cq0,.slice Aq2 4 cq2,.slice Aq3 (four_ s0_3).length cq3] 22)) qz9_ ?_
    refine hK.out _ _ ⟨(zaa ((HI.out.alloc _).get 0 rfl) 2).trans rfl,(zaa ((HI.out.alloc _).get 0 rfl) 3).trans rfl⟩ (fun hHeld=>?_)
    clear hK K
    refine norm_ (a':=?_) ?_ ?_
    rotate_left
    ·
     show Act.put _ (some 46) _=_
     exact ap_
    refine one_ (i:=13) (N:=some 47) (bs_ 16 16383) rfl rfl (by kernel_rfl) (by decide) (fun K hK=>?_)
    refine goes_ Try.func56 (by kernel_rfl) rfl #[.slice (some ⟨wj.heap.size,0,none⟩) 3 3] (by rfl) rfl rfl qz3_ ?_
    have hp:=pieces3 (W:=wj) (T:=22) HI.out.now.1 HI.out.now.2.1 HI.out.now.2.2.1
    refine(zeq.walk (some ⟨wj.heap.size,0,none⟩) 3 [nums_ s0_2,[100,114,97,119],four_ s0_3] _ hp (by have:=HST.out;simp [nums_length,zcu];omega) (by simp)).mono ?_
    rintro e wk ⟨rfl,hb⟩
    rw [HKE.out]
    refine⟨_,rfl,?_⟩
    replace HI:=am_ ((HI.out.alloc _).grow hb)
    clear hb hp
    refine hK.out _ _ ⟨(zaa ((HI.out).get 0 rfl) 2).trans rfl,(zaa ((HI.out).get 0 rfl) 3).trans rfl⟩ (fun hHeld=>?_)
    clear hK K
    refine norm_ (a':=?_) ?_ ?_
    rotate_left
    ·
     show Act.put _ (some 47) _=_
     exact ap_
    refine one_ (i:=14) (N:=some 48) (bs_ 16 32767) rfl rfl (by kernel_rfl) (by decide) (fun K hK=>?_)
    obtain⟨v48,w48,hcv,HI_⟩:=HI.out.zei HKZ.out
    refine zbf (by rfl) rfl (v:=v48) (w1:=w48) qz9_ ?_
    clear HI hcv;have HI:=am_ HI_;clear HI_
    refine hK.out _ _ ⟨(zaa ((HI.out).get 0 rfl) 2).trans rfl,(zaa ((HI.out).get 0 rfl) 3).trans rfl⟩ (fun hHeld=>?_)
    clear hK K
    refine norm_ (a':=?_) ?_ ?_
    rotate_left
    ·
     show Act.put _ (some 48) _=_
     exact ap_
    refine pu_ 15 3 (bs_ 16 65535) ?_
    refine done_ (by kernel_rfl) ?_
    obtain⟨A8,c8,eq_,hc8,hC8⟩:=HI.out.now.1
    subst eq_
    replace HI:=am_ (HI.out.weaken (G:=fun w2=>Kd.C (Kd.int .u8) w2 A8 (nums_ hs).length (nums_ hs)∧(fun w2=>Kd.C k34 w2 A0 s0_0.length s0_0) w2) (fun w2 h=>⟨by obtain⟨A,c,e,_,hC⟩:=h.1;injection e with e1 e2 e3;rw [e1];exact hC,h.2.2.2.2⟩))
    have hq3:w48.cell? ⟨g,3,none⟩=some (.int .i64 s0_3):=(zaa HI.out.blk0 3).trans rfl
    have hf3:=zab HI.out.blk0 3
    clear hC8 hHeld
    go_wp2
    have HI2:=am_ (HI.out.set0 3 (.int .i64 (wrap64 (s0_3 + 1))))
    clear HI hq3 hf3
    generalize w48.setCell ⟨g,3,none⟩ (.int .i64 (wrap64 (s0_3 + 1)))=w5 at HI2 ⊢
    have HI:=HI2
    clear HI2
    have hbl:(nums_ hs).length=32:=by rw [nums_length];exact HKL.out
    obtain⟨hcut1,hA1,hD1⟩:=zji (P:=Try.prog) (k:=.u8) 22 5 Try.underlying22 HI5.out HZ5.out A8 c8 (nums_ hs) 8 (by omega) (by omega) hc8
    obtain⟨A9,hcut2,hA2,hD2⟩:=zhh (P:=Try.prog) (k:=.u8) 22 5 Try.underlying22 HI5.out HZ5.out A8 c8 (nums_ hs) 8 16 (by omega) (by omega) (by omega) hc8
    have hE1:=am_ (zo2 (xs:=(nums_ hs).take 8) (by rw [List.length_take];omega))
    have hE2:=am_ (zo2 (xs:=((nums_ hs).take 16).drop 8) (by rw [List.length_drop,List.length_take];omega))
    rw [show (8:Int).toNat=8 from rfl] at hcut1 hA1 hD1
    rw [show (8:Int).toNat=8 from rfl,show (16:Int).toNat=16 from rfl] at hcut2 hA2 hD2
    have HR1:=am_ (show Kd.C (Kd.int .u8) w5 A8 ((nums_ hs).take 8).length ((nums_ hs).take 8) from Kd.zfk (h1:=fun _=>rfl) (hA1 _ (Kd.zfl HI.out.now.1)))
    have HR2:=am_ (show Kd.C (Kd.int .u8) w5 A9 (((nums_ hs).take 16).drop 8).length (((nums_ hs).take 16).drop 8) from Kd.zfk (h1:=fun _=>rfl) (hA2 _ (Kd.zfl HI.out.now.1)))
    have HD1:=am_ hD1
    have HD2:=am_ hD2
    generalize hm1:mod8 ((nums_ hs).take 8)=m1 at hE1
    generalize hm2:mod8 (((nums_ hs).take 16).drop 8)=m2 at hE2
    have HM1:=am_ hm1
    have HM2:=am_ hm2
    clear hm1 hm2
    generalize hx1:(nums_ hs).take 8=x1 at hcut1 HR1 HD1 hE1
    generalize hx2:((nums_ hs).take 16).drop 8=x2 at hcut2 HR2 HD2 hE2
    clear hx1 hx2
    clear hA1 hA2 hD1 hD2 hbl
    refine zcb (n:=8) (S:=fun w'=>True) (ds:=[7]) (bs_ 8 0) (by kernel_rfl) rfl rfl trivial (fun hHeld=>?_)
    refine pu_ 0 56 (bs_ 8 1) ?_
    refine pu_ 1 57 (bs_ 8 3) ?_
    refine pu_ 3 59 (bs_ 8 11) ?_
    refine pu_ 4 60 (bs_ 8 27) ?_
    refine one_ (i:=2) (N:=some 58) (bs_ 8 31) rfl rfl (by kernel_rfl) (by decide) (fun K hK=>?_)
    refine goes_ Try.func155 (by kernel_rfl) rfl #[.slice A8 x1.length c8] (by rfl) rfl rfl qz3_ ?_
    with_reducible refine(zcc.calls 20 A8 c8 x1 m1 _ (Kd.zjc HR1.out) HD1.out hE1.out).mono ?_
    rintro e w58 ⟨rfl,⟨n1,rfl⟩⟩
    refine⟨_,rfl,?_⟩
    refine hK.out _ _ trivial (fun hHeld=>?_)
    clear hK K
    refine norm_ (a':=?_) ?_ ?_
    rotate_left
    ·
     show Act.put _ (some 58) _=_
     exact ap_
    refine one_ (i:=5) (N:=some 61) (bs_ 8 63) rfl rfl (by kernel_rfl) (by decide) (fun K hK=>?_)
    refine goes_ Try.func155 (by kernel_rfl) rfl #[.slice A9 x2.length (c8 - 8)] (by rfl) rfl rfl qz3_ ?_
    with_reducible refine(zcc.calls 20 A9 (c8 - 8) x2 m2 _ (Kd.zhw (Kd.zjc HR2.out) _) HD2.out hE2.out).mono ?_
    rintro e w61 ⟨rfl,⟨n2,rfl⟩⟩
    refine⟨_,rfl,?_⟩
    refine hK.out _ _ trivial (fun hHeld=>?_)
    clear hK K
    refine norm_ (a':=?_) ?_ ?_
    rotate_left
    ·
     show Act.put _ (some 61) _=_
     exact ap_
    refine pu_ 6 62 (bs_ 8 127) ?_
    refine last_ (i:=7) (N:=none) (bs_ 8 255) rfl rfl (by kernel_rfl) (by decide) (fun K hK=>?_)
    rw [if_pos (by rfl)]
    have hG:((w5.drew.drewN n1).drewN n2).heap[gb]?=some (.cells #[.int .i64 0,.int .i64 0] 34 (0,0)):=(((HI.out.swap.drew).drewN n1).drewN n2).blk0
    refine wp_store_row 34 _ _ rfl gb (#[.int .i64 m1,.int .i64 m2]) rfl qz0_ 34 (#[.int .i64 0,.int .i64 0]) hG (zby m1 m2) (zeo m1 m2) (zd8 m1 m2) ?_
    refine hK.out _ _ ?_
    clear hK K
    have HI2:=am_ (((((HI.out.swap.drew).drewN n1).drewN n2).put0 (#[.int .i64 m1,.int .i64 m2])).swap)
    refine done_ (by kernel_rfl) ?_
    try go_wp2
    refine bodyPost_ret (v:=.agg #[.int .i64 m1,.int .i64 m2]) ?hres rfl ?_
    case hres=>exact results_cell_row (fn:=Try.f123) (p:=2) rfl _ _ gb 34 (#[.int .i64 m1,.int .i64 m2]) (0,0) _ (by first|rfl|(simp;done)) HI2.out.swap.blk0 hu34 rfl (by kernel_rfl)
    exact⟨by rw [HM1.out,HM2.out],⟨A0,c0,HI2.out.blk0,HGQ.out,HR0.out⟩,HI2.out.agr.onto HB.out (fun k hk=>by obtain rfl:k=g:=hk;exact HGE.out),HI2.out.agr.keep⟩
  ·
   rw [if_neg cs] at h;cases h
def zea.f (a0_0:Int) (a0_1:Int):Option (Int × Int):=some (a0_0,a0_1)
theorem zea.calls (a0_0:Int) (a0_1:Int) (r1:Int) (r2:Int) (w:World) (h:zea.f a0_0 a0_1=some (r1,r2)) :
  Calls Try.prog 27 #[.agg #[.int .i64 a0_0,.int .i64 a0_1]] w fun e w'=>e=.returned (.agg #[.int .i64 r1,.int .i64 r2])∧Below w.heap.size w w':=by
 have hu56:=Try.underlying56
 have hu34:=Try.underlying34
 have HB:=am_ (Below.refl w.heap.size w)
 have H:(some (a0_0,a0_1))=some (r1,r2):=h
 clear h
 simp only [Option.some.injEq,Prod.mk.injEq] at H
 obtain⟨rfl,rfl⟩:=H
 go_enter Try.func27,Try.ntmps27
 go_wp2_with (first|((with_reducible refine zad (N:=1) rfl ?_);refine zae rfl (N:=1) rfl (cs:=#[.int .i64 a0_0,.int .i64 a0_1]) (t:=56) bx_ ?_;intro gb101 hg w2 hbox hb;replace BK101:=am_ (hbox);replace GW101:=am_ ((by rw [hg];exact(zac qz4_):w.heap.size≤gb101));replace GE101:=am_ ((by rw [hg];exact(zac qz4_):w.heap.size≤gb101));replace HB:=am_ (zaj qz4_ hb);clear hb hbox hg)|((with_reducible refine zad (N:=2) rfl ?_);refine zae rfl (N:=2) rfl (cs:=#[.int .i64 0,.int .i64 0]) (t:=34) bx_ ?_;intro gb102 hg w3 hbox hb;replace BK102:=am_ (hbox);replace GW102:=am_ ((by rw [hg];exact(zac qz14_):w.heap.size≤gb102));replace GE102:=am_ ((by rw [hg];exact(zac qz14_):w.heap.size≤gb102));replace HB:=am_ (zaj qz14_ hb);replace NB101_102:=am_ ((by rw [hg];exact Nat.ne_of_lt (zar (g:=gb101) (o:=.cells #[.int .i64 a0_0,.int .i64 a0_1] 56 (0,0)) qz13_):gb101≠gb102));replace NB102_101:=am_ ((by rw [hg];exact Nat.ne_of_gt (zar (g:=gb101) (o:=.cells #[.int .i64 a0_0,.int .i64 a0_1] 56 (0,0)) qz13_):gb102≠gb101));replace BK101:=am_ (zak (g:=gb101) (o:=.cells #[.int .i64 a0_0,.int .i64 a0_1] 56 (0,0)) qz13_ hb);clear hb hbox hg)|((with_reducible refine zad (N:=3) rfl ?_);refine zae rfl (N:=3) rfl (cs:=#[.int .i64 0,.int .i64 0]) (t:=34) bx_ ?_;intro gb103 hg w4 hbox hb;replace BK103:=am_ (hbox);replace GW103:=am_ ((by rw [hg];exact(zac qz16_):w.heap.size≤gb103));replace GE103:=am_ ((by rw [hg];exact(zac qz16_):w.heap.size≤gb103));replace HB:=am_ (zaj qz16_ hb);replace NB101_103:=am_ ((by rw [hg];exact Nat.ne_of_lt (zar (g:=gb101) (o:=.cells #[.int .i64 a0_0,.int .i64 a0_1] 56 (0,0)) qz13_):gb101≠gb103));replace NB103_101:=am_ ((by rw [hg];exact Nat.ne_of_gt (zar (g:=gb101) (o:=.cells #[.int .i64 a0_0,.int .i64 a0_1] 56 (0,0)) qz13_):gb103≠gb101));replace BK101:=am_ (zak (g:=gb101) (o:=.cells #[.int .i64 a0_0,.int .i64 a0_1] 56 (0,0)) qz13_ hb);replace NB102_103:=am_ ((by rw [hg];exact Nat.ne_of_lt (zar (g:=gb102) (o:=.cells #[.int .i64 0,.int .i64 0] 34 (0,0)) qz15_):gb102≠gb103));replace NB103_102:=am_ ((by rw [hg];exact Nat.ne_of_gt (zar (g:=gb102) (o:=.cells #[.int .i64 0,.int .i64 0] 34 (0,0)) qz15_):gb103≠gb102));replace BK102:=am_ (zak (g:=gb102) (o:=.cells #[.int .i64 0,.int .i64 0] 34 (0,0)) qz15_ hb);clear hb hbox hg;have hnb5:=NB101_102.out;have hnc5:=NB102_101.out;have hnb6:=NB101_103.out;have hnc6:=NB103_101.out;have hcz7_0:w4.cell? ⟨gb101,0,none⟩=some (.int .i64 a0_0):=(zaa BK101.out 0).trans rfl;have hcz7_1:w4.cell? ⟨gb101,1,none⟩=some (.int .i64 a0_1):=(zaa BK101.out 1).trans rfl;have hfz7_0:=zab BK101.out 0;have hfz7_1:=zab BK101.out 1;have hnb8:=NB103_102.out;have hnc8:=NB102_103.out;have hcz9_0:w4.cell? ⟨gb103,0,none⟩=some (.int .i64 0):=(zaa BK103.out 0).trans rfl;have hcz9_1:w4.cell? ⟨gb103,1,none⟩=some (.int .i64 0):=(zaa BK103.out 1).trans rfl;have hfz9_0:=zab BK103.out 0;have hfz9_1:=zab BK103.out 1;have hcz10_0:w4.cell? ⟨gb102,0,none⟩=some (.int .i64 0):=(zaa BK102.out 0).trans rfl;have hcz10_1:w4.cell? ⟨gb102,1,none⟩=some (.int .i64 0):=(zaa BK102.out 1).trans rfl;have hfz10_0:=zab BK102.out 0;have hfz10_1:=zab BK102.out 1))
 refine bodyPost_ret (results_cell_row rfl _ _ gb102 34 #[.int .i64 a0_0,.int .i64 a0_1] (0,0) _ rfl (by(with_reducible repeat(first|refine zah ?_ _|refine zaf ?_|refine zai ?_ _));refine za9 (cs:=#[.int .i64 a0_0,.int .i64 0]) ?_ 1 _ rfl;(with_reducible repeat(first|refine zah ?_ _|refine zaf ?_|refine zai ?_ _));refine za9 (cs:=#[.int .i64 0,.int .i64 0]) ?_ 0 _ rfl;(with_reducible repeat(first|refine zah ?_ _|refine zaf ?_|refine zai ?_ _));refine zbc ?_ NB102_103.out _;(with_reducible repeat(first|refine zah ?_ _|refine zaf ?_|refine zai ?_ _));refine zbc ?_ NB102_103.out _;(with_reducible repeat(first|refine zah ?_ _|refine zaf ?_|refine zai ?_ _));exact BK102.out) Try.underlying34 rfl (by kernel_rfl)) rfl ?_
 exact⟨qz8_,qz17_⟩
def zdn.f (a0_0:Int) (a0_1:Int) (a1_0:Int) (a1_1:Int):Option (Bool):=if a0_0=a1_0 then(if a0_1=a1_1 then(some true) else(some false)) else(some false)
theorem zdn.calls (a0_0:Int) (a0_1:Int) (a1_0:Int) (a1_1:Int) (r:Bool) (w:World) (h:zdn.f a0_0 a0_1 a1_0 a1_1=some r) :
  Calls Try.prog 31 #[.agg #[.int .i64 a0_0,.int .i64 a0_1],.agg #[.int .i64 a1_0,.int .i64 a1_1]] w fun e w'=>e=.returned (.bool r)∧Below w.heap.size w w':=by
 have hu34:=Try.underlying34
 have HB:=am_ (Below.refl w.heap.size w)
 have H:(if a0_0=a1_0 then(if a0_1=a1_1 then(some true) else(some false)) else(some false))=some r:=h
 clear h
 by_cases c3:a0_0=a1_0
 ·
  rw [if_pos c3] at H
  have c3b0:(a0_0 == a1_0)=true:=beq_iff_eq.mpr c3
  have c3b1:(a0_0 != a1_0)=false:=bne_eq_false_iff_eq.mpr c3
  clear c3
  by_cases c4:a0_1=a1_1
  ·
   rw [if_pos c4] at H
   have c4b0:(a0_1 == a1_1)=true:=beq_iff_eq.mpr c4
   have c4b1:(a0_1 != a1_1)=false:=bne_eq_false_iff_eq.mpr c4
   clear c4
   obtain rfl:=Option.some.inj H
   go_enter Try.func31,Try.ntmps31
   go_wp2_with (first|((with_reducible refine zad (N:=2) rfl ?_);refine zae rfl (N:=2) rfl (cs:=#[.int .i64 a0_0,.int .i64 a0_1]) (t:=34) bx_ ?_;intro gb101 hg w5 hbox hb;replace BK101:=am_ (hbox);replace GW101:=am_ ((by rw [hg];exact(zac qz4_):w.heap.size≤gb101));replace GE101:=am_ ((by rw [hg];exact(zac qz4_):w.heap.size≤gb101));replace HB:=am_ (zaj qz4_ hb);clear hb hbox hg)|((with_reducible refine zad (N:=3) rfl ?_);refine zae rfl (N:=3) rfl (cs:=#[.int .i64 a1_0,.int .i64 a1_1]) (t:=34) bx_ ?_;intro gb102 hg w6 hbox hb;replace BK102:=am_ (hbox);replace GW102:=am_ ((by rw [hg];exact(zac qz14_):w.heap.size≤gb102));replace GE102:=am_ ((by rw [hg];exact(zac qz14_):w.heap.size≤gb102));replace HB:=am_ (zaj qz14_ hb);replace NB101_102:=am_ ((by rw [hg];exact Nat.ne_of_lt (zar (g:=gb101) (o:=.cells #[.int .i64 a0_0,.int .i64 a0_1] 34 (0,0)) qz13_):gb101≠gb102));replace NB102_101:=am_ ((by rw [hg];exact Nat.ne_of_gt (zar (g:=gb101) (o:=.cells #[.int .i64 a0_0,.int .i64 a0_1] 34 (0,0)) qz13_):gb102≠gb101));replace BK101:=am_ (zak (g:=gb101) (o:=.cells #[.int .i64 a0_0,.int .i64 a0_1] 34 (0,0)) qz13_ hb);clear hb hbox hg;have hnb7:=NB101_102.out;have hnc7:=NB102_101.out;have hcz8_0:w6.cell? ⟨gb101,0,none⟩=some (.int .i64 a0_0):=(zaa BK101.out 0).trans rfl;have hcz8_1:w6.cell? ⟨gb101,1,none⟩=some (.int .i64 a0_1):=(zaa BK101.out 1).trans rfl;have hfz8_0:=zab BK101.out 0;have hfz8_1:=zab BK101.out 1;have hcz9_0:w6.cell? ⟨gb102,0,none⟩=some (.int .i64 a1_0):=(zaa BK102.out 0).trans rfl;have hcz9_1:w6.cell? ⟨gb102,1,none⟩=some (.int .i64 a1_1):=(zaa BK102.out 1).trans rfl;have hfz9_0:=zab BK102.out 0;have hfz9_1:=zab BK102.out 1))
   go_ret
   exact⟨qz8_,qz16_⟩
  ·
   rw [if_neg c4] at H
   have c4b0:(a0_1 == a1_1)=false:=beq_eq_false_iff_ne.mpr c4
   have c4b1:(a0_1 != a1_1)=true:=bne_iff_ne.mpr c4
   obtain rfl:=Option.some.inj H
   go_enter Try.func31,Try.ntmps31
   go_wp2_with (first|((with_reducible refine zad (N:=2) rfl ?_);refine zae rfl (N:=2) rfl (cs:=#[.int .i64 a0_0,.int .i64 a0_1]) (t:=34) bx_ ?_;intro gb101 hg w10 hbox hb;replace BK101:=am_ (hbox);replace GW101:=am_ ((by rw [hg];exact(zac qz4_):w.heap.size≤gb101));replace GE101:=am_ ((by rw [hg];exact(zac qz4_):w.heap.size≤gb101));replace HB:=am_ (zaj qz4_ hb);clear hb hbox hg)|((with_reducible refine zad (N:=3) rfl ?_);refine zae rfl (N:=3) rfl (cs:=#[.int .i64 a1_0,.int .i64 a1_1]) (t:=34) bx_ ?_;intro gb102 hg w11 hbox hb;replace BK102:=am_ (hbox);replace GW102:=am_ ((by rw [hg];exact(zac qz14_):w.heap.size≤gb102));replace GE102:=am_ ((by rw [hg];exact(zac qz14_):w.heap.size≤gb102));replace HB:=am_ (zaj qz14_ hb);replace NB101_102:=am_ ((by rw [hg];exact Nat.ne_of_lt (zar (g:=gb101) (o:=.cells #[.int .i64 a0_0,.int .i64 a0_1] 34 (0,0)) qz13_):gb101≠gb102));replace NB102_101:=am_ ((by rw [hg];exact Nat.ne_of_gt (zar (g:=gb101) (o:=.cells #[.int .i64 a0_0,.int .i64 a0_1] 34 (0,0)) qz13_):gb102≠gb101));replace BK101:=am_ (zak (g:=gb101) (o:=.cells #[.int .i64 a0_0,.int .i64 a0_1] 34 (0,0)) qz13_ hb);clear hb hbox hg;have hnb12:=NB101_102.out;have hnc12:=NB102_101.out;have hcz13_0:w11.cell? ⟨gb101,0,none⟩=some (.int .i64 a0_0):=(zaa BK101.out 0).trans rfl;have hcz13_1:w11.cell? ⟨gb101,1,none⟩=some (.int .i64 a0_1):=(zaa BK101.out 1).trans rfl;have hfz13_0:=zab BK101.out 0;have hfz13_1:=zab BK101.out 1;have hcz14_0:w11.cell? ⟨gb102,0,none⟩=some (.int .i64 a1_0):=(zaa BK102.out 0).trans rfl;have hcz14_1:w11.cell? ⟨gb102,1,none⟩=some (.int .i64 a1_1):=(zaa BK102.out 1).trans rfl;have hfz14_0:=zab BK102.out 0;have hfz14_1:=zab BK102.out 1))
   go_ret
   exact⟨qz8_,qz16_⟩
 ·
  rw [if_neg c3] at H
  have c3b0:(a0_0 == a1_0)=false:=beq_eq_false_iff_ne.mpr c3
  have c3b1:(a0_0 != a1_0)=true:=bne_iff_ne.mpr c3
  obtain rfl:=Option.some.inj H
  go_enter Try.func31,Try.ntmps31
  go_wp2_with (first|((with_reducible refine zad (N:=2) rfl ?_);refine zae rfl (N:=2) rfl (cs:=#[.int .i64 a0_0,.int .i64 a0_1]) (t:=34) bx_ ?_;intro gb101 hg w15 hbox hb;replace BK101:=am_ (hbox);replace GW101:=am_ ((by rw [hg];exact(zac qz4_):w.heap.size≤gb101));replace GE101:=am_ ((by rw [hg];exact(zac qz4_):w.heap.size≤gb101));replace HB:=am_ (zaj qz4_ hb);clear hb hbox hg)|((with_reducible refine zad (N:=3) rfl ?_);refine zae rfl (N:=3) rfl (cs:=#[.int .i64 a1_0,.int .i64 a1_1]) (t:=34) bx_ ?_;intro gb102 hg w16 hbox hb;replace BK102:=am_ (hbox);replace GW102:=am_ ((by rw [hg];exact(zac qz14_):w.heap.size≤gb102));replace GE102:=am_ ((by rw [hg];exact(zac qz14_):w.heap.size≤gb102));replace HB:=am_ (zaj qz14_ hb);replace NB101_102:=am_ ((by rw [hg];exact Nat.ne_of_lt (zar (g:=gb101) (o:=.cells #[.int .i64 a0_0,.int .i64 a0_1] 34 (0,0)) qz13_):gb101≠gb102));replace NB102_101:=am_ ((by rw [hg];exact Nat.ne_of_gt (zar (g:=gb101) (o:=.cells #[.int .i64 a0_0,.int .i64 a0_1] 34 (0,0)) qz13_):gb102≠gb101));replace BK101:=am_ (zak (g:=gb101) (o:=.cells #[.int .i64 a0_0,.int .i64 a0_1] 34 (0,0)) qz13_ hb);clear hb hbox hg;have hnb17:=NB101_102.out;have hnc17:=NB102_101.out;have hcz18_0:w16.cell? ⟨gb101,0,none⟩=some (.int .i64 a0_0):=(zaa BK101.out 0).trans rfl;have hcz18_1:w16.cell? ⟨gb101,1,none⟩=some (.int .i64 a0_1):=(zaa BK101.out 1).trans rfl;have hfz18_0:=zab BK101.out 0;have hfz18_1:=zab BK101.out 1;have hcz19_0:w16.cell? ⟨gb102,0,none⟩=some (.int .i64 a1_0):=(zaa BK102.out 0).trans rfl;have hcz19_1:w16.cell? ⟨gb102,1,none⟩=some (.int .i64 a1_1):=(zaa BK102.out 1).trans rfl;have hfz19_0:=zab BK102.out 0;have hfz19_1:=zab BK102.out 1))
  go_ret
  exact⟨qz8_,qz16_⟩
def zax.l0:Nat→List (S34)→List (S34)→Int→Option (Bool)
 | 0,_,_,_=>none
 | k + 1,x0,x1,x5=>if x5<(x0.length:Int) then(if 0≤x5 then(if x5<(x1.length:Int) then((zdn.f ((zan x0 x5).f0) ((zan x0 x5).f1) ((zan x1 x5).f0) ((zan x1 x5).f1)).bind fun t103=>(if t103=true then(zax.l0 k x0 x1 (wrap64 (x5 + 1))) else(some false))) else(none)) else(none)) else(some true)
def zax.f (k:Nat) (l0:List (S34)) (l1:List (S34)):Option (Bool):=if (l0.length:Int)=(l1.length:Int) then(zax.l0 k l0 l1 0) else(some false)
def zax.T6:Bool × List (List Nat × List Nat):=(true,[([],[]),([],[]),([0,1],[0,1]),([2],[2]),([],[]),([],[]),([4,5],[4,5]),([6],[6]),([3,7],[3,7]),([8],[8])])
def zax.B6:List Nat:=[0,0,3,7,0,0,48,112,255,511]
theorem zax.tab6:rtab .any (opsOf Try.f23 6)=zax.T6:=by kernel_rfl
theorem zax.bits6:zc8 zax.T6.2 zax.B6=true:=by kernel_rfl
theorem zax.calls (k:Nat) (A0:Option Addr) (c0:Nat) (l0:List (S34)) (A1:Option Addr) (c1:Nat) (l1:List (S34)) (r:Bool) (w:World) (hr0:Kd.C k34 w A0 l0.length l0) (hc0:l0.length≤c0) (hr1:Kd.C k34 w A1 l1.length l1) (hc1:l1.length≤c1) (h:zax.f k l0 l1=some r) :
  Calls Try.prog 23 #[.slice A0 l0.length c0,.slice A1 l1.length c1] w fun e w'=>e=.returned (.bool r)∧Below w.heap.size w w':=by
 have hu34:=Try.underlying34
 have HR0:=am_ hr0
 have HC0:=am_ hc0
 clear hr0 hc0
 have HR1:=am_ hr1
 have HC1:=am_ hc1
 clear hr1 hc1
 have HB:=am_ (Below.refl w.heap.size w)
 have H:(if (l0.length:Int)=(l1.length:Int) then(zax.l0 k l0 l1 0) else(some false))=some r:=h
 clear h
 by_cases c3:(l0.length:Int)=(l1.length:Int)
 ·
  rw [if_pos c3] at H
  have c3b0:((l0.length:Int) == (l1.length:Int))=true:=beq_iff_eq.mpr c3
  have c3b1:((l0.length:Int) != (l1.length:Int))=false:=bne_eq_false_iff_eq.mpr c3
  have c3b2:(l0.length == l1.length)=true:=by first|simpa using c3|(simp at c3 ⊢;omega)
  clear c3
  have H':=am_ H
  clear H
  go_enter Try.func23,Try.ntmps23
  go_wp2
  go_loopg [5] k (fun kq v5 w'=>∃ (x5_1:Int),v5=.int .i64 x5_1∧zal (zax.l0 kq l0 l1 x5_1=some r)∧zal (kq≤k)∧zal (Below w.heap.size w w'))
  case atStart=>exact⟨(0),qz10_,H',⟨Nat.le_refl _⟩,⟨qz4_⟩⟩
  case round=>
   clear H'
   try clear c1
   try clear c2
   try clear p2
   try clear c3
   try clear c3b0
   try clear c3b1
   try clear c3b2
   obtain⟨x5_1,rfl,HA,HK1,HB⟩:=hrel
   cases gk with
   | zero=>exact absurd HA.out (by simp [zax.l0])
   | succ k1=>
    have H:=HA.out
    clear HA
    simp only [zax.l0] at H
    by_cases c4:x5_1<(l0.length:Int)
    ·
     rw [if_pos c4] at H
     have c4b0:decide (x5_1<(l0.length:Int))=true:=decide_eq_true c4
     clear c4
     by_cases c5:0≤x5_1
     ·
      rw [if_pos c5] at H
      have c5b0:decide (0≤x5_1)=true:=decide_eq_true c5
      clear c5
      by_cases c6:x5_1<(l1.length:Int)
      ·
       rw [if_pos c6] at H
       have c6b0:decide (x5_1<(l1.length:Int))=true:=decide_eq_true c6
       clear c6
       replace H:=Option.bind_eq_some_iff.mp H
       obtain⟨t103,A70,H⟩:=H
       replace H:(if t103=true then(zax.l0 k1 l0 l1 (wrap64 (x5_1 + 1))) else(some false))=some r:=H
       have A7:=am_ A70
       clear A70
       by_cases c8:t103=true
       ·
        subst c8
        have H1:(zax.l0 k1 l0 l1 (wrap64 (x5_1 + 1)))=some r:=by rw [if_pos rfl] at H;exact H
        clear H
        have H:=H1
        clear H1
        have H':=am_ H
        clear H
        try go_wp2
        replace HB:=am_ (zat HB.out)
        have p101:0≤(x5_1:Int):=of_decide_eq_true qz11_
        have q101:x5_1<(l0.length:Int):=of_decide_eq_true qz11_
        obtain⟨ad101,e101,hx101_0,hx101_1⟩:=zey HR0.out x5_1 p101 q101
        have hw101_1:=hx101_1
        have hw101_0:=hx101_0
        cases e101
        replace hx101_0:=(HB.out.cell (World.block_lt_of_cell? w _ hx101_0)).trans hx101_0
        replace hx101_1:=(HB.out.cell (World.block_lt_of_cell? w _ hx101_1)).trans hx101_1
        replace p101:=eq_true p101
        replace q101:=eq_true q101
        have p102:0≤(x5_1:Int):=of_decide_eq_true qz11_
        have q102:x5_1<(l1.length:Int):=of_decide_eq_true qz11_
        obtain⟨ad102,e102,hx102_0,hx102_1⟩:=zey HR1.out x5_1 p102 q102
        have hw102_1:=hx102_1
        have hw102_0:=hx102_0
        cases e102
        replace hx102_0:=(HB.out.cell (World.block_lt_of_cell? w _ hx102_0)).trans hx102_0
        replace hx102_1:=(HB.out.cell (World.block_lt_of_cell? w _ hx102_1)).trans hx102_1
        replace p102:=eq_true p102
        replace q102:=eq_true q102
        refine zcb (n:=10) (S:=fun w'=>w'.cell? (ad101.add ((x5_1).toNat * 2))=some (.int .i64 ((zan l0 x5_1).f0))∧w'.cell? ⟨(ad101.add ((x5_1).toNat * 2)).block,(ad101.add ((x5_1).toNat * 2)).off + 1,none⟩=some (.int .i64 ((zan l0 x5_1).f1))∧w'.cell? (ad102.add ((x5_1).toNat * 2))=some (.int .i64 ((zan l1 x5_1).f0))∧w'.cell? ⟨(ad102.add ((x5_1).toNat * 2)).block,(ad102.add ((x5_1).toNat * 2)).off + 1,none⟩=some (.int .i64 ((zan l1 x5_1).f1))) (ds:=[]) (bs_ 10 0) (by kernel_rfl) rfl rfl ⟨((HB.out.cell (World.block_lt_of_cell? w _ hw101_0)).trans hw101_0),((HB.out.cell (World.block_lt_of_cell? w _ hw101_1)).trans hw101_1),((HB.out.cell (World.block_lt_of_cell? w _ hw102_0)).trans hw102_0),((HB.out.cell (World.block_lt_of_cell? w _ hw102_1)).trans hw102_1)⟩ (fun hHeld=>?_);refine zcr zax.tab6 zax.bits6 (fun HT_ HW_=>?_)
        generalize wr.drew=w9 at HB hx101_0 hx101_1 hx102_0 hx102_1 hHeld ⊢
        refine pt_ HT_.out 0 17 (bs_ 10 1) ?_
        refine pt_ HT_.out 1 18 (bs_ 10 3) ?_
        refine pt_ HT_.out 2 19 (bs_ 10 7) ?_
        refine pt_ HT_.out 4 21 (bs_ 10 23) ?_
        refine pt_ HT_.out 5 22 (bs_ 10 55) ?_
        refine pt_ HT_.out 6 23 (bs_ 10 119) ?_
        refine take_ (i:=3) (N:=some 20) (v:=?_) (a':=?_) (bs_ 10 127) rfl rfl (zba HT_.out HW_.out (by kernel_rfl)) (fun _ _ _ h=>h) (Or.inl ⟨(by rfl),?_⟩) hHeld ?_ ?_
        rotate_left
        ·
         rintro w' ⟨s0,s1,s2,s3⟩
         go_simp
         with_reducible rfl
        rotate_left
        ·
         exact ap_
        refine take_ (i:=7) (N:=some 24) (v:=?_) (a':=?_) (bs_ 10 255) rfl rfl (zba HT_.out HW_.out (by kernel_rfl)) (fun _ _ _ h=>h) (Or.inl ⟨(by rfl),?_⟩) hHeld ?_ ?_
        rotate_left
        ·
         rintro w' ⟨s0,s1,s2,s3⟩
         go_simp
         with_reducible rfl
        rotate_left
        ·
         exact ap_
        refine one_ (i:=8) (N:=some 25) (bs_ 10 511) rfl rfl (zbx HT_.out (by kernel_rfl)) (by decide) (fun K hK=>?_)
        refine goes_ Try.func31 (by kernel_rfl) rfl #[.agg #[.int .i64 ((zan l0 x5_1).f0),.int .i64 ((zan l0 x5_1).f1)],.agg #[.int .i64 ((zan l1 x5_1).f0),.int .i64 ((zan l1 x5_1).f1)]] (by rfl) rfl rfl qz18_ ?_
        with_reducible refine(zdn.calls ((zan l0 x5_1).f0) ((zan l0 x5_1).f1) ((zan l1 x5_1).f0) ((zan l1 x5_1).f1) true _ A7.out).mono ?_
        rintro e w10 ⟨rfl,hb⟩
        refine⟨_,rfl,?_⟩
        replace HB:=am_ (zaj qz4_ hb)
        (try clear hb)
        (try clear hb2)
        (try clear hk)
        (try clear hi)
        refine hK.out _ _ ⟨((HB.out.cell (World.block_lt_of_cell? w _ hw101_0)).trans hw101_0),((HB.out.cell (World.block_lt_of_cell? w _ hw101_1)).trans hw101_1),((HB.out.cell (World.block_lt_of_cell? w _ hw102_0)).trans hw102_0),((HB.out.cell (World.block_lt_of_cell? w _ hw102_1)).trans hw102_1)⟩ (fun hHeld=>?_)
        clear hK K
        refine norm_ (a':=?_) ?_ ?_
        rotate_left
        ·
         show Act.put _ (some 25) _=_
         exact ap_
        refine pt_ HT_.out 9 26 (bs_ 10 1023) ?_
        refine done_ (zej HT_.out (by kernel_rfl)) ?_
        try go_wp2
        go_roundg k1
        case measure=>have:=HK1.out;omega
        case rel=>exact⟨(wrap64 (x5_1 + 1)),qz10_,H',⟨(by have:=HK1.out;omega)⟩,⟨qz4_⟩⟩
       ·
        replace c8:=Bool.eq_false_iff.mpr c8
        subst c8
        have H1:(some false)=some r:=by rw [if_neg (show ¬(false=true) by decide)] at H;exact H
        clear H
        have H:=H1
        clear H1
        obtain rfl:=Option.some.inj H
        try go_wp2
        replace HB:=am_ (zat HB.out)
        have p101:0≤(x5_1:Int):=of_decide_eq_true qz11_
        have q101:x5_1<(l0.length:Int):=of_decide_eq_true qz11_
        obtain⟨ad101,e101,hx101_0,hx101_1⟩:=zey HR0.out x5_1 p101 q101
        have hw101_1:=hx101_1
        have hw101_0:=hx101_0
        cases e101
        replace hx101_0:=(HB.out.cell (World.block_lt_of_cell? w _ hx101_0)).trans hx101_0
        replace hx101_1:=(HB.out.cell (World.block_lt_of_cell? w _ hx101_1)).trans hx101_1
        replace p101:=eq_true p101
        replace q101:=eq_true q101
        have p102:0≤(x5_1:Int):=of_decide_eq_true qz11_
        have q102:x5_1<(l1.length:Int):=of_decide_eq_true qz11_
        obtain⟨ad102,e102,hx102_0,hx102_1⟩:=zey HR1.out x5_1 p102 q102
        have hw102_1:=hx102_1
        have hw102_0:=hx102_0
        cases e102
        replace hx102_0:=(HB.out.cell (World.block_lt_of_cell? w _ hx102_0)).trans hx102_0
        replace hx102_1:=(HB.out.cell (World.block_lt_of_cell? w _ hx102_1)).trans hx102_1
        replace p102:=eq_true p102
        replace q102:=eq_true q102
        refine zcb (n:=10) (S:=fun w'=>w'.cell? (ad101.add ((x5_1).toNat * 2))=some (.int .i64 ((zan l0 x5_1).f0))∧w'.cell? ⟨(ad101.add ((x5_1).toNat * 2)).block,(ad101.add ((x5_1).toNat * 2)).off + 1,none⟩=some (.int .i64 ((zan l0 x5_1).f1))∧w'.cell? (ad102.add ((x5_1).toNat * 2))=some (.int .i64 ((zan l1 x5_1).f0))∧w'.cell? ⟨(ad102.add ((x5_1).toNat * 2)).block,(ad102.add ((x5_1).toNat * 2)).off + 1,none⟩=some (.int .i64 ((zan l1 x5_1).f1))) (ds:=[]) (bs_ 10 0) (by kernel_rfl) rfl rfl ⟨((HB.out.cell (World.block_lt_of_cell? w _ hw101_0)).trans hw101_0),((HB.out.cell (World.block_lt_of_cell? w _ hw101_1)).trans hw101_1),((HB.out.cell (World.block_lt_of_cell? w _ hw102_0)).trans hw102_0),((HB.out.cell (World.block_lt_of_cell? w _ hw102_1)).trans hw102_1)⟩ (fun hHeld=>?_);refine zcr zax.tab6 zax.bits6 (fun HT_ HW_=>?_)
        generalize wr.drew=w11 at HB hx101_0 hx101_1 hx102_0 hx102_1 hHeld ⊢
        refine pt_ HT_.out 0 17 (bs_ 10 1) ?_
        refine pt_ HT_.out 1 18 (bs_ 10 3) ?_
        refine pt_ HT_.out 2 19 (bs_ 10 7) ?_
        refine pt_ HT_.out 4 21 (bs_ 10 23) ?_
        refine pt_ HT_.out 5 22 (bs_ 10 55) ?_
        refine pt_ HT_.out 6 23 (bs_ 10 119) ?_
        refine take_ (i:=3) (N:=some 20) (v:=?_) (a':=?_) (bs_ 10 127) rfl rfl (zba HT_.out HW_.out (by kernel_rfl)) (fun _ _ _ h=>h) (Or.inl ⟨(by rfl),?_⟩) hHeld ?_ ?_
        rotate_left
        ·
         rintro w' ⟨s0,s1,s2,s3⟩
         go_simp
         with_reducible rfl
        rotate_left
        ·
         exact ap_
        refine take_ (i:=7) (N:=some 24) (v:=?_) (a':=?_) (bs_ 10 255) rfl rfl (zba HT_.out HW_.out (by kernel_rfl)) (fun _ _ _ h=>h) (Or.inl ⟨(by rfl),?_⟩) hHeld ?_ ?_
        rotate_left
        ·
         rintro w' ⟨s0,s1,s2,s3⟩
         go_simp
         with_reducible rfl
        rotate_left
        ·
         exact ap_
        refine one_ (i:=8) (N:=some 25) (bs_ 10 511) rfl rfl (zbx HT_.out (by kernel_rfl)) (by decide) (fun K hK=>?_)
        refine goes_ Try.func31 (by kernel_rfl) rfl #[.agg #[.int .i64 ((zan l0 x5_1).f0),.int .i64 ((zan l0 x5_1).f1)],.agg #[.int .i64 ((zan l1 x5_1).f0),.int .i64 ((zan l1 x5_1).f1)]] (by rfl) rfl rfl qz18_ ?_
        with_reducible refine(zdn.calls ((zan l0 x5_1).f0) ((zan l0 x5_1).f1) ((zan l1 x5_1).f0) ((zan l1 x5_1).f1) false _ A7.out).mono ?_
        rintro e w12 ⟨rfl,hb⟩
        refine⟨_,rfl,?_⟩
        replace HB:=am_ (zaj qz4_ hb)
        (try clear hb)
        (try clear hb2)
        (try clear hk)
        (try clear hi)
        refine hK.out _ _ ⟨((HB.out.cell (World.block_lt_of_cell? w _ hw101_0)).trans hw101_0),((HB.out.cell (World.block_lt_of_cell? w _ hw101_1)).trans hw101_1),((HB.out.cell (World.block_lt_of_cell? w _ hw102_0)).trans hw102_0),((HB.out.cell (World.block_lt_of_cell? w _ hw102_1)).trans hw102_1)⟩ (fun hHeld=>?_)
        clear hK K
        refine norm_ (a':=?_) ?_ ?_
        rotate_left
        ·
         show Act.put _ (some 25) _=_
         exact ap_
        refine pt_ HT_.out 9 26 (bs_ 10 1023) ?_
        refine done_ (zej HT_.out (by kernel_rfl)) ?_
        try go_wp2
        go_ret
        exact⟨qz8_,qz4_⟩
      ·
       rw [if_neg c6] at H
       exact absurd H (by simp)
     ·
      rw [if_neg c5] at H
      exact absurd H (by simp)
    ·
     rw [if_neg c4] at H
     have c4b0:decide (x5_1<(l0.length:Int))=false:=decide_eq_false c4
     clear c4
     obtain rfl:=Option.some.inj H
     go_wp2
     go_ret
     exact⟨qz8_,qz4_⟩
 ·
  rw [if_neg c3] at H
  have c3b0:((l0.length:Int) == (l1.length:Int))=false:=beq_eq_false_iff_ne.mpr c3
  have c3b1:((l0.length:Int) != (l1.length:Int))=true:=bne_iff_ne.mpr c3
  have c3b2:(l0.length == l1.length)=false:=by first|simpa using c3|(simp at c3 ⊢;omega)
  obtain rfl:=Option.some.inj H
  go_enter Try.func23,Try.ntmps23
  go_wp2
  go_ret
  exact⟨qz8_,qz4_⟩
def zc9.f (l0:List (S56)) (a1:Int):Option (Int):=if (wrap64 (a1 - (l0.length:Int)))<0 then(some (-1)) else(some (wrap64 (a1 - (l0.length:Int))))
theorem zc9.calls (A0:Option Addr) (c0:Nat) (l0:List (S56)) (a1:Int) (r:Int) (w:World) (hr0:Kd.C k56 w A0 l0.length l0) (hc0:l0.length≤c0) (h:zc9.f l0 a1=some r) :
  Calls Try.prog 19 #[.slice A0 l0.length c0,.int .i64 a1] w fun e w'=>e=.returned (.int .i64 r)∧zbr w w':=by
 have HR0:=am_ hr0
 have HC0:=am_ hc0
 clear hr0 hc0
 have H:(if (wrap64 (a1 - (l0.length:Int)))<0 then(some (-1)) else(some (wrap64 (a1 - (l0.length:Int)))))=some r:=h
 clear h
 by_cases c3:(wrap64 (a1 - (l0.length:Int)))<0
 ·
  rw [if_pos c3] at H
  have c3b0:decide ((wrap64 (a1 - (l0.length:Int)))<0)=true:=decide_eq_true c3
  clear c3
  obtain rfl:=Option.some.inj H
  go_enter Try.func19,Try.ntmps19
  go_wp2
  go_ret
  exact⟨qz10_,qz2_⟩
 ·
  rw [if_neg c3] at H
  have c3b0:decide ((wrap64 (a1 - (l0.length:Int)))<0)=false:=decide_eq_false c3
  clear c3
  obtain rfl:=Option.some.inj H
  go_enter Try.func19,Try.ntmps19
  go_wp2
  go_ret
  exact⟨qz10_,qz2_⟩
def zbd.l0:Nat→List (List (S56))→Int→Int→Option (Int)
 | 0,_,_,_=>none
 | k + 1,x0,x1,x5=>if x5<(x0.length:Int) then(if 0≤x5 then((zc9.f (zf1 x0 x5) x1).bind fun t102=>(if t102<0 then(some (-1)) else(zbd.l0 k x0 t102 (wrap64 (x5 + 1))))) else(none)) else(some x1)
def zbd.f (k:Nat) (l0:List (List (S56))) (a1:Int):Option (Int):=if (wrap64 (a1 - (l0.length:Int)))<0 then(some (-1)) else(zbd.l0 k l0 (wrap64 (a1 - (l0.length:Int))) 0)
theorem zbd.calls (k:Nat) (A0:Option Addr) (c0:Nat) (l0:List (List (S56))) (a1:Int) (r:Int) (w:World) (hr0:Kd.C (Kd.slice 56 k56) w A0 l0.length l0) (hc0:l0.length≤c0) (h:zbd.f k l0 a1=some r) :
  Calls Try.prog 24 #[.slice A0 l0.length c0,.int .i64 a1] w fun e w'=>e=.returned (.int .i64 r)∧zbr w w':=by
 have HR0:=am_ hr0
 have HC0:=am_ hc0
 clear hr0 hc0
 have H:(if (wrap64 (a1 - (l0.length:Int)))<0 then(some (-1)) else(zbd.l0 k l0 (wrap64 (a1 - (l0.length:Int))) 0))=some r:=h
 clear h
 by_cases c3:(wrap64 (a1 - (l0.length:Int)))<0
 ·
  rw [if_pos c3] at H
  have c3b0:decide ((wrap64 (a1 - (l0.length:Int)))<0)=true:=decide_eq_true c3
  clear c3
  obtain rfl:=Option.some.inj H
  go_enter Try.func24,Try.ntmps24
  go_wp2
  go_ret
  exact⟨qz10_,qz2_⟩
 ·
  rw [if_neg c3] at H
  have c3b0:decide ((wrap64 (a1 - (l0.length:Int)))<0)=false:=decide_eq_false c3
  clear c3
  have H':=am_ H
  clear H
  go_enter Try.func24,Try.ntmps24
  go_wp2
  go_loopg [1,5] k (fun kq v1 v5 w'=>∃ (x1_1:Int) (x5_1:Int),v1=.int .i64 x1_1∧v5=.int .i64 x5_1∧zal (zbd.l0 kq l0 x1_1 x5_1=some r)∧zal (kq≤k)∧zbr w w')
  case atStart=>exact⟨(wrap64 (a1 - (l0.length:Int))),(0),qz10_,qz10_,H',⟨Nat.le_refl _⟩,by repeat(first|exact zbr.refl _|apply zbr.step)⟩
  case round=>
   clear H'
   try clear c2
   try clear p2
   try clear c3
   try clear c3b0
   obtain⟨x1_1,x5_1,rfl,rfl,HA,HK1,⟨m1,rfl⟩⟩:=hrel
   cases gk with
   | zero=>exact absurd HA.out (by simp [zbd.l0])
   | succ k1=>
    have H:=HA.out
    clear HA
    simp only [zbd.l0] at H
    by_cases c4:x5_1<(l0.length:Int)
    ·
     rw [if_pos c4] at H
     have c4b0:decide (x5_1<(l0.length:Int))=true:=decide_eq_true c4
     clear c4
     by_cases c5:0≤x5_1
     ·
      rw [if_pos c5] at H
      have c5b0:decide (0≤x5_1)=true:=decide_eq_true c5
      clear c5
      replace H:=Option.bind_eq_some_iff.mp H
      obtain⟨t102,A60,H⟩:=H
      replace H:(if t102<0 then(some (-1)) else(zbd.l0 k1 l0 t102 (wrap64 (x5_1 + 1))))=some r:=H
      have A6:=am_ A60
      clear A60
      by_cases c7:t102<0
      ·
       rw [if_pos c7] at H
       have c7b0:decide (t102<0)=true:=decide_eq_true c7
       clear c7
       obtain rfl:=Option.some.inj H
       have p101:0≤(x5_1:Int):=of_decide_eq_true qz11_
       have q101:x5_1<(l0.length:Int):=of_decide_eq_true qz11_
       obtain⟨ad101,A101_0,c101_0,e101,hx101_0,hl101_0,hi101_0⟩:=zon HR0.out x5_1 p101 q101
       cases e101
       have HR101_0:=am_ hi101_0
       have HC101_0:=am_ hl101_0
       clear hi101_0 hl101_0
       replace p101:=eq_true p101
       replace q101:=eq_true q101
       go_wp2_with (first|((with_reducible refine zaz (f:=19) rfl ?_);refine zc5 (some 23) rfl rfl Try.func19 (by kernel_rfl) rfl #[.slice A101_0 (zf1 l0 x5_1).length c101_0,.int .i64 x1_1] rfl qz18_ ?_;(with_reducible refine(zc9.calls _ _ (zf1 l0 x5_1) x1_1 t102 _ ?side1 ?side2 A6.out).mono ?_);(case side1=>exact qc_ HR101_0.out);(case side2=>exact HC101_0.out);rintro e w' ⟨rfl,⟨nd,rfl⟩⟩;refine⟨_,rfl,?_⟩))
       go_ret
       exact⟨qz10_,qz2_⟩
      ·
       rw [if_neg c7] at H
       have c7b0:decide (t102<0)=false:=decide_eq_false c7
       clear c7
       have H':=am_ H
       clear H
       have p101:0≤(x5_1:Int):=of_decide_eq_true qz11_
       have q101:x5_1<(l0.length:Int):=of_decide_eq_true qz11_
       obtain⟨ad101,A101_0,c101_0,e101,hx101_0,hl101_0,hi101_0⟩:=zon HR0.out x5_1 p101 q101
       cases e101
       have HR101_0:=am_ hi101_0
       have HC101_0:=am_ hl101_0
       clear hi101_0 hl101_0
       replace p101:=eq_true p101
       replace q101:=eq_true q101
       go_wp2_with (first|((with_reducible refine zaz (f:=19) rfl ?_);refine zc5 (some 23) rfl rfl Try.func19 (by kernel_rfl) rfl #[.slice A101_0 (zf1 l0 x5_1).length c101_0,.int .i64 x1_1] rfl qz18_ ?_;(with_reducible refine(zc9.calls _ _ (zf1 l0 x5_1) x1_1 t102 _ ?side1 ?side2 A6.out).mono ?_);(case side1=>exact qc_ HR101_0.out);(case side2=>exact HC101_0.out);rintro e w' ⟨rfl,⟨nd,rfl⟩⟩;refine⟨_,rfl,?_⟩))
       go_roundg k1
       case measure=>have:=HK1.out;omega
       case rel=>exact⟨(t102),(wrap64 (x5_1 + 1)),qz10_,qz10_,H',⟨(by have:=HK1.out;omega)⟩,by repeat(first|exact zbr.refl _|apply zbr.step)⟩
     ·
      rw [if_neg c5] at H
      exact absurd H (by simp)
    ·
     rw [if_neg c4] at H
     have c4b0:decide (x5_1<(l0.length:Int))=false:=decide_eq_false c4
     clear c4
     obtain rfl:=Option.some.inj H
     go_wp2
     go_ret
     exact⟨qz10_,qz2_⟩
def zel.f (l0_0:List (S56)) (a0_1:Int) (a0_2:ByteArray) (a0_3:Int) (a1:Int):Option (Int):=(zc9.f l0_0 a1).bind fun t102=>(if t102<0 then(some (-1)) else(if (wrap64 (t102 - (a0_2.size:Int)))<0 then(some (-1)) else(some (wrap64 (t102 - (a0_2.size:Int))))))
theorem zel.calls (A0_0:Option Addr) (c0_0:Nat) (l0_0:List (S56)) (a0_1:Int) (a0_2:ByteArray) (a0_3:Int) (a1:Int) (r:Int) (w:World) (hr0_0:Kd.C k56 w A0_0 l0_0.length l0_0) (hc0_0:l0_0.length≤c0_0) (h:zel.f l0_0 a0_1 a0_2 a0_3 a1=some r) :
  Calls Try.prog 25 #[.agg #[.slice A0_0 l0_0.length c0_0,.int .i64 a0_1,.string a0_2,.int .i64 a0_3],.int .i64 a1] w fun e w'=>e=.returned (.int .i64 r)∧Below w.heap.size w w':=by
 have hu59:=Try.underlying59
 have HR0_0:=am_ hr0_0
 have HC0_0:=am_ hc0_0
 clear hr0_0 hc0_0
 have HB:=am_ (Below.refl w.heap.size w)
 have H:((zc9.f l0_0 a1).bind fun t102=>(if t102<0 then(some (-1)) else(if (wrap64 (t102 - (a0_2.size:Int)))<0 then(some (-1)) else(some (wrap64 (t102 - (a0_2.size:Int)))))))=some r:=h
 clear h
 replace H:=Option.bind_eq_some_iff.mp H
 obtain⟨t102,A30,H⟩:=H
 replace H:(if t102<0 then(some (-1)) else(if (wrap64 (t102 - (a0_2.size:Int)))<0 then(some (-1)) else(some (wrap64 (t102 - (a0_2.size:Int))))))=some r:=H
 have A3:=am_ A30
 clear A30
 by_cases c4:t102<0
 ·
  rw [if_pos c4] at H
  have c4b0:decide (t102<0)=true:=decide_eq_true c4
  clear c4
  obtain rfl:=Option.some.inj H
  go_enter Try.func25,Try.ntmps25
  go_wp2_with (first|((with_reducible refine zad (N:=2) rfl ?_);refine zae rfl (N:=2) rfl (cs:=#[.slice A0_0 l0_0.length c0_0,.int .i64 a0_1,.string a0_2,.int .i64 a0_3]) (t:=59) bx_ ?_;intro gb101 hg w5 hbox hb;replace BK101:=am_ (hbox);replace GW101:=am_ ((by rw [hg];exact(zac qz4_):w.heap.size≤gb101));replace GE101:=am_ ((by rw [hg];exact(zac qz4_):w.heap.size≤gb101));replace HB:=am_ (zaj qz4_ hb);clear hb hbox hg;have hcz6_0:w5.cell? ⟨gb101,0,none⟩=some (.slice A0_0 l0_0.length c0_0):=(zaa BK101.out 0).trans rfl;have hcz6_1:w5.cell? ⟨gb101,1,none⟩=some (.int .i64 a0_1):=(zaa BK101.out 1).trans rfl;have hcz6_2:w5.cell? ⟨gb101,2,none⟩=some (.string a0_2):=(zaa BK101.out 2).trans rfl;have hcz6_3:w5.cell? ⟨gb101,3,none⟩=some (.int .i64 a0_3):=(zaa BK101.out 3).trans rfl;have hfz6_0:=zab BK101.out 0;have hfz6_1:=zab BK101.out 1;have hfz6_2:=zab BK101.out 2;have hfz6_3:=zab BK101.out 3)|((with_reducible refine zaz (f:=19) rfl ?_);refine zc5 (some 8) rfl rfl Try.func19 (by kernel_rfl) rfl #[.slice A0_0 l0_0.length c0_0,.int .i64 a1] rfl qz18_ ?_;(with_reducible refine(zc9.calls _ _ l0_0 a1 t102 _ ?side1 ?side2 A3.out).mono ?_);(case side1=>exact qc_ (Kd.zbs HR0_0.out HB.out));(case side2=>exact HC0_0.out);rintro e w' ⟨rfl,⟨nd,rfl⟩⟩;refine⟨_,rfl,?_⟩))
  go_ret
  exact⟨qz8_,qz14_⟩
 ·
  rw [if_neg c4] at H
  have c4b0:decide (t102<0)=false:=decide_eq_false c4
  clear c4
  by_cases c7:(wrap64 (t102 - (a0_2.size:Int)))<0
  ·
   rw [if_pos c7] at H
   have c7b0:decide ((wrap64 (t102 - (a0_2.size:Int)))<0)=true:=decide_eq_true c7
   clear c7
   obtain rfl:=Option.some.inj H
   go_enter Try.func25,Try.ntmps25
   go_wp2_with (first|((with_reducible refine zad (N:=2) rfl ?_);refine zae rfl (N:=2) rfl (cs:=#[.slice A0_0 l0_0.length c0_0,.int .i64 a0_1,.string a0_2,.int .i64 a0_3]) (t:=59) bx_ ?_;intro gb101 hg w8 hbox hb;replace BK101:=am_ (hbox);replace GW101:=am_ ((by rw [hg];exact(zac qz4_):w.heap.size≤gb101));replace GE101:=am_ ((by rw [hg];exact(zac qz4_):w.heap.size≤gb101));replace HB:=am_ (zaj qz4_ hb);clear hb hbox hg;have hcz9_0:w8.cell? ⟨gb101,0,none⟩=some (.slice A0_0 l0_0.length c0_0):=(zaa BK101.out 0).trans rfl;have hcz9_1:w8.cell? ⟨gb101,1,none⟩=some (.int .i64 a0_1):=(zaa BK101.out 1).trans rfl;have hcz9_2:w8.cell? ⟨gb101,2,none⟩=some (.string a0_2):=(zaa BK101.out 2).trans rfl;have hcz9_3:w8.cell? ⟨gb101,3,none⟩=some (.int .i64 a0_3):=(zaa BK101.out 3).trans rfl;have hfz9_0:=zab BK101.out 0;have hfz9_1:=zab BK101.out 1;have hfz9_2:=zab BK101.out 2;have hfz9_3:=zab BK101.out 3)|((with_reducible refine zaz (f:=19) rfl ?_);refine zc5 (some 8) rfl rfl Try.func19 (by kernel_rfl) rfl #[.slice A0_0 l0_0.length c0_0,.int .i64 a1] rfl qz18_ ?_;(with_reducible refine(zc9.calls _ _ l0_0 a1 t102 _ ?side1 ?side2 A3.out).mono ?_);(case side1=>exact qc_ (Kd.zbs HR0_0.out HB.out));(case side2=>exact HC0_0.out);rintro e w' ⟨rfl,⟨nd,rfl⟩⟩;refine⟨_,rfl,?_⟩))
   go_ret
   exact⟨qz8_,qz14_⟩
  ·
   rw [if_neg c7] at H
   have c7b0:decide ((wrap64 (t102 - (a0_2.size:Int)))<0)=false:=decide_eq_false c7
   clear c7
   obtain rfl:=Option.some.inj H
   go_enter Try.func25,Try.ntmps25
   go_wp2_with (first|((with_reducible refine zad (N:=2) rfl ?_);refine zae rfl (N:=2) rfl (cs:=#[.slice A0_0 l0_0.length c0_0,.int .i64 a0_1,.string a0_2,.int .i64 a0_3]) (t:=59) bx_ ?_;intro gb101 hg w10 hbox hb;replace BK101:=am_ (hbox);replace GW101:=am_ ((by rw [hg];exact(zac qz4_):w.heap.size≤gb101));replace GE101:=am_ ((by rw [hg];exact(zac qz4_):w.heap.size≤gb101));replace HB:=am_ (zaj qz4_ hb);clear hb hbox hg;have hcz11_0:w10.cell? ⟨gb101,0,none⟩=some (.slice A0_0 l0_0.length c0_0):=(zaa BK101.out 0).trans rfl;have hcz11_1:w10.cell? ⟨gb101,1,none⟩=some (.int .i64 a0_1):=(zaa BK101.out 1).trans rfl;have hcz11_2:w10.cell? ⟨gb101,2,none⟩=some (.string a0_2):=(zaa BK101.out 2).trans rfl;have hcz11_3:w10.cell? ⟨gb101,3,none⟩=some (.int .i64 a0_3):=(zaa BK101.out 3).trans rfl;have hfz11_0:=zab BK101.out 0;have hfz11_1:=zab BK101.out 1;have hfz11_2:=zab BK101.out 2;have hfz11_3:=zab BK101.out 3)|((with_reducible refine zaz (f:=19) rfl ?_);refine zc5 (some 8) rfl rfl Try.func19 (by kernel_rfl) rfl #[.slice A0_0 l0_0.length c0_0,.int .i64 a1] rfl qz18_ ?_;(with_reducible refine(zc9.calls _ _ l0_0 a1 t102 _ ?side1 ?side2 A3.out).mono ?_);(case side1=>exact qc_ (Kd.zbs HR0_0.out HB.out));(case side2=>exact HC0_0.out);rintro e w' ⟨rfl,⟨nd,rfl⟩⟩;refine⟨_,rfl,?_⟩))
   go_ret
   exact⟨qz8_,qz14_⟩
end Go.Proofs.Ytgookagndlfehaa.PT
end
section
namespace Go.Proofs.Ytgookagndlfehaa.PT
open Go.RowKit Go.Proofs.YtgookagndlfehaaW.PrintWords Go.Proofs.YtgookagndlfehaaW.PrintLast Go.Proofs.YtgookagndlfehaaW.PrintMore
attribute [local go_sem] zex zev zfa ze8 zec zed zeu zew   -- for this text's walks alone
set_option linter.unusedVariables false
set_option linter.unusedSimpArgs false
def zbz.l0:Nat→List (S56)→List (S34)→Int→Option ((List (S34)))
 | 0,_,_,_=>none
 | k + 1,x0,x3,x4=>if x4<(x0.length:Int) then(if 0≤x4 then((zea.f ((zgt x0 x4).f0) ((zgt x0 x4).f1)).bind fun bt105=>(if x4<(x3.length:Int) then(zbz.l0 k x0 (x3.set (x4:Int).toNat (⟨bt105.1,bt105.2⟩:S34)) (wrap64 (x4 + 1))) else(none))) else(none)) else(some x3)
def zbz.f (k:Nat) (l0:List (S56)):Option ((List (S34))):=if 0≤(l0.length:Int) then(if ((l0.length:Int):Int).toNat≤17592186044416 then(zbz.l0 k l0 (List.replicate ((l0.length:Int):Int).toNat z34) 0) else(none)) else(none)
theorem zbz.calls (k:Nat) (A0:Option Addr) (c0:Nat) (l0:List (S56)) (r:List (S34)) (w:World) (hr0:Kd.C k56 w A0 l0.length l0) (hc0:l0.length≤c0) (h:zbz.f k l0=some r) :
  Calls Try.prog 21 #[.slice A0 l0.length c0] w fun e w'=>∃ v0_:Value,e=.returned (v0_)∧Kd.R k34 34 w' w.heap.size (fun _=>True) v0_ r∧Below w.heap.size w w':=by
 have hu56:=Try.underlying56
 have hu34:=Try.underlying34
 have HR0:=am_ hr0
 have HC0:=am_ hc0
 clear hr0 hc0
 have HB:=am_ (Below.refl w.heap.size w)
 have H:(if 0≤(l0.length:Int) then(if ((l0.length:Int):Int).toNat≤17592186044416 then(zbz.l0 k l0 (List.replicate ((l0.length:Int):Int).toNat z34) 0) else(none)) else(none))=some r:=h
 clear h
 by_cases c2:0≤(l0.length:Int)
 ·
  rw [if_pos c2] at H
  have c2b0:=eq_true c2
  have c2b1:decide (0≤(l0.length:Int))=true:=decide_eq_true c2
  clear c2
  by_cases c3:((l0.length:Int):Int).toNat≤17592186044416
  ·
   rw [if_pos c3] at H
   have c3b0:=eq_true c3
   have c3b1:decide (((l0.length:Int):Int).toNat≤17592186044416)=true:=decide_eq_true c3
   clear c3
   obtain⟨y101,hy101⟩:∃ y_:List (S34),y_=(List.replicate ((l0.length:Int):Int).toNat z34):=⟨_,rfl⟩
   replace H:(zbz.l0 k l0 y101 0)=some r:=by first|(rw [hy101];with_reducible exact H)|(have H2_:=(Option.bind_some _ _).symm.trans H;rw [hy101];with_reducible exact H2_)|(have H2_:=(Option.bind_some _ _).symm.trans H;with_reducible exact H2_)|with_reducible exact H|(rw [hy101];exact H)|exact H
   have Ny101:=am_ hy101
   clear hy101
   have H':=am_ H
   clear H
   go_enter Try.func21,Try.ntmps21
   go_wp2_with (first|((with_reducible refine zad (N:=7) rfl ?_);refine Kd.R_make k34 _ 34 rfl (N:=7) rfl 24 _ _ rfl (l0.length:Int) rfl rfl Try.underlying24 (.agg #[(.int .i64 0),(.int .i64 0)]) 16 zk5 rfl (by decide) (by omega) z34 (ok:=fun _=>True) (okp:=fun _=>True) (zhe _ _ _ z34 ) (fun _ hk=>hk) trivial (of_decide_eq_true qz11_) (Nat.le_trans (Nat.mul_le_mul_right _ (of_decide_eq_true qz11_:(l0.length:Int).toNat≤17592186044416)) (by omega)) (Below.refl _ _) (Nat.le_refl _) ?_;intro v102 w4 ho5 hb hg_ hnew_;clear hg_ hnew_;(first|rw [←Ny101.out] at ho5|(simp only [Int.reduceToNat] at ho5;rw [←Ny101.out] at ho5));replace HO103:=am_ (Kd.zdk ho5 (zac qz4_));replace HB:=am_ (zaj qz4_ hb);clear hb ho5))
   go_loopg [4] k (fun kq v4 w'=>∃ (x3_1:List (S34)) (x4_1:Int),v4=.int .i64 x4_1∧zal (zbz.l0 kq l0 x3_1 x4_1=some r)∧zal (kq≤k)∧zal (Kd.R k34 34 w' w.heap.size (fun _=>True) v102 x3_1)∧zal (Below w.heap.size w w'))
   case atStart=>exact⟨(y101),(0),qz10_,H',⟨Nat.le_refl _⟩,⟨qz7_⟩,⟨qz4_⟩⟩
   case round=>
    clear H'
    try clear c2
    try clear c2b0
    try clear c2b1
    try clear p2
    try clear c3
    try clear c3b0
    try clear c3b1
    obtain⟨x3_1,x4_1,rfl,HA,HK1,HO_3,HB⟩:=hrel
    cases gk with
    | zero=>exact absurd HA.out (by simp [zbz.l0])
    | succ k1=>
     have H:=HA.out
     clear HA
     simp only [zbz.l0] at H
     by_cases c6:x4_1<(l0.length:Int)
     ·
      rw [if_pos c6] at H
      have c6b0:decide (x4_1<(l0.length:Int))=true:=decide_eq_true c6
      clear c6
      by_cases c7:0≤x4_1
      ·
       rw [if_pos c7] at H
       have c7b0:decide (0≤x4_1)=true:=decide_eq_true c7
       clear c7
       replace H:=Option.bind_eq_some_iff.mp H
       obtain⟨⟨t105,t106⟩,A80,H⟩:=H
       replace H:(if x4_1<(x3_1.length:Int) then(zbz.l0 k1 l0 (x3_1.set (x4_1:Int).toNat (⟨t105,t106⟩:S34)) (wrap64 (x4_1 + 1))) else(none))=some r:=H
       have A8:=am_ A80
       clear A80
       by_cases c9:x4_1<(x3_1.length:Int)
       ·
        rw [if_pos c9] at H
        have c9b0:decide (x4_1<(x3_1.length:Int))=true:=decide_eq_true c9
        clear c9
        obtain⟨y107,hy107⟩:∃ y_:List (S34),y_=(x3_1.set (x4_1:Int).toNat (⟨t105,t106⟩:S34)):=⟨_,rfl⟩
        replace H:(zbz.l0 k1 l0 y107 (wrap64 (x4_1 + 1)))=some r:=by first|(rw [hy107];with_reducible exact H)|(have H2_:=(Option.bind_some _ _).symm.trans H;rw [hy107];with_reducible exact H2_)|(have H2_:=(Option.bind_some _ _).symm.trans H;with_reducible exact H2_)|with_reducible exact H|(rw [hy107];exact H)|exact H
        have Ny107:=am_ hy107
        clear hy107
        have H':=am_ H
        clear H
        have p104:0≤(x4_1:Int):=of_decide_eq_true qz11_
        have q104:x4_1<(l0.length:Int):=of_decide_eq_true qz11_
        obtain⟨ad104,e104,hx104_0,hx104_1⟩:=at_T56 HR0.out x4_1 p104 q104
        cases e104
        replace hx104_0:=(HB.out.cell (World.block_lt_of_cell? w _ hx104_0)).trans hx104_0
        replace hx104_1:=(HB.out.cell (World.block_lt_of_cell? w _ hx104_1)).trans hx104_1
        replace p104:=eq_true p104
        replace q104:=eq_true q104
        go_wp2_with (first|((with_reducible refine zaz (f:=27) rfl ?_);refine zc5 (some 20) rfl rfl Try.func27 (by kernel_rfl) rfl #[.agg #[.int .i64 ((zgt l0 x4_1).f0),.int .i64 ((zgt l0 x4_1).f1)]] rfl qz18_ ?_;(with_reducible refine(zea.calls ((zgt l0 x4_1).f0) ((zgt l0 x4_1).f1) t105 t106 _ A8.out).mono ?_);rintro e w11 ⟨rfl,hb⟩;refine⟨_,rfl,?_⟩;replace HO_3:=am_ (Kd.zdr qz5_ hb);replace HB:=am_ (zaj qz4_ hb);(try clear hb);(try clear hb2);(try clear hk);(try clear hi);have p10:0≤(x4_1:Int):=of_decide_eq_true qz11_;have q10:(x4_1:Int)<((x3_1.length:Int):Int):=of_decide_eq_true qz11_;obtain⟨go10,co10,eo10,gb10,gl10,cl10,HG10⟩:=Kd.zlk HO_3.out (by omega);(first|cases eo10|(injection eo10 with ea_ en_ ec_;(first|subst ea_|(injection ea_ with ea_;subst ea_));subst ec_;clear en_));have GB10:=am_ gb10;have GG10:=am_ HG10;clear gb10 gl10 HG10;obtain⟨ce10,hcl10,hM10,hcc10,hfr10⟩:=Kd.zi4 HO_3.out z34 (x4_1:Int) p10 q10;obtain rfl:=zfz hM10;have hx10_0:w11.cell? ⟨go10,(x4_1:Int).toNat * 2,none⟩=some (.int .i64 ((zan x3_1 x4_1).f0)):=hcc10 0 _ rfl;have hx10_1:w11.cell? ⟨go10,(x4_1:Int).toNat * 2 + 1,none⟩=some (.int .i64 ((zan x3_1 x4_1).f1)):=hcc10 1 _ rfl;have hf10_0:w11.frozen? ⟨go10,(x4_1:Int).toNat * 2,none⟩=false:=hfr10 0;have hf10_1:w11.frozen? ⟨go10,(x4_1:Int).toNat * 2 + 1,none⟩=false:=hfr10 1;(try clear hcl10);(try clear hcc10);(try clear hfr10);(try clear hM10);replace p10:=eq_true p10;replace q10:=eq_true q10;have HX12:=am_ (show Kd.R k34 34 w11 w.heap.size (fun _=>True) (.slice (some ⟨go10,0,none⟩) x3_1.length co10) x3_1 from qz5_);obtain⟨ce12,hcl12,hM12,hcc12,hfr12⟩:=Kd.zi4 HX12.out z34 (x4_1:Int) (of_decide_eq_true qz11_) (by have h_:(x4_1:Int)<((x3_1.length:Int):Int):=of_decide_eq_true qz11_;first|exact h_|(have e_:=(Kd.R_reads' HO_3.out).1;omega)|simpa using h_);obtain rfl:=zfz hM12;have HP12:=Kd.R_seg HX12.out (x4_1:Int) (of_decide_eq_true qz11_) (by have h_:(x4_1:Int)<((x3_1.length:Int):Int):=of_decide_eq_true qz11_;first|exact h_|(have e_:=(Kd.R_reads' HO_3.out).1;omega)|simpa using h_) (seg:=[.int .i64 t105,.int .i64 t106]) (j:=0) hcl12 hcc12 (show 2≤2 from by decide) (x':=(⟨t105,t106⟩:S34)) (zhe _ _ _ (⟨t105,t106⟩:S34) ) (fun _ hk=>hk);have hx12_0:=hcc12 0 _ rfl;(try simp only [show (k34).sz=2 from rfl,Nat.mul_one,Nat.add_zero] at hx12_0);have hf12_0:=hfr12 0;(try simp only [show (k34).sz=2 from rfl,Nat.mul_one,Nat.add_zero] at hf12_0);have hx12_1:=hcc12 1 _ rfl;(try simp only [show (k34).sz=2 from rfl,Nat.mul_one,Nat.add_zero] at hx12_1);have hf12_1:=hfr12 1;(try simp only [show (k34).sz=2 from rfl,Nat.mul_one,Nat.add_zero] at hf12_1);(try clear hcl12);(try clear hcc12);(try clear hfr12);(try clear hM12))|((with_reducible refine zaq (t:=34) (p:=21) rfl ?_);refine ze7 (t:=34) (p:=21) (v:=?vo_w13) (w1:=((w11.setCell ⟨go10,(x4_1:Int).toNat * 2,none⟩ (.int .i64 t105)).setCell ⟨go10,(x4_1:Int).toNat * 2 + 1,none⟩ (.int .i64 t106))) ?hg ?ho ?hn ?hr ?_;(case ho=>rfl);(case hg=>rfl);(case hn=>rfl);(case hr=>first|(go_simp;done)|(go_simp;rfl));intro w13 hw;have hg:w11.grownBy w13 (some go10):=(by rw [hw];exact HP12.2);have hp_:Kd.R k34 34 w13 w.heap.size (fun _=>True) (.slice (some ⟨go10,0,none⟩) x3_1.length co10) y107:=(by rw [hw,Ny107.out];exact HP12.1);clear HP12;replace HO_3:=am_ (hp_);replace HB:=am_ ((by rw [hw];exact za4 (za4 (HB.out) GB10.out) GB10.out:Below w.heap.size w w13));clear hg hw hp_))
        go_roundg k1
        case measure=>have:=HK1.out;omega
        case rel=>exact⟨(y107),(wrap64 (x4_1 + 1)),qz10_,H',⟨(by have:=HK1.out;omega)⟩,⟨qz5_⟩,⟨qz4_⟩⟩
       ·
        rw [if_neg c9] at H
        exact absurd H (by simp)
      ·
       rw [if_neg c7] at H
       exact absurd H (by simp)
     ·
      rw [if_neg c6] at H
      have c6b0:decide (x4_1<(l0.length:Int))=false:=decide_eq_false c6
      clear c6
      obtain rfl:=Option.some.inj H
      go_wp2
      go_ret
      exact⟨_,qz8_,qz5_,qz4_⟩
  ·
   rw [if_neg c3] at H
   exact absurd H (by simp)
 ·
  rw [if_neg c2] at H
  exact absurd H (by simp)
def zbt.l0:Nat→List (List (S56))→List (List (S34))→Int→Option ((List (List (S34))))
 | 0,_,_,_=>none
 | k + 1,x0,x3,x4=>if x4<(x0.length:Int) then(if 0≤x4 then((zbz.f k (zf1 x0 x4)).bind fun t105=>(if x4<(x3.length:Int) then(zbt.l0 k x0 (x3.set (x4:Int).toNat t105) (wrap64 (x4 + 1))) else(none))) else(none)) else(some x3)
def zbt.f (k:Nat) (l0:List (List (S56))):Option ((List (List (S34)))):=if 0≤(l0.length:Int) then(if ((l0.length:Int):Int).toNat≤11728124029610 then(zbt.l0 k l0 (List.replicate ((l0.length:Int):Int).toNat []) 0) else(none)) else(none)
theorem zbt.calls (k:Nat) (A0:Option Addr) (c0:Nat) (l0:List (List (S56))) (r:List (List (S34))) (w:World) (hr0:Kd.C (Kd.slice 56 k56) w A0 l0.length l0) (hc0:l0.length≤c0) (h:zbt.f k l0=some r) :
  Calls Try.prog 28 #[.slice A0 l0.length c0] w fun e w'=>∃ v0_:Value,e=.returned (v0_)∧Kd.S (Kd.slice 34 k34) 24 w' w.heap.size (fun _=>True) v0_ r∧Below w.heap.size w w':=by
 have HR0:=am_ hr0
 have HC0:=am_ hc0
 clear hr0 hc0
 have HB:=am_ (Below.refl w.heap.size w)
 have H:(if 0≤(l0.length:Int) then(if ((l0.length:Int):Int).toNat≤11728124029610 then(zbt.l0 k l0 (List.replicate ((l0.length:Int):Int).toNat []) 0) else(none)) else(none))=some r:=h
 clear h
 by_cases c2:0≤(l0.length:Int)
 ·
  rw [if_pos c2] at H
  have c2b0:=eq_true c2
  have c2b1:decide (0≤(l0.length:Int))=true:=decide_eq_true c2
  clear c2
  by_cases c3:((l0.length:Int):Int).toNat≤11728124029610
  ·
   rw [if_pos c3] at H
   have c3b0:=eq_true c3
   have c3b1:decide (((l0.length:Int):Int).toNat≤11728124029610)=true:=decide_eq_true c3
   clear c3
   obtain⟨y101,hy101⟩:∃ y_:List (List (S34)),y_=(List.replicate ((l0.length:Int):Int).toNat []):=⟨_,rfl⟩
   replace H:(zbt.l0 k l0 y101 0)=some r:=by first|(rw [hy101];with_reducible exact H)|(have H2_:=(Option.bind_some _ _).symm.trans H;rw [hy101];with_reducible exact H2_)|(have H2_:=(Option.bind_some _ _).symm.trans H;with_reducible exact H2_)|with_reducible exact H|(rw [hy101];exact H)|exact H
   have Ny101:=am_ hy101
   clear hy101
   have H':=am_ H
   clear H
   go_enter Try.func28,Try.ntmps28
   go_wp2_with (first|((with_reducible refine zad (N:=7) rfl ?_);refine Kd.S_make (Kd.slice 34 k34) _ 24 rfl (N:=7) rfl 65 _ _ rfl (l0.length:Int) rfl rfl Try.underlying65 (.slice none 0 0) 24 info24 rfl (by decide) (by omega) [] (ok:=fun _=>True) (okp:=fun _=>True) ⟨_,rfl,Kd.R_nil _ _ _ _ _⟩ (fun _ hk=>hk) trivial (of_decide_eq_true qz11_) (Nat.le_trans (Nat.mul_le_mul_right _ (of_decide_eq_true qz11_:(l0.length:Int).toNat≤11728124029610)) (by omega)) (Below.refl _ _) (Nat.le_refl _) ?_;intro v102 w4 ho5 hb hg_ hnew_;clear hg_ hnew_;(first|rw [←Ny101.out] at ho5|(simp only [Int.reduceToNat] at ho5;rw [←Ny101.out] at ho5));replace HO103:=am_ (Kd.S_lower ho5 (zac qz4_));replace HB:=am_ (zaj qz4_ hb);clear hb ho5))
   go_loopg [4] k (fun kq v4 w'=>∃ (x3_1:List (List (S34))) (x4_1:Int),v4=.int .i64 x4_1∧zal (zbt.l0 kq l0 x3_1 x4_1=some r)∧zal (kq≤k)∧zal (Kd.S (Kd.slice 34 k34) 24 w' w.heap.size (fun _=>True) v102 x3_1)∧zal (Below w.heap.size w w'))
   case atStart=>exact⟨(y101),(0),qz10_,H',⟨Nat.le_refl _⟩,⟨(by(with_reducible repeat(first|apply Kd.zjf|apply Kd.zil|apply Kd.zk1));exact HO103.out)⟩,⟨qz4_⟩⟩
   case round=>
    clear H'
    try clear c2
    try clear c2b0
    try clear c2b1
    try clear p2
    try clear c3
    try clear c3b0
    try clear c3b1
    obtain⟨x3_1,x4_1,rfl,HA,HK1,HO_3,HB⟩:=hrel
    cases gk with
    | zero=>exact absurd HA.out (by simp [zbt.l0])
    | succ k1=>
     have H:=HA.out
     clear HA
     simp only [zbt.l0] at H
     by_cases c6:x4_1<(l0.length:Int)
     ·
      rw [if_pos c6] at H
      have c6b0:decide (x4_1<(l0.length:Int))=true:=decide_eq_true c6
      clear c6
      by_cases c7:0≤x4_1
      ·
       rw [if_pos c7] at H
       have c7b0:decide (0≤x4_1)=true:=decide_eq_true c7
       clear c7
       replace H:=Option.bind_eq_some_iff.mp H
       obtain⟨t105,A80,H⟩:=H
       replace H:(if x4_1<(x3_1.length:Int) then(zbt.l0 k1 l0 (x3_1.set (x4_1:Int).toNat t105) (wrap64 (x4_1 + 1))) else(none))=some r:=H
       have A8:=am_ A80
       clear A80
       by_cases c9:x4_1<(x3_1.length:Int)
       ·
        rw [if_pos c9] at H
        have c9b0:decide (x4_1<(x3_1.length:Int))=true:=decide_eq_true c9
        clear c9
        obtain⟨y108,hy108⟩:∃ y_:List (List (S34)),y_=(x3_1.set (x4_1:Int).toNat t105):=⟨_,rfl⟩
        replace H:(zbt.l0 k1 l0 y108 (wrap64 (x4_1 + 1)))=some r:=by first|(rw [hy108];with_reducible exact H)|(have H2_:=(Option.bind_some _ _).symm.trans H;rw [hy108];with_reducible exact H2_)|(have H2_:=(Option.bind_some _ _).symm.trans H;with_reducible exact H2_)|with_reducible exact H|(rw [hy108];exact H)|exact H
        have Ny108:=am_ hy108
        clear hy108
        have H':=am_ H
        clear H
        have p104:0≤(x4_1:Int):=of_decide_eq_true qz11_
        have q104:x4_1<(l0.length:Int):=of_decide_eq_true qz11_
        obtain⟨ad104,A104_0,c104_0,e104,hx104_0,hl104_0,hi104_0⟩:=zon HR0.out x4_1 p104 q104
        cases e104
        replace hx104_0:=(HB.out.cell (World.block_lt_of_cell? w _ hx104_0)).trans hx104_0
        have HR104_0:=am_ hi104_0
        have HC104_0:=am_ hl104_0
        clear hi104_0 hl104_0
        replace p104:=eq_true p104
        replace q104:=eq_true q104
        go_wp2_with (first|((with_reducible refine zaz (f:=21) rfl ?_);refine zc5 (some 20) rfl rfl Try.func21 (by kernel_rfl) rfl #[.slice A104_0 (zf1 l0 x4_1).length c104_0] rfl qz18_ ?_;(with_reducible refine(zbz.calls k1 _ _ (zf1 l0 x4_1) t105 _ ?side1 ?side2 A8.out).mono ?_);(case side1=>exact qc_ (Kd.zbs HR104_0.out HB.out));(case side2=>exact HC104_0.out);rintro e w11 ⟨v106,rfl,ho0,hb⟩;refine⟨_,rfl,?_⟩;replace HO_3:=am_ (Kd.S_elder' (by(with_reducible repeat(first|apply Kd.zjf|apply Kd.zil|apply Kd.zk1));exact HO_3.out) (Kd.zh6 ho0) hb);replace HO107:=am_ (Kd.zdk ho0 (zac qz4_));replace HB:=am_ (zaj qz4_ hb);(try clear hb);(try clear hb2);(try clear hk);(try clear hi);(try clear ho0);have p10:0≤(x4_1:Int):=of_decide_eq_true qz11_;have q10:(x4_1:Int)<((x3_1.length:Int):Int):=of_decide_eq_true qz11_;obtain⟨go10,co10,eo10,gb10,gl10,cl10,HG10⟩:=Kd.S_form HO_3.out (by omega);(first|cases eo10|(injection eo10 with ea_ en_ ec_;(first|subst ea_|(injection ea_ with ea_;subst ea_));subst ec_;clear en_));have GB10:=am_ gb10;have GG10:=am_ HG10;clear gb10 gl10 HG10;obtain⟨_,ce10,hcl10,hM10,hcc10,hfr10,_,_⟩:=Kd.zpe HO_3.out [] (x4_1:Int) p10 q10;obtain⟨ve10_0,rfl,ge10_0⟩:=hM10;have hx10_0:=hcc10 0 _ rfl;have hf10_0:=hfr10 0;(try simp only [show ((Kd.slice 34 k34)).sz=1 from rfl,Nat.mul_one,Nat.add_zero] at hx10_0);(try simp only [show ((Kd.slice 34 k34)).sz=1 from rfl,Nat.mul_one,Nat.add_zero] at hf10_0);(try clear hcl10);(try clear hcc10);(try clear hfr10);(try clear hM10);replace p10:=eq_true p10;replace q10:=eq_true q10;obtain⟨Ao12,co12,eo12⟩:=Kd.zb0 HO107.out;subst eo12;have n_:=am_ (Kd.zpf (ok':=(fun k_=>some k_≠(.slice Ao12 t105.length co12:Value).ownBlock)) HO_3.out (fun k_ hk=>hk.2));clear HO_3;have HO_3:=n_;clear n_;have HX13:=am_ (show Kd.S (Kd.slice 34 k34) 24 w11 w.heap.size (fun k_=>((fun _=>True)) k_∧¬((fun k_=>some k_=(.slice Ao12 t105.length co12:Value).ownBlock)) k_) (.slice (some ⟨go10,0,none⟩) x3_1.length co10) x3_1 from(by(with_reducible repeat(first|apply Kd.zjf|apply Kd.zil|apply Kd.zk1));exact Kd.zpf HO_3.out (fun k_ hk=>⟨trivial,fun e_=>hk e_⟩)));obtain⟨oki13,ce13,hcl13,hM13,hcc13,hfr13,hoki13,hH13⟩:=Kd.zpe HX13.out [] (x4_1:Int) (of_decide_eq_true qz11_) (by have h_:(x4_1:Int)<((x3_1.length:Int):Int):=of_decide_eq_true qz11_;first|exact h_|(have e_:=(Kd.S_reads' HO_3.out).1;omega)|simpa using h_);obtain⟨ve13_0,rfl,ge13_0⟩:=hM13;have HP13:=Kd.S_seg hH13 (of_decide_eq_true qz11_) (by have h_:(x4_1:Int)<((x3_1.length:Int):Int):=of_decide_eq_true qz11_;first|exact h_|(have e_:=(Kd.S_reads' HO_3.out).1;omega)|simpa using h_) (seg:=[.slice Ao12 t105.length co12]) (j:=0) (show 1≤1 from by decide) (x':=t105) (Kd.M_row (Kd.zbi (Kd.zfo rfl (Kd.zbi (ok':=fun k_=>((fun _=>True)) k_∧k_≠go10) (Kd.R_apart' (HO107.out) (Kd.zoe HO_3.out) (by decide)) (fun k_ hk=>⟨trivial,fun e_=>(hk.2) (by rw [e_];rfl)⟩))) (fun _ h_=>Or.inr (h_)))) (fun _ hk=>hk) (fun k_ hk_=>((Kd.zbi (ok':=fun k_=>((fun _=>True)) k_∧k_≠go10) (Kd.R_apart' (HO107.out) (Kd.zoe HO_3.out) (by decide)) (fun k_ hk=>⟨trivial,fun e_=>(hk.2) (by rw [e_];rfl)⟩))).1 k_ hk_.symm);have hx13_0:=hcc13 0 _ rfl;(try simp only [show ((Kd.slice 34 k34)).sz=1 from rfl,Nat.mul_one,Nat.add_zero] at hx13_0);have hf13_0:=hfr13 0;(try simp only [show ((Kd.slice 34 k34)).sz=1 from rfl,Nat.mul_one,Nat.add_zero] at hf13_0);(try clear hcl13);(try clear hcc13);(try clear hfr13);(try clear hM13);(try clear hoki13);(try clear hH13);(try simp only [show ((Kd.slice 34 k34)).sz=1 from rfl,Nat.mul_one,Nat.add_zero] at HP13))|((with_reducible refine zaq (t:=24) (p:=21) rfl ?_);refine ze7 (t:=24) (p:=21) (v:=?vo_w14) (w1:=(w11.setCell ⟨go10,(x4_1:Int).toNat,none⟩ (.slice Ao12 t105.length co12))) ?hg ?ho ?hn ?hr ?_;(case ho=>rfl);(case hg=>rfl);(case hn=>rfl);(case hr=>first|(go_simp;done)|(go_simp;rfl));intro w14 hw;have hg:w11.grownBy w14 (some go10):=(by rw [hw];exact HP13.2);have hp_:Kd.S (Kd.slice 34 k34) 24 w14 w.heap.size (fun _=>True) (.slice (some ⟨go10,0,none⟩) x3_1.length co10) y108:=(by rw [hw,Ny108.out];exact HP13.1);clear HP13;replace HO_3:=am_ (hp_);replace HB:=am_ ((by rw [hw];exact za4 (HB.out) GB10.out:Below w.heap.size w w14));clear HO107;clear hg hw hp_))
        go_roundg k1
        case measure=>have:=HK1.out;omega
        case rel=>exact⟨(y108),(wrap64 (x4_1 + 1)),qz10_,H',⟨(by have:=HK1.out;omega)⟩,⟨(by(with_reducible repeat(first|apply Kd.zjf|apply Kd.zil|apply Kd.zk1));exact HO_3.out)⟩,⟨qz4_⟩⟩
       ·
        rw [if_neg c9] at H
        exact absurd H (by simp)
      ·
       rw [if_neg c7] at H
       exact absurd H (by simp)
     ·
      rw [if_neg c6] at H
      have c6b0:decide (x4_1<(l0.length:Int))=false:=decide_eq_false c6
      clear c6
      obtain rfl:=Option.some.inj H
      go_wp2
      go_ret
      exact⟨_,qz8_,(by(with_reducible repeat(first|apply Kd.zjf|apply Kd.zil|apply Kd.zk1));exact HO_3.out),qz4_⟩
  ·
   rw [if_neg c3] at H
   exact absurd H (by simp)
 ·
  rw [if_neg c2] at H
  exact absurd H (by simp)
def zdh.f (k:Nat) (l0_0:List (S56)) (a0_1:Int) (a0_2:ByteArray) (a0_3:Int):Option ((List (S34)) × Int × ByteArray × Int):=(zbz.f k l0_0).bind fun t104=>(some (t104,a0_1,a0_2,a0_3))
theorem zdh.calls (k:Nat) (A0_0:Option Addr) (c0_0:Nat) (l0_0:List (S56)) (a0_1:Int) (a0_2:ByteArray) (a0_3:Int) (r1:List (S34)) (r2:Int) (r3:ByteArray) (r4:Int) (w:World) (hr0_0:Kd.C k56 w A0_0 l0_0.length l0_0) (hc0_0:l0_0.length≤c0_0) (h:zdh.f k l0_0 a0_1 a0_2 a0_3=some (r1,r2,r3,r4)) :
  Calls Try.prog 29 #[.agg #[.slice A0_0 l0_0.length c0_0,.int .i64 a0_1,.string a0_2,.int .i64 a0_3]] w fun e w'=>∃ v0_:Value,e=.returned (.agg #[v0_,.int .i64 r2,.string r3,.int .i64 r4])∧Kd.R k34 34 w' w.heap.size (fun _=>True) v0_ r1∧Below w.heap.size w w':=by
 have hu59:=Try.underlying59
 have hu27:=Try.underlying27
 have HR0_0:=am_ hr0_0
 have HC0_0:=am_ hc0_0
 clear hr0_0 hc0_0
 have HB:=am_ (Below.refl w.heap.size w)
 have H:((zbz.f k l0_0).bind fun t104=>(some (t104,a0_1,a0_2,a0_3)))=some (r1,r2,r3,r4):=h
 clear h
 replace H:=Option.bind_eq_some_iff.mp H
 obtain⟨t104,A20,H⟩:=H
 replace H:(some (t104,a0_1,a0_2,a0_3))=some (r1,r2,r3,r4):=H
 have A2:=am_ A20
 clear A20
 simp only [Option.some.injEq,Prod.mk.injEq] at H
 obtain⟨rfl,rfl,rfl,rfl⟩:=H
 go_enter Try.func29,Try.ntmps29
 go_wp2_with (first|((with_reducible refine zad (N:=1) rfl ?_);refine zae rfl (N:=1) rfl (cs:=#[.slice A0_0 l0_0.length c0_0,.int .i64 a0_1,.string a0_2,.int .i64 a0_3]) (t:=59) bx_ ?_;intro gb101 hg w3 hbox hb;replace BK101:=am_ (hbox);replace GW101:=am_ ((by rw [hg];exact(zac qz4_):w.heap.size≤gb101));replace GE101:=am_ ((by rw [hg];exact(zac qz4_):w.heap.size≤gb101));replace HB:=am_ (zaj qz4_ hb);clear hb hbox hg)|((with_reducible refine zad (N:=2) rfl ?_);refine zae rfl (N:=2) rfl (cs:=#[.slice none 0 0,.int .i64 0,.string (⟨#[]⟩:ByteArray),.int .i64 0]) (t:=27) bx_ ?_;intro gb102 hg w4 hbox hb;replace BK102:=am_ (hbox);replace GW102:=am_ ((by rw [hg];exact(zac qz14_):w.heap.size≤gb102));replace GE102:=am_ ((by rw [hg];exact(zac qz14_):w.heap.size≤gb102));replace HB:=am_ (zaj qz14_ hb);replace NB101_102:=am_ ((by rw [hg];exact Nat.ne_of_lt (zar (g:=gb101) (o:=.cells #[.slice A0_0 l0_0.length c0_0,.int .i64 a0_1,.string a0_2,.int .i64 a0_3] 59 (0,0)) qz13_):gb101≠gb102));replace NB102_101:=am_ ((by rw [hg];exact Nat.ne_of_gt (zar (g:=gb101) (o:=.cells #[.slice A0_0 l0_0.length c0_0,.int .i64 a0_1,.string a0_2,.int .i64 a0_3] 59 (0,0)) qz13_):gb102≠gb101));replace BK101:=am_ (zak (g:=gb101) (o:=.cells #[.slice A0_0 l0_0.length c0_0,.int .i64 a0_1,.string a0_2,.int .i64 a0_3] 59 (0,0)) qz13_ hb);clear hb hbox hg)|((with_reducible refine zad (N:=3) rfl ?_);refine zae rfl (N:=3) rfl (cs:=#[.slice none 0 0,.int .i64 0,.string (⟨#[]⟩:ByteArray),.int .i64 0]) (t:=27) bx_ ?_;intro gb103 hg w5 hbox hb;replace BK103:=am_ (hbox);replace GW103:=am_ ((by rw [hg];exact(zac qz16_):w.heap.size≤gb103));replace GE103:=am_ ((by rw [hg];exact(zac qz16_):w.heap.size≤gb103));replace HB:=am_ (zaj qz16_ hb);replace NB101_103:=am_ ((by rw [hg];exact Nat.ne_of_lt (zar (g:=gb101) (o:=.cells #[.slice A0_0 l0_0.length c0_0,.int .i64 a0_1,.string a0_2,.int .i64 a0_3] 59 (0,0)) qz13_):gb101≠gb103));replace NB103_101:=am_ ((by rw [hg];exact Nat.ne_of_gt (zar (g:=gb101) (o:=.cells #[.slice A0_0 l0_0.length c0_0,.int .i64 a0_1,.string a0_2,.int .i64 a0_3] 59 (0,0)) qz13_):gb103≠gb101));replace BK101:=am_ (zak (g:=gb101) (o:=.cells #[.slice A0_0 l0_0.length c0_0,.int .i64 a0_1,.string a0_2,.int .i64 a0_3] 59 (0,0)) qz13_ hb);replace NB102_103:=am_ ((by rw [hg];exact Nat.ne_of_lt (zar (g:=gb102) (o:=.cells #[.slice none 0 0,.int .i64 0,.string (⟨#[]⟩:ByteArray),.int .i64 0] 27 (0,0)) qz15_):gb102≠gb103));replace NB103_102:=am_ ((by rw [hg];exact Nat.ne_of_gt (zar (g:=gb102) (o:=.cells #[.slice none 0 0,.int .i64 0,.string (⟨#[]⟩:ByteArray),.int .i64 0] 27 (0,0)) qz15_):gb103≠gb102));replace BK102:=am_ (zak (g:=gb102) (o:=.cells #[.slice none 0 0,.int .i64 0,.string (⟨#[]⟩:ByteArray),.int .i64 0] 27 (0,0)) qz15_ hb);clear hb hbox hg;have hnb6:=NB101_102.out;have hnc6:=NB102_101.out;have hnb7:=NB101_103.out;have hnc7:=NB103_101.out;have hcz8_0:w5.cell? ⟨gb101,0,none⟩=some (.slice A0_0 l0_0.length c0_0):=(zaa BK101.out 0).trans rfl;have hcz8_1:w5.cell? ⟨gb101,1,none⟩=some (.int .i64 a0_1):=(zaa BK101.out 1).trans rfl;have hcz8_2:w5.cell? ⟨gb101,2,none⟩=some (.string a0_2):=(zaa BK101.out 2).trans rfl;have hcz8_3:w5.cell? ⟨gb101,3,none⟩=some (.int .i64 a0_3):=(zaa BK101.out 3).trans rfl;have hfz8_0:=zab BK101.out 0;have hfz8_1:=zab BK101.out 1;have hfz8_2:=zab BK101.out 2;have hfz8_3:=zab BK101.out 3)|((with_reducible refine zaz (f:=21) rfl ?_);refine zc5 (some 6) rfl rfl Try.func21 (by kernel_rfl) rfl #[.slice A0_0 l0_0.length c0_0] rfl qz18_ ?_;(with_reducible refine(zbz.calls k _ _ l0_0 t104 _ ?side1 ?side2 A2.out).mono ?_);(case side1=>exact qc_ (Kd.zbs HR0_0.out HB.out));(case side2=>exact HC0_0.out);rintro e w9 ⟨v105,rfl,ho0,hb⟩;refine⟨_,rfl,?_⟩;replace HO106:=am_ (Kd.zdk ho0 (zac qz17_));replace BK101:=am_ (zak (g:=gb101) (o:=.cells #[.slice A0_0 l0_0.length c0_0,.int .i64 a0_1,.string a0_2,.int .i64 a0_3] 59 (0,0)) qz13_ hb);replace BK102:=am_ (zak (g:=gb102) (o:=.cells #[.slice none 0 0,.int .i64 0,.string (⟨#[]⟩:ByteArray),.int .i64 0] 27 (0,0)) qz15_ hb);replace BK103:=am_ (zak (g:=gb103) (o:=.cells #[.slice none 0 0,.int .i64 0,.string (⟨#[]⟩:ByteArray),.int .i64 0] 27 (0,0)) qz19_ hb);replace HB:=am_ (zaj qz17_ hb);(try clear hb);(try clear hb2);(try clear hk);(try clear hi);(try clear ho0);obtain⟨Ao10,co10,eo10⟩:=Kd.zb0 HO106.out;subst eo10;have hnb11:=NB103_102.out;have hnc11:=NB102_103.out;have hcz12_0:w9.cell? ⟨gb103,0,none⟩=some (.slice none 0 0):=(zaa BK103.out 0).trans rfl;have hcz12_1:w9.cell? ⟨gb103,1,none⟩=some (.int .i64 0):=(zaa BK103.out 1).trans rfl;have hcz12_2:w9.cell? ⟨gb103,2,none⟩=some (.string (⟨#[]⟩:ByteArray)):=(zaa BK103.out 2).trans rfl;have hcz12_3:w9.cell? ⟨gb103,3,none⟩=some (.int .i64 0):=(zaa BK103.out 3).trans rfl;have hfz12_0:=zab BK103.out 0;have hfz12_1:=zab BK103.out 1;have hfz12_2:=zab BK103.out 2;have hfz12_3:=zab BK103.out 3;have hcz13_0:w9.cell? ⟨gb101,0,none⟩=some (.slice A0_0 l0_0.length c0_0):=(zaa BK101.out 0).trans rfl;have hcz13_1:w9.cell? ⟨gb101,1,none⟩=some (.int .i64 a0_1):=(zaa BK101.out 1).trans rfl;have hcz13_2:w9.cell? ⟨gb101,2,none⟩=some (.string a0_2):=(zaa BK101.out 2).trans rfl;have hcz13_3:w9.cell? ⟨gb101,3,none⟩=some (.int .i64 a0_3):=(zaa BK101.out 3).trans rfl;have hfz13_0:=zab BK101.out 0;have hfz13_1:=zab BK101.out 1;have hfz13_2:=zab BK101.out 2;have hfz13_3:=zab BK101.out 3;have hcz14_0:w9.cell? ⟨gb102,0,none⟩=some (.slice none 0 0):=(zaa BK102.out 0).trans rfl;have hcz14_1:w9.cell? ⟨gb102,1,none⟩=some (.int .i64 0):=(zaa BK102.out 1).trans rfl;have hcz14_2:w9.cell? ⟨gb102,2,none⟩=some (.string (⟨#[]⟩:ByteArray)):=(zaa BK102.out 2).trans rfl;have hcz14_3:w9.cell? ⟨gb102,3,none⟩=some (.int .i64 0):=(zaa BK102.out 3).trans rfl;have hfz14_0:=zab BK102.out 0;have hfz14_1:=zab BK102.out 1;have hfz14_2:=zab BK102.out 2;have hfz14_3:=zab BK102.out 3))
 refine bodyPost_ret (results_cell_row rfl _ _ gb102 27 #[.slice Ao10 t104.length co10,.int .i64 a0_1,.string a0_2,.int .i64 a0_3] (0,0) _ rfl (by(with_reducible repeat(first|refine zah ?_ _|refine zaf ?_|refine zai ?_ _));refine za9 (cs:=#[.slice Ao10 t104.length co10,.int .i64 a0_1,.string a0_2,.int .i64 0]) ?_ 3 _ rfl;(with_reducible repeat(first|refine zah ?_ _|refine zaf ?_|refine zai ?_ _));refine za9 (cs:=#[.slice Ao10 t104.length co10,.int .i64 a0_1,.string (⟨#[]⟩:ByteArray),.int .i64 0]) ?_ 2 _ rfl;(with_reducible repeat(first|refine zah ?_ _|refine zaf ?_|refine zai ?_ _));refine za9 (cs:=#[.slice Ao10 t104.length co10,.int .i64 0,.string (⟨#[]⟩:ByteArray),.int .i64 0]) ?_ 1 _ rfl;(with_reducible repeat(first|refine zah ?_ _|refine zaf ?_|refine zai ?_ _));refine za9 (cs:=#[.slice none 0 0,.int .i64 0,.string (⟨#[]⟩:ByteArray),.int .i64 0]) ?_ 0 _ rfl;(with_reducible repeat(first|refine zah ?_ _|refine zaf ?_|refine zai ?_ _));refine zbc ?_ NB102_103.out _;(with_reducible repeat(first|refine zah ?_ _|refine zaf ?_|refine zai ?_ _));refine zbc ?_ NB102_103.out _;(with_reducible repeat(first|refine zah ?_ _|refine zaf ?_|refine zai ?_ _));refine zbc ?_ NB102_103.out _;(with_reducible repeat(first|refine zah ?_ _|refine zaf ?_|refine zai ?_ _));refine zbc ?_ NB102_103.out _;(with_reducible repeat(first|refine zah ?_ _|refine zaf ?_|refine zai ?_ _));exact BK102.out) Try.underlying27 rfl (by kernel_rfl)) rfl ?_
 exact⟨_,by first|rfl|(simp [zc3,zc2] <;> rfl)|(simp [*,zc3,zc2] <;> rfl),by(with_reducible repeat(first|apply Kd.zb3|apply Kd.zb4|apply Kd.zch));exact Kd.zbi (Kd.R_far (p:=⟨gb102,3,none⟩) (Kd.R_far (p:=⟨gb102,2,none⟩) (Kd.R_far (p:=⟨gb102,1,none⟩) (Kd.R_far (p:=⟨gb102,0,none⟩) (Kd.R_far (p:=⟨gb103,3,none⟩) (Kd.R_far (p:=⟨gb103,2,none⟩) (Kd.R_far (p:=⟨gb103,1,none⟩) (Kd.R_far (p:=⟨gb103,0,none⟩) (Kd.zep (Kd.zep HO106.out BK103.out (by decide)) BK102.out (by decide)) (fun _ hk=>hk.1.2) (.slice Ao10 t104.length co10)) (fun _ hk=>hk.1.2) (.int .i64 a0_1)) (fun _ hk=>hk.1.2) (.string a0_2)) (fun _ hk=>hk.1.2) (.int .i64 a0_3)) (fun _ hk=>hk.2) (.slice Ao10 t104.length co10)) (fun _ hk=>hk.2) (.int .i64 a0_1)) (fun _ hk=>hk.2) (.string a0_2)) (fun _ hk=>hk.2) (.int .i64 a0_3)) (fun _ hk=>trivial),by repeat(first|(with_reducible first|exact HB.out|apply za0|apply zay|apply zat|refine za4 ?_ GE101.out|refine za4 ?_ GE102.out|refine za4 ?_ GE103.out)|exact HB.out)⟩
def zc1.f (k:Nat) (l0_0:List (S34)) (a0_1:Int) (a0_2:ByteArray) (a0_3:Int) (l1_0:List (S34)) (a1_1:Int) (a1_2:ByteArray) (a1_3:Int):Option (Bool):=(zax.f k l0_0 l1_0).bind fun t103=>(if t103=true then(if a0_1=a1_1 then(if a0_2.toList=a1_2.toList then(if a0_3=a1_3 then(some true) else(some false)) else(some false)) else(some false)) else(some false))
theorem zc1.calls (k:Nat) (A0_0:Option Addr) (c0_0:Nat) (l0_0:List (S34)) (a0_1:Int) (a0_2:ByteArray) (a0_3:Int) (A1_0:Option Addr) (c1_0:Nat) (l1_0:List (S34)) (a1_1:Int) (a1_2:ByteArray) (a1_3:Int) (r:Bool) (w:World) (hr0_0:Kd.C k34 w A0_0 l0_0.length l0_0) (hc0_0:l0_0.length≤c0_0) (hr1_0:Kd.C k34 w A1_0 l1_0.length l1_0) (hc1_0:l1_0.length≤c1_0) (h:zc1.f k l0_0 a0_1 a0_2 a0_3 l1_0 a1_1 a1_2 a1_3=some r) :
  Calls Try.prog 32 #[.agg #[.slice A0_0 l0_0.length c0_0,.int .i64 a0_1,.string a0_2,.int .i64 a0_3],.agg #[.slice A1_0 l1_0.length c1_0,.int .i64 a1_1,.string a1_2,.int .i64 a1_3]] w fun e w'=>e=.returned (.bool r)∧Below w.heap.size w w':=by
 have hu27:=Try.underlying27
 have HR0_0:=am_ hr0_0
 have HC0_0:=am_ hc0_0
 clear hr0_0 hc0_0
 have HR1_0:=am_ hr1_0
 have HC1_0:=am_ hc1_0
 clear hr1_0 hc1_0
 have HB:=am_ (Below.refl w.heap.size w)
 have H:((zax.f k l0_0 l1_0).bind fun t103=>(if t103=true then(if a0_1=a1_1 then(if a0_2.toList=a1_2.toList then(if a0_3=a1_3 then(some true) else(some false)) else(some false)) else(some false)) else(some false)))=some r:=h
 clear h
 replace H:=Option.bind_eq_some_iff.mp H
 obtain⟨t103,A30,H⟩:=H
 replace H:(if t103=true then(if a0_1=a1_1 then(if a0_2.toList=a1_2.toList then(if a0_3=a1_3 then(some true) else(some false)) else(some false)) else(some false)) else(some false))=some r:=H
 have A3:=am_ A30
 clear A30
 by_cases c4:t103=true
 ·
  subst c4
  have H1:(if a0_1=a1_1 then(if a0_2.toList=a1_2.toList then(if a0_3=a1_3 then(some true) else(some false)) else(some false)) else(some false))=some r:=by rw [if_pos rfl] at H;exact H
  clear H
  have H:=H1
  clear H1
  by_cases c5:a0_1=a1_1
  ·
   rw [if_pos c5] at H
   have c5b0:(a0_1 == a1_1)=true:=beq_iff_eq.mpr c5
   have c5b1:(a0_1 != a1_1)=false:=bne_eq_false_iff_eq.mpr c5
   clear c5
   by_cases c6:a0_2.toList=a1_2.toList
   ·
    rw [if_pos c6] at H
    have c6b0:(a0_2.toList == a1_2.toList)=true:=beq_iff_eq.mpr c6
    have c6b1:(a0_2.toList != a1_2.toList)=false:=bne_eq_false_iff_eq.mpr c6
    clear c6
    by_cases c7:a0_3=a1_3
    ·
     rw [if_pos c7] at H
     have c7b0:(a0_3 == a1_3)=true:=beq_iff_eq.mpr c7
     have c7b1:(a0_3 != a1_3)=false:=bne_eq_false_iff_eq.mpr c7
     clear c7
     obtain rfl:=Option.some.inj H
     go_enter Try.func32,Try.ntmps32
     go_wp2_with (first|((with_reducible refine zad (N:=2) rfl ?_);refine zae rfl (N:=2) rfl (cs:=#[.slice A0_0 l0_0.length c0_0,.int .i64 a0_1,.string a0_2,.int .i64 a0_3]) (t:=27) bx_ ?_;intro gb101 hg w8 hbox hb;replace BK101:=am_ (hbox);replace GW101:=am_ ((by rw [hg];exact(zac qz4_):w.heap.size≤gb101));replace GE101:=am_ ((by rw [hg];exact(zac qz4_):w.heap.size≤gb101));replace HB:=am_ (zaj qz4_ hb);clear hb hbox hg)|((with_reducible refine zad (N:=3) rfl ?_);refine zae rfl (N:=3) rfl (cs:=#[.slice A1_0 l1_0.length c1_0,.int .i64 a1_1,.string a1_2,.int .i64 a1_3]) (t:=27) bx_ ?_;intro gb102 hg w9 hbox hb;replace BK102:=am_ (hbox);replace GW102:=am_ ((by rw [hg];exact(zac qz14_):w.heap.size≤gb102));replace GE102:=am_ ((by rw [hg];exact(zac qz14_):w.heap.size≤gb102));replace HB:=am_ (zaj qz14_ hb);replace NB101_102:=am_ ((by rw [hg];exact Nat.ne_of_lt (zar (g:=gb101) (o:=.cells #[.slice A0_0 l0_0.length c0_0,.int .i64 a0_1,.string a0_2,.int .i64 a0_3] 27 (0,0)) qz13_):gb101≠gb102));replace NB102_101:=am_ ((by rw [hg];exact Nat.ne_of_gt (zar (g:=gb101) (o:=.cells #[.slice A0_0 l0_0.length c0_0,.int .i64 a0_1,.string a0_2,.int .i64 a0_3] 27 (0,0)) qz13_):gb102≠gb101));replace BK101:=am_ (zak (g:=gb101) (o:=.cells #[.slice A0_0 l0_0.length c0_0,.int .i64 a0_1,.string a0_2,.int .i64 a0_3] 27 (0,0)) qz13_ hb);clear hb hbox hg;have hnb10:=NB101_102.out;have hnc10:=NB102_101.out;have hcz11_0:w9.cell? ⟨gb101,0,none⟩=some (.slice A0_0 l0_0.length c0_0):=(zaa BK101.out 0).trans rfl;have hcz11_1:w9.cell? ⟨gb101,1,none⟩=some (.int .i64 a0_1):=(zaa BK101.out 1).trans rfl;have hcz11_2:w9.cell? ⟨gb101,2,none⟩=some (.string a0_2):=(zaa BK101.out 2).trans rfl;have hcz11_3:w9.cell? ⟨gb101,3,none⟩=some (.int .i64 a0_3):=(zaa BK101.out 3).trans rfl;have hfz11_0:=zab BK101.out 0;have hfz11_1:=zab BK101.out 1;have hfz11_2:=zab BK101.out 2;have hfz11_3:=zab BK101.out 3;have hcz12_0:w9.cell? ⟨gb102,0,none⟩=some (.slice A1_0 l1_0.length c1_0):=(zaa BK102.out 0).trans rfl;have hcz12_1:w9.cell? ⟨gb102,1,none⟩=some (.int .i64 a1_1):=(zaa BK102.out 1).trans rfl;have hcz12_2:w9.cell? ⟨gb102,2,none⟩=some (.string a1_2):=(zaa BK102.out 2).trans rfl;have hcz12_3:w9.cell? ⟨gb102,3,none⟩=some (.int .i64 a1_3):=(zaa BK102.out 3).trans rfl;have hfz12_0:=zab BK102.out 0;have hfz12_1:=zab BK102.out 1;have hfz12_2:=zab BK102.out 2;have hfz12_3:=zab BK102.out 3)|((with_reducible refine zaz (f:=23) rfl ?_);refine zc5 (some 9) rfl rfl Try.func23 (by kernel_rfl) rfl #[.slice A0_0 l0_0.length c0_0,.slice A1_0 l1_0.length c1_0] rfl qz18_ ?_;(with_reducible refine(zax.calls k _ _ l0_0 _ _ l1_0 true _ ?side1 ?side2 ?side3 ?side4 A3.out).mono ?_);(case side1=>exact qc_ (Kd.zbs HR0_0.out HB.out));(case side2=>exact HC0_0.out);(case side3=>exact qc_ (Kd.zbs HR1_0.out HB.out));(case side4=>exact HC1_0.out);rintro e w13 ⟨rfl,hb⟩;refine⟨_,rfl,?_⟩;replace BK101:=am_ (zak (g:=gb101) (o:=.cells #[.slice A0_0 l0_0.length c0_0,.int .i64 a0_1,.string a0_2,.int .i64 a0_3] 27 (0,0)) qz13_ hb);replace BK102:=am_ (zak (g:=gb102) (o:=.cells #[.slice A1_0 l1_0.length c1_0,.int .i64 a1_1,.string a1_2,.int .i64 a1_3] 27 (0,0)) qz15_ hb);replace HB:=am_ (zaj qz16_ hb);(try clear hb);(try clear hb2);(try clear hk);(try clear hi);have hcz14_0:w13.cell? ⟨gb101,0,none⟩=some (.slice A0_0 l0_0.length c0_0):=(zaa BK101.out 0).trans rfl;have hcz14_1:w13.cell? ⟨gb101,1,none⟩=some (.int .i64 a0_1):=(zaa BK101.out 1).trans rfl;have hcz14_2:w13.cell? ⟨gb101,2,none⟩=some (.string a0_2):=(zaa BK101.out 2).trans rfl;have hcz14_3:w13.cell? ⟨gb101,3,none⟩=some (.int .i64 a0_3):=(zaa BK101.out 3).trans rfl;have hfz14_0:=zab BK101.out 0;have hfz14_1:=zab BK101.out 1;have hfz14_2:=zab BK101.out 2;have hfz14_3:=zab BK101.out 3;have hcz15_0:w13.cell? ⟨gb102,0,none⟩=some (.slice A1_0 l1_0.length c1_0):=(zaa BK102.out 0).trans rfl;have hcz15_1:w13.cell? ⟨gb102,1,none⟩=some (.int .i64 a1_1):=(zaa BK102.out 1).trans rfl;have hcz15_2:w13.cell? ⟨gb102,2,none⟩=some (.string a1_2):=(zaa BK102.out 2).trans rfl;have hcz15_3:w13.cell? ⟨gb102,3,none⟩=some (.int .i64 a1_3):=(zaa BK102.out 3).trans rfl;have hfz15_0:=zab BK102.out 0;have hfz15_1:=zab BK102.out 1;have hfz15_2:=zab BK102.out 2;have hfz15_3:=zab BK102.out 3))
     go_ret
     exact⟨qz8_,qz16_⟩
    ·
     rw [if_neg c7] at H
     have c7b0:(a0_3 == a1_3)=false:=beq_eq_false_iff_ne.mpr c7
     have c7b1:(a0_3 != a1_3)=true:=bne_iff_ne.mpr c7
     obtain rfl:=Option.some.inj H
     go_enter Try.func32,Try.ntmps32
     go_wp2_with (first|((with_reducible refine zad (N:=2) rfl ?_);refine zae rfl (N:=2) rfl (cs:=#[.slice A0_0 l0_0.length c0_0,.int .i64 a0_1,.string a0_2,.int .i64 a0_3]) (t:=27) bx_ ?_;intro gb101 hg w16 hbox hb;replace BK101:=am_ (hbox);replace GW101:=am_ ((by rw [hg];exact(zac qz4_):w.heap.size≤gb101));replace GE101:=am_ ((by rw [hg];exact(zac qz4_):w.heap.size≤gb101));replace HB:=am_ (zaj qz4_ hb);clear hb hbox hg)|((with_reducible refine zad (N:=3) rfl ?_);refine zae rfl (N:=3) rfl (cs:=#[.slice A1_0 l1_0.length c1_0,.int .i64 a1_1,.string a1_2,.int .i64 a1_3]) (t:=27) bx_ ?_;intro gb102 hg w17 hbox hb;replace BK102:=am_ (hbox);replace GW102:=am_ ((by rw [hg];exact(zac qz14_):w.heap.size≤gb102));replace GE102:=am_ ((by rw [hg];exact(zac qz14_):w.heap.size≤gb102));replace HB:=am_ (zaj qz14_ hb);replace NB101_102:=am_ ((by rw [hg];exact Nat.ne_of_lt (zar (g:=gb101) (o:=.cells #[.slice A0_0 l0_0.length c0_0,.int .i64 a0_1,.string a0_2,.int .i64 a0_3] 27 (0,0)) qz13_):gb101≠gb102));replace NB102_101:=am_ ((by rw [hg];exact Nat.ne_of_gt (zar (g:=gb101) (o:=.cells #[.slice A0_0 l0_0.length c0_0,.int .i64 a0_1,.string a0_2,.int .i64 a0_3] 27 (0,0)) qz13_):gb102≠gb101));replace BK101:=am_ (zak (g:=gb101) (o:=.cells #[.slice A0_0 l0_0.length c0_0,.int .i64 a0_1,.string a0_2,.int .i64 a0_3] 27 (0,0)) qz13_ hb);clear hb hbox hg;have hnb18:=NB101_102.out;have hnc18:=NB102_101.out;have hcz19_0:w17.cell? ⟨gb101,0,none⟩=some (.slice A0_0 l0_0.length c0_0):=(zaa BK101.out 0).trans rfl;have hcz19_1:w17.cell? ⟨gb101,1,none⟩=some (.int .i64 a0_1):=(zaa BK101.out 1).trans rfl;have hcz19_2:w17.cell? ⟨gb101,2,none⟩=some (.string a0_2):=(zaa BK101.out 2).trans rfl;have hcz19_3:w17.cell? ⟨gb101,3,none⟩=some (.int .i64 a0_3):=(zaa BK101.out 3).trans rfl;have hfz19_0:=zab BK101.out 0;have hfz19_1:=zab BK101.out 1;have hfz19_2:=zab BK101.out 2;have hfz19_3:=zab BK101.out 3;have hcz20_0:w17.cell? ⟨gb102,0,none⟩=some (.slice A1_0 l1_0.length c1_0):=(zaa BK102.out 0).trans rfl;have hcz20_1:w17.cell? ⟨gb102,1,none⟩=some (.int .i64 a1_1):=(zaa BK102.out 1).trans rfl;have hcz20_2:w17.cell? ⟨gb102,2,none⟩=some (.string a1_2):=(zaa BK102.out 2).trans rfl;have hcz20_3:w17.cell? ⟨gb102,3,none⟩=some (.int .i64 a1_3):=(zaa BK102.out 3).trans rfl;have hfz20_0:=zab BK102.out 0;have hfz20_1:=zab BK102.out 1;have hfz20_2:=zab BK102.out 2;have hfz20_3:=zab BK102.out 3)|((with_reducible refine zaz (f:=23) rfl ?_);refine zc5 (some 9) rfl rfl Try.func23 (by kernel_rfl) rfl #[.slice A0_0 l0_0.length c0_0,.slice A1_0 l1_0.length c1_0] rfl qz18_ ?_;(with_reducible refine(zax.calls k _ _ l0_0 _ _ l1_0 true _ ?side1 ?side2 ?side3 ?side4 A3.out).mono ?_);(case side1=>exact qc_ (Kd.zbs HR0_0.out HB.out));(case side2=>exact HC0_0.out);(case side3=>exact qc_ (Kd.zbs HR1_0.out HB.out));(case side4=>exact HC1_0.out);rintro e w21 ⟨rfl,hb⟩;refine⟨_,rfl,?_⟩;replace BK101:=am_ (zak (g:=gb101) (o:=.cells #[.slice A0_0 l0_0.length c0_0,.int .i64 a0_1,.string a0_2,.int .i64 a0_3] 27 (0,0)) qz13_ hb);replace BK102:=am_ (zak (g:=gb102) (o:=.cells #[.slice A1_0 l1_0.length c1_0,.int .i64 a1_1,.string a1_2,.int .i64 a1_3] 27 (0,0)) qz15_ hb);replace HB:=am_ (zaj qz16_ hb);(try clear hb);(try clear hb2);(try clear hk);(try clear hi);have hcz22_0:w21.cell? ⟨gb101,0,none⟩=some (.slice A0_0 l0_0.length c0_0):=(zaa BK101.out 0).trans rfl;have hcz22_1:w21.cell? ⟨gb101,1,none⟩=some (.int .i64 a0_1):=(zaa BK101.out 1).trans rfl;have hcz22_2:w21.cell? ⟨gb101,2,none⟩=some (.string a0_2):=(zaa BK101.out 2).trans rfl;have hcz22_3:w21.cell? ⟨gb101,3,none⟩=some (.int .i64 a0_3):=(zaa BK101.out 3).trans rfl;have hfz22_0:=zab BK101.out 0;have hfz22_1:=zab BK101.out 1;have hfz22_2:=zab BK101.out 2;have hfz22_3:=zab BK101.out 3;have hcz23_0:w21.cell? ⟨gb102,0,none⟩=some (.slice A1_0 l1_0.length c1_0):=(zaa BK102.out 0).trans rfl;have hcz23_1:w21.cell? ⟨gb102,1,none⟩=some (.int .i64 a1_1):=(zaa BK102.out 1).trans rfl;have hcz23_2:w21.cell? ⟨gb102,2,none⟩=some (.string a1_2):=(zaa BK102.out 2).trans rfl;have hcz23_3:w21.cell? ⟨gb102,3,none⟩=some (.int .i64 a1_3):=(zaa BK102.out 3).trans rfl;have hfz23_0:=zab BK102.out 0;have hfz23_1:=zab BK102.out 1;have hfz23_2:=zab BK102.out 2;have hfz23_3:=zab BK102.out 3))
     go_ret
     exact⟨qz8_,qz16_⟩
   ·
    rw [if_neg c6] at H
    have c6b0:(a0_2.toList == a1_2.toList)=false:=beq_eq_false_iff_ne.mpr c6
    have c6b1:(a0_2.toList != a1_2.toList)=true:=bne_iff_ne.mpr c6
    obtain rfl:=Option.some.inj H
    go_enter Try.func32,Try.ntmps32
    go_wp2_with (first|((with_reducible refine zad (N:=2) rfl ?_);refine zae rfl (N:=2) rfl (cs:=#[.slice A0_0 l0_0.length c0_0,.int .i64 a0_1,.string a0_2,.int .i64 a0_3]) (t:=27) bx_ ?_;intro gb101 hg w24 hbox hb;replace BK101:=am_ (hbox);replace GW101:=am_ ((by rw [hg];exact(zac qz4_):w.heap.size≤gb101));replace GE101:=am_ ((by rw [hg];exact(zac qz4_):w.heap.size≤gb101));replace HB:=am_ (zaj qz4_ hb);clear hb hbox hg)|((with_reducible refine zad (N:=3) rfl ?_);refine zae rfl (N:=3) rfl (cs:=#[.slice A1_0 l1_0.length c1_0,.int .i64 a1_1,.string a1_2,.int .i64 a1_3]) (t:=27) bx_ ?_;intro gb102 hg w25 hbox hb;replace BK102:=am_ (hbox);replace GW102:=am_ ((by rw [hg];exact(zac qz14_):w.heap.size≤gb102));replace GE102:=am_ ((by rw [hg];exact(zac qz14_):w.heap.size≤gb102));replace HB:=am_ (zaj qz14_ hb);replace NB101_102:=am_ ((by rw [hg];exact Nat.ne_of_lt (zar (g:=gb101) (o:=.cells #[.slice A0_0 l0_0.length c0_0,.int .i64 a0_1,.string a0_2,.int .i64 a0_3] 27 (0,0)) qz13_):gb101≠gb102));replace NB102_101:=am_ ((by rw [hg];exact Nat.ne_of_gt (zar (g:=gb101) (o:=.cells #[.slice A0_0 l0_0.length c0_0,.int .i64 a0_1,.string a0_2,.int .i64 a0_3] 27 (0,0)) qz13_):gb102≠gb101));replace BK101:=am_ (zak (g:=gb101) (o:=.cells #[.slice A0_0 l0_0.length c0_0,.int .i64 a0_1,.string a0_2,.int .i64 a0_3] 27 (0,0)) qz13_ hb);clear hb hbox hg;have hnb26:=NB101_102.out;have hnc26:=NB102_101.out;have hcz27_0:w25.cell? ⟨gb101,0,none⟩=some (.slice A0_0 l0_0.length c0_0):=(zaa BK101.out 0).trans rfl;have hcz27_1:w25.cell? ⟨gb101,1,none⟩=some (.int .i64 a0_1):=(zaa BK101.out 1).trans rfl;have hcz27_2:w25.cell? ⟨gb101,2,none⟩=some (.string a0_2):=(zaa BK101.out 2).trans rfl;have hcz27_3:w25.cell? ⟨gb101,3,none⟩=some (.int .i64 a0_3):=(zaa BK101.out 3).trans rfl;have hfz27_0:=zab BK101.out 0;have hfz27_1:=zab BK101.out 1;have hfz27_2:=zab BK101.out 2;have hfz27_3:=zab BK101.out 3;have hcz28_0:w25.cell? ⟨gb102,0,none⟩=some (.slice A1_0 l1_0.length c1_0):=(zaa BK102.out 0).trans rfl;have hcz28_1:w25.cell? ⟨gb102,1,none⟩=some (.int .i64 a1_1):=(zaa BK102.out 1).trans rfl;have hcz28_2:w25.cell? ⟨gb102,2,none⟩=some (.string a1_2):=(zaa BK102.out 2).trans rfl;have hcz28_3:w25.cell? ⟨gb102,3,none⟩=some (.int .i64 a1_3):=(zaa BK102.out 3).trans rfl;have hfz28_0:=zab BK102.out 0;have hfz28_1:=zab BK102.out 1;have hfz28_2:=zab BK102.out 2;have hfz28_3:=zab BK102.out 3)|((with_reducible refine zaz (f:=23) rfl ?_);refine zc5 (some 9) rfl rfl Try.func23 (by kernel_rfl) rfl #[.slice A0_0 l0_0.length c0_0,.slice A1_0 l1_0.length c1_0] rfl qz18_ ?_;(with_reducible refine(zax.calls k _ _ l0_0 _ _ l1_0 true _ ?side1 ?side2 ?side3 ?side4 A3.out).mono ?_);(case side1=>exact qc_ (Kd.zbs HR0_0.out HB.out));(case side2=>exact HC0_0.out);(case side3=>exact qc_ (Kd.zbs HR1_0.out HB.out));(case side4=>exact HC1_0.out);rintro e w29 ⟨rfl,hb⟩;refine⟨_,rfl,?_⟩;replace BK101:=am_ (zak (g:=gb101) (o:=.cells #[.slice A0_0 l0_0.length c0_0,.int .i64 a0_1,.string a0_2,.int .i64 a0_3] 27 (0,0)) qz13_ hb);replace BK102:=am_ (zak (g:=gb102) (o:=.cells #[.slice A1_0 l1_0.length c1_0,.int .i64 a1_1,.string a1_2,.int .i64 a1_3] 27 (0,0)) qz15_ hb);replace HB:=am_ (zaj qz16_ hb);(try clear hb);(try clear hb2);(try clear hk);(try clear hi);have hcz30_0:w29.cell? ⟨gb101,0,none⟩=some (.slice A0_0 l0_0.length c0_0):=(zaa BK101.out 0).trans rfl;have hcz30_1:w29.cell? ⟨gb101,1,none⟩=some (.int .i64 a0_1):=(zaa BK101.out 1).trans rfl;have hcz30_2:w29.cell? ⟨gb101,2,none⟩=some (.string a0_2):=(zaa BK101.out 2).trans rfl;have hcz30_3:w29.cell? ⟨gb101,3,none⟩=some (.int .i64 a0_3):=(zaa BK101.out 3).trans rfl;have hfz30_0:=zab BK101.out 0;have hfz30_1:=zab BK101.out 1;have hfz30_2:=zab BK101.out 2;have hfz30_3:=zab BK101.out 3;have hcz31_0:w29.cell? ⟨gb102,0,none⟩=some (.slice A1_0 l1_0.length c1_0):=(zaa BK102.out 0).trans rfl;have hcz31_1:w29.cell? ⟨gb102,1,none⟩=some (.int .i64 a1_1):=(zaa BK102.out 1).trans rfl;have hcz31_2:w29.cell? ⟨gb102,2,none⟩=some (.string a1_2):=(zaa BK102.out 2).trans rfl;have hcz31_3:w29.cell? ⟨gb102,3,none⟩=some (.int .i64 a1_3):=(zaa BK102.out 3).trans rfl;have hfz31_0:=zab BK102.out 0;have hfz31_1:=zab BK102.out 1;have hfz31_2:=zab BK102.out 2;have hfz31_3:=zab BK102.out 3))
    go_ret
    exact⟨qz8_,qz16_⟩
  ·
   rw [if_neg c5] at H
   have c5b0:(a0_1 == a1_1)=false:=beq_eq_false_iff_ne.mpr c5
   have c5b1:(a0_1 != a1_1)=true:=bne_iff_ne.mpr c5
   obtain rfl:=Option.some.inj H
   go_enter Try.func32,Try.ntmps32
   go_wp2_with (first|((with_reducible refine zad (N:=2) rfl ?_);refine zae rfl (N:=2) rfl (cs:=#[.slice A0_0 l0_0.length c0_0,.int .i64 a0_1,.string a0_2,.int .i64 a0_3]) (t:=27) bx_ ?_;intro gb101 hg w32 hbox hb;replace BK101:=am_ (hbox);replace GW101:=am_ ((by rw [hg];exact(zac qz4_):w.heap.size≤gb101));replace GE101:=am_ ((by rw [hg];exact(zac qz4_):w.heap.size≤gb101));replace HB:=am_ (zaj qz4_ hb);clear hb hbox hg)|((with_reducible refine zad (N:=3) rfl ?_);refine zae rfl (N:=3) rfl (cs:=#[.slice A1_0 l1_0.length c1_0,.int .i64 a1_1,.string a1_2,.int .i64 a1_3]) (t:=27) bx_ ?_;intro gb102 hg w33 hbox hb;replace BK102:=am_ (hbox);replace GW102:=am_ ((by rw [hg];exact(zac qz14_):w.heap.size≤gb102));replace GE102:=am_ ((by rw [hg];exact(zac qz14_):w.heap.size≤gb102));replace HB:=am_ (zaj qz14_ hb);replace NB101_102:=am_ ((by rw [hg];exact Nat.ne_of_lt (zar (g:=gb101) (o:=.cells #[.slice A0_0 l0_0.length c0_0,.int .i64 a0_1,.string a0_2,.int .i64 a0_3] 27 (0,0)) qz13_):gb101≠gb102));replace NB102_101:=am_ ((by rw [hg];exact Nat.ne_of_gt (zar (g:=gb101) (o:=.cells #[.slice A0_0 l0_0.length c0_0,.int .i64 a0_1,.string a0_2,.int .i64 a0_3] 27 (0,0)) qz13_):gb102≠gb101));replace BK101:=am_ (zak (g:=gb101) (o:=.cells #[.slice A0_0 l0_0.length c0_0,.int .i64 a0_1,.string a0_2,.int .i64 a0_3] 27 (0,0)) qz13_ hb);clear hb hbox hg;have hnb34:=NB101_102.out;have hnc34:=NB102_101.out;have hcz35_0:w33.cell? ⟨gb101,0,none⟩=some (.slice A0_0 l0_0.length c0_0):=(zaa BK101.out 0).trans rfl;have hcz35_1:w33.cell? ⟨gb101,1,none⟩=some (.int .i64 a0_1):=(zaa BK101.out 1).trans rfl;have hcz35_2:w33.cell? ⟨gb101,2,none⟩=some (.string a0_2):=(zaa BK101.out 2).trans rfl;have hcz35_3:w33.cell? ⟨gb101,3,none⟩=some (.int .i64 a0_3):=(zaa BK101.out 3).trans rfl;have hfz35_0:=zab BK101.out 0;have hfz35_1:=zab BK101.out 1;have hfz35_2:=zab BK101.out 2;have hfz35_3:=zab BK101.out 3;have hcz36_0:w33.cell? ⟨gb102,0,none⟩=some (.slice A1_0 l1_0.length c1_0):=(zaa BK102.out 0).trans rfl;have hcz36_1:w33.cell? ⟨gb102,1,none⟩=some (.int .i64 a1_1):=(zaa BK102.out 1).trans rfl;have hcz36_2:w33.cell? ⟨gb102,2,none⟩=some (.string a1_2):=(zaa BK102.out 2).trans rfl;have hcz36_3:w33.cell? ⟨gb102,3,none⟩=some (.int .i64 a1_3):=(zaa BK102.out 3).trans rfl;have hfz36_0:=zab BK102.out 0;have hfz36_1:=zab BK102.out 1;have hfz36_2:=zab BK102.out 2;have hfz36_3:=zab BK102.out 3)|((with_reducible refine zaz (f:=23) rfl ?_);refine zc5 (some 9) rfl rfl Try.func23 (by kernel_rfl) rfl #[.slice A0_0 l0_0.length c0_0,.slice A1_0 l1_0.length c1_0] rfl qz18_ ?_;(with_reducible refine(zax.calls k _ _ l0_0 _ _ l1_0 true _ ?side1 ?side2 ?side3 ?side4 A3.out).mono ?_);(case side1=>exact qc_ (Kd.zbs HR0_0.out HB.out));(case side2=>exact HC0_0.out);(case side3=>exact qc_ (Kd.zbs HR1_0.out HB.out));(case side4=>exact HC1_0.out);rintro e w37 ⟨rfl,hb⟩;refine⟨_,rfl,?_⟩;replace BK101:=am_ (zak (g:=gb101) (o:=.cells #[.slice A0_0 l0_0.length c0_0,.int .i64 a0_1,.string a0_2,.int .i64 a0_3] 27 (0,0)) qz13_ hb);replace BK102:=am_ (zak (g:=gb102) (o:=.cells #[.slice A1_0 l1_0.length c1_0,.int .i64 a1_1,.string a1_2,.int .i64 a1_3] 27 (0,0)) qz15_ hb);replace HB:=am_ (zaj qz16_ hb);(try clear hb);(try clear hb2);(try clear hk);(try clear hi);have hcz38_0:w37.cell? ⟨gb101,0,none⟩=some (.slice A0_0 l0_0.length c0_0):=(zaa BK101.out 0).trans rfl;have hcz38_1:w37.cell? ⟨gb101,1,none⟩=some (.int .i64 a0_1):=(zaa BK101.out 1).trans rfl;have hcz38_2:w37.cell? ⟨gb101,2,none⟩=some (.string a0_2):=(zaa BK101.out 2).trans rfl;have hcz38_3:w37.cell? ⟨gb101,3,none⟩=some (.int .i64 a0_3):=(zaa BK101.out 3).trans rfl;have hfz38_0:=zab BK101.out 0;have hfz38_1:=zab BK101.out 1;have hfz38_2:=zab BK101.out 2;have hfz38_3:=zab BK101.out 3;have hcz39_0:w37.cell? ⟨gb102,0,none⟩=some (.slice A1_0 l1_0.length c1_0):=(zaa BK102.out 0).trans rfl;have hcz39_1:w37.cell? ⟨gb102,1,none⟩=some (.int .i64 a1_1):=(zaa BK102.out 1).trans rfl;have hcz39_2:w37.cell? ⟨gb102,2,none⟩=some (.string a1_2):=(zaa BK102.out 2).trans rfl;have hcz39_3:w37.cell? ⟨gb102,3,none⟩=some (.int .i64 a1_3):=(zaa BK102.out 3).trans rfl;have hfz39_0:=zab BK102.out 0;have hfz39_1:=zab BK102.out 1;have hfz39_2:=zab BK102.out 2;have hfz39_3:=zab BK102.out 3))
   go_ret
   exact⟨qz8_,qz16_⟩
 ·
  replace c4:=Bool.eq_false_iff.mpr c4
  subst c4
  have H1:(some false)=some r:=by rw [if_neg (show ¬(false=true) by decide)] at H;exact H
  clear H
  have H:=H1
  clear H1
  obtain rfl:=Option.some.inj H
  go_enter Try.func32,Try.ntmps32
  go_wp2_with (first|((with_reducible refine zad (N:=2) rfl ?_);refine zae rfl (N:=2) rfl (cs:=#[.slice A0_0 l0_0.length c0_0,.int .i64 a0_1,.string a0_2,.int .i64 a0_3]) (t:=27) bx_ ?_;intro gb101 hg w40 hbox hb;replace BK101:=am_ (hbox);replace GW101:=am_ ((by rw [hg];exact(zac qz4_):w.heap.size≤gb101));replace GE101:=am_ ((by rw [hg];exact(zac qz4_):w.heap.size≤gb101));replace HB:=am_ (zaj qz4_ hb);clear hb hbox hg)|((with_reducible refine zad (N:=3) rfl ?_);refine zae rfl (N:=3) rfl (cs:=#[.slice A1_0 l1_0.length c1_0,.int .i64 a1_1,.string a1_2,.int .i64 a1_3]) (t:=27) bx_ ?_;intro gb102 hg w41 hbox hb;replace BK102:=am_ (hbox);replace GW102:=am_ ((by rw [hg];exact(zac qz14_):w.heap.size≤gb102));replace GE102:=am_ ((by rw [hg];exact(zac qz14_):w.heap.size≤gb102));replace HB:=am_ (zaj qz14_ hb);replace NB101_102:=am_ ((by rw [hg];exact Nat.ne_of_lt (zar (g:=gb101) (o:=.cells #[.slice A0_0 l0_0.length c0_0,.int .i64 a0_1,.string a0_2,.int .i64 a0_3] 27 (0,0)) qz13_):gb101≠gb102));replace NB102_101:=am_ ((by rw [hg];exact Nat.ne_of_gt (zar (g:=gb101) (o:=.cells #[.slice A0_0 l0_0.length c0_0,.int .i64 a0_1,.string a0_2,.int .i64 a0_3] 27 (0,0)) qz13_):gb102≠gb101));replace BK101:=am_ (zak (g:=gb101) (o:=.cells #[.slice A0_0 l0_0.length c0_0,.int .i64 a0_1,.string a0_2,.int .i64 a0_3] 27 (0,0)) qz13_ hb);clear hb hbox hg;have hnb42:=NB101_102.out;have hnc42:=NB102_101.out;have hcz43_0:w41.cell? ⟨gb101,0,none⟩=some (.slice A0_0 l0_0.length c0_0):=(zaa BK101.out 0).trans rfl;have hcz43_1:w41.cell? ⟨gb101,1,none⟩=some (.int .i64 a0_1):=(zaa BK101.out 1).trans rfl;have hcz43_2:w41.cell? ⟨gb101,2,none⟩=some (.string a0_2):=(zaa BK101.out 2).trans rfl;have hcz43_3:w41.cell? ⟨gb101,3,none⟩=some (.int .i64 a0_3):=(zaa BK101.out 3).trans rfl;have hfz43_0:=zab BK101.out 0;have hfz43_1:=zab BK101.out 1;have hfz43_2:=zab BK101.out 2;have hfz43_3:=zab BK101.out 3;have hcz44_0:w41.cell? ⟨gb102,0,none⟩=some (.slice A1_0 l1_0.length c1_0):=(zaa BK102.out 0).trans rfl;have hcz44_1:w41.cell? ⟨gb102,1,none⟩=some (.int .i64 a1_1):=(zaa BK102.out 1).trans rfl;have hcz44_2:w41.cell? ⟨gb102,2,none⟩=some (.string a1_2):=(zaa BK102.out 2).trans rfl;have hcz44_3:w41.cell? ⟨gb102,3,none⟩=some (.int .i64 a1_3):=(zaa BK102.out 3).trans rfl;have hfz44_0:=zab BK102.out 0;have hfz44_1:=zab BK102.out 1;have hfz44_2:=zab BK102.out 2;have hfz44_3:=zab BK102.out 3)|((with_reducible refine zaz (f:=23) rfl ?_);refine zc5 (some 9) rfl rfl Try.func23 (by kernel_rfl) rfl #[.slice A0_0 l0_0.length c0_0,.slice A1_0 l1_0.length c1_0] rfl qz18_ ?_;(with_reducible refine(zax.calls k _ _ l0_0 _ _ l1_0 false _ ?side1 ?side2 ?side3 ?side4 A3.out).mono ?_);(case side1=>exact qc_ (Kd.zbs HR0_0.out HB.out));(case side2=>exact HC0_0.out);(case side3=>exact qc_ (Kd.zbs HR1_0.out HB.out));(case side4=>exact HC1_0.out);rintro e w45 ⟨rfl,hb⟩;refine⟨_,rfl,?_⟩;replace BK101:=am_ (zak (g:=gb101) (o:=.cells #[.slice A0_0 l0_0.length c0_0,.int .i64 a0_1,.string a0_2,.int .i64 a0_3] 27 (0,0)) qz13_ hb);replace BK102:=am_ (zak (g:=gb102) (o:=.cells #[.slice A1_0 l1_0.length c1_0,.int .i64 a1_1,.string a1_2,.int .i64 a1_3] 27 (0,0)) qz15_ hb);replace HB:=am_ (zaj qz16_ hb);(try clear hb);(try clear hb2);(try clear hk);(try clear hi)))
  go_ret
  exact⟨qz8_,qz16_⟩
def zbe.l0:Nat→List (List (S34))→List (List (S34))→Int→Option (Bool)
 | 0,_,_,_=>none
 | k + 1,x0,x1,x5=>if x5<(x0.length:Int) then(if 0≤x5 then(if x5<(x1.length:Int) then((zax.f k (zd0 x0 x5) (zd0 x1 x5)).bind fun t103=>(if t103=true then(zbe.l0 k x0 x1 (wrap64 (x5 + 1))) else(some false))) else(none)) else(none)) else(some true)
def zbe.f (k:Nat) (l0:List (List (S34))) (l1:List (List (S34))):Option (Bool):=if (l0.length:Int)=(l1.length:Int) then(zbe.l0 k l0 l1 0) else(some false)
def zbe.T6:Bool × List (List Nat × List Nat):=(true,[([],[]),([],[]),([0,1],[0,1]),([2],[2]),([],[]),([],[]),([4,5],[4,5]),([6],[6]),([3,7],[3,7]),([8],[8])])
def zbe.B6:List Nat:=[0,0,3,7,0,0,48,112,255,511]
theorem zbe.tab6:rtab .any (opsOf Try.f33 6)=zbe.T6:=by kernel_rfl
theorem zbe.bits6:zc8 zbe.T6.2 zbe.B6=true:=by kernel_rfl
theorem zbe.calls (k:Nat) (A0:Option Addr) (c0:Nat) (l0:List (List (S34))) (A1:Option Addr) (c1:Nat) (l1:List (List (S34))) (r:Bool) (w:World) (hr0:Kd.C (Kd.slice 34 k34) w A0 l0.length l0) (hc0:l0.length≤c0) (hr1:Kd.C (Kd.slice 34 k34) w A1 l1.length l1) (hc1:l1.length≤c1) (h:zbe.f k l0 l1=some r) :
  Calls Try.prog 33 #[.slice A0 l0.length c0,.slice A1 l1.length c1] w fun e w'=>e=.returned (.bool r)∧Below w.heap.size w w':=by
 have HR0:=am_ hr0
 have HC0:=am_ hc0
 clear hr0 hc0
 have HR1:=am_ hr1
 have HC1:=am_ hc1
 clear hr1 hc1
 have HB:=am_ (Below.refl w.heap.size w)
 have H:(if (l0.length:Int)=(l1.length:Int) then(zbe.l0 k l0 l1 0) else(some false))=some r:=h
 clear h
 by_cases c3:(l0.length:Int)=(l1.length:Int)
 ·
  rw [if_pos c3] at H
  have c3b0:((l0.length:Int) == (l1.length:Int))=true:=beq_iff_eq.mpr c3
  have c3b1:((l0.length:Int) != (l1.length:Int))=false:=bne_eq_false_iff_eq.mpr c3
  have c3b2:(l0.length == l1.length)=true:=by first|simpa using c3|(simp at c3 ⊢;omega)
  clear c3
  have H':=am_ H
  clear H
  go_enter Try.func33,Try.ntmps33
  go_wp2
  go_loopg [5] k (fun kq v5 w'=>∃ (x5_1:Int),v5=.int .i64 x5_1∧zal (zbe.l0 kq l0 l1 x5_1=some r)∧zal (kq≤k)∧zal (Below w.heap.size w w'))
  case atStart=>exact⟨(0),qz10_,H',⟨Nat.le_refl _⟩,⟨qz4_⟩⟩
  case round=>
   clear H'
   try clear c1
   try clear p2
   try clear c3
   try clear c3b0
   try clear c3b1
   try clear c3b2
   obtain⟨x5_1,rfl,HA,HK1,HB⟩:=hrel
   cases gk with
   | zero=>exact absurd HA.out (by simp [zbe.l0])
   | succ k1=>
    have H:=HA.out
    clear HA
    simp only [zbe.l0] at H
    by_cases c4:x5_1<(l0.length:Int)
    ·
     rw [if_pos c4] at H
     have c4b0:decide (x5_1<(l0.length:Int))=true:=decide_eq_true c4
     clear c4
     by_cases c5:0≤x5_1
     ·
      rw [if_pos c5] at H
      have c5b0:decide (0≤x5_1)=true:=decide_eq_true c5
      clear c5
      by_cases c6:x5_1<(l1.length:Int)
      ·
       rw [if_pos c6] at H
       have c6b0:decide (x5_1<(l1.length:Int))=true:=decide_eq_true c6
       clear c6
       replace H:=Option.bind_eq_some_iff.mp H
       obtain⟨t103,A70,H⟩:=H
       replace H:(if t103=true then(zbe.l0 k1 l0 l1 (wrap64 (x5_1 + 1))) else(some false))=some r:=H
       have A7:=am_ A70
       clear A70
       by_cases c8:t103=true
       ·
        subst c8
        have H1:(zbe.l0 k1 l0 l1 (wrap64 (x5_1 + 1)))=some r:=by rw [if_pos rfl] at H;exact H
        clear H
        have H:=H1
        clear H1
        have H':=am_ H
        clear H
        try go_wp2
        replace HB:=am_ (zat HB.out)
        have p101:0≤(x5_1:Int):=of_decide_eq_true qz11_
        have q101:x5_1<(l0.length:Int):=of_decide_eq_true qz11_
        obtain⟨ad101,A101_0,c101_0,e101,hx101_0,hl101_0,hi101_0⟩:=zhj HR0.out x5_1 p101 q101
        have hw101_0:=hx101_0
        cases e101
        replace hx101_0:=(HB.out.cell (World.block_lt_of_cell? w _ hx101_0)).trans hx101_0
        have HR101_0:=am_ hi101_0
        have HC101_0:=am_ hl101_0
        clear hi101_0 hl101_0
        replace p101:=eq_true p101
        replace q101:=eq_true q101
        have p102:0≤(x5_1:Int):=of_decide_eq_true qz11_
        have q102:x5_1<(l1.length:Int):=of_decide_eq_true qz11_
        obtain⟨ad102,A102_0,c102_0,e102,hx102_0,hl102_0,hi102_0⟩:=zhj HR1.out x5_1 p102 q102
        have hw102_0:=hx102_0
        cases e102
        replace hx102_0:=(HB.out.cell (World.block_lt_of_cell? w _ hx102_0)).trans hx102_0
        have HR102_0:=am_ hi102_0
        have HC102_0:=am_ hl102_0
        clear hi102_0 hl102_0
        replace p102:=eq_true p102
        replace q102:=eq_true q102
        refine zcb (n:=10) (S:=fun w'=>w'.cell? (ad101.add (x5_1).toNat)=some (.slice A101_0 (zd0 l0 x5_1).length c101_0)∧w'.cell? (ad102.add (x5_1).toNat)=some (.slice A102_0 (zd0 l1 x5_1).length c102_0)) (ds:=[]) (bs_ 10 0) (by kernel_rfl) rfl rfl ⟨((HB.out.cell (World.block_lt_of_cell? w _ hw101_0)).trans hw101_0),((HB.out.cell (World.block_lt_of_cell? w _ hw102_0)).trans hw102_0)⟩ (fun hHeld=>?_);refine zcr zbe.tab6 zbe.bits6 (fun HT_ HW_=>?_)
        generalize wr.drew=w9 at HB HR101_0 HR102_0 hx101_0 hx102_0 hHeld ⊢
        refine pt_ HT_.out 0 17 (bs_ 10 1) ?_
        refine pt_ HT_.out 1 18 (bs_ 10 3) ?_
        refine pt_ HT_.out 2 19 (bs_ 10 7) ?_
        refine pt_ HT_.out 4 21 (bs_ 10 23) ?_
        refine pt_ HT_.out 5 22 (bs_ 10 55) ?_
        refine pt_ HT_.out 6 23 (bs_ 10 119) ?_
        refine take_ (i:=3) (N:=some 20) (v:=?_) (a':=?_) (bs_ 10 127) rfl rfl (zba HT_.out HW_.out (by kernel_rfl)) (fun _ _ _ h=>h) (Or.inl ⟨(by rfl),?_⟩) hHeld ?_ ?_
        rotate_left
        ·
         rintro w' ⟨s0,s1⟩
         go_simp
         with_reducible rfl
        rotate_left
        ·
         exact ap_
        refine take_ (i:=7) (N:=some 24) (v:=?_) (a':=?_) (bs_ 10 255) rfl rfl (zba HT_.out HW_.out (by kernel_rfl)) (fun _ _ _ h=>h) (Or.inl ⟨(by rfl),?_⟩) hHeld ?_ ?_
        rotate_left
        ·
         rintro w' ⟨s0,s1⟩
         go_simp
         with_reducible rfl
        rotate_left
        ·
         exact ap_
        refine one_ (i:=8) (N:=some 25) (bs_ 10 511) rfl rfl (zbx HT_.out (by kernel_rfl)) (by decide) (fun K hK=>?_)
        refine goes_ Try.func23 (by kernel_rfl) rfl #[.slice A101_0 (zd0 l0 x5_1).length c101_0,.slice A102_0 (zd0 l1 x5_1).length c102_0] (by rfl) rfl rfl qz18_ ?_
        with_reducible refine(zax.calls k1 _ _ (zd0 l0 x5_1) _ _ (zd0 l1 x5_1) true _ ?side1 ?side2 ?side3 ?side4 A7.out).mono ?_
        (case side1=>exact qc_ (Kd.zbs HR101_0.out HB.out))
        (case side2=>exact HC101_0.out)
        (case side3=>exact qc_ (Kd.zbs HR102_0.out HB.out))
        (case side4=>exact HC102_0.out)
        rintro e w10 ⟨rfl,hb⟩
        refine⟨_,rfl,?_⟩
        replace HB:=am_ (zaj qz4_ hb)
        (try clear hb)
        (try clear hb2)
        (try clear hk)
        (try clear hi)
        refine hK.out _ _ ⟨((HB.out.cell (World.block_lt_of_cell? w _ hw101_0)).trans hw101_0),((HB.out.cell (World.block_lt_of_cell? w _ hw102_0)).trans hw102_0)⟩ (fun hHeld=>?_)
        clear hK K
        refine norm_ (a':=?_) ?_ ?_
        rotate_left
        ·
         show Act.put _ (some 25) _=_
         exact ap_
        refine pt_ HT_.out 9 26 (bs_ 10 1023) ?_
        refine done_ (zej HT_.out (by kernel_rfl)) ?_
        try go_wp2
        go_roundg k1
        case measure=>have:=HK1.out;omega
        case rel=>exact⟨(wrap64 (x5_1 + 1)),qz10_,H',⟨(by have:=HK1.out;omega)⟩,⟨qz4_⟩⟩
       ·
        replace c8:=Bool.eq_false_iff.mpr c8
        subst c8
        have H1:(some false)=some r:=by rw [if_neg (show ¬(false=true) by decide)] at H;exact H
        clear H
        have H:=H1
        clear H1
        obtain rfl:=Option.some.inj H
        try go_wp2
        replace HB:=am_ (zat HB.out)
        have p101:0≤(x5_1:Int):=of_decide_eq_true qz11_
        have q101:x5_1<(l0.length:Int):=of_decide_eq_true qz11_
        obtain⟨ad101,A101_0,c101_0,e101,hx101_0,hl101_0,hi101_0⟩:=zhj HR0.out x5_1 p101 q101
        have hw101_0:=hx101_0
        cases e101
        replace hx101_0:=(HB.out.cell (World.block_lt_of_cell? w _ hx101_0)).trans hx101_0
        have HR101_0:=am_ hi101_0
        have HC101_0:=am_ hl101_0
        clear hi101_0 hl101_0
        replace p101:=eq_true p101
        replace q101:=eq_true q101
        have p102:0≤(x5_1:Int):=of_decide_eq_true qz11_
        have q102:x5_1<(l1.length:Int):=of_decide_eq_true qz11_
        obtain⟨ad102,A102_0,c102_0,e102,hx102_0,hl102_0,hi102_0⟩:=zhj HR1.out x5_1 p102 q102
        have hw102_0:=hx102_0
        cases e102
        replace hx102_0:=(HB.out.cell (World.block_lt_of_cell? w _ hx102_0)).trans hx102_0
        have HR102_0:=am_ hi102_0
        have HC102_0:=am_ hl102_0
        clear hi102_0 hl102_0
        replace p102:=eq_true p102
        replace q102:=eq_true q102
        refine zcb (n:=10) (S:=fun w'=>w'.cell? (ad101.add (x5_1).toNat)=some (.slice A101_0 (zd0 l0 x5_1).length c101_0)∧w'.cell? (ad102.add (x5_1).toNat)=some (.slice A102_0 (zd0 l1 x5_1).length c102_0)) (ds:=[]) (bs_ 10 0) (by kernel_rfl) rfl rfl ⟨((HB.out.cell (World.block_lt_of_cell? w _ hw101_0)).trans hw101_0),((HB.out.cell (World.block_lt_of_cell? w _ hw102_0)).trans hw102_0)⟩ (fun hHeld=>?_);refine zcr zbe.tab6 zbe.bits6 (fun HT_ HW_=>?_)
        generalize wr.drew=w11 at HB HR101_0 HR102_0 hx101_0 hx102_0 hHeld ⊢
        refine pt_ HT_.out 0 17 (bs_ 10 1) ?_
        refine pt_ HT_.out 1 18 (bs_ 10 3) ?_
        refine pt_ HT_.out 2 19 (bs_ 10 7) ?_
        refine pt_ HT_.out 4 21 (bs_ 10 23) ?_
        refine pt_ HT_.out 5 22 (bs_ 10 55) ?_
        refine pt_ HT_.out 6 23 (bs_ 10 119) ?_
        refine take_ (i:=3) (N:=some 20) (v:=?_) (a':=?_) (bs_ 10 127) rfl rfl (zba HT_.out HW_.out (by kernel_rfl)) (fun _ _ _ h=>h) (Or.inl ⟨(by rfl),?_⟩) hHeld ?_ ?_
        rotate_left
        ·
         rintro w' ⟨s0,s1⟩
         go_simp
         with_reducible rfl
        rotate_left
        ·
         exact ap_
        refine take_ (i:=7) (N:=some 24) (v:=?_) (a':=?_) (bs_ 10 255) rfl rfl (zba HT_.out HW_.out (by kernel_rfl)) (fun _ _ _ h=>h) (Or.inl ⟨(by rfl),?_⟩) hHeld ?_ ?_
        rotate_left
        ·
         rintro w' ⟨s0,s1⟩
         go_simp
         with_reducible rfl
        rotate_left
        ·
         exact ap_
        refine one_ (i:=8) (N:=some 25) (bs_ 10 511) rfl rfl (zbx HT_.out (by kernel_rfl)) (by decide) (fun K hK=>?_)
        refine goes_ Try.func23 (by kernel_rfl) rfl #[.slice A101_0 (zd0 l0 x5_1).length c101_0,.slice A102_0 (zd0 l1 x5_1).length c102_0] (by rfl) rfl rfl qz18_ ?_
        with_reducible refine(zax.calls k1 _ _ (zd0 l0 x5_1) _ _ (zd0 l1 x5_1) false _ ?side1 ?side2 ?side3 ?side4 A7.out).mono ?_
        (case side1=>exact qc_ (Kd.zbs HR101_0.out HB.out))
        (case side2=>exact HC101_0.out)
        (case side3=>exact qc_ (Kd.zbs HR102_0.out HB.out))
        (case side4=>exact HC102_0.out)
        rintro e w12 ⟨rfl,hb⟩
        refine⟨_,rfl,?_⟩
        replace HB:=am_ (zaj qz4_ hb)
        (try clear hb)
        (try clear hb2)
        (try clear hk)
        (try clear hi)
        refine hK.out _ _ ⟨((HB.out.cell (World.block_lt_of_cell? w _ hw101_0)).trans hw101_0),((HB.out.cell (World.block_lt_of_cell? w _ hw102_0)).trans hw102_0)⟩ (fun hHeld=>?_)
        clear hK K
        refine norm_ (a':=?_) ?_ ?_
        rotate_left
        ·
         show Act.put _ (some 25) _=_
         exact ap_
        refine pt_ HT_.out 9 26 (bs_ 10 1023) ?_
        refine done_ (zej HT_.out (by kernel_rfl)) ?_
        try go_wp2
        go_ret
        exact⟨qz8_,qz4_⟩
      ·
       rw [if_neg c6] at H
       exact absurd H (by simp)
     ·
      rw [if_neg c5] at H
      exact absurd H (by simp)
    ·
     rw [if_neg c4] at H
     have c4b0:decide (x5_1<(l0.length:Int))=false:=decide_eq_false c4
     clear c4
     obtain rfl:=Option.some.inj H
     go_wp2
     go_ret
     exact⟨qz8_,qz4_⟩
 ·
  rw [if_neg c3] at H
  have c3b0:((l0.length:Int) == (l1.length:Int))=false:=beq_eq_false_iff_ne.mpr c3
  have c3b1:((l0.length:Int) != (l1.length:Int))=true:=bne_iff_ne.mpr c3
  have c3b2:(l0.length == l1.length)=false:=by first|simpa using c3|(simp at c3 ⊢;omega)
  obtain rfl:=Option.some.inj H
  go_enter Try.func33,Try.ntmps33
  go_wp2
  go_ret
  exact⟨qz8_,qz4_⟩
def zbh.l0:Nat→List (S34)→Int→Int→Option (Int × (List (S34)))
 | 0,_,_,_=>none
 | k + 1,x0,x1,x5=>if x5<(x0.length:Int) then(if 0≤x5 then((some (x0.set (x5:Int).toNat (⟨x1,(zan x0 x5).f1⟩:S34):List (S34))).bind fun y101=>(zbh.l0 k (y101.set (x5:Int).toNat (⟨(zan y101 x5).f0,wrap64 (x1 + 1)⟩:S34)) (wrap64 ((wrap64 (x1 + 1)) + 1)) (wrap64 (x5 + 1)))) else(none)) else(some (x1,x0))
def zbh.f (k:Nat) (l0:List (S34)) (a1:Int):Option (Int × (List (S34))):=zbh.l0 k l0 a1 0
theorem zbh.calls (k:Nat) (P0_:Nat→Prop) (u9000_:Value) (l0:List (S34)) (a1:Int) (r1:Int) (r2:List (S34)) (w0 w:World) (hB:Below w0.heap.size w0 w) (ho0:Kd.R k34 34 w w0.heap.size P0_ u9000_ l0) (h:zbh.f k l0 a1=some (r1,r2)) :
  Calls Try.prog 36 #[u9000_,.int .i64 a1] w fun e w'=>e=.returned (.int .i64 r1)∧Kd.R k34 34 w' w0.heap.size (fun k_=>(P0_ k_∨w.heap.size≤k_)) u9000_ r2∧Below w0.heap.size w0 w'∧Kept w w' (fun k_=>P0_ k_):=by
 have HO0:=am_ (show Kd.R k34 34 w w0.heap.size (fun k_=>(P0_ k_∨w.heap.size≤k_)) u9000_ l0 from Kd.zbi ho0 (fun k_ hk=>(.inl hk)))
 have HK:=am_ (Kept.refl w (fun k_=>P0_ k_))
 have HW0:=am_ hB.size
 have HB:=am_ hB
 clear hB
 have H:(zbh.l0 k l0 a1 0)=some (r1,r2):=h
 clear h
 have H':=am_ H
 clear H
 go_enter Try.func36,Try.ntmps36
 go_wp2
 go_loopg [1,5] k (fun kq v1 v5 w'=>∃ (x0_1:List (S34)) (x1_1:Int) (x5_1:Int),v1=.int .i64 x1_1∧v5=.int .i64 x5_1∧zal (zbh.l0 kq x0_1 x1_1 x5_1=some (r1,r2))∧zal (kq≤k)∧zal (Kd.R k34 34 w' w0.heap.size (fun k_=>(P0_ k_∨w.heap.size≤k_)) u9000_ x0_1)∧zal (Kept w w' (fun k_=>P0_ k_))∧zal (Below w0.heap.size w0 w'))
 case atStart=>exact⟨(l0),(a1),(0),qz10_,qz10_,H',⟨Nat.le_refl _⟩,⟨(by(with_reducible repeat(first|apply Kd.zb3|apply Kd.zb4|apply Kd.zch));exact HO0.out)⟩,⟨qz6_⟩,⟨qz4_⟩⟩
 case round=>
  clear H'
  try clear p2
  obtain⟨x0_1,x1_1,x5_1,rfl,rfl,HA,HK1,HO_0,HK,HB⟩:=hrel
  cases gk with
  | zero=>exact absurd HA.out (by simp [zbh.l0])
  | succ k1=>
   have H:=HA.out
   clear HA
   simp only [zbh.l0] at H
   by_cases c3:x5_1<(x0_1.length:Int)
   ·
    rw [if_pos c3] at H
    have c3b0:decide (x5_1<(x0_1.length:Int))=true:=decide_eq_true c3
    clear c3
    by_cases c4:0≤x5_1
    ·
     rw [if_pos c4] at H
     have c4b0:decide (0≤x5_1)=true:=decide_eq_true c4
     clear c4
     obtain⟨y101,hy101⟩:∃ y_:List (S34),y_=(x0_1.set (x5_1:Int).toNat (⟨x1_1,(zan x0_1 x5_1).f1⟩:S34)):=⟨_,rfl⟩
     replace H:(zbh.l0 k1 (y101.set (x5_1:Int).toNat (⟨(zan y101 x5_1).f0,wrap64 (x1_1 + 1)⟩:S34)) (wrap64 ((wrap64 (x1_1 + 1)) + 1)) (wrap64 (x5_1 + 1)))=some (r1,r2):=by first|(rw [hy101];with_reducible exact H)|(have H2_:=(Option.bind_some _ _).symm.trans H;rw [hy101];with_reducible exact H2_)|(have H2_:=(Option.bind_some _ _).symm.trans H;with_reducible exact H2_)|with_reducible exact H|(rw [hy101];exact H)|exact H
     have Ny101:=am_ hy101
     clear hy101
     obtain⟨y102,hy102⟩:∃ y_:List (S34),y_=(y101.set (x5_1:Int).toNat (⟨(zan y101 x5_1).f0,wrap64 (x1_1 + 1)⟩:S34)):=⟨_,rfl⟩
     replace H:(zbh.l0 k1 y102 (wrap64 ((wrap64 (x1_1 + 1)) + 1)) (wrap64 (x5_1 + 1)))=some (r1,r2):=by first|(rw [hy102];with_reducible exact H)|(have H2_:=(Option.bind_some _ _).symm.trans H;rw [hy102];with_reducible exact H2_)|(have H2_:=(Option.bind_some _ _).symm.trans H;with_reducible exact H2_)|with_reducible exact H|(rw [hy102];exact H)|exact H
     have Ny102:=am_ hy102
     clear hy102
     have H':=am_ H
     clear H
     obtain⟨Ao7,co7,eo7⟩:=Kd.zb0 HO_0.out
     subst eo7
     have p5:0≤(x5_1:Int):=of_decide_eq_true qz11_
     have q5:(x5_1:Int)<((x0_1.length:Int):Int):=of_decide_eq_true qz11_
     obtain⟨go5,co5,eo5,gb5,gl5,cl5,HG5⟩:=Kd.zlk HO_0.out (by omega)
     (first|cases eo5|(injection eo5 with ea_ en_ ec_;(first|subst ea_|(injection ea_ with ea_;subst ea_));subst ec_;clear en_))
     have GB5:=am_ gb5
     have GG5:=am_ HG5
     clear gb5 gl5 HG5
     have HMgo5:=am_ (show (P0_ go5∨w.heap.size≤go5) from(HO_0.out.1 _ rfl))
     obtain⟨ce5,hcl5,hM5,hcc5,hfr5⟩:=Kd.zi4 HO_0.out z34 (x5_1:Int) p5 q5
     obtain rfl:=zfz hM5
     have hx5_0:wr.cell? ⟨go5,(x5_1:Int).toNat * 2,none⟩=some (.int .i64 ((zan x0_1 x5_1).f0)):=hcc5 0 _ rfl
     have hx5_1:wr.cell? ⟨go5,(x5_1:Int).toNat * 2 + 1,none⟩=some (.int .i64 ((zan x0_1 x5_1).f1)):=hcc5 1 _ rfl
     have hf5_0:wr.frozen? ⟨go5,(x5_1:Int).toNat * 2,none⟩=false:=hfr5 0
     have hf5_1:wr.frozen? ⟨go5,(x5_1:Int).toNat * 2 + 1,none⟩=false:=hfr5 1
     (try clear hcl5);(try clear hcc5);(try clear hfr5);(try clear hM5)
     replace p5:=eq_true p5
     replace q5:=eq_true q5
     have HX8:=am_ (show Kd.R k34 34 wr w0.heap.size (fun k_=>(P0_ k_∨w.heap.size≤k_)) (.slice (some ⟨go5,0,none⟩) x0_1.length co7) x0_1 from(by(with_reducible repeat(first|apply Kd.zb3|apply Kd.zb4|apply Kd.zch));exact HO_0.out))
     obtain⟨ce8,hcl8,hM8,hcc8,hfr8⟩:=Kd.zi4 HX8.out z34 (x5_1:Int) (of_decide_eq_true qz11_) (by have h_:(x5_1:Int)<((x0_1.length:Int):Int):=of_decide_eq_true qz11_;first|exact h_|(have e_:=(Kd.R_reads' HO_0.out).1;omega)|simpa using h_)
     obtain rfl:=zfz hM8
     have HP8:=Kd.R_seg HX8.out (x5_1:Int) (of_decide_eq_true qz11_) (by have h_:(x5_1:Int)<((x0_1.length:Int):Int):=of_decide_eq_true qz11_;first|exact h_|(have e_:=(Kd.R_reads' HO_0.out).1;omega)|simpa using h_) (seg:=[.int .i64 x1_1]) (j:=0) hcl8 hcc8 (show 1≤2 from by decide) (x':=(⟨x1_1,(zan x0_1 x5_1).f1⟩:S34)) (zhe _ _ _ (⟨x1_1,(zan x0_1 x5_1).f1⟩:S34) ) (fun _ hk=>hk)
     have hx8_0:=hcc8 0 _ rfl
     (try simp only [show (k34).sz=2 from rfl,Nat.mul_one,Nat.add_zero] at hx8_0)
     have hf8_0:=hfr8 0
     (try simp only [show (k34).sz=2 from rfl,Nat.mul_one,Nat.add_zero] at hf8_0)
     (try clear hcl8);(try clear hcc8);(try clear hfr8);(try clear hM8)
     go_wp2_with (first|((with_reducible refine zaq (t:=3) (p:=16) rfl ?_);refine ze7 (t:=3) (p:=16) (v:=?vo_w9) (w1:=(wr.setCell ⟨go5,(x5_1:Int).toNat * 2,none⟩ (.int .i64 x1_1))) ?hg ?ho ?hn ?hr ?_;(case ho=>rfl);(case hg=>rfl);(case hn=>rfl);(case hr=>first|(go_simp;done)|(go_simp;rfl));intro w9 hw;have hg:wr.grownBy w9 (some go5):=(by rw [hw];exact HP8.2);have hp_:Kd.R k34 34 w9 w0.heap.size (fun k_=>(P0_ k_∨w.heap.size≤k_)) (.slice (some ⟨go5,0,none⟩) x0_1.length co7) y101:=(by rw [hw,Ny101.out];exact HP8.1);clear HP8;replace HB:=am_ ((by rw [hw];exact za4 (HB.out) GB5.out:Below w0.heap.size w0 w9));replace HK:=am_ (Kept.zfs (S:=(fun k_=>P0_ k_)) hg qz6_ (fun k_ e_=>(HO_0.out.1 k_ e_)));replace HO_0:=am_ (hp_);clear hg hw hp_;have p6:0≤(x5_1:Int):=of_decide_eq_true qz11_;have q6:(x5_1:Int)<((x0_1.length:Int):Int):=of_decide_eq_true qz11_;obtain⟨ce6,hcl6,hM6,hcc6,hfr6⟩:=Kd.zi4 HO_0.out z34 (x5_1:Int) p6 q6;obtain rfl:=zfz hM6;have hx6_0:w9.cell? ⟨go5,(x5_1:Int).toNat * 2,none⟩=some (.int .i64 ((zan y101 x5_1).f0)):=hcc6 0 _ rfl;have hx6_1:w9.cell? ⟨go5,(x5_1:Int).toNat * 2 + 1,none⟩=some (.int .i64 ((zan y101 x5_1).f1)):=hcc6 1 _ rfl;have hf6_0:w9.frozen? ⟨go5,(x5_1:Int).toNat * 2,none⟩=false:=hfr6 0;have hf6_1:w9.frozen? ⟨go5,(x5_1:Int).toNat * 2 + 1,none⟩=false:=hfr6 1;(try clear hcl6);(try clear hcc6);(try clear hfr6);(try clear hM6);replace p6:=eq_true p6;replace q6:=eq_true q6;have HX10:=am_ (show Kd.R k34 34 w9 w0.heap.size (fun k_=>(P0_ k_∨w.heap.size≤k_)) (.slice (some ⟨go5,0,none⟩) x0_1.length co7) y101 from(by(with_reducible repeat(first|apply Kd.zb3|apply Kd.zb4|apply Kd.zch));exact HO_0.out));obtain⟨ce10,hcl10,hM10,hcc10,hfr10⟩:=Kd.zi4 HX10.out z34 (x5_1:Int) (of_decide_eq_true qz11_) (by have h_:(x5_1:Int)<((x0_1.length:Int):Int):=of_decide_eq_true qz11_;first|exact h_|(have e_:=(Kd.R_reads' HO_0.out).1;omega)|simpa using h_);obtain rfl:=zfz hM10;have HP10:=Kd.R_seg HX10.out (x5_1:Int) (of_decide_eq_true qz11_) (by have h_:(x5_1:Int)<((x0_1.length:Int):Int):=of_decide_eq_true qz11_;first|exact h_|(have e_:=(Kd.R_reads' HO_0.out).1;omega)|simpa using h_) (seg:=[.int .i64 (wrap64 (x1_1 + 1))]) (j:=1) hcl10 hcc10 (show 2≤2 from by decide) (x':=(⟨(zan y101 x5_1).f0,wrap64 (x1_1 + 1)⟩:S34)) (zhe _ _ _ (⟨(zan y101 x5_1).f0,wrap64 (x1_1 + 1)⟩:S34) ) (fun _ hk=>hk);have hx10_1:=hcc10 1 _ rfl;(try simp only [show (k34).sz=2 from rfl,Nat.mul_one,Nat.add_zero] at hx10_1);have hf10_1:=hfr10 1;(try simp only [show (k34).sz=2 from rfl,Nat.mul_one,Nat.add_zero] at hf10_1);(try clear hcl10);(try clear hcc10);(try clear hfr10);(try clear hM10))|((with_reducible refine zaq (t:=3) (p:=23) rfl ?_);refine ze7 (t:=3) (p:=23) (v:=?vo_w11) (w1:=(w9.setCell ⟨go5,(x5_1:Int).toNat * 2 + 1,none⟩ (.int .i64 (wrap64 (x1_1 + 1))))) ?hg ?ho ?hn ?hr ?_;(case ho=>rfl);(case hg=>rfl);(case hn=>rfl);(case hr=>first|(go_simp;done)|(go_simp;rfl));intro w11 hw;have hg:w9.grownBy w11 (some go5):=(by rw [hw];exact HP10.2);have hp_:Kd.R k34 34 w11 w0.heap.size (fun k_=>(P0_ k_∨w.heap.size≤k_)) (.slice (some ⟨go5,0,none⟩) x0_1.length co7) y102:=(by rw [hw,Ny102.out];exact HP10.1);clear HP10;replace HB:=am_ ((by rw [hw];exact za4 (HB.out) GB5.out:Below w0.heap.size w0 w11));replace HK:=am_ (Kept.zfs (S:=(fun k_=>P0_ k_)) hg qz6_ (fun k_ e_=>(HO_0.out.1 k_ e_)));replace HO_0:=am_ (hp_);clear hg hw hp_))
     go_roundg k1
     case measure=>have:=HK1.out;omega
     case rel=>exact⟨(y102),(wrap64 ((wrap64 (x1_1 + 1)) + 1)),(wrap64 (x5_1 + 1)),qz10_,qz10_,H',⟨(by have:=HK1.out;omega)⟩,⟨(by(with_reducible repeat(first|apply Kd.zb3|apply Kd.zb4|apply Kd.zch));exact HO_0.out)⟩,⟨qz6_⟩,⟨qz4_⟩⟩
    ·
     rw [if_neg c4] at H
     exact absurd H (by simp)
   ·
    rw [if_neg c3] at H
    have c3b0:decide (x5_1<(x0_1.length:Int))=false:=decide_eq_false c3
    clear c3
    simp only [Option.some.injEq,Prod.mk.injEq] at H
    obtain⟨rfl,rfl⟩:=H
    obtain⟨Ao12,co12,eo12⟩:=Kd.zb0 HO_0.out
    subst eo12
    go_wp2
    go_ret
    exact⟨qz8_,(by(with_reducible repeat(first|apply Kd.zb3|apply Kd.zb4|apply Kd.zch));exact HO_0.out),qz4_,qz6_⟩
def zcd.go (k:Nat):List (List (S34))→Int→Option Int
 | [],a=>some a
 | l::ls,a=>(zbh.f k l a).bind fun t=>zcd.go k ls t.1
def zcd.f (k:Nat) (l0:List (List (S34))) (a1:Int):Option Int:=zcd.go k l0 a1
theorem zcd.back {wr w6:World} {base j:Nat} {ok oki ok1:Nat→Prop} {v vi:Value} {xs:List (List (S34))} {l2:List (S34)} (hH:Kd.H (Kd.slice 34 k34) 24 wr base ok v xs (j:Int) oki [vi]) (hk:Kept wr w6 oki) (hR:Kd.R k34 34 w6 base ok1 vi l2) (h0:∀ k,vi.ownBlock=some k→oki k) :
  Kd.S (Kd.slice 34 k34) 24 w6 base ok v (xs.set j l2):=
 Kd.H_back (Kd.H_kept hH hk (fun _ _ hn=>hn)) (x':=l2) (okp:=oki) ⟨vi,rfl,Kd.zbi (Kd.zfo rfl hR) (fun k hk=>h0 k hk.symm)⟩ (fun _ h=>h)
theorem zcd.calls (k:Nat) (P0_:Nat→Prop) (u9000_:Value) (l0:List (List (S34))) (a1:Int) (r:Int) (w0 w:World) (hB:Below w0.heap.size w0 w) (ho0:Kd.S (Kd.slice 34 k34) 24 w w0.heap.size P0_ u9000_ l0) (h:zcd.f k l0 a1=some r) :
  Calls Try.prog 34 #[u9000_,.int .i64 a1] w fun e w'=>e=.returned (.int .i64 r)∧Below w0.heap.size w0 w'∧Kept w w' (fun k_=>P0_ k_):=by
 have HO0:=am_ ho0
 have HK:=am_ (Kept.refl w (fun k_=>P0_ k_))
 have HW0:=am_ hB.size
 have HB:=am_ hB
 have HS:=am_ (show zcd.go k (l0.drop 0) a1=some r from h)
 obtain⟨A0,c0,rfl⟩:=Kd.S_slice ho0
 clear hB h ho0
 go_enter Try.func34,Try.ntmps34
 go_wp2
 go_loopg [1,5] l0.length (fun kq v1 v5 w'=>∃ (a:Int) (j:Nat) (ll:List (List (S34))),v1=.int .i64 a∧v5=.int .i64 j∧zal (j + kq=l0.length∧ll.length=l0.length∧ll.drop j=l0.drop j)∧zal (zcd.go k (l0.drop j) a=some r)∧zal (Kd.S (Kd.slice 34 k34) 24 w' w0.heap.size P0_ (.slice A0 l0.length c0) ll)∧zal (Kept w w' (fun k_=>P0_ k_))∧zal (Below w0.heap.size w0 w'))
 case atStart=>exact⟨a1,0,l0,by first|rfl|simp,by first|rfl|simp,⟨(by omega),rfl,rfl⟩,HS,HO0,HK,HB⟩
 case round=>
  clear HS HO0 HK HB
  obtain⟨a,j,ll,rfl,rfl,HJ,HS,HO,HK,HB⟩:=hrel
  obtain⟨hj1,hj2,hj3⟩:=HJ.out
  have hm:l0.length≤9223372036854775807:=by have:=(Kd.S_reads' HO.out).2.2.2.1;omega
  cases gk with
  | zero=>
   have c1:decide ((j:Int)<(l0.length:Int))=false:=decide_eq_false (by omega)
   have c2:decide (j<l0.length)=false:=decide_eq_false (by omega)
   have hnil:l0.drop j=[]:=List.drop_eq_nil_of_le (by omega)
   have hr:a=r:=by have h_:=HS.out;rw [hnil] at h_;exact Option.some.inj h_
   clear hj1 hj2 hj3 HJ hnil HS
   subst hr
   go_wp2
   go_ret
   exact⟨(by first|rfl|simp),qz4_,qz6_⟩
  | succ k1=>
   have hjl:j<l0.length:=by omega
   have c1:decide ((j:Int)<(l0.length:Int))=true:=decide_eq_true (by omega)
   have c2:decide (j<l0.length)=true:=decide_eq_true hjl
   obtain⟨l,hl⟩:∃ l,l0.drop j=l::l0.drop (j + 1):=⟨l0[j],List.drop_eq_getElem_cons hjl⟩
   have hget:ll.getD j []=l:=by
    have h_:(ll.drop j)[0]?=some l:=by rw [hj3,hl];rfl
    rw [List.getElem?_drop,Nat.add_zero] at h_
    rw [List.getD_eq_getElem?_getD,h_];rfl
   have hS2:=HS.out
   rw [hl] at hS2
   obtain⟨t,ht,hS3⟩:=Option.bind_eq_some_iff.mp hS2
   obtain⟨t1,t2⟩:=t
   have HT:=am_ ht
   have HS':=am_ (show zcd.go k (l0.drop (j + 1)) t1=some r from hS3)
   have hpos:0<ll.length:=by omega
   obtain⟨g,cap,ev,hge,hgl,cells,hcells⟩:=Kd.S_form HO.out hpos
   obtain⟨hA,hc⟩:A0=some ⟨g,0,none⟩∧cap=c0:=by injection ev with e1 e2 e3;exact⟨e1,e3.symm⟩
   subst hA
   subst hc
   have hS4:=HO.out
   obtain⟨oki,c,hcl,hM,hcc,hfr,hoki,hH⟩:=Kd.zpe hS4 [] (j:Int) (by omega) (by omega)
   simp only [Int.toNat_natCast] at hM hcc hfr hH
   rw [hget] at hM
   obtain⟨v,hcv,hR⟩:=hM
   subst hcv
   obtain⟨Av,cv,hv⟩:=Kd.zb0 hR
   subst hv
   have hx:wr.cell? ⟨g,j,none⟩=some (.slice Av l.length cv):=by have h_:=hcc 0 _ rfl;simpa [Kd.slice] using h_
   have p5:0≤(j:Int):=by omega
   have q5:(j:Int)<(l0.length:Int):=by omega
   have p6:=eq_true p5
   have q6:=eq_true q5
   have HR:=am_ hR
   have HH:=am_ hH
   have HN:=am_ hoki
   have HL:=am_ (show ll.length=l0.length∧ll.drop (j + 1)=l0.drop (j + 1) by
    refine⟨hj2,?_⟩
    have h_:=congrArg (List.drop 1) hj3
    rwa [List.drop_drop,List.drop_drop] at h_)
   clear hS2 ht hS3 hS4 hcl hcc hfr hoki hH hget hl hj3 HS ev hcells hR p5 q5 hpos
   go_wp2_with ((with_reducible refine zaz (f:=36) rfl ?_);refine zc5 (some 17) rfl rfl Try.func36 (by kernel_rfl) rfl #[.slice Av l.length cv,.int .i64 a] rfl qz3_ ?_;(with_reducible refine(zbh.calls k oki (.slice Av l.length cv) l a t1 t2 w0 _ ?side1 ?side2 HT.out).mono ?_);(case side1=>repeat(first|(with_reducible first|exact HB.out|apply za0|apply zay|apply zat)|exact HB.out));(case side2=>(with_reducible repeat(first|apply Kd.zb3|apply Kd.zb4|apply Kd.zch));exact HR.out);rintro e w6 ⟨rfl,hy0,hb,hkp⟩;refine⟨_,rfl,?_⟩;have n0_:=am_ (zcd.back HH.out hkp hy0 HR.out.1);have n1_:=am_ (Kept.then_ HK.out hkp (fun k_ h_=>.inl (HN.out k_ h_).1));have n2_:=am_ hb;clear HB HK HO HH HR HN;have HO:=n0_;have HK:=n1_;have HB:=n2_;clear n0_ n1_ n2_ hy0 hb hkp)
   go_roundg k1
   case measure=>omega
   case rel=>exact⟨t1,j + 1,ll.set j t2,by first|rfl|simp,by first|rfl|go_num,⟨(by omega),(by rw [List.length_set];exact HL.out.1),(by rw [List.drop_set_of_lt (by omega)];exact HL.out.2)⟩,HS',HO,HK,HB⟩
def zcy.f (k:Nat) (l0_0:List (S34)) (a0_1:Int) (a0_2:ByteArray) (a0_3:Int) (a1:Int):Option (Int × (List (S34))):=(zbh.f k l0_0 a1).bind fun bt102=>(some (bt102.1,bt102.2))
theorem zcy.calls (k:Nat) (P0_0_:Nat→Prop) (u9000_:Value) (l0_0:List (S34)) (a0_1:Int) (a0_2:ByteArray) (a0_3:Int) (a1:Int) (r1:Int) (r2:List (S34)) (w0 w:World) (hB:Below w0.heap.size w0 w) (ho0_0:Kd.R k34 34 w w0.heap.size P0_0_ u9000_ l0_0) (h:zcy.f k l0_0 a0_1 a0_2 a0_3 a1=some (r1,r2)) :
  Calls Try.prog 35 #[.agg #[u9000_,.int .i64 a0_1,.string a0_2,.int .i64 a0_3],.int .i64 a1] w fun e w'=>e=.returned (.int .i64 r1)∧Kd.R k34 34 w' w0.heap.size (fun k_=>(P0_0_ k_∨w.heap.size≤k_)) u9000_ r2∧Below w0.heap.size w0 w'∧Kept w w' (fun k_=>P0_0_ k_):=by
 have hu27:=Try.underlying27
 have HO0_0:=am_ (show Kd.R k34 34 w w0.heap.size (fun k_=>(P0_0_ k_∨w.heap.size≤k_)) u9000_ l0_0 from Kd.zbi ho0_0 (fun k_ hk=>(.inl hk)))
 have HK:=am_ (Kept.refl w (fun k_=>P0_0_ k_))
 have HW0:=am_ hB.size
 have HB:=am_ hB
 clear hB
 have H:((zbh.f k l0_0 a1).bind fun bt102=>(some (bt102.1,bt102.2)))=some (r1,r2):=h
 clear h
 replace H:=Option.bind_eq_some_iff.mp H
 obtain⟨⟨t102,t103⟩,A30,H⟩:=H
 replace H:(some (t102,t103))=some (r1,r2):=H
 have A3:=am_ A30
 clear A30
 simp only [Option.some.injEq,Prod.mk.injEq] at H
 obtain⟨rfl,rfl⟩:=H
 obtain⟨Ao4,co4,eo4⟩:=Kd.zb0 HO0_0.out
 subst eo4
 go_enter Try.func35,Try.ntmps35
 go_wp2_with (first|((with_reducible refine zad (N:=2) rfl ?_);refine zae rfl (N:=2) rfl (cs:=#[.slice Ao4 l0_0.length co4,.int .i64 a0_1,.string a0_2,.int .i64 a0_3]) (t:=27) bx_ ?_;intro gb101 hg w5 hbox hb;replace HO0_0:=am_ (Kd.zdr qz20_ hb);replace BK101:=am_ (hbox);replace GW101:=am_ ((by rw [hg];exact qz21_:w.heap.size≤gb101));replace HK:=am_ (Kept.below (S:=(fun k_=>P0_0_ k_)) qz6_ hb);replace GE101:=am_ ((by rw [hg];exact(zac qz4_):w0.heap.size≤gb101));replace HB:=am_ (zaj qz4_ hb);clear hb hbox hg;have hcz6_0:w5.cell? ⟨gb101,0,none⟩=some (.slice Ao4 l0_0.length co4):=(zaa BK101.out 0).trans rfl;have hcz6_1:w5.cell? ⟨gb101,1,none⟩=some (.int .i64 a0_1):=(zaa BK101.out 1).trans rfl;have hcz6_2:w5.cell? ⟨gb101,2,none⟩=some (.string a0_2):=(zaa BK101.out 2).trans rfl;have hcz6_3:w5.cell? ⟨gb101,3,none⟩=some (.int .i64 a0_3):=(zaa BK101.out 3).trans rfl;have hfz6_0:=zab BK101.out 0;have hfz6_1:=zab BK101.out 1;have hfz6_2:=zab BK101.out 2;have hfz6_3:=zab BK101.out 3)|((with_reducible refine zaz (f:=36) rfl ?_);refine zc5 (some 8) rfl rfl Try.func36 (by kernel_rfl) rfl #[.slice Ao4 l0_0.length co4,.int .i64 a1] rfl qz18_ ?_;(with_reducible refine(zbh.calls k (fun k_=>some k_=(.slice Ao4 l0_0.length co4:Value).ownBlock) (.slice Ao4 l0_0.length co4) l0_0 a1 t102 t103 w0 _ ?side1 ?side2 A3.out).mono ?_);(case side1=>repeat(first|(with_reducible first|exact HB.out|apply za0|apply zay|apply zat|refine za4 ?_ GE101.out)|exact HB.out));(case side2=>exact Kd.zfo rfl HO0_0.out);rintro e w7 ⟨rfl,hy0,hb,hkp⟩;refine⟨_,rfl,?_⟩;replace BK101:=am_ (zhg (g:=gb101) (o:=.cells #[.slice Ao4 l0_0.length co4,.int .i64 a0_1,.string a0_2,.int .i64 a0_3] 27 (0,0)) qz13_ hkp (fun hs_=>(fun e_=>(Kd.R_ne HO0_0.out BK101.out (by decide)) e_) hs_));replace HK:=am_ (Kept.then_ (S:=(fun k_=>P0_0_ k_)) qz22_ hkp (fun k_ hs_=>(fun e_=>(HO0_0.out.1 k_ e_.symm)) hs_));replace HO0_0:=am_ (Kd.R_reok rfl hy0 (fun k_ e_=>HO0_0.out.1 k_ e_));replace HB:=am_ (hb);(try clear hb);(try clear hkp);(try clear hy0)))
 go_ret
 exact⟨qz8_,qz20_,qz14_,qz22_⟩
def zbo.l0:Nat→List (S34)→Int→Int→Option (Int)
 | 0,_,_,_=>none
 | k + 1,x0,x1,x5=>if x5<(x0.length:Int) then(if 0≤x5 then(if ((zan x0 x5).f0)=x1 then(if ((zan x0 x5).f1)=(wrap64 (x1 + 1)) then(zbo.l0 k x0 (wrap64 ((wrap64 (x1 + 1)) + 1)) (wrap64 (x5 + 1))) else(some (-1))) else(some (-1))) else(none)) else(some x1)
def zbo.f (k:Nat) (l0:List (S34)) (a1:Int):Option (Int):=zbo.l0 k l0 a1 0
theorem zbo.calls (k:Nat) (A0:Option Addr) (c0:Nat) (l0:List (S34)) (a1:Int) (r:Int) (w:World) (hr0:Kd.C k34 w A0 l0.length l0) (hc0:l0.length≤c0) (h:zbo.f k l0 a1=some r) :
  Calls Try.prog 37 #[.slice A0 l0.length c0,.int .i64 a1] w fun e w'=>e=.returned (.int .i64 r)∧zbr w w':=by
 have HR0:=am_ hr0
 have HC0:=am_ hc0
 clear hr0 hc0
 have H:(zbo.l0 k l0 a1 0)=some r:=h
 clear h
 have H':=am_ H
 clear H
 go_enter Try.func37,Try.ntmps37
 go_wp2
 go_loopg [1,5] k (fun kq v1 v5 w'=>∃ (x1_1:Int) (x5_1:Int),v1=.int .i64 x1_1∧v5=.int .i64 x5_1∧zal (zbo.l0 kq l0 x1_1 x5_1=some r)∧zal (kq≤k)∧zbr w w')
 case atStart=>exact⟨(a1),(0),qz10_,qz10_,H',⟨Nat.le_refl _⟩,by repeat(first|exact zbr.refl _|apply zbr.step)⟩
 case round=>
  clear H'
  try clear p2
  obtain⟨x1_1,x5_1,rfl,rfl,HA,HK1,⟨m1,rfl⟩⟩:=hrel
  cases gk with
  | zero=>exact absurd HA.out (by simp [zbo.l0])
  | succ k1=>
   have H:=HA.out
   clear HA
   simp only [zbo.l0] at H
   by_cases c3:x5_1<(l0.length:Int)
   ·
    rw [if_pos c3] at H
    have c3b0:decide (x5_1<(l0.length:Int))=true:=decide_eq_true c3
    clear c3
    by_cases c4:0≤x5_1
    ·
     rw [if_pos c4] at H
     have c4b0:decide (0≤x5_1)=true:=decide_eq_true c4
     clear c4
     by_cases c5:((zan l0 x5_1).f0)=x1_1
     ·
      rw [if_pos c5] at H
      have c5b0:(((zan l0 x5_1).f0) == x1_1)=true:=beq_iff_eq.mpr c5
      have c5b1:(((zan l0 x5_1).f0) != x1_1)=false:=bne_eq_false_iff_eq.mpr c5
      clear c5
      by_cases c6:((zan l0 x5_1).f1)=(wrap64 (x1_1 + 1))
      ·
       rw [if_pos c6] at H
       have c6b0:(((zan l0 x5_1).f1) == (wrap64 (x1_1 + 1)))=true:=beq_iff_eq.mpr c6
       have c6b1:(((zan l0 x5_1).f1) != (wrap64 (x1_1 + 1)))=false:=bne_eq_false_iff_eq.mpr c6
       clear c6
       have H':=am_ H
       clear H
       have p101:0≤(x5_1:Int):=of_decide_eq_true qz11_
       have q101:x5_1<(l0.length:Int):=of_decide_eq_true qz11_
       obtain⟨ad101,e101,hx101_0,hx101_1⟩:=zey HR0.out x5_1 p101 q101
       cases e101
       replace p101:=eq_true p101
       replace q101:=eq_true q101
       have p102:0≤(x5_1:Int):=of_decide_eq_true qz11_
       have q102:x5_1<(l0.length:Int):=of_decide_eq_true qz11_
       obtain⟨ad102,e102,hx102_0,hx102_1⟩:=zey HR0.out x5_1 p102 q102
       obtain rfl:ad101=ad102:=(by injection e102)
       replace p102:=eq_true p102
       replace q102:=eq_true q102
       go_wp2
       go_roundg k1
       case measure=>have:=HK1.out;omega
       case rel=>exact⟨(wrap64 ((wrap64 (x1_1 + 1)) + 1)),(wrap64 (x5_1 + 1)),qz10_,qz10_,H',⟨(by have:=HK1.out;omega)⟩,by repeat(first|exact zbr.refl _|apply zbr.step)⟩
      ·
       rw [if_neg c6] at H
       have c6b0:(((zan l0 x5_1).f1) == (wrap64 (x1_1 + 1)))=false:=beq_eq_false_iff_ne.mpr c6
       have c6b1:(((zan l0 x5_1).f1) != (wrap64 (x1_1 + 1)))=true:=bne_iff_ne.mpr c6
       obtain rfl:=Option.some.inj H
       have p101:0≤(x5_1:Int):=of_decide_eq_true qz11_
       have q101:x5_1<(l0.length:Int):=of_decide_eq_true qz11_
       obtain⟨ad101,e101,hx101_0,hx101_1⟩:=zey HR0.out x5_1 p101 q101
       cases e101
       replace p101:=eq_true p101
       replace q101:=eq_true q101
       have p102:0≤(x5_1:Int):=of_decide_eq_true qz11_
       have q102:x5_1<(l0.length:Int):=of_decide_eq_true qz11_
       obtain⟨ad102,e102,hx102_0,hx102_1⟩:=zey HR0.out x5_1 p102 q102
       obtain rfl:ad101=ad102:=(by injection e102)
       replace p102:=eq_true p102
       replace q102:=eq_true q102
       go_wp2
       go_ret
       exact⟨qz10_,qz2_⟩
     ·
      rw [if_neg c5] at H
      have c5b0:(((zan l0 x5_1).f0) == x1_1)=false:=beq_eq_false_iff_ne.mpr c5
      have c5b1:(((zan l0 x5_1).f0) != x1_1)=true:=bne_iff_ne.mpr c5
      obtain rfl:=Option.some.inj H
      have p101:0≤(x5_1:Int):=of_decide_eq_true qz11_
      have q101:x5_1<(l0.length:Int):=of_decide_eq_true qz11_
      obtain⟨ad101,e101,hx101_0,hx101_1⟩:=zey HR0.out x5_1 p101 q101
      cases e101
      replace p101:=eq_true p101
      replace q101:=eq_true q101
      go_wp2
      go_ret
      exact⟨qz10_,qz2_⟩
    ·
     rw [if_neg c4] at H
     exact absurd H (by simp)
   ·
    rw [if_neg c3] at H
    have c3b0:decide (x5_1<(l0.length:Int))=false:=decide_eq_false c3
    clear c3
    obtain rfl:=Option.some.inj H
    go_wp2
    go_ret
    exact⟨qz10_,qz2_⟩
end Go.Proofs.Ytgookagndlfehaa.PT
end
section
namespace Go.Proofs.Ytgookagndlfehaa.PT
open Go.RowKit Go.Proofs.YtgookagndlfehaaW.PrintWords Go.Proofs.YtgookagndlfehaaW.PrintLast Go.Proofs.YtgookagndlfehaaW.PrintMore
attribute [local go_sem] zex zev zfa ze8 zec zed zeu zew   -- for this text's walks alone
set_option linter.unusedVariables false
set_option linter.unusedSimpArgs false
def zdm.f (k:Nat) (l0_0:List (S34)) (a0_1:Int) (a0_2:ByteArray) (a0_3:Int) (a1:Int):Option (Int):=(zbo.f k l0_0 a1).bind fun t102=>(if t102<0 then(some (-1)) else(some t102))
theorem zdm.calls (k:Nat) (A0_0:Option Addr) (c0_0:Nat) (l0_0:List (S34)) (a0_1:Int) (a0_2:ByteArray) (a0_3:Int) (a1:Int) (r:Int) (w:World) (hr0_0:Kd.C k34 w A0_0 l0_0.length l0_0) (hc0_0:l0_0.length≤c0_0) (h:zdm.f k l0_0 a0_1 a0_2 a0_3 a1=some r) :
  Calls Try.prog 38 #[.agg #[.slice A0_0 l0_0.length c0_0,.int .i64 a0_1,.string a0_2,.int .i64 a0_3],.int .i64 a1] w fun e w'=>e=.returned (.int .i64 r)∧Below w.heap.size w w':=by
 have hu27:=Try.underlying27
 have HR0_0:=am_ hr0_0
 have HC0_0:=am_ hc0_0
 clear hr0_0 hc0_0
 have HB:=am_ (Below.refl w.heap.size w)
 have H:((zbo.f k l0_0 a1).bind fun t102=>(if t102<0 then(some (-1)) else(some t102)))=some r:=h
 clear h
 replace H:=Option.bind_eq_some_iff.mp H
 obtain⟨t102,A30,H⟩:=H
 replace H:(if t102<0 then(some (-1)) else(some t102))=some r:=H
 have A3:=am_ A30
 clear A30
 by_cases c4:t102<0
 ·
  rw [if_pos c4] at H
  have c4b0:decide (t102<0)=true:=decide_eq_true c4
  clear c4
  obtain rfl:=Option.some.inj H
  go_enter Try.func38,Try.ntmps38
  go_wp2_with (first|((with_reducible refine zad (N:=2) rfl ?_);refine zae rfl (N:=2) rfl (cs:=#[.slice A0_0 l0_0.length c0_0,.int .i64 a0_1,.string a0_2,.int .i64 a0_3]) (t:=27) bx_ ?_;intro gb101 hg w5 hbox hb;replace BK101:=am_ (hbox);replace GW101:=am_ ((by rw [hg];exact(zac qz4_):w.heap.size≤gb101));replace GE101:=am_ ((by rw [hg];exact(zac qz4_):w.heap.size≤gb101));replace HB:=am_ (zaj qz4_ hb);clear hb hbox hg;have hcz6_0:w5.cell? ⟨gb101,0,none⟩=some (.slice A0_0 l0_0.length c0_0):=(zaa BK101.out 0).trans rfl;have hcz6_1:w5.cell? ⟨gb101,1,none⟩=some (.int .i64 a0_1):=(zaa BK101.out 1).trans rfl;have hcz6_2:w5.cell? ⟨gb101,2,none⟩=some (.string a0_2):=(zaa BK101.out 2).trans rfl;have hcz6_3:w5.cell? ⟨gb101,3,none⟩=some (.int .i64 a0_3):=(zaa BK101.out 3).trans rfl;have hfz6_0:=zab BK101.out 0;have hfz6_1:=zab BK101.out 1;have hfz6_2:=zab BK101.out 2;have hfz6_3:=zab BK101.out 3)|((with_reducible refine zaz (f:=37) rfl ?_);refine zc5 (some 8) rfl rfl Try.func37 (by kernel_rfl) rfl #[.slice A0_0 l0_0.length c0_0,.int .i64 a1] rfl qz18_ ?_;(with_reducible refine(zbo.calls k _ _ l0_0 a1 t102 _ ?side1 ?side2 A3.out).mono ?_);(case side1=>exact qc_ (Kd.zbs HR0_0.out HB.out));(case side2=>exact HC0_0.out);rintro e w' ⟨rfl,⟨nd,rfl⟩⟩;refine⟨_,rfl,?_⟩))
  go_ret
  exact⟨qz8_,qz14_⟩
 ·
  rw [if_neg c4] at H
  have c4b0:decide (t102<0)=false:=decide_eq_false c4
  clear c4
  obtain rfl:=Option.some.inj H
  go_enter Try.func38,Try.ntmps38
  go_wp2_with (first|((with_reducible refine zad (N:=2) rfl ?_);refine zae rfl (N:=2) rfl (cs:=#[.slice A0_0 l0_0.length c0_0,.int .i64 a0_1,.string a0_2,.int .i64 a0_3]) (t:=27) bx_ ?_;intro gb101 hg w7 hbox hb;replace BK101:=am_ (hbox);replace GW101:=am_ ((by rw [hg];exact(zac qz4_):w.heap.size≤gb101));replace GE101:=am_ ((by rw [hg];exact(zac qz4_):w.heap.size≤gb101));replace HB:=am_ (zaj qz4_ hb);clear hb hbox hg;have hcz8_0:w7.cell? ⟨gb101,0,none⟩=some (.slice A0_0 l0_0.length c0_0):=(zaa BK101.out 0).trans rfl;have hcz8_1:w7.cell? ⟨gb101,1,none⟩=some (.int .i64 a0_1):=(zaa BK101.out 1).trans rfl;have hcz8_2:w7.cell? ⟨gb101,2,none⟩=some (.string a0_2):=(zaa BK101.out 2).trans rfl;have hcz8_3:w7.cell? ⟨gb101,3,none⟩=some (.int .i64 a0_3):=(zaa BK101.out 3).trans rfl;have hfz8_0:=zab BK101.out 0;have hfz8_1:=zab BK101.out 1;have hfz8_2:=zab BK101.out 2;have hfz8_3:=zab BK101.out 3)|((with_reducible refine zaz (f:=37) rfl ?_);refine zc5 (some 8) rfl rfl Try.func37 (by kernel_rfl) rfl #[.slice A0_0 l0_0.length c0_0,.int .i64 a1] rfl qz18_ ?_;(with_reducible refine(zbo.calls k _ _ l0_0 a1 t102 _ ?side1 ?side2 A3.out).mono ?_);(case side1=>exact qc_ (Kd.zbs HR0_0.out HB.out));(case side2=>exact HC0_0.out);rintro e w' ⟨rfl,⟨nd,rfl⟩⟩;refine⟨_,rfl,?_⟩))
  go_ret
  exact⟨qz8_,qz14_⟩
end Go.Proofs.Ytgookagndlfehaa.PT
end
section
/- Rows of rows that are read, what a state's function leaves, results of several forms. -/
namespace Go.Proofs.Ytgookagndlfehaa.PT
open Go Go.RowKit Go.Proofs.YtgookagndlfehaaW.PrintWords Go.Proofs.YtgookagndlfehaaW.PrintLast Go.Proofs.YtgookagndlfehaaW.PrintMore
set_option linter.unusedVariables false
set_option linter.unusedSimpArgs false
theorem zmr {α:Type} {d:Kd α} {e:Nat} {w:World} {S:Nat→Prop} {A:Option Addr} {n:Nat} {xs:List (List α)} (h:∀ W',Agr w W' S→(Kd.slice e d).C W' A n xs) (i:Nat) (hi:i<n) :
  ∃ ad B c,A=some ad∧(xs.getD i []).length≤c∧∀ W',Agr w W' S→(W'.cell? (ad.add i)=some (.slice B (xs.getD i []).length c)∧d.C W' B (xs.getD i []).length (xs.getD i [])):=by
 have at_:∀ W',Agr w W' S→∃ ad B c,A=some ad∧W'.cell? (ad.add i)=some (.slice B (xs.getD i []).length c)∧(xs.getD i []).length≤c∧d.C W' B (xs.getD i []).length (xs.getD i []):=by
  intro W' hW
  obtain⟨ad,c,e,_,hK,hc0⟩:=Kd.C_get (h W' hW) ([]:List α) (i:Int) (by omega) (by omega)
  have hc:∀ j u,c[j]?=some u→W'.cell? (ad.add ((i:Int).toNat * 1 + j))=some u:=hc0
  rw [Int.toNat_natCast] at hc hK
  obtain⟨B,cc,rfl,hl,hC⟩:=hK
  exact⟨ad,B,cc,e,(by have:=hc 0 _ rfl;simpa using this),hl,hC⟩
 obtain⟨ad,B,c,rfl,hc,hl,hC⟩:=at_ w (Agr.refl _ _)
 have hS:¬S ad.block:=fun hs=>by
  obtain⟨ad',B',c',e1,hc',_⟩:=at_ { w with heap:=w.heap.setIfInBounds ad.block (.cells #[] 0 (0,0)) } ⟨rfl,rfl,rfl,by simp,fun k hk hn=>by
   have hne:ad.block≠k:=fun e=>hn (e ▸ hs)
   simp [Array.getElem?_setIfInBounds,hne]⟩
  injection e1 with e1
  subst e1
  have hlt:=World.block_lt_of_cell? w _ hc
  rw [add_block] at hlt
  simp [World.cell?,add_block,Array.getElem?_setIfInBounds,hlt] at hc'
 refine⟨ad,B,c,rfl,hl,fun W' hW=>?_⟩
 have hc2:=hW.cell hc (by rw [add_block];exact hS)
 obtain⟨ad',B',c',e1,hc',_,hC'⟩:=at_ W' hW
 injection e1 with e1
 subst e1
 rw [hc2] at hc'
 injection hc' with hc'
 injection hc' with e2 _ _
 subst e2
 exact⟨hc2,hC'⟩
namespace Inv
variable {w0 w w' wb:World} {P:Nat→Prop} {F:World→Prop} {L L':List Grp} {g:Nat} {t:TypeId} {cs cs':Array Value}
theorem addF (h:Inv w0 P w L F) (G:World→Prop) (hG:∀ w',Agr w w' (InL L)→G w'):Inv w0 P w L (fun W=>G W∧F W):=⟨h.agr,h.lt,h.new,h.own,h.dis,fun w' hw=>⟨hG w' hw,h.facts w' hw⟩⟩
theorem subL (h:Inv w0 P w L F) (hs:L'.Sublist L):Inv w0 P w L' F:=
 ⟨h.agr,fun b hb=>h.lt b (hs.subset hb),fun b hb=>h.new b (hs.subset hb),fun b hb=>h.own b (hs.subset hb),h.dis.sublist hs,fun w' hw=>h.facts w' (hw.mono (fun k ⟨b,hb,hk⟩=>⟨b,hs.subset hb,hk⟩))⟩
theorem keep0 (h:Inv w0 P w (blk g t cs::L) F) (hb:Below wb.heap.size wb w) (hb':Below wb.heap.size wb w') (hk:zbj w w' g none) (hblk:w'.heap[g]?=some (.cells cs' t (0,0))):Inv w0 P w' (blk g t cs'::L) F:=
 h.step (Agr.zmh hk hb hb') (blk g t cs') (fun k hk2=>⟨.inl hk2,(by obtain rfl:k=g:=hk2;exact zar hblk)⟩) (fun w2 hw=>(hw g rfl).trans hblk)
theorem zhy (h:Inv w0 P w (blk g t cs::L) F) (hk:zbj w w' g none):F { w with heap:=w'.heap }:=
 h.facts _ ⟨rfl,rfl,rfl,hk.1,fun k hlt hn=>hk.2 k hlt (fun e=>hn ⟨_,List.mem_cons_self,e⟩) (by simp)⟩
theorem zmo {α:Type} {d:Kd α} {e:Nat} {v:Value} {xs:List α} {ok:Nat→Prop} (h:Inv w0 P w (blk g t cs::L) F) (hb:Below wb.heap.size wb w) (hb':Below wb.heap.size wb w') (hk:zbj w w' g none) (hblk:w'.heap[g]?=some (.cells cs' t (0,0))) (hR:d.R e w' w.heap.size ok v xs) :
  Inv w0 P w' (row d e w0.heap.size v xs (fun k=>w.heap.size≤k∧k<w'.heap.size)::blk g t cs'::L) F:=by
 have h1:=h.keep0 hb hb' hk hblk
 have hA:Agr w w' (fun k=>k=g):=Agr.zmh hk hb hb'
 have hlt:∀ c,c∈blk g t cs'::L→∀ k,c.S k→k<w.heap.size:=fun c hc k hk2=>by
  rcases List.mem_cons.1 hc with rfl|hc
  ·
   exact h.lt (blk g t cs) List.mem_cons_self k hk2
  ·
   exact h.lt c (List.mem_cons_of_mem _ hc) k hk2
 have hR2:d.R e w' w0.heap.size (fun k=>w.heap.size≤k∧k<w'.heap.size) v xs:=Kd.zdk (Kd.zbi (Kd.zee hR) (fun k hk=>⟨hk.2.1,hk.2.2.1⟩)) h.agr.size
 refine⟨h1.agr,fun c hc k hk2=>?_,fun c hc k hk2=>?_,fun c hc w2 hw=>?_,List.Pairwise.cons (fun c hc k hk2 hk3=>absurd (hlt c hc k hk3) (Nat.not_lt.2 hk2.1)) h1.dis,fun w2 hw=>h.facts w2 ((hA.mono (fun k hk2=>⟨blk g t cs,List.mem_cons_self,hk2⟩)).trans hw (fun i hi=>?_))⟩
 ·
  rcases List.mem_cons.1 hc with rfl|hc
  ·
   exact hk2.2
  ·
   exact h1.lt c hc k hk2
 ·
  rcases List.mem_cons.1 hc with rfl|hc
  ·
   exact .inl (Nat.le_trans h.agr.size hk2.1)
  ·
   exact h1.new c hc k hk2
 ·
  rcases List.mem_cons.1 hc with rfl|hc
  ·
   exact Kd.zft hR2 (fun k hk2 _=>hw k hk2)
  ·
   exact h1.own c hc w2 hw
 ·
  obtain⟨c,hc,hk2⟩:=hi
  rcases List.mem_cons.1 hc with rfl|hc
  ·
   exact .inr hk2.1
  ·
   rcases List.mem_cons.1 hc with rfl|hc
   ·
    exact .inl ⟨blk g t cs,List.mem_cons_self,hk2⟩
   ·
    exact .inl ⟨c,List.mem_cons_of_mem _ hc,hk2⟩
theorem disj {a b:Grp} (h:Inv w0 P w L F) (i j:Nat) (hij:i<j) (hi:L[i]?=some a) (hj:L[j]?=some b):∀ k,a.S k→¬b.S k:=by
 obtain⟨h1,rfl⟩:=List.getElem?_eq_some_iff.1 hi
 obtain⟨h2,rfl⟩:=List.getElem?_eq_some_iff.1 hj
 exact List.pairwise_iff_getElem.1 h.dis i j h1 h2 hij
end Inv
theorem zf8 {P:Program} {fn:Func} {p u v:Tmp} {ty:TypeId} (h:fn.results=#[.tmp u,.cell p ty,.tmp v]) (tmps:Array Value) (w:World) (g:Nat) (t:TypeId) (cs:Array Value) (fr:Nat × Nat) (d:TypeDesc)
  (hp:tmps.getD p undef=.pointer (some ⟨g,0,none⟩)) (hg:w.heap[g]?=some (.cells cs t fr))
  (hu:P.underlying ty=some d) (hd:(match d with|.struct _|.array _ _=>true|_=>false)=true) (hi:(P.info? ty).map (·.size)=some cs.size) :
  (results fn tmps).run P w=.ok (.tuple #[tmps.getD u undef,.agg cs,tmps.getD v undef]) w:=by
 have hp':tmps[p]?.getD undef=.pointer (some ⟨g,0,none⟩):=by simpa using hp
 simp [results,h,hp',asAddr,run_loadVar_row w g t ty cs fr d hg hu hd hi]
theorem zbp {P:Program} {fn:Func} {p p' u v:Tmp} {ty ty':TypeId} (h:fn.results=#[.tmp u,.cell p ty,.cell p' ty',.tmp v]) (tmps:Array Value) (w:World) (g g':Nat) (t t':TypeId) (cs cs':Array Value) (fr fr':Nat × Nat) (d d':TypeDesc)
  (hp:tmps.getD p undef=.pointer (some ⟨g,0,none⟩)) (hg:w.heap[g]?=some (.cells cs t fr))
  (hu:P.underlying ty=some d) (hd:(match d with|.struct _|.array _ _=>true|_=>false)=true) (hi:(P.info? ty).map (·.size)=some cs.size)
  (hp2:tmps.getD p' undef=.pointer (some ⟨g',0,none⟩)) (hg2:w.heap[g']?=some (.cells cs' t' fr'))
  (hu2:P.underlying ty'=some d') (hd2:(match d' with|.struct _|.array _ _=>true|_=>false)=true) (hi2:(P.info? ty').map (·.size)=some cs'.size) :
  (results fn tmps).run P w=.ok (.tuple #[tmps.getD u undef,.agg cs,.agg cs',tmps.getD v undef]) w:=by
 have hp':tmps[p]?.getD undef=.pointer (some ⟨g,0,none⟩):=by simpa using hp
 have hp2':tmps[p']?.getD undef=.pointer (some ⟨g',0,none⟩):=by simpa using hp2
 simp [results,h,hp',hp2',asAddr,run_loadVar_row w g t ty cs fr d hg hu hd hi,run_loadVar_row w g' t' ty' cs' fr' d' hg2 hu2 hd2 hi2]
theorem zjz {α:Type} (l:List α) (j:Nat) (z:α) (h:j<l.length):l.drop j=l.getD j z::l.drop (j + 1):=by
 rw [List.drop_eq_getElem_cons h]
 simp [List.getD,h]
def zcn.f (a0:Int) (a1:Int) (a2:Int):Option (Bool):=if a1≤a0 then(some (decide (a0≤a2))) else(some false)
theorem zcn.calls (a0:Int) (a1:Int) (a2:Int) (r:Bool) (w:World) (h:zcn.f a0 a1 a2=some r) :
  Calls Try.prog 44 #[.int .i64 a0,.int .i64 a1,.int .i64 a2] w fun e w'=>e=.returned (.bool r)∧zbr w w':=by
 have H:(if a1≤a0 then(some (decide (a0≤a2))) else(some false))=some r:=h
 clear h
 by_cases c4:a1≤a0
 ·
  rw [if_pos c4] at H
  have c4b0:decide (a1≤a0)=true:=decide_eq_true c4
  clear c4
  obtain rfl:=Option.some.inj H
  go_enter Try.func44,Try.ntmps44
  go_wp2
  go_ret
  exact⟨qz10_,qz2_⟩
 ·
  rw [if_neg c4] at H
  have c4b0:decide (a1≤a0)=false:=decide_eq_false c4
  clear c4
  obtain rfl:=Option.some.inj H
  go_enter Try.func44,Try.ntmps44
  go_wp2
  go_ret
  exact⟨qz10_,qz2_⟩
def zbw.f (a0:Int):Option (Int):=(zcn.f a0 1 2).bind fun t101=>(if t101=true then(some (wrap64 (a0 + 1))) else(some 0))
theorem zbw.calls (a0:Int) (r:Int) (w:World) (h:zbw.f a0=some r) :
  Calls Try.prog 79 #[.int .i64 a0] w fun e w'=>e=.returned (.int .i64 r)∧zbr w w':=by
 have H:((zcn.f a0 1 2).bind fun t101=>(if t101=true then(some (wrap64 (a0 + 1))) else(some 0)))=some r:=h
 clear h
 replace H:=Option.bind_eq_some_iff.mp H
 obtain⟨t101,A20,H⟩:=H
 replace H:(if t101=true then(some (wrap64 (a0 + 1))) else(some 0))=some r:=H
 have A2:=am_ A20
 clear A20
 by_cases c3:t101=true
 ·
  subst c3
  have H1:(some (wrap64 (a0 + 1)))=some r:=by rw [if_pos rfl] at H;exact H
  clear H
  have H:=H1
  clear H1
  obtain rfl:=Option.some.inj H
  go_enter Try.func79,Try.ntmps79
  go_wp2_with (first|((with_reducible refine zaz (f:=44) rfl ?_);refine zc5 (some 4) rfl rfl Try.func44 (by kernel_rfl) rfl #[.int .i64 a0,.int .i64 1,.int .i64 2] rfl qz18_ ?_;(with_reducible refine(zcn.calls a0 1 2 true _ A2.out).mono ?_);rintro e w' ⟨rfl,⟨nd,rfl⟩⟩;refine⟨_,rfl,?_⟩))
  go_ret
  exact⟨qz10_,qz2_⟩
 ·
  replace c3:=Bool.eq_false_iff.mpr c3
  subst c3
  have H1:(some 0)=some r:=by rw [if_neg (show ¬(false=true) by decide)] at H;exact H
  clear H
  have H:=H1
  clear H1
  obtain rfl:=Option.some.inj H
  go_enter Try.func79,Try.ntmps79
  go_wp2_with (first|((with_reducible refine zaz (f:=44) rfl ?_);refine zc5 (some 4) rfl rfl Try.func44 (by kernel_rfl) rfl #[.int .i64 a0,.int .i64 1,.int .i64 2] rfl qz18_ ?_;(with_reducible refine(zcn.calls a0 1 2 false _ A2.out).mono ?_);rintro e w' ⟨rfl,⟨nd,rfl⟩⟩;refine⟨_,rfl,?_⟩))
  go_ret
  exact⟨qz10_,qz2_⟩
def zgc.f (a0:Int):Option (Unit):=some ()
theorem zgc.calls (a0:Int) (w:World) (h:zgc.f a0=some ()) :
  Calls Try.prog 82 #[.int .i64 a0] w fun e w'=>e=.returned (.tuple #[])∧zbr w w':=by
 have H:(some ())=some ():=h
 clear h
 go_enter Try.func82,Try.ntmps82
 go_wp2
 first|go_end0|((try simp only [Exit.inBlock,Exit.then]);refine bodyPost_ret (results_none rfl _ _ _) rfl ?_)
 exact⟨qz10_,qz2_⟩
def zcv.f (a0:Int) (a1:Int):Option (Int):=some (Int.tmod (wrap64 (a0 + a1)) 2130706433)
theorem zcv.calls (a0:Int) (a1:Int) (r:Int) (w:World) (h:zcv.f a0 a1=some r) :
  Calls Try.prog 154 #[.int .i64 a0,.int .i64 a1] w fun e w'=>e=.returned (.int .i64 r)∧zbr w w':=by
 have H:(some (Int.tmod (wrap64 (a0 + a1)) 2130706433))=some r:=h
 clear h
 obtain rfl:=Option.some.inj H
 go_enter Try.func154,Try.ntmps154
 go_wp2
 go_ret
 exact⟨qz10_,qz2_⟩
def zbu.f (a0_0:Int) (a0_1:Int) (a1_0:Int) (a1_1:Int):Option (Int × Int):=(zcv.f a0_0 a1_0).bind fun t104=>((zcv.f a0_1 a1_1).bind fun t105=>(some (t104,t105)))
def zbu.T1:Bool × List (List Nat × List Nat):=(true,[([],[]),([0],[0]),([],[]),([2],[2]),([1,3],[1,3]),([],[]),([5],[5]),([],[]),([7],[7]),([6,8,4],[6,8]),([4,9],[4,9]),([10,9,0,1,2,3,4,5,6,7,8,9,10],[10])])
def zbu.B1:List Nat:=[0,1,0,4,15,0,32,0,128,511,1023,2047]
theorem zbu.tab1:rtab .any (opsOf Try.f121 1)=zbu.T1:=by kernel_rfl
theorem zbu.bits1:zc8 zbu.T1.2 zbu.B1=true:=by kernel_rfl
theorem zbu.calls (a0_0:Int) (a0_1:Int) (a1_0:Int) (a1_1:Int) (r1:Int) (r2:Int) (w:World) (h:zbu.f a0_0 a0_1 a1_0 a1_1=some (r1,r2)) :
  Calls Try.prog 121 #[.agg #[.int .i64 a0_0,.int .i64 a0_1],.agg #[.int .i64 a1_0,.int .i64 a1_1]] w fun e w'=>e=.returned (.agg #[.int .i64 r1,.int .i64 r2])∧Below w.heap.size w w':=by
 have hu34:=Try.underlying34
 have HB:=am_ (Below.refl w.heap.size w)
 have H:((zcv.f a0_0 a1_0).bind fun t104=>((zcv.f a0_1 a1_1).bind fun t105=>(some (t104,t105))))=some (r1,r2):=h
 clear h
 replace H:=Option.bind_eq_some_iff.mp H
 obtain⟨t104,A30,H⟩:=H
 replace H:((zcv.f a0_1 a1_1).bind fun t105=>(some (t104,t105)))=some (r1,r2):=H
 have A3:=am_ A30
 clear A30
 replace H:=Option.bind_eq_some_iff.mp H
 obtain⟨t105,A40,H⟩:=H
 replace H:(some (t104,t105))=some (r1,r2):=H
 have A4:=am_ A40
 clear A40
 simp only [Option.some.injEq,Prod.mk.injEq] at H
 obtain⟨rfl,rfl⟩:=H
 go_enter Try.func121,Try.ntmps121
 try go_wp2_with (first|((with_reducible refine zad (N:=2) rfl ?_);refine zae rfl (N:=2) rfl (cs:=#[.int .i64 a0_0,.int .i64 a0_1]) (t:=34) bx_ ?_;intro gb101 hg w5 hbox hb;replace BK101:=am_ (hbox);replace GW101:=am_ ((by rw [hg];exact(zac qz4_):w.heap.size≤gb101));replace GE101:=am_ ((by rw [hg];exact(zac qz4_):w.heap.size≤gb101));replace HB:=am_ (zaj qz4_ hb);clear hb hbox hg)|((with_reducible refine zad (N:=3) rfl ?_);refine zae rfl (N:=3) rfl (cs:=#[.int .i64 a1_0,.int .i64 a1_1]) (t:=34) bx_ ?_;intro gb102 hg w6 hbox hb;replace BK102:=am_ (hbox);replace GW102:=am_ ((by rw [hg];exact(zac qz14_):w.heap.size≤gb102));replace GE102:=am_ ((by rw [hg];exact(zac qz14_):w.heap.size≤gb102));replace HB:=am_ (zaj qz14_ hb);replace NB101_102:=am_ ((by rw [hg];exact Nat.ne_of_lt (zar (g:=gb101) (o:=.cells #[.int .i64 a0_0,.int .i64 a0_1] 34 (0,0)) qz13_):gb101≠gb102));replace NB102_101:=am_ ((by rw [hg];exact Nat.ne_of_gt (zar (g:=gb101) (o:=.cells #[.int .i64 a0_0,.int .i64 a0_1] 34 (0,0)) qz13_):gb102≠gb101));replace BK101:=am_ (zak (g:=gb101) (o:=.cells #[.int .i64 a0_0,.int .i64 a0_1] 34 (0,0)) qz13_ hb);clear hb hbox hg)|((with_reducible refine zad (N:=4) rfl ?_);refine zae rfl (N:=4) rfl (cs:=#[.int .i64 0,.int .i64 0]) (t:=34) bx_ ?_;intro gb103 hg w7 hbox hb;replace BK103:=am_ (hbox);replace GW103:=am_ ((by rw [hg];exact(zac qz16_):w.heap.size≤gb103));replace GE103:=am_ ((by rw [hg];exact(zac qz16_):w.heap.size≤gb103));replace HB:=am_ (zaj qz16_ hb);replace NB101_103:=am_ ((by rw [hg];exact Nat.ne_of_lt (zar (g:=gb101) (o:=.cells #[.int .i64 a0_0,.int .i64 a0_1] 34 (0,0)) qz13_):gb101≠gb103));replace NB103_101:=am_ ((by rw [hg];exact Nat.ne_of_gt (zar (g:=gb101) (o:=.cells #[.int .i64 a0_0,.int .i64 a0_1] 34 (0,0)) qz13_):gb103≠gb101));replace BK101:=am_ (zak (g:=gb101) (o:=.cells #[.int .i64 a0_0,.int .i64 a0_1] 34 (0,0)) qz13_ hb);replace NB102_103:=am_ ((by rw [hg];exact Nat.ne_of_lt (zar (g:=gb102) (o:=.cells #[.int .i64 a1_0,.int .i64 a1_1] 34 (0,0)) qz15_):gb102≠gb103));replace NB103_102:=am_ ((by rw [hg];exact Nat.ne_of_gt (zar (g:=gb102) (o:=.cells #[.int .i64 a1_0,.int .i64 a1_1] 34 (0,0)) qz15_):gb103≠gb102));replace BK102:=am_ (zak (g:=gb102) (o:=.cells #[.int .i64 a1_0,.int .i64 a1_1] 34 (0,0)) qz15_ hb);clear hb hbox hg))
 replace BK101:=am_ (zaf BK101.out)
 replace BK102:=am_ (zaf BK102.out)
 replace BK103:=am_ (zaf BK103.out)
 replace HB:=am_ (zat HB.out)
 refine zcb (n:=12) (S:=fun w'=>w'.cell? ⟨gb101,0,none⟩=some (.int .i64 a0_0)∧w'.cell? ⟨gb101,1,none⟩=some (.int .i64 a0_1)∧w'.cell? ⟨gb102,0,none⟩=some (.int .i64 a1_0)∧w'.cell? ⟨gb102,1,none⟩=some (.int .i64 a1_1)) (ds:=[]) (bs_ 12 0) (by kernel_rfl) rfl rfl ⟨(zaa BK101.out 0).trans rfl,(zaa BK101.out 1).trans rfl,(zaa BK102.out 0).trans rfl,(zaa BK102.out 1).trans rfl⟩ (fun hHeld=>?_);refine zcr zbu.tab1 zbu.bits1 (fun HT_ HW_=>?_)
 generalize w7.drew=w8 at BK101 BK102 BK103 HB hHeld ⊢
 refine pt_ HT_.out 0 5 (bs_ 12 1) ?_
 refine pt_ HT_.out 2 7 (bs_ 12 5) ?_
 refine pt_ HT_.out 5 10 (bs_ 12 37) ?_
 refine pt_ HT_.out 7 12 (bs_ 12 165) ?_
 refine take_ (i:=1) (N:=some 6) (v:=?_) (a':=?_) (bs_ 12 167) rfl rfl (zba HT_.out HW_.out (by kernel_rfl)) (fun _ _ _ h=>h) (Or.inl ⟨(by rfl),?_⟩) hHeld ?_ ?_
 rotate_left
 ·
  rintro w' ⟨s0,s1,s2,s3⟩
  go_simp
  with_reducible rfl
 rotate_left
 ·
  exact ap_
 refine take_ (i:=3) (N:=some 8) (v:=?_) (a':=?_) (bs_ 12 175) rfl rfl (zba HT_.out HW_.out (by kernel_rfl)) (fun _ _ _ h=>h) (Or.inl ⟨(by rfl),?_⟩) hHeld ?_ ?_
 rotate_left
 ·
  rintro w' ⟨s0,s1,s2,s3⟩
  go_simp
  with_reducible rfl
 rotate_left
 ·
  exact ap_
 refine take_ (i:=6) (N:=some 11) (v:=?_) (a':=?_) (bs_ 12 239) rfl rfl (zba HT_.out HW_.out (by kernel_rfl)) (fun _ _ _ h=>h) (Or.inl ⟨(by rfl),?_⟩) hHeld ?_ ?_
 rotate_left
 ·
  rintro w' ⟨s0,s1,s2,s3⟩
  go_simp
  with_reducible rfl
 rotate_left
 ·
  exact ap_
 refine take_ (i:=8) (N:=some 13) (v:=?_) (a':=?_) (bs_ 12 495) rfl rfl (zba HT_.out HW_.out (by kernel_rfl)) (fun _ _ _ h=>h) (Or.inl ⟨(by rfl),?_⟩) hHeld ?_ ?_
 rotate_left
 ·
  rintro w' ⟨s0,s1,s2,s3⟩
  go_simp
  with_reducible rfl
 rotate_left
 ·
  exact ap_
 refine one_ (i:=4) (N:=some 9) (bs_ 12 511) rfl rfl (zbx HT_.out (by kernel_rfl)) (by decide) (fun K hK=>?_)
 refine goes_ Try.func154 (by kernel_rfl) rfl #[.int .i64 a0_0,.int .i64 a1_0] (by rfl) rfl rfl qz18_ ?_
 with_reducible refine(zcv.calls a0_0 a1_0 t104 _ A3.out).mono ?_
 rintro e w' ⟨rfl,⟨nd,rfl⟩⟩
 refine⟨_,rfl,?_⟩
 refine hK.out _ _ ⟨(zaa BK101.out 0).trans rfl,(zaa BK101.out 1).trans rfl,(zaa BK102.out 0).trans rfl,(zaa BK102.out 1).trans rfl⟩ (fun hHeld=>?_)
 clear hK K
 refine norm_ (a':=?_) ?_ ?_
 rotate_left
 ·
  show Act.put _ (some 9) _=_
  exact ap_
 refine one_ (i:=9) (N:=some 14) (bs_ 12 1023) rfl rfl (zbx HT_.out (by kernel_rfl)) (by decide) (fun K hK=>?_)
 refine goes_ Try.func154 (by kernel_rfl) rfl #[.int .i64 a0_1,.int .i64 a1_1] (by rfl) rfl rfl qz18_ ?_
 with_reducible refine(zcv.calls a0_1 a1_1 t105 _ A4.out).mono ?_
 rintro e w' ⟨rfl,⟨nd,rfl⟩⟩
 refine⟨_,rfl,?_⟩
 refine hK.out _ _ ⟨(zaa BK101.out 0).trans rfl,(zaa BK101.out 1).trans rfl,(zaa BK102.out 0).trans rfl,(zaa BK102.out 1).trans rfl⟩ (fun hHeld=>?_)
 clear hK K
 refine norm_ (a':=?_) ?_ ?_
 rotate_left
 ·
  show Act.put _ (some 14) _=_
  exact ap_
 refine pt_ HT_.out 10 15 (bs_ 12 2047) ?_
 refine one_ (i:=11) (N:=none) (bs_ 12 4095) rfl rfl (zbx HT_.out (by kernel_rfl)) (by decide) (fun K hK=>?_)
 have hs9:w8.cell? ⟨gb103,0,none⟩=some (.int .i64 0):=(zaa BK103.out 0).trans rfl
 have hfs9:=zab BK103.out 0
 have hns9_0:=NB101_103.out
 have hns9_1:=NB102_103.out
 have hms9_0:=NB103_101.out
 have hms9_1:=NB103_102.out
 have hs10:w8.cell? ⟨gb103,1,none⟩=some (.int .i64 0):=(zaa BK103.out 1).trans rfl
 have hfs10:=zab BK103.out 1
 have hns10_0:=NB101_103.out
 have hns10_1:=NB102_103.out
 have hms10_0:=NB103_101.out
 have hms10_1:=NB103_102.out
 refine skip_ (w1:=?_) (by rfl) rfl ?_ ?_
 rotate_left
 ·
  go_simp
  rfl
 refine hK.out _ _ ⟨((cell_far (p:=⟨gb103,_,none⟩) NB101_103.out _).trans (((cell_far (p:=⟨gb103,_,none⟩) NB101_103.out _).trans (hHeld.1)))),((cell_far (p:=⟨gb103,_,none⟩) NB101_103.out _).trans (((cell_far (p:=⟨gb103,_,none⟩) NB101_103.out _).trans (hHeld.2.1)))),((cell_far (p:=⟨gb103,_,none⟩) NB102_103.out _).trans (((cell_far (p:=⟨gb103,_,none⟩) NB102_103.out _).trans (hHeld.2.2.1)))),((cell_far (p:=⟨gb103,_,none⟩) NB102_103.out _).trans (((cell_far (p:=⟨gb103,_,none⟩) NB102_103.out _).trans (hHeld.2.2.2))))⟩ (fun hHeld=>?_)
 clear hK K
 refine done_ (zej HT_.out (by kernel_rfl)) ?_
 try go_wp2
 refine bodyPost_ret (results_cell_row rfl _ _ gb103 34 #[.int .i64 t104,.int .i64 t105] (0,0) _ rfl qz23_ Try.underlying34 rfl (by kernel_rfl)) rfl ?_
 exact⟨qz8_,qz17_⟩
def za7.l0:Nat→List Int→List (S34)→Int→Int→Option (List Int)
 | 0,_,_,_,_=>none
 | k + 1,x3,x7,x8,x9=>if x9<x8 then(if 0≤x9 then(if x9<(x7.length:Int) then((zez.f x3 ((zan x7 x9).f0)).bind fun t106=>((zez.f t106 ((zan x7 x9).f1)).bind fun t109=>(za7.l0 k t109 x7 x8 (wrap64 (x9 + 1))))) else(none)) else(none)) else(some x3)
def za7.f (k:Nat) (l0:List (S34)):Option (List Int):=za7.l0 k (([]:List Int)) l0 (l0.length:Int) 0
def za7.T5:Bool × List (List Nat × List Nat):=(true,[([],[]),([],[]),([1],[1]),([0,2],[0,2]),([],[]),([4],[4]),([3,5,3],[3,5]),([6,6,0,1,2,3,4,5,6],[0,6])])
def za7.B5:List Nat:=[0,0,2,7,0,16,63,127]
theorem za7.tab5:rtab .any (opsOf Try.f141 5)=za7.T5:=by kernel_rfl
theorem za7.bits5:zc8 za7.T5.2 za7.B5=true:=by kernel_rfl
theorem za7.calls (k:Nat) (A0:Option Addr) (c0:Nat) (l0:List (S34)) (r:List Int) (w:World) (hr0:Kd.C k34 w A0 l0.length l0) (hc0:l0.length≤c0) (h:za7.f k l0=some r) :
  Calls Try.prog 141 #[.slice A0 l0.length c0] w fun e w'=>∃ v0_:Value,e=.returned (v0_)∧Kd.R (Kd.int .u8) 5 w' w.heap.size (fun _=>True) v0_ r∧Below w.heap.size w w':=by
 have hu34:=Try.underlying34
 have HR0:=am_ hr0
 have HC0:=am_ hc0
 clear hr0 hc0
 have HB:=am_ (Below.refl w.heap.size w)
 have H:(za7.l0 k (([]:List Int)) l0 (l0.length:Int) 0)=some r:=h
 clear h
 obtain⟨y101,hy101⟩:∃ y_:List Int,y_=(([]:List Int)):=⟨_,rfl⟩
 replace H:(za7.l0 k y101 l0 (l0.length:Int) 0)=some r:=by first|(rw [hy101];with_reducible exact H)|(have H2_:=(Option.bind_some _ _).symm.trans H;rw [hy101];with_reducible exact H2_)|(have H2_:=(Option.bind_some _ _).symm.trans H;with_reducible exact H2_)|with_reducible exact H|(rw [hy101];exact H)|exact H
 have Ny101:=am_ hy101
 clear hy101
 have H':=am_ H
 clear H
 go_enter Try.func141,Try.ntmps141
 go_wp2_with (first|((with_reducible refine zad (N:=6) rfl ?_);refine Kd.R_lit (Kd.int .u8) _ 5 ?hg (N:=6) ?hd (xs:=([]:List Int)) (inner:=[]) (ok:=fun _=>True) (okp:=fun _=>True) ?hr ?hp (fun _ hk=>hk) trivial (Below.refl _ _) (Nat.le_refl _) (by simp) ?_;(case hd=>rfl);(case hg=>rfl);(case hr=>first|(go_simp;done)|(go_simp;rfl));(case hp=>exact(Reps.none _ _));intro v102 w2 ho3 hb hg_ hnew_;clear hg_ hnew_;(first|rw [←Ny101.out] at ho3|(simp only [Int.reduceToNat] at ho3;rw [←Ny101.out] at ho3));replace HO103:=am_ (Kd.zdk ho3 (zac qz4_));replace HB:=am_ (zaj qz4_ hb);clear hb ho3))
 go_loopg [3,9] k (fun kq v3 v9 w'=>∃ (x3_1:List Int) (x9_1:Int),v9=.int .i64 x9_1∧zal (za7.l0 kq x3_1 l0 (l0.length:Int) x9_1=some r)∧zal (kq≤k)∧zal (Kd.R (Kd.int .u8) 5 w' w.heap.size (fun _=>True) v3 x3_1)∧zal (Below w.heap.size w w'))
 case atStart=>exact⟨(y101),(0),qz10_,H',⟨Nat.le_refl _⟩,⟨qz7_⟩,⟨qz4_⟩⟩
 case round=>
  clear H'
  try clear c1
  try clear p2
  obtain⟨x3_1,x9_1,rfl,HA,HK1,HO_3,HB⟩:=hrel
  cases gk with
  | zero=>exact absurd HA.out (by simp [za7.l0])
  | succ k1=>
   have H:=HA.out
   clear HA
   simp only [za7.l0] at H
   by_cases c4:x9_1<(l0.length:Int)
   ·
    rw [if_pos c4] at H
    have c4b0:decide (x9_1<(l0.length:Int))=true:=decide_eq_true c4
    clear c4
    by_cases c5:0≤x9_1
    ·
     rw [if_pos c5] at H
     have c5b0:decide (0≤x9_1)=true:=decide_eq_true c5
     clear c5
     by_cases c6:x9_1<(l0.length:Int)
     ·
      rw [if_pos c6] at H
      have c6b0:decide (x9_1<(l0.length:Int))=true:=decide_eq_true c6
      clear c6
      replace H:=Option.bind_eq_some_iff.mp H
      obtain⟨t106,A70,H⟩:=H
      replace H:((zez.f t106 ((zan l0 x9_1).f1)).bind fun t109=>(za7.l0 k1 t109 l0 (l0.length:Int) (wrap64 (x9_1 + 1))))=some r:=H
      have A7:=am_ A70
      clear A70
      replace H:=Option.bind_eq_some_iff.mp H
      obtain⟨t109,A80,H⟩:=H
      replace H:(za7.l0 k1 t109 l0 (l0.length:Int) (wrap64 (x9_1 + 1)))=some r:=H
      have A8:=am_ A80
      clear A80
      have H':=am_ H
      clear H
      have p104:0≤(x9_1:Int):=of_decide_eq_true qz11_
      have q104:x9_1<(l0.length:Int):=of_decide_eq_true qz11_
      obtain⟨ad104,e104,hx104_0,hx104_1⟩:=zey HR0.out x9_1 p104 q104
      cases e104
      replace hx104_0:=(HB.out.cell (World.block_lt_of_cell? w _ hx104_0)).trans hx104_0
      replace hx104_1:=(HB.out.cell (World.block_lt_of_cell? w _ hx104_1)).trans hx104_1
      replace p104:=eq_true p104
      replace q104:=eq_true q104
      try go_wp2_with (first|((with_reducible refine zad (N:=5) rfl ?_);refine zae rfl (N:=5) rfl (cs:=#[.int .i64 0,.int .i64 0]) (t:=34) bx_ ?_;intro gb105 hg w9 hbox hb;replace HO_3:=am_ (Kd.zdr qz5_ hb);replace BK105:=am_ (hbox);replace GW105:=am_ ((by rw [hg];exact(zac qz4_):w.heap.size≤gb105));replace GE105:=am_ ((by rw [hg];exact(zac qz4_):w.heap.size≤gb105));replace HB:=am_ (zaj qz4_ hb);clear hb hbox hg;have hcz10_0:w9.cell? ⟨gb105,0,none⟩=some (.int .i64 0):=(zaa BK105.out 0).trans rfl;have hcz10_1:w9.cell? ⟨gb105,1,none⟩=some (.int .i64 0):=(zaa BK105.out 1).trans rfl;have hfz10_0:=zab BK105.out 0;have hfz10_1:=zab BK105.out 1))
      have n0_:zal (Kd.R (Kd.int .u8) 5 ((w9.setCell ⟨gb105,0,none⟩ (.int .i64 ((zan l0 x9_1).f0))).setCell ⟨gb105,1,none⟩ (.int .i64 ((zan l0 x9_1).f1))) w.heap.size (fun _=>True) u3 x3_1):=⟨by(with_reducible repeat(first|apply Kd.zb3|apply Kd.zb4|apply Kd.zch));exact Kd.zbi (Kd.R_far (p:=⟨gb105,1,none⟩) (Kd.R_far (p:=⟨gb105,0,none⟩) (Kd.zep HO_3.out BK105.out (by decide)) (fun _ hk=>hk.2) (.int .i64 ((zan l0 x9_1).f0))) (fun _ hk=>hk.2) (.int .i64 ((zan l0 x9_1).f1))) (fun _ hk=>trivial)⟩
      have n1_:zal (((w9.setCell ⟨gb105,0,none⟩ (.int .i64 ((zan l0 x9_1).f0))).setCell ⟨gb105,1,none⟩ (.int .i64 ((zan l0 x9_1).f1))).heap[gb105]?=some (.cells #[.int .i64 ((zan l0 x9_1).f0),.int .i64 ((zan l0 x9_1).f1)] 34 (0,0))):=⟨(by(with_reducible repeat(first|refine zah ?_ _|refine zaf ?_|refine zai ?_ _));refine za9 (cs:=#[.int .i64 ((zan l0 x9_1).f0),.int .i64 0]) ?_ 1 _ rfl;(with_reducible repeat(first|refine zah ?_ _|refine zaf ?_|refine zai ?_ _));refine za9 (cs:=#[.int .i64 0,.int .i64 0]) ?_ 0 _ rfl;(with_reducible repeat(first|refine zah ?_ _|refine zaf ?_|refine zai ?_ _));exact BK105.out)⟩
      have n2_:zal (Below w.heap.size w ((w9.setCell ⟨gb105,0,none⟩ (.int .i64 ((zan l0 x9_1).f0))).setCell ⟨gb105,1,none⟩ (.int .i64 ((zan l0 x9_1).f1)))):=⟨(by repeat(first|(with_reducible first|exact HB.out|apply za0|apply zay|apply zat|refine za4 ?_ GE105.out)|exact HB.out))⟩
      (try clear HO_3)
      (try clear BK105)
      (try clear HB)
      generalize ((w9.setCell ⟨gb105,0,none⟩ (.int .i64 ((zan l0 x9_1).f0))).setCell ⟨gb105,1,none⟩ (.int .i64 ((zan l0 x9_1).f1)))=w11 at n0_ n1_ n2_ ⊢
      have HO_3:=n0_
      have BK105:=n1_
      have HB:=n2_
      clear n0_ n1_ n2_
      replace HO_3:=am_ (Kd.zch HO_3.out)
      replace BK105:=am_ (zaf BK105.out)
      replace HB:=am_ (zat HB.out)
      obtain⟨Ao13,co13,eo13⟩:=Kd.zb0 HO_3.out
      (first|subst eo13|(injection eo13 with f1_ f2_ f3_;have f4_:=f1_.symm;have f5_:=f3_.symm;clear f1_ f2_ f3_;subst f4_;subst f5_))
      refine zcb (n:=8) (S:=fun w'=>w'.cell? ⟨gb105,0,none⟩=some (.int .i64 ((zan l0 x9_1).f0))∧w'.cell? ⟨gb105,1,none⟩=some (.int .i64 ((zan l0 x9_1).f1))) (ds:=[]) (bs_ 8 0) (by kernel_rfl) rfl rfl ⟨(zaa BK105.out 0).trans rfl,(zaa BK105.out 1).trans rfl⟩ (fun hHeld=>?_);refine zcr za7.tab5 za7.bits5 (fun HT_ HW_=>?_)
      generalize w11.drew=w12 at HO_3 BK105 HB hHeld ⊢
      refine pt_ HT_.out 0 13 (bs_ 8 1) ?_
      refine pt_ HT_.out 1 14 (bs_ 8 3) ?_
      refine pt_ HT_.out 4 17 (bs_ 8 19) ?_
      refine take_ (i:=2) (N:=some 15) (v:=?_) (a':=?_) (bs_ 8 23) rfl rfl (zba HT_.out HW_.out (by kernel_rfl)) (fun _ _ _ h=>h) (Or.inl ⟨(by rfl),?_⟩) hHeld ?_ ?_
      rotate_left
      ·
       rintro w' ⟨s0,s1⟩
       go_simp
       with_reducible rfl
      rotate_left
      ·
       exact ap_
      refine take_ (i:=5) (N:=some 18) (v:=?_) (a':=?_) (bs_ 8 55) rfl rfl (zba HT_.out HW_.out (by kernel_rfl)) (fun _ _ _ h=>h) (Or.inl ⟨(by rfl),?_⟩) hHeld ?_ ?_
      rotate_left
      ·
       rintro w' ⟨s0,s1⟩
       go_simp
       with_reducible rfl
      rotate_left
      ·
       exact ap_
      refine one_ (i:=3) (N:=some 16) (bs_ 8 63) rfl rfl (zbx HT_.out (by kernel_rfl)) (by decide) (fun K hK=>?_)
      refine goes_ Try.func88 (by kernel_rfl) rfl #[.slice Ao13 x3_1.length co13,.int .i64 ((zan l0 x9_1).f0)] (by rfl) rfl rfl qz18_ ?_
      with_reducible refine(zez.calls (fun k_=>some k_=(.slice Ao13 x3_1.length co13:Value).ownBlock) (.slice Ao13 x3_1.length co13) x3_1 ((zan l0 x9_1).f0) t106 w _ ?side1 ?side2 A7.out).mono ?_
      (case side1=>repeat(first|(with_reducible first|exact HB.out|apply za0|apply zay|apply zat|refine za4 ?_ GE105.out)|exact HB.out))
      (case side2=>exact Kd.zfo rfl HO_3.out)
      rintro e w14 ⟨v107,rfl,ho0,hb,hkp⟩
      refine⟨_,rfl,?_⟩
      replace BK105:=am_ (zhg (g:=gb105) (o:=.cells #[.int .i64 ((zan l0 x9_1).f0),.int .i64 ((zan l0 x9_1).f1)] 34 (0,0)) qz24_ hkp (fun hs_=>(fun e_=>(Kd.R_ne HO_3.out BK105.out (by decide)) e_) hs_))
      replace HO108:=am_ (Kd.zbi (ok':=fun k_=>True) ho0 (fun k_ hk_=>trivial))
      replace HB:=am_ (hb)
      clear HO_3
      (try clear hb)
      (try clear hkp)
      (try clear ho0)
      obtain⟨Ao15,co15,eo15⟩:=Kd.zb0 HO108.out
      (first|subst eo15|(injection eo15 with f1_ f2_ f3_;have f4_:=f1_.symm;have f5_:=f3_.symm;clear f1_ f2_ f3_;subst f4_;subst f5_))
      refine hK.out _ _ ⟨(zaa BK105.out 0).trans rfl,(zaa BK105.out 1).trans rfl⟩ (fun hHeld=>?_)
      clear hK K
      refine norm_ (a':=?_) ?_ ?_
      rotate_left
      ·
       show Act.put _ (some 16) _=_
       exact ap_
      refine one_ (i:=6) (N:=some 19) (bs_ 8 127) rfl rfl (zbx HT_.out (by kernel_rfl)) (by decide) (fun K hK=>?_)
      refine goes_ Try.func88 (by kernel_rfl) rfl #[.slice Ao15 t106.length co15,.int .i64 ((zan l0 x9_1).f1)] (by rfl) rfl rfl qz18_ ?_
      with_reducible refine(zez.calls (fun k_=>some k_=(.slice Ao15 t106.length co15:Value).ownBlock) (.slice Ao15 t106.length co15) t106 ((zan l0 x9_1).f1) t109 w _ ?side1 ?side2 A8.out).mono ?_
      (case side1=>repeat(first|(with_reducible first|exact HB.out|apply za0|apply zay|apply zat|refine za4 ?_ GE105.out)|exact HB.out))
      (case side2=>exact Kd.zfo rfl HO108.out)
      rintro e w16 ⟨v110,rfl,ho0,hb,hkp⟩
      refine⟨_,rfl,?_⟩
      replace BK105:=am_ (zhg (g:=gb105) (o:=.cells #[.int .i64 ((zan l0 x9_1).f0),.int .i64 ((zan l0 x9_1).f1)] 34 (0,0)) qz24_ hkp (fun hs_=>(fun e_=>(Kd.R_ne HO108.out BK105.out (by decide)) e_) hs_))
      replace HO111:=am_ (Kd.zbi (ok':=fun k_=>True) ho0 (fun k_ hk_=>trivial))
      replace HB:=am_ (hb)
      clear HO108
      (try clear hb)
      (try clear hkp)
      (try clear ho0)
      refine hK.out _ _ ⟨(zaa BK105.out 0).trans rfl,(zaa BK105.out 1).trans rfl⟩ (fun hHeld=>?_)
      clear hK K
      refine norm_ (a':=?_) ?_ ?_
      rotate_left
      ·
       show Act.put _ (some 19) _=_
       exact ap_
      refine pt_ HT_.out 7 3 (bs_ 8 255) ?_
      refine done_ (zej HT_.out (by kernel_rfl)) ?_
      try go_wp2
      go_roundg k1
      case measure=>have:=HK1.out;omega
      case rel=>exact⟨(t109),(wrap64 (x9_1 + 1)),qz10_,H',⟨(by have:=HK1.out;omega)⟩,⟨(by(with_reducible repeat(first|apply Kd.zb3|apply Kd.zb4|apply Kd.zch));exact HO111.out)⟩,⟨(by repeat(first|(with_reducible first|exact HB.out|apply za0|apply zay|apply zat|refine za4 ?_ GE105.out)|exact HB.out))⟩⟩
     ·
      rw [if_neg c6] at H
      exact absurd H (by simp)
    ·
     rw [if_neg c5] at H
     exact absurd H (by simp)
   ·
    rw [if_neg c4] at H
    have c4b0:decide (x9_1<(l0.length:Int))=false:=decide_eq_false c4
    clear c4
    obtain rfl:=Option.some.inj H
    go_wp2
    go_ret
    exact⟨_,qz8_,qz5_,qz4_⟩
def zck.f (k:Nat) (s0_0:List (S34)) (s0_1:Int) (s0_2:ByteArray) (s0_3:Int) (l1:List (S34)):Option (Int × ByteArray × Int):=(za7.f k l1).bind fun t101=>((zca.f s0_0 s0_1 s0_2 s0_3 t101).bind fun bt104=>(some (bt104.1,bt104.2.1,bt104.2.2)))
theorem zck.calls (k:Nat) (g:Nat) (s0_0:List (S34)) (s0_1:Int) (s0_2:ByteArray) (s0_3:Int) (A1:Option Addr) (c1:Nat) (l1:List (S34)) (r1:Int) (r2:ByteArray) (r3:Int) (w0 w:World) (hI:IsS27 w0 w g s0_0 s0_1 s0_2 s0_3) (hB:Below w0.heap.size w0 w) (hr1:∀ W_,zbj w W_ g none→Kd.C k34 W_ A1 l1.length l1) (hc1:l1.length≤c1) (h:zck.f k s0_0 s0_1 s0_2 s0_3 l1=some (r1,r2,r3)) :
  Calls Try.prog 122 #[.pointer (some ⟨g,0,none⟩),.slice A1 l1.length c1] w fun e w'=>e=.returned (.tuple #[])∧IsS27 w0 w' g s0_0 r1 r2 r3∧Below w0.heap.size w0 w'∧zbj w w' g none:=by
 have HR1:=am_ hr1
 have HC1:=am_ hc1
 clear hr1 hc1
 have HI0:=am_ hI
 have HK:=am_ (zbj.refl w g none)
 have HL:=am_ hB.size
 clear hI
 have HW0:=am_ hB.size
 have HB:=am_ hB
 clear hB
 have H:((za7.f k l1).bind fun t101=>((zca.f s0_0 s0_1 s0_2 s0_3 t101).bind fun bt104=>(some (bt104.1,bt104.2.1,bt104.2.2))))=some (r1,r2,r3):=h
 clear h
 replace H:=Option.bind_eq_some_iff.mp H
 obtain⟨t101,A30,H⟩:=H
 replace H:((zca.f s0_0 s0_1 s0_2 s0_3 t101).bind fun bt104=>(some (bt104.1,bt104.2.1,bt104.2.2)))=some (r1,r2,r3):=H
 have A3:=am_ A30
 clear A30
 replace H:=Option.bind_eq_some_iff.mp H
 obtain⟨⟨t104,t105,t106⟩,A40,H⟩:=H
 replace H:(some (t104,t105,t106))=some (r1,r2,r3):=H
 have A4:=am_ A40
 clear A40
 simp only [Option.some.injEq,Prod.mk.injEq] at H
 obtain⟨rfl,rfl,rfl⟩:=H
 go_enter Try.func122,Try.ntmps122
 go_wp2_with (first|((with_reducible refine zaz (f:=141) rfl ?_);refine zc5 (some 6) rfl rfl Try.func141 (by kernel_rfl) rfl #[.slice A1 l1.length c1] rfl qz18_ ?_;(with_reducible refine(za7.calls k _ _ l1 t101 _ ?side1 ?side2 A3.out).mono ?_);(case side1=>exact Kd.zn2 HR1.out qz25_);(case side2=>exact HC1.out);rintro e w5 ⟨v102,rfl,ho0,hb⟩;refine⟨_,rfl,?_⟩;replace HO103:=am_ (Kd.zdk ho0 (zpk (w:=w) (g:=g) (row:=none) qz25_));replace HK:=am_ (zbj.trans qz25_ (zbj.of_below hb g none) (.inl rfl));replace HB:=am_ (zaj (by repeat(first|(with_reducible first|exact HB.out|apply za0|apply zay|apply zat|refine za4 ?_ (IsS27.ge HI0.out))|exact HB.out)) hb);replace HI0:=am_ (IsS27.below (by repeat(first|(with_reducible first|exact HI0.out|apply IsS27.alloc|apply IsS27.drewN|apply IsS27.drew|apply IsS27.set_1|apply IsS27.set_2|apply IsS27.set_3)|exact HI0.out)) hb);(try clear hb);(try clear hb2);(try clear hk);(try clear hi);(try clear ho0);obtain⟨Ao6,co6,eo6⟩:=Kd.zb0 HO103.out;subst eo6)|((with_reducible refine zaz (f:=49) rfl ?_);refine zc5 (some 7) rfl rfl Try.func49 (by kernel_rfl) rfl #[.pointer (some ⟨g,0,none⟩),.slice Ao6 t101.length co6] rfl qz18_ ?_;(with_reducible refine(zca.calls g s0_0 s0_1 s0_2 s0_3 _ _ t101 t104 t105 t106 w0 _ ?side1 ?side2 ?side3 ?side4 ?side5 A4.out).mono ?_);(case side1=>repeat(first|(with_reducible first|exact HI0.out|apply IsS27.alloc|apply IsS27.drewN|apply IsS27.drew|apply IsS27.set_1|apply IsS27.set_2|apply IsS27.set_3)|exact HI0.out));(case side2=>repeat(first|(with_reducible first|exact HB.out|apply za0|apply zay|apply zat|refine za4 ?_ (IsS27.ge HI0.out))|exact HB.out));(case side3=>exact qc_ (Kd.R_reads' HO103.out).2.2);(case side4=>exact(Kd.R_reads' HO103.out).2.1);(case side5=>exact zow (IsS27.own_ne HI0.out HO103.out (by decide)));rintro e w7 ⟨rfl,hi,hb,hk⟩;refine⟨_,rfl,?_⟩;replace HO103:=am_ (Kd.zbi (Kd.R_keep (IsS27.apart (show IsS27 w0 _ g s0_0 s0_1 s0_2 s0_3 from by repeat(first|(with_reducible first|exact HI0.out|apply IsS27.alloc|apply IsS27.drewN|apply IsS27.drew|apply IsS27.set_1|apply IsS27.set_2|apply IsS27.set_3)|exact HI0.out)) qz7_ (by decide)) hk (fun _ h=>h.2)) (fun _ h=>h.1));replace HK:=am_ (zbj.trans qz25_ hk (.inl rfl));replace HB:=am_ (hb);replace HI0:=am_ (hi);(try clear hb);(try clear hb2);(try clear hk);(try clear hi)))
 first|go_end0|((try simp only [Exit.inBlock,Exit.then]);refine bodyPost_ret (results_none rfl _ _ _) rfl ?_)
 exact⟨qz8_,(by repeat(first|(with_reducible first|exact HI0.out|apply IsS27.alloc|apply IsS27.drewN|apply IsS27.drew|apply IsS27.set_1|apply IsS27.set_2|apply IsS27.set_3)|exact HI0.out)),(by repeat(first|(with_reducible first|exact HB.out|apply za0|apply zay|apply zat|refine za4 ?_ (IsS27.ge HI0.out))|exact HB.out)),qz25_⟩
def zek.f (a0:Int) (a1:Int):Option (Int):=some (Int.tmod (wrap64 ((wrap64 (a0 - a1)) + 2130706433)) 2130706433)
theorem zek.calls (a0:Int) (a1:Int) (r:Int) (w:World) (h:zek.f a0 a1=some r) :
  Calls Try.prog 145 #[.int .i64 a0,.int .i64 a1] w fun e w'=>e=.returned (.int .i64 r)∧zbr w w':=by
 have H:(some (Int.tmod (wrap64 ((wrap64 (a0 - a1)) + 2130706433)) 2130706433))=some r:=h
 clear h
 obtain rfl:=Option.some.inj H
 go_enter Try.func145,Try.ntmps145
 go_wp2
 go_ret
 exact⟨qz10_,qz2_⟩
def zb5.f (a0_0:Int) (a0_1:Int) (a1_0:Int) (a1_1:Int):Option (Int × Int):=(zek.f a0_0 a1_0).bind fun t104=>((zek.f a0_1 a1_1).bind fun t105=>(some (t104,t105)))
def zb5.T1:Bool × List (List Nat × List Nat):=(true,[([],[]),([0],[0]),([],[]),([2],[2]),([1,3],[1,3]),([],[]),([5],[5]),([],[]),([7],[7]),([6,8,4],[6,8]),([4,9],[4,9]),([10,9,0,1,2,3,4,5,6,7,8,9,10],[10])])
def zb5.B1:List Nat:=[0,1,0,4,15,0,32,0,128,511,1023,2047]
theorem zb5.tab1:rtab .any (opsOf Try.f113 1)=zb5.T1:=by kernel_rfl
theorem zb5.bits1:zc8 zb5.T1.2 zb5.B1=true:=by kernel_rfl
theorem zb5.calls (a0_0:Int) (a0_1:Int) (a1_0:Int) (a1_1:Int) (r1:Int) (r2:Int) (w:World) (h:zb5.f a0_0 a0_1 a1_0 a1_1=some (r1,r2)) :
  Calls Try.prog 113 #[.agg #[.int .i64 a0_0,.int .i64 a0_1],.agg #[.int .i64 a1_0,.int .i64 a1_1]] w fun e w'=>e=.returned (.agg #[.int .i64 r1,.int .i64 r2])∧Below w.heap.size w w':=by
 have hu34:=Try.underlying34
 have HB:=am_ (Below.refl w.heap.size w)
 have H:((zek.f a0_0 a1_0).bind fun t104=>((zek.f a0_1 a1_1).bind fun t105=>(some (t104,t105))))=some (r1,r2):=h
 clear h
 replace H:=Option.bind_eq_some_iff.mp H
 obtain⟨t104,A30,H⟩:=H
 replace H:((zek.f a0_1 a1_1).bind fun t105=>(some (t104,t105)))=some (r1,r2):=H
 have A3:=am_ A30
 clear A30
 replace H:=Option.bind_eq_some_iff.mp H
 obtain⟨t105,A40,H⟩:=H
 replace H:(some (t104,t105))=some (r1,r2):=H
 have A4:=am_ A40
 clear A40
 simp only [Option.some.injEq,Prod.mk.injEq] at H
 obtain⟨rfl,rfl⟩:=H
 go_enter Try.func113,Try.ntmps113
 try go_wp2_with (first|((with_reducible refine zad (N:=2) rfl ?_);refine zae rfl (N:=2) rfl (cs:=#[.int .i64 a0_0,.int .i64 a0_1]) (t:=34) bx_ ?_;intro gb101 hg w5 hbox hb;replace BK101:=am_ (hbox);replace GW101:=am_ ((by rw [hg];exact(zac qz4_):w.heap.size≤gb101));replace GE101:=am_ ((by rw [hg];exact(zac qz4_):w.heap.size≤gb101));replace HB:=am_ (zaj qz4_ hb);clear hb hbox hg)|((with_reducible refine zad (N:=3) rfl ?_);refine zae rfl (N:=3) rfl (cs:=#[.int .i64 a1_0,.int .i64 a1_1]) (t:=34) bx_ ?_;intro gb102 hg w6 hbox hb;replace BK102:=am_ (hbox);replace GW102:=am_ ((by rw [hg];exact(zac qz14_):w.heap.size≤gb102));replace GE102:=am_ ((by rw [hg];exact(zac qz14_):w.heap.size≤gb102));replace HB:=am_ (zaj qz14_ hb);replace NB101_102:=am_ ((by rw [hg];exact Nat.ne_of_lt (zar (g:=gb101) (o:=.cells #[.int .i64 a0_0,.int .i64 a0_1] 34 (0,0)) qz13_):gb101≠gb102));replace NB102_101:=am_ ((by rw [hg];exact Nat.ne_of_gt (zar (g:=gb101) (o:=.cells #[.int .i64 a0_0,.int .i64 a0_1] 34 (0,0)) qz13_):gb102≠gb101));replace BK101:=am_ (zak (g:=gb101) (o:=.cells #[.int .i64 a0_0,.int .i64 a0_1] 34 (0,0)) qz13_ hb);clear hb hbox hg)|((with_reducible refine zad (N:=4) rfl ?_);refine zae rfl (N:=4) rfl (cs:=#[.int .i64 0,.int .i64 0]) (t:=34) bx_ ?_;intro gb103 hg w7 hbox hb;replace BK103:=am_ (hbox);replace GW103:=am_ ((by rw [hg];exact(zac qz16_):w.heap.size≤gb103));replace GE103:=am_ ((by rw [hg];exact(zac qz16_):w.heap.size≤gb103));replace HB:=am_ (zaj qz16_ hb);replace NB101_103:=am_ ((by rw [hg];exact Nat.ne_of_lt (zar (g:=gb101) (o:=.cells #[.int .i64 a0_0,.int .i64 a0_1] 34 (0,0)) qz13_):gb101≠gb103));replace NB103_101:=am_ ((by rw [hg];exact Nat.ne_of_gt (zar (g:=gb101) (o:=.cells #[.int .i64 a0_0,.int .i64 a0_1] 34 (0,0)) qz13_):gb103≠gb101));replace BK101:=am_ (zak (g:=gb101) (o:=.cells #[.int .i64 a0_0,.int .i64 a0_1] 34 (0,0)) qz13_ hb);replace NB102_103:=am_ ((by rw [hg];exact Nat.ne_of_lt (zar (g:=gb102) (o:=.cells #[.int .i64 a1_0,.int .i64 a1_1] 34 (0,0)) qz15_):gb102≠gb103));replace NB103_102:=am_ ((by rw [hg];exact Nat.ne_of_gt (zar (g:=gb102) (o:=.cells #[.int .i64 a1_0,.int .i64 a1_1] 34 (0,0)) qz15_):gb103≠gb102));replace BK102:=am_ (zak (g:=gb102) (o:=.cells #[.int .i64 a1_0,.int .i64 a1_1] 34 (0,0)) qz15_ hb);clear hb hbox hg))
 replace BK101:=am_ (zaf BK101.out)
 replace BK102:=am_ (zaf BK102.out)
 replace BK103:=am_ (zaf BK103.out)
 replace HB:=am_ (zat HB.out)
 refine zcb (n:=12) (S:=fun w'=>w'.cell? ⟨gb101,0,none⟩=some (.int .i64 a0_0)∧w'.cell? ⟨gb101,1,none⟩=some (.int .i64 a0_1)∧w'.cell? ⟨gb102,0,none⟩=some (.int .i64 a1_0)∧w'.cell? ⟨gb102,1,none⟩=some (.int .i64 a1_1)) (ds:=[]) (bs_ 12 0) (by kernel_rfl) rfl rfl ⟨(zaa BK101.out 0).trans rfl,(zaa BK101.out 1).trans rfl,(zaa BK102.out 0).trans rfl,(zaa BK102.out 1).trans rfl⟩ (fun hHeld=>?_);refine zcr zb5.tab1 zb5.bits1 (fun HT_ HW_=>?_)
 generalize w7.drew=w8 at BK101 BK102 BK103 HB hHeld ⊢
 refine pt_ HT_.out 0 5 (bs_ 12 1) ?_
 refine pt_ HT_.out 2 7 (bs_ 12 5) ?_
 refine pt_ HT_.out 5 10 (bs_ 12 37) ?_
 refine pt_ HT_.out 7 12 (bs_ 12 165) ?_
 refine take_ (i:=1) (N:=some 6) (v:=?_) (a':=?_) (bs_ 12 167) rfl rfl (zba HT_.out HW_.out (by kernel_rfl)) (fun _ _ _ h=>h) (Or.inl ⟨(by rfl),?_⟩) hHeld ?_ ?_
 rotate_left
 ·
  rintro w' ⟨s0,s1,s2,s3⟩
  go_simp
  with_reducible rfl
 rotate_left
 ·
  exact ap_
 refine take_ (i:=3) (N:=some 8) (v:=?_) (a':=?_) (bs_ 12 175) rfl rfl (zba HT_.out HW_.out (by kernel_rfl)) (fun _ _ _ h=>h) (Or.inl ⟨(by rfl),?_⟩) hHeld ?_ ?_
 rotate_left
 ·
  rintro w' ⟨s0,s1,s2,s3⟩
  go_simp
  with_reducible rfl
 rotate_left
 ·
  exact ap_
 refine take_ (i:=6) (N:=some 11) (v:=?_) (a':=?_) (bs_ 12 239) rfl rfl (zba HT_.out HW_.out (by kernel_rfl)) (fun _ _ _ h=>h) (Or.inl ⟨(by rfl),?_⟩) hHeld ?_ ?_
 rotate_left
 ·
  rintro w' ⟨s0,s1,s2,s3⟩
  go_simp
  with_reducible rfl
 rotate_left
 ·
  exact ap_
 refine take_ (i:=8) (N:=some 13) (v:=?_) (a':=?_) (bs_ 12 495) rfl rfl (zba HT_.out HW_.out (by kernel_rfl)) (fun _ _ _ h=>h) (Or.inl ⟨(by rfl),?_⟩) hHeld ?_ ?_
 rotate_left
 ·
  rintro w' ⟨s0,s1,s2,s3⟩
  go_simp
  with_reducible rfl
 rotate_left
 ·
  exact ap_
 refine one_ (i:=4) (N:=some 9) (bs_ 12 511) rfl rfl (zbx HT_.out (by kernel_rfl)) (by decide) (fun K hK=>?_)
 refine goes_ Try.func145 (by kernel_rfl) rfl #[.int .i64 a0_0,.int .i64 a1_0] (by rfl) rfl rfl qz18_ ?_
 with_reducible refine(zek.calls a0_0 a1_0 t104 _ A3.out).mono ?_
 rintro e w' ⟨rfl,⟨nd,rfl⟩⟩
 refine⟨_,rfl,?_⟩
 refine hK.out _ _ ⟨(zaa BK101.out 0).trans rfl,(zaa BK101.out 1).trans rfl,(zaa BK102.out 0).trans rfl,(zaa BK102.out 1).trans rfl⟩ (fun hHeld=>?_)
 clear hK K
 refine norm_ (a':=?_) ?_ ?_
 rotate_left
 ·
  show Act.put _ (some 9) _=_
  exact ap_
 refine one_ (i:=9) (N:=some 14) (bs_ 12 1023) rfl rfl (zbx HT_.out (by kernel_rfl)) (by decide) (fun K hK=>?_)
 refine goes_ Try.func145 (by kernel_rfl) rfl #[.int .i64 a0_1,.int .i64 a1_1] (by rfl) rfl rfl qz18_ ?_
 with_reducible refine(zek.calls a0_1 a1_1 t105 _ A4.out).mono ?_
 rintro e w' ⟨rfl,⟨nd,rfl⟩⟩
 refine⟨_,rfl,?_⟩
 refine hK.out _ _ ⟨(zaa BK101.out 0).trans rfl,(zaa BK101.out 1).trans rfl,(zaa BK102.out 0).trans rfl,(zaa BK102.out 1).trans rfl⟩ (fun hHeld=>?_)
 clear hK K
 refine norm_ (a':=?_) ?_ ?_
 rotate_left
 ·
  show Act.put _ (some 14) _=_
  exact ap_
 refine pt_ HT_.out 10 15 (bs_ 12 2047) ?_
 refine one_ (i:=11) (N:=none) (bs_ 12 4095) rfl rfl (zbx HT_.out (by kernel_rfl)) (by decide) (fun K hK=>?_)
 have hs9:w8.cell? ⟨gb103,0,none⟩=some (.int .i64 0):=(zaa BK103.out 0).trans rfl
 have hfs9:=zab BK103.out 0
 have hns9_0:=NB101_103.out
 have hns9_1:=NB102_103.out
 have hms9_0:=NB103_101.out
 have hms9_1:=NB103_102.out
 have hs10:w8.cell? ⟨gb103,1,none⟩=some (.int .i64 0):=(zaa BK103.out 1).trans rfl
 have hfs10:=zab BK103.out 1
 have hns10_0:=NB101_103.out
 have hns10_1:=NB102_103.out
 have hms10_0:=NB103_101.out
 have hms10_1:=NB103_102.out
 refine skip_ (w1:=?_) (by rfl) rfl ?_ ?_
 rotate_left
 ·
  go_simp
  rfl
 refine hK.out _ _ ⟨((cell_far (p:=⟨gb103,_,none⟩) NB101_103.out _).trans (((cell_far (p:=⟨gb103,_,none⟩) NB101_103.out _).trans (hHeld.1)))),((cell_far (p:=⟨gb103,_,none⟩) NB101_103.out _).trans (((cell_far (p:=⟨gb103,_,none⟩) NB101_103.out _).trans (hHeld.2.1)))),((cell_far (p:=⟨gb103,_,none⟩) NB102_103.out _).trans (((cell_far (p:=⟨gb103,_,none⟩) NB102_103.out _).trans (hHeld.2.2.1)))),((cell_far (p:=⟨gb103,_,none⟩) NB102_103.out _).trans (((cell_far (p:=⟨gb103,_,none⟩) NB102_103.out _).trans (hHeld.2.2.2))))⟩ (fun hHeld=>?_)
 clear hK K
 refine done_ (zej HT_.out (by kernel_rfl)) ?_
 try go_wp2
 refine bodyPost_ret (results_cell_row rfl _ _ gb103 34 #[.int .i64 t104,.int .i64 t105] (0,0) _ rfl qz23_ Try.underlying34 rfl (by kernel_rfl)) rfl ?_
 exact⟨qz8_,qz17_⟩
def zbn.f (a0:Int) (a1:Int):Option (Int):=some (Int.tmod (wrap64 (a0 * a1)) 2130706433)
theorem zbn.calls (a0:Int) (a1:Int) (r:Int) (w:World) (h:zbn.f a0 a1=some r) :
  Calls Try.prog 166 #[.int .i64 a0,.int .i64 a1] w fun e w'=>e=.returned (.int .i64 r)∧zbr w w':=by
 have H:(some (Int.tmod (wrap64 (a0 * a1)) 2130706433))=some r:=h
 clear h
 obtain rfl:=Option.some.inj H
 go_enter Try.func166,Try.ntmps166
 go_wp2
 go_ret
 exact⟨qz10_,qz2_⟩
def zbk.f (a0_0:Int) (a0_1:Int) (a1:Int):Option (Int × Int):=(zbn.f a0_0 a1).bind fun t103=>((zbn.f a0_1 a1).bind fun t104=>(some (t103,t104)))
def zbk.T1:Bool × List (List Nat × List Nat):=(true,[([],[]),([0],[0]),([],[]),([1,2],[1,2]),([],[]),([4],[4]),([],[]),([5,6,3],[5,6]),([3,7],[3,7]),([8,7,0,1,2,3,4,5,6,7,8],[8])])
def zbk.B1:List Nat:=[0,1,0,7,0,16,0,127,255,511]
theorem zbk.tab1:rtab .any (opsOf Try.f157 1)=zbk.T1:=by kernel_rfl
theorem zbk.bits1:zc8 zbk.T1.2 zbk.B1=true:=by kernel_rfl
theorem zbk.calls (a0_0:Int) (a0_1:Int) (a1:Int) (r1:Int) (r2:Int) (w:World) (h:zbk.f a0_0 a0_1 a1=some (r1,r2)) :
  Calls Try.prog 157 #[.agg #[.int .i64 a0_0,.int .i64 a0_1],.int .i64 a1] w fun e w'=>e=.returned (.agg #[.int .i64 r1,.int .i64 r2])∧Below w.heap.size w w':=by
 have hu34:=Try.underlying34
 have HB:=am_ (Below.refl w.heap.size w)
 have H:((zbn.f a0_0 a1).bind fun t103=>((zbn.f a0_1 a1).bind fun t104=>(some (t103,t104))))=some (r1,r2):=h
 clear h
 replace H:=Option.bind_eq_some_iff.mp H
 obtain⟨t103,A30,H⟩:=H
 replace H:((zbn.f a0_1 a1).bind fun t104=>(some (t103,t104)))=some (r1,r2):=H
 have A3:=am_ A30
 clear A30
 replace H:=Option.bind_eq_some_iff.mp H
 obtain⟨t104,A40,H⟩:=H
 replace H:(some (t103,t104))=some (r1,r2):=H
 have A4:=am_ A40
 clear A40
 simp only [Option.some.injEq,Prod.mk.injEq] at H
 obtain⟨rfl,rfl⟩:=H
 go_enter Try.func157,Try.ntmps157
 try go_wp2_with (first|((with_reducible refine zad (N:=2) rfl ?_);refine zae rfl (N:=2) rfl (cs:=#[.int .i64 a0_0,.int .i64 a0_1]) (t:=34) bx_ ?_;intro gb101 hg w5 hbox hb;replace BK101:=am_ (hbox);replace GW101:=am_ ((by rw [hg];exact(zac qz4_):w.heap.size≤gb101));replace GE101:=am_ ((by rw [hg];exact(zac qz4_):w.heap.size≤gb101));replace HB:=am_ (zaj qz4_ hb);clear hb hbox hg)|((with_reducible refine zad (N:=4) rfl ?_);refine zae rfl (N:=4) rfl (cs:=#[.int .i64 0,.int .i64 0]) (t:=34) bx_ ?_;intro gb102 hg w6 hbox hb;replace BK102:=am_ (hbox);replace GW102:=am_ ((by rw [hg];exact(zac qz14_):w.heap.size≤gb102));replace GE102:=am_ ((by rw [hg];exact(zac qz14_):w.heap.size≤gb102));replace HB:=am_ (zaj qz14_ hb);replace NB101_102:=am_ ((by rw [hg];exact Nat.ne_of_lt (zar (g:=gb101) (o:=.cells #[.int .i64 a0_0,.int .i64 a0_1] 34 (0,0)) qz13_):gb101≠gb102));replace NB102_101:=am_ ((by rw [hg];exact Nat.ne_of_gt (zar (g:=gb101) (o:=.cells #[.int .i64 a0_0,.int .i64 a0_1] 34 (0,0)) qz13_):gb102≠gb101));replace BK101:=am_ (zak (g:=gb101) (o:=.cells #[.int .i64 a0_0,.int .i64 a0_1] 34 (0,0)) qz13_ hb);clear hb hbox hg))
 replace BK101:=am_ (zaf BK101.out)
 replace BK102:=am_ (zaf BK102.out)
 replace HB:=am_ (zat HB.out)
 refine zcb (n:=10) (S:=fun w'=>w'.cell? ⟨gb101,0,none⟩=some (.int .i64 a0_0)∧w'.cell? ⟨gb101,1,none⟩=some (.int .i64 a0_1)) (ds:=[]) (bs_ 10 0) (by kernel_rfl) rfl rfl ⟨(zaa BK101.out 0).trans rfl,(zaa BK101.out 1).trans rfl⟩ (fun hHeld=>?_);refine zcr zbk.tab1 zbk.bits1 (fun HT_ HW_=>?_)
 generalize w6.drew=w7 at BK101 BK102 HB hHeld ⊢
 refine pt_ HT_.out 0 5 (bs_ 10 1) ?_
 refine pt_ HT_.out 2 7 (bs_ 10 5) ?_
 refine pt_ HT_.out 4 9 (bs_ 10 21) ?_
 refine pt_ HT_.out 6 11 (bs_ 10 85) ?_
 refine take_ (i:=1) (N:=some 6) (v:=?_) (a':=?_) (bs_ 10 87) rfl rfl (zba HT_.out HW_.out (by kernel_rfl)) (fun _ _ _ h=>h) (Or.inl ⟨(by rfl),?_⟩) hHeld ?_ ?_
 rotate_left
 ·
  rintro w' ⟨s0,s1⟩
  go_simp
  with_reducible rfl
 rotate_left
 ·
  exact ap_
 refine take_ (i:=5) (N:=some 10) (v:=?_) (a':=?_) (bs_ 10 119) rfl rfl (zba HT_.out HW_.out (by kernel_rfl)) (fun _ _ _ h=>h) (Or.inl ⟨(by rfl),?_⟩) hHeld ?_ ?_
 rotate_left
 ·
  rintro w' ⟨s0,s1⟩
  go_simp
  with_reducible rfl
 rotate_left
 ·
  exact ap_
 refine one_ (i:=3) (N:=some 8) (bs_ 10 127) rfl rfl (zbx HT_.out (by kernel_rfl)) (by decide) (fun K hK=>?_)
 refine goes_ Try.func166 (by kernel_rfl) rfl #[.int .i64 a0_0,.int .i64 a1] (by rfl) rfl rfl qz18_ ?_
 with_reducible refine(zbn.calls a0_0 a1 t103 _ A3.out).mono ?_
 rintro e w' ⟨rfl,⟨nd,rfl⟩⟩
 refine⟨_,rfl,?_⟩
 refine hK.out _ _ ⟨(zaa BK101.out 0).trans rfl,(zaa BK101.out 1).trans rfl⟩ (fun hHeld=>?_)
 clear hK K
 refine norm_ (a':=?_) ?_ ?_
 rotate_left
 ·
  show Act.put _ (some 8) _=_
  exact ap_
 refine one_ (i:=7) (N:=some 12) (bs_ 10 255) rfl rfl (zbx HT_.out (by kernel_rfl)) (by decide) (fun K hK=>?_)
 refine goes_ Try.func166 (by kernel_rfl) rfl #[.int .i64 a0_1,.int .i64 a1] (by rfl) rfl rfl qz18_ ?_
 with_reducible refine(zbn.calls a0_1 a1 t104 _ A4.out).mono ?_
 rintro e w' ⟨rfl,⟨nd,rfl⟩⟩
 refine⟨_,rfl,?_⟩
 refine hK.out _ _ ⟨(zaa BK101.out 0).trans rfl,(zaa BK101.out 1).trans rfl⟩ (fun hHeld=>?_)
 clear hK K
 refine norm_ (a':=?_) ?_ ?_
 rotate_left
 ·
  show Act.put _ (some 12) _=_
  exact ap_
 refine pt_ HT_.out 8 13 (bs_ 10 511) ?_
 refine one_ (i:=9) (N:=none) (bs_ 10 1023) rfl rfl (zbx HT_.out (by kernel_rfl)) (by decide) (fun K hK=>?_)
 have hs8:w7.cell? ⟨gb102,0,none⟩=some (.int .i64 0):=(zaa BK102.out 0).trans rfl
 have hfs8:=zab BK102.out 0
 have hns8_0:=NB101_102.out
 have hms8_0:=NB102_101.out
 have hs9:w7.cell? ⟨gb102,1,none⟩=some (.int .i64 0):=(zaa BK102.out 1).trans rfl
 have hfs9:=zab BK102.out 1
 have hns9_0:=NB101_102.out
 have hms9_0:=NB102_101.out
 refine skip_ (w1:=?_) (by rfl) rfl ?_ ?_
 rotate_left
 ·
  go_simp
  rfl
 refine hK.out _ _ ⟨((cell_far (p:=⟨gb102,_,none⟩) NB101_102.out _).trans (((cell_far (p:=⟨gb102,_,none⟩) NB101_102.out _).trans (hHeld.1)))),((cell_far (p:=⟨gb102,_,none⟩) NB101_102.out _).trans (((cell_far (p:=⟨gb102,_,none⟩) NB101_102.out _).trans (hHeld.2))))⟩ (fun hHeld=>?_)
 clear hK K
 refine done_ (zej HT_.out (by kernel_rfl)) ?_
 try go_wp2
 refine bodyPost_ret (results_cell_row rfl _ _ gb102 34 #[.int .i64 t103,.int .i64 t104] (0,0) _ rfl (by(with_reducible repeat(first|refine zah ?_ _|refine zaf ?_|refine zai ?_ _));refine za9 (cs:=#[.int .i64 t103,.int .i64 0]) ?_ 1 _ rfl;(with_reducible repeat(first|refine zah ?_ _|refine zaf ?_|refine zai ?_ _));refine za9 (cs:=#[.int .i64 0,.int .i64 0]) ?_ 0 _ rfl;(with_reducible repeat(first|refine zah ?_ _|refine zaf ?_|refine zai ?_ _));exact BK102.out) Try.underlying34 rfl (by kernel_rfl)) rfl ?_
 exact⟨qz8_,qz16_⟩
def zb6.f (a0_0:Int) (a0_1:Int) (a1_0:Int) (a1_1:Int):Option (Int × Int):=(zbn.f a0_0 a1_0).bind fun t104=>((zbn.f a0_1 a1_1).bind fun t105=>((zbn.f 3 t105).bind fun t106=>((zcv.f t104 t106).bind fun t107=>((zbn.f a0_0 a1_1).bind fun t108=>((zbn.f a0_1 a1_0).bind fun t109=>((zcv.f t108 t109).bind fun t110=>(some (t107,t110))))))))
def zb6.T1:Bool × List (List Nat × List Nat):=(true,[([],[]),([0],[0]),([],[]),([2],[2]),([1,3],[1,3]),([],[]),([5],[5]),([],[]),([7],[7]),([6,8,4],[6,8]),([9,9],[9]),([4,10,10],[4,10]),([],[]),([12],[12]),([],[]),([14],[14]),([13,15,11],[13,15]),([],[]),([17],[17]),([],[]),([19],[19]),([18,20,16],[18,20]),([16,21,21],[16,21]),([11,22],[11,22]),([23,22,0,1,2,3,4,5,6,7,8,9,10,11,12,13,14,15,16,17,18,19,20,21,22,23],[23])])
def zb6.B1:List Nat:=[0,1,0,4,15,0,32,0,128,511,1023,2047,0,4096,0,16384,65535,0,131072,0,524288,2097151,4194303,8388607,16777215]
theorem zb6.tab1:rtab .any (opsOf Try.f156 1)=zb6.T1:=by kernel_rfl
theorem zb6.bits1:zc8 zb6.T1.2 zb6.B1=true:=by kernel_rfl
theorem zb6.calls (a0_0:Int) (a0_1:Int) (a1_0:Int) (a1_1:Int) (r1:Int) (r2:Int) (w:World) (h:zb6.f a0_0 a0_1 a1_0 a1_1=some (r1,r2)) :
  Calls Try.prog 156 #[.agg #[.int .i64 a0_0,.int .i64 a0_1],.agg #[.int .i64 a1_0,.int .i64 a1_1]] w fun e w'=>e=.returned (.agg #[.int .i64 r1,.int .i64 r2])∧Below w.heap.size w w':=by
 have hu34:=Try.underlying34
 have HB:=am_ (Below.refl w.heap.size w)
 have H:((zbn.f a0_0 a1_0).bind fun t104=>((zbn.f a0_1 a1_1).bind fun t105=>((zbn.f 3 t105).bind fun t106=>((zcv.f t104 t106).bind fun t107=>((zbn.f a0_0 a1_1).bind fun t108=>((zbn.f a0_1 a1_0).bind fun t109=>((zcv.f t108 t109).bind fun t110=>(some (t107,t110)))))))))=some (r1,r2):=h
 clear h
 replace H:=Option.bind_eq_some_iff.mp H
 obtain⟨t104,A30,H⟩:=H
 replace H:((zbn.f a0_1 a1_1).bind fun t105=>((zbn.f 3 t105).bind fun t106=>((zcv.f t104 t106).bind fun t107=>((zbn.f a0_0 a1_1).bind fun t108=>((zbn.f a0_1 a1_0).bind fun t109=>((zcv.f t108 t109).bind fun t110=>(some (t107,t110))))))))=some (r1,r2):=H
 have A3:=am_ A30
 clear A30
 replace H:=Option.bind_eq_some_iff.mp H
 obtain⟨t105,A40,H⟩:=H
 replace H:((zbn.f 3 t105).bind fun t106=>((zcv.f t104 t106).bind fun t107=>((zbn.f a0_0 a1_1).bind fun t108=>((zbn.f a0_1 a1_0).bind fun t109=>((zcv.f t108 t109).bind fun t110=>(some (t107,t110)))))))=some (r1,r2):=H
 have A4:=am_ A40
 clear A40
 replace H:=Option.bind_eq_some_iff.mp H
 obtain⟨t106,A50,H⟩:=H
 replace H:((zcv.f t104 t106).bind fun t107=>((zbn.f a0_0 a1_1).bind fun t108=>((zbn.f a0_1 a1_0).bind fun t109=>((zcv.f t108 t109).bind fun t110=>(some (t107,t110))))))=some (r1,r2):=H
 have A5:=am_ A50
 clear A50
 replace H:=Option.bind_eq_some_iff.mp H
 obtain⟨t107,A60,H⟩:=H
 replace H:((zbn.f a0_0 a1_1).bind fun t108=>((zbn.f a0_1 a1_0).bind fun t109=>((zcv.f t108 t109).bind fun t110=>(some (t107,t110)))))=some (r1,r2):=H
 have A6:=am_ A60
 clear A60
 replace H:=Option.bind_eq_some_iff.mp H
 obtain⟨t108,A70,H⟩:=H
 replace H:((zbn.f a0_1 a1_0).bind fun t109=>((zcv.f t108 t109).bind fun t110=>(some (t107,t110))))=some (r1,r2):=H
 have A7:=am_ A70
 clear A70
 replace H:=Option.bind_eq_some_iff.mp H
 obtain⟨t109,A80,H⟩:=H
 replace H:((zcv.f t108 t109).bind fun t110=>(some (t107,t110)))=some (r1,r2):=H
 have A8:=am_ A80
 clear A80
 replace H:=Option.bind_eq_some_iff.mp H
 obtain⟨t110,A90,H⟩:=H
 replace H:(some (t107,t110))=some (r1,r2):=H
 have A9:=am_ A90
 clear A90
 simp only [Option.some.injEq,Prod.mk.injEq] at H
 obtain⟨rfl,rfl⟩:=H
 go_enter Try.func156,Try.ntmps156
 try go_wp2_with (first|((with_reducible refine zad (N:=2) rfl ?_);refine zae rfl (N:=2) rfl (cs:=#[.int .i64 a0_0,.int .i64 a0_1]) (t:=34) bx_ ?_;intro gb101 hg w10 hbox hb;replace BK101:=am_ (hbox);replace GW101:=am_ ((by rw [hg];exact(zac qz4_):w.heap.size≤gb101));replace GE101:=am_ ((by rw [hg];exact(zac qz4_):w.heap.size≤gb101));replace HB:=am_ (zaj qz4_ hb);clear hb hbox hg)|((with_reducible refine zad (N:=3) rfl ?_);refine zae rfl (N:=3) rfl (cs:=#[.int .i64 a1_0,.int .i64 a1_1]) (t:=34) bx_ ?_;intro gb102 hg w11 hbox hb;replace BK102:=am_ (hbox);replace GW102:=am_ ((by rw [hg];exact(zac qz14_):w.heap.size≤gb102));replace GE102:=am_ ((by rw [hg];exact(zac qz14_):w.heap.size≤gb102));replace HB:=am_ (zaj qz14_ hb);replace NB101_102:=am_ ((by rw [hg];exact Nat.ne_of_lt (zar (g:=gb101) (o:=.cells #[.int .i64 a0_0,.int .i64 a0_1] 34 (0,0)) qz13_):gb101≠gb102));replace NB102_101:=am_ ((by rw [hg];exact Nat.ne_of_gt (zar (g:=gb101) (o:=.cells #[.int .i64 a0_0,.int .i64 a0_1] 34 (0,0)) qz13_):gb102≠gb101));replace BK101:=am_ (zak (g:=gb101) (o:=.cells #[.int .i64 a0_0,.int .i64 a0_1] 34 (0,0)) qz13_ hb);clear hb hbox hg)|((with_reducible refine zad (N:=4) rfl ?_);refine zae rfl (N:=4) rfl (cs:=#[.int .i64 0,.int .i64 0]) (t:=34) bx_ ?_;intro gb103 hg w12 hbox hb;replace BK103:=am_ (hbox);replace GW103:=am_ ((by rw [hg];exact(zac qz16_):w.heap.size≤gb103));replace GE103:=am_ ((by rw [hg];exact(zac qz16_):w.heap.size≤gb103));replace HB:=am_ (zaj qz16_ hb);replace NB101_103:=am_ ((by rw [hg];exact Nat.ne_of_lt (zar (g:=gb101) (o:=.cells #[.int .i64 a0_0,.int .i64 a0_1] 34 (0,0)) qz13_):gb101≠gb103));replace NB103_101:=am_ ((by rw [hg];exact Nat.ne_of_gt (zar (g:=gb101) (o:=.cells #[.int .i64 a0_0,.int .i64 a0_1] 34 (0,0)) qz13_):gb103≠gb101));replace BK101:=am_ (zak (g:=gb101) (o:=.cells #[.int .i64 a0_0,.int .i64 a0_1] 34 (0,0)) qz13_ hb);replace NB102_103:=am_ ((by rw [hg];exact Nat.ne_of_lt (zar (g:=gb102) (o:=.cells #[.int .i64 a1_0,.int .i64 a1_1] 34 (0,0)) qz15_):gb102≠gb103));replace NB103_102:=am_ ((by rw [hg];exact Nat.ne_of_gt (zar (g:=gb102) (o:=.cells #[.int .i64 a1_0,.int .i64 a1_1] 34 (0,0)) qz15_):gb103≠gb102));replace BK102:=am_ (zak (g:=gb102) (o:=.cells #[.int .i64 a1_0,.int .i64 a1_1] 34 (0,0)) qz15_ hb);clear hb hbox hg))
 replace BK101:=am_ (zaf BK101.out)
 replace BK102:=am_ (zaf BK102.out)
 replace BK103:=am_ (zaf BK103.out)
 replace HB:=am_ (zat HB.out)
 refine zcb (n:=25) (S:=fun w'=>w'.cell? ⟨gb101,0,none⟩=some (.int .i64 a0_0)∧w'.cell? ⟨gb101,1,none⟩=some (.int .i64 a0_1)∧w'.cell? ⟨gb102,0,none⟩=some (.int .i64 a1_0)∧w'.cell? ⟨gb102,1,none⟩=some (.int .i64 a1_1)) (ds:=[]) (bs_ 25 0) (by kernel_rfl) rfl rfl ⟨(zaa BK101.out 0).trans rfl,(zaa BK101.out 1).trans rfl,(zaa BK102.out 0).trans rfl,(zaa BK102.out 1).trans rfl⟩ (fun hHeld=>?_);refine zcr zb6.tab1 zb6.bits1 (fun HT_ HW_=>?_)
 generalize w12.drew=w13 at BK101 BK102 BK103 HB hHeld ⊢
 refine pt_ HT_.out 0 5 (bs_ 25 1) ?_
 refine pt_ HT_.out 2 7 (bs_ 25 5) ?_
 refine pt_ HT_.out 5 10 (bs_ 25 37) ?_
 refine pt_ HT_.out 7 12 (bs_ 25 165) ?_
 refine pt_ HT_.out 12 17 (bs_ 25 4261) ?_
 refine pt_ HT_.out 14 19 (bs_ 25 20645) ?_
 refine pt_ HT_.out 17 22 (bs_ 25 151717) ?_
 refine pt_ HT_.out 19 24 (bs_ 25 676005) ?_
 refine take_ (i:=1) (N:=some 6) (v:=?_) (a':=?_) (bs_ 25 676007) rfl rfl (zba HT_.out HW_.out (by kernel_rfl)) (fun _ _ _ h=>h) (Or.inl ⟨(by rfl),?_⟩) hHeld ?_ ?_
 rotate_left
 ·
  rintro w' ⟨s0,s1,s2,s3⟩
  go_simp
  with_reducible rfl
 rotate_left
 ·
  exact ap_
 refine take_ (i:=3) (N:=some 8) (v:=?_) (a':=?_) (bs_ 25 676015) rfl rfl (zba HT_.out HW_.out (by kernel_rfl)) (fun _ _ _ h=>h) (Or.inl ⟨(by rfl),?_⟩) hHeld ?_ ?_
 rotate_left
 ·
  rintro w' ⟨s0,s1,s2,s3⟩
  go_simp
  with_reducible rfl
 rotate_left
 ·
  exact ap_
 refine take_ (i:=6) (N:=some 11) (v:=?_) (a':=?_) (bs_ 25 676079) rfl rfl (zba HT_.out HW_.out (by kernel_rfl)) (fun _ _ _ h=>h) (Or.inl ⟨(by rfl),?_⟩) hHeld ?_ ?_
 rotate_left
 ·
  rintro w' ⟨s0,s1,s2,s3⟩
  go_simp
  with_reducible rfl
 rotate_left
 ·
  exact ap_
 refine take_ (i:=8) (N:=some 13) (v:=?_) (a':=?_) (bs_ 25 676335) rfl rfl (zba HT_.out HW_.out (by kernel_rfl)) (fun _ _ _ h=>h) (Or.inl ⟨(by rfl),?_⟩) hHeld ?_ ?_
 rotate_left
 ·
  rintro w' ⟨s0,s1,s2,s3⟩
  go_simp
  with_reducible rfl
 rotate_left
 ·
  exact ap_
 refine take_ (i:=13) (N:=some 18) (v:=?_) (a':=?_) (bs_ 25 684527) rfl rfl (zba HT_.out HW_.out (by kernel_rfl)) (fun _ _ _ h=>h) (Or.inl ⟨(by rfl),?_⟩) hHeld ?_ ?_
 rotate_left
 ·
  rintro w' ⟨s0,s1,s2,s3⟩
  go_simp
  with_reducible rfl
 rotate_left
 ·
  exact ap_
 refine take_ (i:=15) (N:=some 20) (v:=?_) (a':=?_) (bs_ 25 717295) rfl rfl (zba HT_.out HW_.out (by kernel_rfl)) (fun _ _ _ h=>h) (Or.inl ⟨(by rfl),?_⟩) hHeld ?_ ?_
 rotate_left
 ·
  rintro w' ⟨s0,s1,s2,s3⟩
  go_simp
  with_reducible rfl
 rotate_left
 ·
  exact ap_
 refine take_ (i:=18) (N:=some 23) (v:=?_) (a':=?_) (bs_ 25 979439) rfl rfl (zba HT_.out HW_.out (by kernel_rfl)) (fun _ _ _ h=>h) (Or.inl ⟨(by rfl),?_⟩) hHeld ?_ ?_
 rotate_left
 ·
  rintro w' ⟨s0,s1,s2,s3⟩
  go_simp
  with_reducible rfl
 rotate_left
 ·
  exact ap_
 refine take_ (i:=20) (N:=some 25) (v:=?_) (a':=?_) (bs_ 25 2028015) rfl rfl (zba HT_.out HW_.out (by kernel_rfl)) (fun _ _ _ h=>h) (Or.inl ⟨(by rfl),?_⟩) hHeld ?_ ?_
 rotate_left
 ·
  rintro w' ⟨s0,s1,s2,s3⟩
  go_simp
  with_reducible rfl
 rotate_left
 ·
  exact ap_
 refine one_ (i:=4) (N:=some 9) (bs_ 25 2028031) rfl rfl (zbx HT_.out (by kernel_rfl)) (by decide) (fun K hK=>?_)
 refine goes_ Try.func166 (by kernel_rfl) rfl #[.int .i64 a0_0,.int .i64 a1_0] (by rfl) rfl rfl qz18_ ?_
 with_reducible refine(zbn.calls a0_0 a1_0 t104 _ A3.out).mono ?_
 rintro e w' ⟨rfl,⟨nd,rfl⟩⟩
 refine⟨_,rfl,?_⟩
 refine hK.out _ _ ⟨(zaa BK101.out 0).trans rfl,(zaa BK101.out 1).trans rfl,(zaa BK102.out 0).trans rfl,(zaa BK102.out 1).trans rfl⟩ (fun hHeld=>?_)
 clear hK K
 refine norm_ (a':=?_) ?_ ?_
 rotate_left
 ·
  show Act.put _ (some 9) _=_
  exact ap_
 refine one_ (i:=9) (N:=some 14) (bs_ 25 2028543) rfl rfl (zbx HT_.out (by kernel_rfl)) (by decide) (fun K hK=>?_)
 refine goes_ Try.func166 (by kernel_rfl) rfl #[.int .i64 a0_1,.int .i64 a1_1] (by rfl) rfl rfl qz18_ ?_
 with_reducible refine(zbn.calls a0_1 a1_1 t105 _ A4.out).mono ?_
 rintro e w' ⟨rfl,⟨nd,rfl⟩⟩
 refine⟨_,rfl,?_⟩
 refine hK.out _ _ ⟨(zaa BK101.out 0).trans rfl,(zaa BK101.out 1).trans rfl,(zaa BK102.out 0).trans rfl,(zaa BK102.out 1).trans rfl⟩ (fun hHeld=>?_)
 clear hK K
 refine norm_ (a':=?_) ?_ ?_
 rotate_left
 ·
  show Act.put _ (some 14) _=_
  exact ap_
 refine one_ (i:=10) (N:=some 15) (bs_ 25 2029567) rfl rfl (zbx HT_.out (by kernel_rfl)) (by decide) (fun K hK=>?_)
 refine goes_ Try.func166 (by kernel_rfl) rfl #[.int .i64 3,.int .i64 t105] (by rfl) rfl rfl qz18_ ?_
 with_reducible refine(zbn.calls 3 t105 t106 _ A5.out).mono ?_
 rintro e w' ⟨rfl,⟨nd,rfl⟩⟩
 refine⟨_,rfl,?_⟩
 refine hK.out _ _ ⟨(zaa BK101.out 0).trans rfl,(zaa BK101.out 1).trans rfl,(zaa BK102.out 0).trans rfl,(zaa BK102.out 1).trans rfl⟩ (fun hHeld=>?_)
 clear hK K
 refine norm_ (a':=?_) ?_ ?_
 rotate_left
 ·
  show Act.put _ (some 15) _=_
  exact ap_
 refine one_ (i:=11) (N:=some 16) (bs_ 25 2031615) rfl rfl (zbx HT_.out (by kernel_rfl)) (by decide) (fun K hK=>?_)
 refine goes_ Try.func154 (by kernel_rfl) rfl #[.int .i64 t104,.int .i64 t106] (by rfl) rfl rfl qz18_ ?_
 with_reducible refine(zcv.calls t104 t106 t107 _ A6.out).mono ?_
 rintro e w' ⟨rfl,⟨nd,rfl⟩⟩
 refine⟨_,rfl,?_⟩
 refine hK.out _ _ ⟨(zaa BK101.out 0).trans rfl,(zaa BK101.out 1).trans rfl,(zaa BK102.out 0).trans rfl,(zaa BK102.out 1).trans rfl⟩ (fun hHeld=>?_)
 clear hK K
 refine norm_ (a':=?_) ?_ ?_
 rotate_left
 ·
  show Act.put _ (some 16) _=_
  exact ap_
 refine one_ (i:=16) (N:=some 21) (bs_ 25 2097151) rfl rfl (zbx HT_.out (by kernel_rfl)) (by decide) (fun K hK=>?_)
 refine goes_ Try.func166 (by kernel_rfl) rfl #[.int .i64 a0_0,.int .i64 a1_1] (by rfl) rfl rfl qz18_ ?_
 with_reducible refine(zbn.calls a0_0 a1_1 t108 _ A7.out).mono ?_
 rintro e w' ⟨rfl,⟨nd,rfl⟩⟩
 refine⟨_,rfl,?_⟩
 refine hK.out _ _ ⟨(zaa BK101.out 0).trans rfl,(zaa BK101.out 1).trans rfl,(zaa BK102.out 0).trans rfl,(zaa BK102.out 1).trans rfl⟩ (fun hHeld=>?_)
 clear hK K
 refine norm_ (a':=?_) ?_ ?_
 rotate_left
 ·
  show Act.put _ (some 21) _=_
  exact ap_
 refine one_ (i:=21) (N:=some 26) (bs_ 25 4194303) rfl rfl (zbx HT_.out (by kernel_rfl)) (by decide) (fun K hK=>?_)
 refine goes_ Try.func166 (by kernel_rfl) rfl #[.int .i64 a0_1,.int .i64 a1_0] (by rfl) rfl rfl qz18_ ?_
 with_reducible refine(zbn.calls a0_1 a1_0 t109 _ A8.out).mono ?_
 rintro e w' ⟨rfl,⟨nd,rfl⟩⟩
 refine⟨_,rfl,?_⟩
 refine hK.out _ _ ⟨(zaa BK101.out 0).trans rfl,(zaa BK101.out 1).trans rfl,(zaa BK102.out 0).trans rfl,(zaa BK102.out 1).trans rfl⟩ (fun hHeld=>?_)
 clear hK K
 refine norm_ (a':=?_) ?_ ?_
 rotate_left
 ·
  show Act.put _ (some 26) _=_
  exact ap_
 refine one_ (i:=22) (N:=some 27) (bs_ 25 8388607) rfl rfl (zbx HT_.out (by kernel_rfl)) (by decide) (fun K hK=>?_)
 refine goes_ Try.func154 (by kernel_rfl) rfl #[.int .i64 t108,.int .i64 t109] (by rfl) rfl rfl qz18_ ?_
 with_reducible refine(zcv.calls t108 t109 t110 _ A9.out).mono ?_
 rintro e w' ⟨rfl,⟨nd,rfl⟩⟩
 refine⟨_,rfl,?_⟩
 refine hK.out _ _ ⟨(zaa BK101.out 0).trans rfl,(zaa BK101.out 1).trans rfl,(zaa BK102.out 0).trans rfl,(zaa BK102.out 1).trans rfl⟩ (fun hHeld=>?_)
 clear hK K
 refine norm_ (a':=?_) ?_ ?_
 rotate_left
 ·
  show Act.put _ (some 27) _=_
  exact ap_
 refine pt_ HT_.out 23 28 (bs_ 25 16777215) ?_
 refine one_ (i:=24) (N:=none) (bs_ 25 33554431) rfl rfl (zbx HT_.out (by kernel_rfl)) (by decide) (fun K hK=>?_)
 have hs14:w13.cell? ⟨gb103,0,none⟩=some (.int .i64 0):=(zaa BK103.out 0).trans rfl
 have hfs14:=zab BK103.out 0
 have hns14_0:=NB101_103.out
 have hns14_1:=NB102_103.out
 have hms14_0:=NB103_101.out
 have hms14_1:=NB103_102.out
 have hs15:w13.cell? ⟨gb103,1,none⟩=some (.int .i64 0):=(zaa BK103.out 1).trans rfl
 have hfs15:=zab BK103.out 1
 have hns15_0:=NB101_103.out
 have hns15_1:=NB102_103.out
 have hms15_0:=NB103_101.out
 have hms15_1:=NB103_102.out
 refine skip_ (w1:=?_) (by rfl) rfl ?_ ?_
 rotate_left
 ·
  go_simp
  rfl
 refine hK.out _ _ ⟨((cell_far (p:=⟨gb103,_,none⟩) NB101_103.out _).trans (((cell_far (p:=⟨gb103,_,none⟩) NB101_103.out _).trans (hHeld.1)))),((cell_far (p:=⟨gb103,_,none⟩) NB101_103.out _).trans (((cell_far (p:=⟨gb103,_,none⟩) NB101_103.out _).trans (hHeld.2.1)))),((cell_far (p:=⟨gb103,_,none⟩) NB102_103.out _).trans (((cell_far (p:=⟨gb103,_,none⟩) NB102_103.out _).trans (hHeld.2.2.1)))),((cell_far (p:=⟨gb103,_,none⟩) NB102_103.out _).trans (((cell_far (p:=⟨gb103,_,none⟩) NB102_103.out _).trans (hHeld.2.2.2))))⟩ (fun hHeld=>?_)
 clear hK K
 refine done_ (zej HT_.out (by kernel_rfl)) ?_
 try go_wp2
 refine bodyPost_ret (results_cell_row rfl _ _ gb103 34 #[.int .i64 t107,.int .i64 t110] (0,0) _ rfl (by(with_reducible repeat(first|refine zah ?_ _|refine zaf ?_|refine zai ?_ _));refine za9 (cs:=#[.int .i64 t107,.int .i64 0]) ?_ 1 _ rfl;(with_reducible repeat(first|refine zah ?_ _|refine zaf ?_|refine zai ?_ _));refine za9 (cs:=#[.int .i64 0,.int .i64 0]) ?_ 0 _ rfl;(with_reducible repeat(first|refine zah ?_ _|refine zaf ?_|refine zai ?_ _));exact BK103.out) Try.underlying34 rfl (by kernel_rfl)) rfl ?_
 exact⟨qz8_,qz17_⟩
def zdo.l0:Nat→Int→Int→Int→Option (Int)
 | 0,_,_,_=>none
 | k + 1,x0,x1,x5=>if x1>0 then(if (Go.bits .and .i64 x1 1)=1 then((zbn.f x5 x0).bind fun t101=>((zbn.f x0 x0).bind fun t102=>(zdo.l0 k t102 (x1 / 2) t101))) else((zbn.f x0 x0).bind fun t103=>(zdo.l0 k t103 (x1 / 2) x5))) else(some x5)
def zdo.f (k:Nat) (a0:Int) (a1:Int):Option (Int):=zdo.l0 k a0 a1 1
theorem zdo.calls (k:Nat) (a0:Int) (a1:Int) (r:Int) (w:World) (h:zdo.f k a0 a1=some r) :
  Calls Try.prog 167 #[.int .i64 a0,.int .i64 a1] w fun e w'=>e=.returned (.int .i64 r)∧zbr w w':=by
 have H:(zdo.l0 k a0 a1 1)=some r:=h
 clear h
 have H':=am_ H
 clear H
 go_enter Try.func167,Try.ntmps167
 go_wp2
 go_loopg [0,1,5] k (fun kq v0 v1 v5 w'=>∃ (x0_1:Int) (x1_1:Int) (x5_1:Int),v0=.int .i64 x0_1∧v1=.int .i64 x1_1∧v5=.int .i64 x5_1∧zal (zdo.l0 kq x0_1 x1_1 x5_1=some r)∧zal (kq≤k)∧zbr w w')
 case atStart=>exact⟨(a0),(a1),(1),qz10_,qz10_,qz10_,H',⟨Nat.le_refl _⟩,by repeat(first|exact zbr.refl _|apply zbr.step)⟩
 case round=>
  clear H'
  try clear c1
  try clear p2
  obtain⟨x0_1,x1_1,x5_1,rfl,rfl,rfl,HA,HK1,⟨m1,rfl⟩⟩:=hrel
  cases gk with
  | zero=>exact absurd HA.out (by simp [zdo.l0])
  | succ k1=>
   have H:=HA.out
   clear HA
   simp only [zdo.l0] at H
   by_cases c3:x1_1>0
   ·
    rw [if_pos c3] at H
    have c3b0:decide (0<x1_1)=true:=decide_eq_true c3
    clear c3
    by_cases c4:(Go.bits .and .i64 x1_1 1)=1
    ·
     rw [if_pos c4] at H
     have c4b0:((Go.bits .and .i64 x1_1 1) == 1)=true:=beq_iff_eq.mpr c4
     have c4b1:((Go.bits .and .i64 x1_1 1) != 1)=false:=bne_eq_false_iff_eq.mpr c4
     clear c4
     replace H:=Option.bind_eq_some_iff.mp H
     obtain⟨t101,A50,H⟩:=H
     replace H:((zbn.f x0_1 x0_1).bind fun t102=>(zdo.l0 k1 t102 (x1_1 / 2) t101))=some r:=H
     have A5:=am_ A50
     clear A50
     replace H:=Option.bind_eq_some_iff.mp H
     obtain⟨t102,A60,H⟩:=H
     replace H:(zdo.l0 k1 t102 (x1_1 / 2) t101)=some r:=H
     have A6:=am_ A60
     clear A60
     have H':=am_ H
     clear H
     go_wp2_with (first|((with_reducible refine zaz (f:=166) rfl ?_);refine zc5 (some 15) rfl rfl Try.func166 (by kernel_rfl) rfl #[.int .i64 x5_1,.int .i64 x0_1] rfl qz18_ ?_;(with_reducible refine(zbn.calls x5_1 x0_1 t101 _ A5.out).mono ?_);rintro e w' ⟨rfl,⟨nd,rfl⟩⟩;refine⟨_,rfl,?_⟩)|((with_reducible refine zaz (f:=166) rfl ?_);refine zc5 (some 18) rfl rfl Try.func166 (by kernel_rfl) rfl #[.int .i64 x0_1,.int .i64 x0_1] rfl qz18_ ?_;(with_reducible refine(zbn.calls x0_1 x0_1 t102 _ A6.out).mono ?_);rintro e w' ⟨rfl,⟨nd,rfl⟩⟩;refine⟨_,rfl,?_⟩))
     go_roundg k1
     case measure=>have:=HK1.out;omega
     case rel=>exact⟨(t102),(x1_1 / 2),(t101),qz10_,qz10_,qz10_,H',⟨(by have:=HK1.out;omega)⟩,by repeat(first|exact zbr.refl _|apply zbr.step)⟩
    ·
     rw [if_neg c4] at H
     have c4b0:((Go.bits .and .i64 x1_1 1) == 1)=false:=beq_eq_false_iff_ne.mpr c4
     have c4b1:((Go.bits .and .i64 x1_1 1) != 1)=true:=bne_iff_ne.mpr c4
     replace H:=Option.bind_eq_some_iff.mp H
     obtain⟨t103,A70,H⟩:=H
     replace H:(zdo.l0 k1 t103 (x1_1 / 2) x5_1)=some r:=H
     have A7:=am_ A70
     clear A70
     have H':=am_ H
     clear H
     go_wp2_with (first|((with_reducible refine zaz (f:=166) rfl ?_);refine zc5 (some 18) rfl rfl Try.func166 (by kernel_rfl) rfl #[.int .i64 x0_1,.int .i64 x0_1] rfl qz18_ ?_;(with_reducible refine(zbn.calls x0_1 x0_1 t103 _ A7.out).mono ?_);rintro e w' ⟨rfl,⟨nd,rfl⟩⟩;refine⟨_,rfl,?_⟩))
     go_roundg k1
     case measure=>have:=HK1.out;omega
     case rel=>exact⟨(t103),(x1_1 / 2),(x5_1),qz10_,qz10_,qz10_,H',⟨(by have:=HK1.out;omega)⟩,by repeat(first|exact zbr.refl _|apply zbr.step)⟩
   ·
    rw [if_neg c3] at H
    have c3b0:decide (0<x1_1)=false:=decide_eq_false c3
    clear c3
    obtain rfl:=Option.some.inj H
    go_wp2
    go_ret
    exact⟨qz10_,qz2_⟩
def zd5.f (k:Nat) (a0:Int):Option (Int):=(zdo.f k a0 2130706431).bind fun t101=>(some t101)
theorem zd5.calls (k:Nat) (a0:Int) (r:Int) (w:World) (h:zd5.f k a0=some r) :
  Calls Try.prog 158 #[.int .i64 a0] w fun e w'=>e=.returned (.int .i64 r)∧zbr w w':=by
 have H:((zdo.f k a0 2130706431).bind fun t101=>(some t101))=some r:=h
 clear h
 replace H:=Option.bind_eq_some_iff.mp H
 obtain⟨t101,A20,H⟩:=H
 replace H:(some t101)=some r:=H
 have A2:=am_ A20
 clear A20
 obtain rfl:=Option.some.inj H
 go_enter Try.func158,Try.ntmps158
 go_wp2_with (first|((with_reducible refine zaz (f:=167) rfl ?_);refine zc5 (some 4) rfl rfl Try.func167 (by kernel_rfl) rfl #[.int .i64 a0,.int .i64 2130706431] rfl qz18_ ?_;(with_reducible refine(zdo.calls k a0 2130706431 t101 _ A2.out).mono ?_);rintro e w' ⟨rfl,⟨nd,rfl⟩⟩;refine⟨_,rfl,?_⟩))
 go_ret
 exact⟨qz10_,qz2_⟩
end Go.Proofs.Ytgookagndlfehaa.PT
end
