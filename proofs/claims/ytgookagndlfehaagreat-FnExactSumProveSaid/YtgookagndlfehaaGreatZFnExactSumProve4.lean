/- Part 4 of the proof of FnExactSumProve: what functions compute, shown step by step, and what that says (the claim's last text states the law). -/
import Derived.Test.YtgookagndlfehaaGreatZFnExactSumProve3
set_option maxRecDepth 100000
set_option maxHeartbeats 8000000
section
namespace Go.Proofs.YtgookagndlfehaaGreat.PT
open Go.RowKit Go.Proofs.YtgookagndlfehaaGreatW.PrintWords Go.Proofs.YtgookagndlfehaaGreatW.PrintLast Go.Proofs.YtgookagndlfehaaGreatW.PrintMore
attribute [local go_sem] zez zey zfh zff zed zd9 zex zew   -- for this text's walks alone
set_option linter.unusedVariables false
set_option linter.unusedSimpArgs false
theorem rowSR {α:Type} {d:Kd α} {e b:Nat} {v:Value} {xs:List α} {S:Nat→Prop} {W:World} (h:(rowS d e b v xs S).A W):Kd.S d e W b S v xs:=h
theorem rowSC {α:Type} {d:Kd α} {e b n c:Nat} {A:Option Addr} {xs:List α} {S:Nat→Prop} {W:World} (h:(rowS d e b (.slice A n c) xs S).A W):n=xs.length∧n≤c∧d.C W A xs.length xs:=Kd.S_reads' h
theorem ownRow {α:Type} {d:Kd α} {e b:Nat} {v:Value} {xs:List α} {S P:Nat→Prop} {w0 w:World} {L:List Grp} {F:World→Prop} (h:Inv w0 P w (row d e b v xs S::L) F):∀ k,some k=v.ownBlock→(row d e b v xs S).S k:=fun k hk=>h.row0.1 k hk.symm
theorem Inv.keptS {α:Type} {d:Kd α} {e b:Nat} {w0 w w1:World} {L:List Grp} {F:World→Prop} {v:Value} {xs ys:List α} {S:Nat→Prop} (h:Inv w0 NoB w (rowS d e b v xs S::L) F) (hB:Below w0.heap.size w0 w1) (hk:Kept w w1 (fun k=>S k)) (hR:Kd.S d e w1 b S v ys):Inv w0 NoB w1 (rowS d e b v ys S::L) F:=
 h.step (Agr.zi3 hk h.below hB (fun _ h=>h)) _ (fun k hk2=>⟨.inl hk2,Nat.lt_of_lt_of_le (h.lt _ List.mem_cons_self k hk2) hk.1⟩) (fun w' hw=>Kd.zlm hR (fun k hk _=>hw k hk))
theorem Inv.zkw {α β:Type} {d:Kd α} {d1:Kd β} {e e1:Nat} {w0 w w1:World} {P:Nat→Prop} {F:World→Prop} {L:List Grp} {c:Grp} {v0 v1 v2 v3:Value} {xs:List α} {ys zs us:List β} (hE:d1.E=[]) (h:Inv w0 P w (c::L) F) (hA:Agr w w1 c.S)
  (hS0:Kd.S d e w1 w.heap.size (fun k=>some k≠v1.ownBlock∧some k≠v2.ownBlock∧some k≠v3.ownBlock) v0 xs) (hR1:d1.R e1 w1 w.heap.size (fun k=>some k≠v2.ownBlock∧some k≠v3.ownBlock) v1 ys) (hR2:d1.R e1 w1 w.heap.size (fun k=>some k≠v1.ownBlock∧some k≠v3.ownBlock) v2 zs) (hR3:d1.R e1 w1 w.heap.size (fun k=>some k≠v1.ownBlock∧some k≠v2.ownBlock) v3 us) :
  Inv w0 P w1 (rowS d e w0.heap.size v0 xs (fun k=>(some k≠v1.ownBlock∧some k≠v2.ownBlock∧some k≠v3.ownBlock)∧w.heap.size≤k∧k<w1.heap.size)::row d1 e1 w0.heap.size v1 ys (fun k=>some k=v1.ownBlock)::row d1 e1 w0.heap.size v2 zs (fun k=>some k=v2.ownBlock)::row d1 e1 w0.heap.size v3 us (fun k=>some k=v3.ownBlock)::L) F:=
 h.zi5 (b3:=row d1 e1 w0.heap.size v3 us (fun k=>some k=v3.ownBlock)) hE hA hS0 (fun _ h=>⟨h.1,h.2.1⟩) hR1 (fun _ h=>h.1) hR2 (fun k hk=>⟨.inr (Kd.zf8 hR3 k hk.symm),Kd.R_lt hR3 k hk.symm⟩) (fun w' hw=>Kd.zfb (Kd.zcw (Kd.zem hE hR3) h.agr.size) (fun k hk _=>hw k hk)) (fun k hk _=>⟨fun e=>e.2.2 hk,(hR3.1 k hk.symm)⟩)
theorem zjl (k:Nat) {A:Option Addr} {n c e b:Nat} {ok:Nat→Prop} {l:List (List S32)} (a r:Int) (w:World) (hR:Kd.S (Kd.slice 32 k32) e w b ok (.slice A n c) l) (h:zby.f k l a=some r):Calls Tryz.prog 26 #[.slice A n c,.int .i64 a] w fun e w'=>e=.returned (.int .i64 r)∧zbx w w':=by
 obtain⟨rfl,hc,hC⟩:=Kd.S_reads' hR
 exact zby.calls k A c l a r w hC hc h
theorem zg6 (k:Nat) {A:Option Addr} {n c e b:Nat} {ok:Nat→Prop} {l:List S32} (a r:Int) (w:World) (hR:Kd.R k32 e w b ok (.slice A n c) l) (h:zbd.f k l a=some r):Calls Tryz.prog 27 #[.slice A n c,.int .i64 a] w fun e w'=>e=.returned (.int .i64 r)∧zbx w w':=by
 obtain⟨rfl,hc,hC⟩:=Kd.R_reads' hR
 exact zbd.calls k A c l a r w hC hc h
theorem zim (k:Nat) {A:Option Addr} {n c e b:Nat} {ok:Nat→Prop} {l:List S32} (a1:Int) (a2:ByteArray) (a3 a r:Int) (w:World) (hR:Kd.R k32 e w b ok (.slice A n c) l) (h:zdl.f k l a1 a2 a3 a=some r):Calls Tryz.prog 19 #[.agg #[.slice A n c,.int .i64 a1,.string a2,.int .i64 a3],.int .i64 a] w fun e w'=>e=.returned (.int .i64 r)∧Below w.heap.size w w':=by
 obtain⟨rfl,hc,hC⟩:=Kd.R_reads' hR
 exact zdl.calls k A c l a1 a2 a3 a r w hC hc h
def zaq.f (k:Nat) (kind:Int) (l2:List (List S70)) (m0:List S70) (m1:Int) (m2:ByteArray) (m3:Int):Option Bool:=
 (zbf.f k l2 1048576).bind fun t1=>if t1<0 then some true else(zej.f m0 m1 m2 m3 t1).bind fun t2=>if t2<0 then some true else
 (zbz.f k l2).bind fun L=>(zdj.f k m0 m1 m2 m3).bind fun q=>(zcs.f k kind L q.1 q.2.1 q.2.2.1 q.2.2.2).bind fun x=>(zck.f k kind L q.1 q.2.1 q.2.2.1 q.2.2.2).bind fun g=>
 if za2.f k g.1 x.1=some true∧zas.f k g.2.1 x.2.1=some true∧zas.f k g.2.2.1 x.2.2.1=some true∧zc6.f k g.2.2.2.1 g.2.2.2.2.1 g.2.2.2.2.2.1 g.2.2.2.2.2.2.1 x.2.2.2.1 x.2.2.2.2.1 x.2.2.2.2.2.1 x.2.2.2.2.2.2.1=some true∧g.2.2.2.2.2.2.2=x.2.2.2.2.2.2.2∧za2.f k L L=some true∧zc6.f k q.1 q.2.1 q.2.2.1 q.2.2.2 q.1 q.2.1 q.2.2.1 q.2.2.2=some true then
  ((zeu.f k L 1).bind fun n1=>(zc4.f k q.1 q.2.1 q.2.2.1 q.2.2.2 n1.1).bind fun n2=>if n2.1<0 then none else(zeu.f k g.1 1).bind fun n3=>(zbb.f k g.2.1 n3.1).bind fun n4=>(zbb.f k g.2.2.1 n4.1).bind fun n5=>(zc4.f k g.2.2.2.1 g.2.2.2.2.1 g.2.2.2.2.2.1 g.2.2.2.2.2.2.1 n5.1).bind fun n6=>
   (zby.f k n3.2 1).bind fun b1=>if b1<0 then none else(zbd.f k n4.2 b1).bind fun b2=>if b2<0 then none else(zbd.f k n5.2 b2).bind fun b3=>if b3<0 then none else(zdl.f k n6.2 g.2.2.2.2.1 g.2.2.2.2.2.1 g.2.2.2.2.2.2.1 b3).bind fun b4=>if b4<0 then none else if b4=n6.1 then some true else none) else none
def zaq.T8:Bool × List (List Nat × List Nat):=(true,[([],[]),([],[]),([1],[1]),([],[]),([3,2],[3]),([0,2,4,4],[0,2,4]),([5],[5]),([6],[6]),([6],[6]),([6],[6]),([6],[6]),([6],[6]),([],[]),([7,5,0,1,2,3,4,5,6,7,12],[7]),([8,13,0,1,2,3,4,5,6,7,8,12,13],[8]),([9,14,0,1,2,3,4,5,6,7,8,9,12,13,14],[9]),([12,10,15,0,1,2,3,4,5,6,7,8,9,10,12,13,14,15],[10,12]),([11,16,0,1,2,3,4,5,6,7,8,9,10,11,12,13,14,15,16],[11])])
def zaq.B8:List Nat:=[0,0,2,0,14,31,63,127,127,127,127,127,0,4351,12799,29695,63487,131071]
theorem zaq.tab8:rtab .any (opsOf Tryz.f4 8)=zaq.T8:=by kernel_rfl
theorem zaq.bits8:zcu zaq.T8.2 zaq.B8=true:=by kernel_rfl
def zaq.T43:Bool × List (List Nat × List Nat):=(true,[([],[]),([],[]),([1],[1]),([],[]),([3,2],[3]),([0,2,4,4],[0,2,4]),([5],[5]),([6],[6]),([6],[6]),([6],[6]),([6],[6]),([6],[6]),([],[]),([7,5,0,1,2,3,4,5,6,7,12],[7]),([8,13,0,1,2,3,4,5,6,7,8,12,13],[8]),([9,14,0,1,2,3,4,5,6,7,8,9,12,13,14],[9]),([12,10,15,0,1,2,3,4,5,6,7,8,9,10,12,13,14,15],[10,12]),([11,16,0,1,2,3,4,5,6,7,8,9,10,11,12,13,14,15,16],[11])])
def zaq.B43:List Nat:=[0,0,2,0,14,31,63,127,127,127,127,127,0,4351,12799,29695,63487,131071]
theorem zaq.tab43:rtab .any (opsOf Tryz.f4 43)=zaq.T43:=by kernel_rfl
theorem zaq.bits43:zcu zaq.T43.2 zaq.B43=true:=by kernel_rfl
theorem zaq.calls (k:Nat) (kind:Int) (A2:Option Addr) (c2:Nat) (l2:List (List S70)) (A4:Option Addr) (c4:Nat) (m0:List S70) (m1:Int) (m2:ByteArray) (m3:Int) (r:Bool) (w:World) (hr2:Kd.C (Kd.slice 70 k70) w A2 l2.length l2) (hc2:l2.length≤c2) (hr4:Kd.C k70 w A4 m0.length m0) (hc4:m0.length≤c4) (hr_:r=true) (h:zaq.f k kind l2 m0 m1 m2 m3=some r) :
  Calls Tryz.prog 4 #[.int .i64 kind,.slice A2 l2.length c2,.agg #[.slice A4 m0.length c4,.int .i64 m1,.string m2,.int .i64 m3]] w fun e w'=>e=.returned (.bool r)∧Below w.heap.size w w':=by
 subst hr_
 have hu38:=Tryz.underlying38
 have hu26:=Tryz.underlying26
 have HC2:=am_ hc2
 have HC4:=am_ hc4
 have HI:=am_ (Inv.start w (fun w2=>Kd.C (Kd.slice 70 k70) w2 A2 l2.length l2∧Kd.C k70 w2 A4 m0.length m0) (fun w' hb=>⟨Kd.zbi hr2 hb,Kd.zbi hr4 hb⟩))
 clear hr2 hr4 hc2 hc4
 unfold zaq.f at h
 replace h:=Option.bind_eq_some_iff.1 h
 obtain⟨t1,hz1_,h⟩:=h
 have HZ1:=am_ hz1_
 clear hz1_
 by_cases ct1:t1<0
 ·
  have f1_:decide (t1<0)=true:=decide_eq_true ct1
  clear ct1 h
  go_enter Tryz.func4,Tryz.ntmps4
  go_wp2_with (first|((with_reducible refine zad (N:=5) rfl ?_);refine zaj rfl (N:=5) rfl (cs:=#[.slice A4 m0.length c4,.int .i64 m1,.string m2,.int .i64 m3]) (t:=26) bx_ ?_;intro p5 hg w5_ hbox hb;replace HI:=am_ ((HI.out).box hg hbox hb);clear hb hbox hg)|(go_at_call 20;(refine(zbf.calls k A2 c2 l2 1048576 t1 _ HI.out.now.1 HC2.out HZ1.out).mono ?_);rintro e w30 ⟨rfl,⟨n30,rfl⟩⟩;replace HI:=am_ (HI.out.drewN n30);generalize World.drewN _ n30=wn30 at HI ⊢))
  go_ret
  exact⟨rfl,HI.out.below⟩
 rw [if_neg ct1] at h
 have f1_:decide (t1<0)=false:=decide_eq_false ct1
 clear ct1
 replace h:=Option.bind_eq_some_iff.1 h
 obtain⟨t2,hz2_,h⟩:=h
 have HZ2:=am_ hz2_
 clear hz2_
 by_cases ct2:t2<0
 ·
  have f2_:decide (t2<0)=true:=decide_eq_true ct2
  clear ct2 h
  go_enter Tryz.func4,Tryz.ntmps4
  go_wp2_with (first|((with_reducible refine zad (N:=5) rfl ?_);refine zaj rfl (N:=5) rfl (cs:=#[.slice A4 m0.length c4,.int .i64 m1,.string m2,.int .i64 m3]) (t:=26) bx_ ?_;intro p5 hg w5_ hbox hb;replace HI:=am_ ((HI.out).box hg hbox hb);clear hb hbox hg)|(go_at_call 20;(refine(zbf.calls k A2 c2 l2 1048576 t1 _ HI.out.now.1 HC2.out HZ1.out).mono ?_);rintro e w30 ⟨rfl,⟨n30,rfl⟩⟩;replace HI:=am_ (HI.out.drewN n30);generalize World.drewN _ n30=wn30 at HI ⊢)|((with_reducible refine zad (N:=33) rfl ?_);go_must (refine wpList_load_row rfl 26 _ rfl p5 rfl 26 (#[.slice A4 m0.length c4,.int .i64 m1,.string m2,.int .i64 m3]) (0,0) _ (HI.out.at_ (blk p5 26 #[.slice A4 m0.length c4,.int .i64 m1,.string m2,.int .i64 m3]) qz47_) hu26 rfl (by kernel_rfl) ?_))|(go_at_call 6;(refine(zej.calls A4 c4 m0 m1 m2 m3 t1 t2 _ HI.out.now.2 HC4.out HZ2.out).mono ?_);rintro e w35 ⟨rfl,hb⟩;replace HI:=am_ (HI.out.grow hb);clear hb))
  go_ret
  exact⟨rfl,HI.out.below⟩
 rw [if_neg ct2] at h
 have f1b_:decide (t2<0)=false:=decide_eq_false ct2
 clear ct2
 replace h:=Option.bind_eq_some_iff.1 h
 obtain⟨L,htl_,h⟩:=h
 have HTL:=am_ htl_
 clear htl_
 replace h:=Option.bind_eq_some_iff.1 h
 obtain⟨⟨q0,q1,q2,q3⟩,hts_,h⟩:=h
 have HTS:=am_ (show zdj.f k m0 m1 m2 m3=some (q0,q1,q2,q3) from hts_)
 clear hts_
 replace h:=Option.bind_eq_some_iff.1 h
 obtain⟨⟨x1,x2,x3,x4,x5,x6,x7,x8⟩,hsv_,h⟩:=h
 have HSV:=am_ (show zcs.f k kind L q0 q1 q2 q3=some (x1,x2,x3,x4,x5,x6,x7,x8) from hsv_)
 clear hsv_
 replace h:=Option.bind_eq_some_iff.1 h
 obtain⟨⟨g1,g2,g3,g4,g5,g6,g7,g8⟩,hiv_,h⟩:=h
 have HIV:=am_ (show zck.f k kind L q0 q1 q2 q3=some (g1,g2,g3,g4,g5,g6,g7,g8) from hiv_)
 clear hiv_
 replace h:=zgj h
 obtain⟨hq,h⟩:=h
 have HQ1:=am_ (show za2.f k g1 x1=some true from hq.1)
 have HQ2:=am_ (show zas.f k g2 x2=some true from hq.2.1)
 have HQ3:=am_ (show zas.f k g3 x3=some true from hq.2.2.1)
 have HQ4:=am_ (show zc6.f k g4 g5 g6 g7 x4 x5 x6 x7=some true from hq.2.2.2.1)
 obtain rfl:g8=x8:=hq.2.2.2.2.1
 have HQ5:=am_ hq.2.2.2.2.2.1
 have HQ6:=am_ (show zc6.f k q0 q1 q2 q3 q0 q1 q2 q3=some true from hq.2.2.2.2.2.2)
 clear hq
 replace h:=Option.bind_eq_some_iff.1 h
 obtain⟨⟨n1,Lm⟩,hm1_,h⟩:=h
 have HM1:=am_ hm1_
 clear hm1_
 replace h:=Option.bind_eq_some_iff.1 h
 obtain⟨⟨n2,ql⟩,hm2_,h⟩:=h
 have HM2:=am_ (show zc4.f k q0 q1 q2 q3 n1=some (n2,ql) from hm2_)
 clear hm2_
 by_cases cn_:n2<0
 ·
  rw [if_pos (show (n2,ql).1<0 from cn_)] at h;cases h
 rw [if_neg (show ¬(n2,ql).1<0 from cn_)] at h
 have fn2_:decide (n2<0)=false:=decide_eq_false cn_
 clear cn_
 replace h:=Option.bind_eq_some_iff.1 h
 obtain⟨⟨n3,h1⟩,hm3_,h⟩:=h
 have HM3:=am_ (show zeu.f k g1 1=some (n3,h1) from hm3_)
 clear hm3_
 replace h:=Option.bind_eq_some_iff.1 h
 obtain⟨⟨n4,h2⟩,hm4_,h⟩:=h
 have HM4:=am_ (show zbb.f k g2 n3=some (n4,h2) from hm4_)
 clear hm4_
 replace h:=Option.bind_eq_some_iff.1 h
 obtain⟨⟨n5,h3⟩,hm5_,h⟩:=h
 have HM5:=am_ (show zbb.f k g3 n4=some (n5,h3) from hm5_)
 clear hm5_
 replace h:=Option.bind_eq_some_iff.1 h
 obtain⟨⟨n6,h4⟩,hm6_,h⟩:=h
 have HM6:=am_ (show zc4.f k g4 g5 g6 g7 n5=some (n6,h4) from hm6_)
 clear hm6_
 replace h:=Option.bind_eq_some_iff.1 h
 obtain⟨b1,hh1_,h⟩:=h
 have HH1:=am_ (show zby.f k h1 1=some b1 from hh1_)
 clear hh1_
 by_cases cn_:b1<0
 ·
  rw [if_pos (show b1<0 from cn_)] at h;cases h
 rw [if_neg (show ¬b1<0 from cn_)] at h
 have fb1_:decide (b1<0)=false:=decide_eq_false cn_
 clear cn_
 replace h:=Option.bind_eq_some_iff.1 h
 obtain⟨b2,hh2_,h⟩:=h
 have HH2:=am_ (show zbd.f k h2 b1=some b2 from hh2_)
 clear hh2_
 by_cases cn_:b2<0
 ·
  rw [if_pos (show b2<0 from cn_)] at h;cases h
 rw [if_neg (show ¬b2<0 from cn_)] at h
 have fb2_:decide (b2<0)=false:=decide_eq_false cn_
 clear cn_
 replace h:=Option.bind_eq_some_iff.1 h
 obtain⟨b3,hh3_,h⟩:=h
 have HH3:=am_ (show zbd.f k h3 b2=some b3 from hh3_)
 clear hh3_
 by_cases cn_:b3<0
 ·
  rw [if_pos (show b3<0 from cn_)] at h;cases h
 rw [if_neg (show ¬b3<0 from cn_)] at h
 have fb3_:decide (b3<0)=false:=decide_eq_false cn_
 clear cn_
 replace h:=Option.bind_eq_some_iff.1 h
 obtain⟨b4,hh4_,h⟩:=h
 by_cases cn_:b4<0
 ·
  rw [if_pos cn_] at h;cases h
 rw [if_neg cn_] at h
 by_cases c64:b4=n6
 ·
  subst c64
  have HH4:=am_ (show zdl.f k h4 g5 g6 g7 b3=some b4 from hh4_)
  clear hh4_ h
  have fb4_:decide (b4<0)=false:=decide_eq_false cn_
  clear cn_
  go_enter Tryz.func4,Tryz.ntmps4
  go_wp2_with (first|((with_reducible refine zad (N:=5) rfl ?_);refine zaj rfl (N:=5) rfl (cs:=#[.slice A4 m0.length c4,.int .i64 m1,.string m2,.int .i64 m3]) (t:=26) bx_ ?_;intro p5 hg w5_ hbox hb;replace HI:=am_ ((HI.out).box hg hbox hb);clear hb hbox hg)|(go_at_call 20;(with_reducible refine(zbf.calls k A2 c2 l2 1048576 t1 _ HI.out.now.1 HC2.out HZ1.out).mono ?_);rintro e w30 ⟨rfl,⟨n30,rfl⟩⟩;replace HI:=am_ (HI.out.drewN n30);generalize World.drewN _ n30=wn30 at HI ⊢)|((with_reducible refine zad (N:=33) rfl ?_);go_must (refine wpList_load_row rfl 26 _ rfl p5 rfl 26 (#[.slice A4 m0.length c4,.int .i64 m1,.string m2,.int .i64 m3]) (0,0) _ (HI.out.at_ (blk p5 26 #[.slice A4 m0.length c4,.int .i64 m1,.string m2,.int .i64 m3]) qz47_) hu26 rfl (by kernel_rfl) ?_))|(go_at_call 6;(with_reducible refine(zej.calls A4 c4 m0 m1 m2 m3 t1 t2 _ HI.out.now.2 HC4.out HZ2.out).mono ?_);rintro e w35 ⟨rfl,hb⟩;replace HI:=am_ (HI.out.grow hb);clear hb))
  refine zcn (n:=18) (S:=fun w'=>True) (ds:=[]) (bs_ 18 0) (by kernel_rfl) rfl rfl trivial (fun hHeld=>?_)
  refine zcj zaq.tab8 zaq.bits8 (fun HT_ HW_=>?_)
  have CBa:True:=trivial
  replace HI:=am_ (HI.out.drew)
  generalize World.drew _=wd8 at HI ⊢
  refine pt_ HT_.out 0 39 (bs_ 18 1) ?_
  refine pt_ HT_.out 1 40 (bs_ 18 3) ?_
  refine zpq [2,3,4,5,6,7,8,9,10,11,12,13,14,15,16,17] (fun a0_ b a w'=>∃ (L1:Option Addr) (cl1:Nat) (SL1:Nat→Prop) (Q1:Option Addr) (cq1:Nat) (T1:Nat→Prop) (SX0:Nat→Prop) (X0:Option Addr) (cx0:Nat) (X1:Option Addr) (cx1:Nat) (X2:Option Addr) (cx2:Nat) (X3:Option Addr) (cx3:Nat) (p11:Nat) (CB8:Array Value) (m2_:Value) (m4_:Value) (m5_:Value) (m6_:Value) (m7_:Value) (m8_:Value) (m9_:Value) (m10_:Value) (m12_:Value) (m13_:Value) (m14_:Value) (m15_:Value),a=zd1 a0_ b [(2,41,m2_),(3,42,.agg #[.slice A4 m0.length c4,.int .i64 m1,.string m2,.int .i64 m3]),(4,43,m4_),(5,44,m5_),(6,38,m6_),(7,45,m7_),(8,46,m8_),(9,47,m9_),(10,48,m10_),(11,49,.int .i64 g8),(12,11,m12_),(13,8,m13_),(14,9,m14_),(15,10,m15_),(17,12,.int .i64 g8)]∧(b 16=false→CB8=#[.slice none 0 0,.int .i64 0,.string (⟨#[]⟩:ByteArray),.int .i64 0])∧(b 16=true→CB8=#[.slice X3 x4.length cx3,.int .i64 x5,.string x6,.int .i64 x7])∧(Inv w NoB w' [gif (b 12) (blk p11 38 CB8),gif (b 5) (rowS (Kd.slice 32 k32) 36 w.heap.size (.slice X0 x1.length cx0) x1 SX0),gif (b 5) (row k32 32 w.heap.size (.slice X1 x2.length cx1) x2 (fun k=>some k=(Value.ownBlock (.slice X1 x2.length cx1)))),gif (b 5) (row k32 32 w.heap.size (.slice X2 x3.length cx2) x3 (fun k=>some k=(Value.ownBlock (.slice X2 x3.length cx2)))),gif (b 5) (row k32 32 w.heap.size (.slice X3 x4.length cx3) x4 (fun k=>some k=(Value.ownBlock (.slice X3 x4.length cx3)))),gif (b 2) (rowS (Kd.slice 32 k32) 36 w.heap.size (.slice L1 L.length cl1) L SL1),gif (!(b 5) && b 4) (row k32 32 w.heap.size (.slice Q1 q0.length cq1) q0 T1),blk p5 26 #[.slice A4 m0.length c4,.int .i64 m1,.string m2,.int .i64 m3]] (fun w2=>Kd.C (Kd.slice 70 k70) w2 A2 l2.length l2∧Kd.C k70 w2 A4 m0.length m0))∧(b 2=true→(m2_:Value)=.slice L1 L.length cl1)∧(b 4=true→(m4_:Value)=.agg #[.slice Q1 q0.length cq1,.int .i64 q1,.string q2,.int .i64 q3])∧(b 5=true→(m5_:Value)=.tuple #[.slice X0 x1.length cx0,.slice X1 x2.length cx1,.slice X2 x3.length cx2,.agg #[.slice X3 x4.length cx3,.int .i64 x5,.string x6,.int .i64 x7],.int .i64 g8])∧(b 6=true→(m6_:Value)=.tuple #[.slice X0 x1.length cx0,.slice X1 x2.length cx1,.slice X2 x3.length cx2,.agg #[.slice X3 x4.length cx3,.int .i64 x5,.string x6,.int .i64 x7],.int .i64 g8])∧(b 7=true→(m7_:Value)=.slice X0 x1.length cx0)∧(b 8=true→(m8_:Value)=.slice X1 x2.length cx1)∧(b 9=true→(m9_:Value)=.slice X2 x3.length cx2)∧(b 10=true→(m10_:Value)=.agg #[.slice X3 x4.length cx3,.int .i64 x5,.string x6,.int .i64 x7])∧(b 12=true→(m12_:Value)=.pointer (some ⟨p11,0,none⟩))∧(b 13=true→(m13_:Value)=.slice X0 x1.length cx0)∧(b 14=true→(m14_:Value)=.slice X1 x2.length cx1)∧(b 15=true→(m15_:Value)=.slice X2 x3.length cx2)) HT_.out HW_.out (by kernel_rfl) (by kernel_rfl) ?_ ?_ ?_
  ·
   exact⟨none,0,fun _=>False,none,0,fun _=>False,fun _=>False,none,0,none,0,none,0,none,0,0,#[.slice none 0 0,.int .i64 0,.string (⟨#[]⟩:ByteArray),.int .i64 0],.bool false,.bool false,.bool false,.bool false,.bool false,.bool false,.bool false,.bool false,.bool false,.bool false,.bool false,.bool false,by simp only [zd1,Bool.false_eq_true,if_false],fun _=>rfl,fun h_=>absurd h_ (by decide),Inv.off (Inv.off (Inv.off (Inv.off (Inv.off (Inv.off (Inv.off (HI.out))))))),fun h_=>absurd h_ (by decide),fun h_=>absurd h_ (by decide),fun h_=>absurd h_ (by decide),fun h_=>absurd h_ (by decide),fun h_=>absurd h_ (by decide),fun h_=>absurd h_ (by decide),fun h_=>absurd h_ (by decide),fun h_=>absurd h_ (by decide),fun h_=>absurd h_ (by decide),fun h_=>absurd h_ (by decide),fun h_=>absurd h_ (by decide),fun h_=>absurd h_ (by decide)⟩
  ·
   skip
   clear CBa HI
   refine zbe ?_ ?_
   ·
    rintro b a w' ⟨L1,cl1,SL1,Q1,cq1,T1,SX0,X0,cx0,X1,cx1,X2,cx2,X3,cx3,p11,CB8,m2_,m4_,m5_,m6_,m7_,m8_,m9_,m10_,m12_,m13_,m14_,m15_,ha,Q_CBa,Q_CBb,Q_HI,Q_X2_,Q_X4_,Q_X5_,Q_X6_,Q_X7_,Q_X8_,Q_X9_,Q_X10_,Q_X12_,Q_X13_,Q_X14_,Q_X15_⟩ hb_ hon hoff
    refine⟨_,rfl,fun K hK=>?_⟩
    have e40:a.tmps[40]?=some (.slice A2 l2.length c2):=by rw [ha];exact(zdu rfl).trans rfl
    replace ha:=am_ ha
    have CBa:=am_ (Q_CBa (hoff 16 (by kernel_rfl)))
    have HI:=am_ Q_HI
    refine goes_ Tryz.func22 (by kernel_rfl) rfl #[.slice A2 l2.length c2] (by rfl) rfl rfl (by first|(simp only [List.map_toArray,List.map_cons,List.map_nil,Act.eval,Array.getD_eq_getD_getElem?,Option.getD_some,e40];done)|(simp only [List.map_toArray,List.map_cons,List.map_nil,Act.eval,Array.getD_eq_getD_getElem?,Option.getD_some,e40];rfl)) ?_
    with_reducible refine(zbz.calls k A2 c2 l2 L _ HI.out.now.1 HC2.out HTL.out).mono ?_
    rintro e wt ⟨vl_,rfl,hS,hb⟩
    obtain⟨L_n,cl_n,el_⟩:=Kd.zf6 hS
    subst el_
    refine⟨_,rfl,?_⟩
    have HI2:=am_ (Inv.fill true (HI.out.zfj hb hS) 5 rfl)
    refine hK.out _ _ ⟨L_n,cl_n,_,Q1,cq1,T1,SX0,X0,cx0,X1,cx1,X2,cx2,X3,cx3,p11,CB8,(.slice L_n L.length cl_n),m4_,m5_,m6_,m7_,m8_,m9_,m10_,m12_,m13_,m14_,m15_,(by rw [ha.out];exact zbh 0 hb_ rfl rfl rfl),Q_CBa,fun h0_=>ab_ (hoff 16 (by kernel_rfl)) h0_,HI2.out,fun _=>rfl,fun h0_=>ab_ (hoff 4 (by kernel_rfl)) h0_,fun h0_=>ab_ (hoff 5 (by kernel_rfl)) h0_,fun h0_=>ab_ (hoff 6 (by kernel_rfl)) h0_,fun h0_=>ab_ (hoff 7 (by kernel_rfl)) h0_,fun h0_=>ab_ (hoff 8 (by kernel_rfl)) h0_,fun h0_=>ab_ (hoff 9 (by kernel_rfl)) h0_,fun h0_=>ab_ (hoff 10 (by kernel_rfl)) h0_,Q_X12_,fun h0_=>ab_ (hoff 13 (by kernel_rfl)) h0_,fun h0_=>ab_ (hoff 14 (by kernel_rfl)) h0_,fun h0_=>ab_ (hoff 15 (by kernel_rfl)) h0_⟩
   refine zbe ?_ ?_
   ·
    rintro b a w' ⟨L1,cl1,SL1,Q1,cq1,T1,SX0,X0,cx0,X1,cx1,X2,cx2,X3,cx3,p11,CB8,m2_,m4_,m5_,m6_,m7_,m8_,m9_,m10_,m12_,m13_,m14_,m15_,ha,Q_CBa,Q_CBb,Q_HI,Q_X2_,Q_X4_,Q_X5_,Q_X6_,Q_X7_,Q_X8_,Q_X9_,Q_X10_,Q_X12_,Q_X13_,Q_X14_,Q_X15_⟩ hb_ hon hoff
    refine⟨_,rfl,fun K hK=>?_⟩
    have e5:a.tmps[5]?=some (.pointer (some ⟨p5,0,none⟩)):=by rw [ha];exact(zdu rfl).trans rfl
    replace ha:=am_ ha
    have CBa:=am_ (Q_CBa (hoff 16 (by kernel_rfl)))
    have HI:=am_ Q_HI
    have y_0:w'.cell? ⟨p5,0,none⟩=some (.slice A4 m0.length c4):=(zaa (HI.out.at_ (blk p5 26 #[.slice A4 m0.length c4,.int .i64 m1,.string m2,.int .i64 m3]) qz47_) 0).trans rfl
    have y_1:w'.cell? ⟨p5,1,none⟩=some (.int .i64 m1):=(zaa (HI.out.at_ (blk p5 26 #[.slice A4 m0.length c4,.int .i64 m1,.string m2,.int .i64 m3]) qz47_) 1).trans rfl
    have y_2:w'.cell? ⟨p5,2,none⟩=some (.string m2):=(zaa (HI.out.at_ (blk p5 26 #[.slice A4 m0.length c4,.int .i64 m1,.string m2,.int .i64 m3]) qz47_) 2).trans rfl
    have y_3:w'.cell? ⟨p5,3,none⟩=some (.int .i64 m3):=(zaa (HI.out.at_ (blk p5 26 #[.slice A4 m0.length c4,.int .i64 m1,.string m2,.int .i64 m3]) qz47_) 3).trans rfl
    refine zbg (w1:=w') (v:=.agg #[.slice A4 m0.length c4,.int .i64 m1,.string m2,.int .i64 m3]) (by rfl) rfl ?_ ?_
    ·
     go_simp
     (try simp only [i64_w])
     try rfl
    refine hK.out _ _ ⟨L1,cl1,SL1,Q1,cq1,T1,SX0,X0,cx0,X1,cx1,X2,cx2,X3,cx3,p11,CB8,m2_,m4_,m5_,m6_,m7_,m8_,m9_,m10_,m12_,m13_,m14_,m15_,(by rw [ha.out];exact zbh 1 hb_ rfl rfl rfl),Q_CBa,fun h0_=>ab_ (hoff 16 (by kernel_rfl)) h0_,Q_HI,Q_X2_,fun h0_=>ab_ (hoff 4 (by kernel_rfl)) h0_,fun h0_=>ab_ (hoff 5 (by kernel_rfl)) h0_,fun h0_=>ab_ (hoff 6 (by kernel_rfl)) h0_,fun h0_=>ab_ (hoff 7 (by kernel_rfl)) h0_,fun h0_=>ab_ (hoff 8 (by kernel_rfl)) h0_,fun h0_=>ab_ (hoff 9 (by kernel_rfl)) h0_,fun h0_=>ab_ (hoff 10 (by kernel_rfl)) h0_,Q_X12_,fun h0_=>ab_ (hoff 13 (by kernel_rfl)) h0_,fun h0_=>ab_ (hoff 14 (by kernel_rfl)) h0_,fun h0_=>ab_ (hoff 15 (by kernel_rfl)) h0_⟩
   refine zbe ?_ ?_
   ·
    rintro b a w' ⟨L1,cl1,SL1,Q1,cq1,T1,SX0,X0,cx0,X1,cx1,X2,cx2,X3,cx3,p11,CB8,m2_,m4_,m5_,m6_,m7_,m8_,m9_,m10_,m12_,m13_,m14_,m15_,ha,Q_CBa,Q_CBb,Q_HI,Q_X2_,Q_X4_,Q_X5_,Q_X6_,Q_X7_,Q_X8_,Q_X9_,Q_X10_,Q_X12_,Q_X13_,Q_X14_,Q_X15_⟩ hb_ hon hoff
    refine⟨_,rfl,fun K hK=>?_⟩
    have e42:a.tmps[42]?=some (.agg #[.slice A4 m0.length c4,.int .i64 m1,.string m2,.int .i64 m3]):=by rw [ha];exact zbw (e:=(3,42,.agg #[.slice A4 m0.length c4,.int .i64 m1,.string m2,.int .i64 m3])) 1 rfl rfl (hon 3 (by kernel_rfl)) rfl
    replace ha:=am_ ha
    have CBa:=am_ (Q_CBa (hoff 16 (by kernel_rfl)))
    have HI:=am_ Q_HI
    refine goes_ Tryz.func10 (by kernel_rfl) rfl #[.agg #[.slice A4 m0.length c4,.int .i64 m1,.string m2,.int .i64 m3]] (by rfl) rfl rfl (by first|(simp only [List.map_toArray,List.map_cons,List.map_nil,Act.eval,Array.getD_eq_getD_getElem?,Option.getD_some,e42];done)|(simp only [List.map_toArray,List.map_cons,List.map_nil,Act.eval,Array.getD_eq_getD_getElem?,Option.getD_some,e42];rfl)) ?_
    with_reducible refine(zdj.calls k A4 c4 m0 m1 m2 m3 q0 q1 q2 q3 _ HI.out.now.2 HC4.out HTS.out).mono ?_
    rintro e wt ⟨vq_,rfl,hR,hb⟩
    obtain⟨Q_n,cq_n,eq_⟩:=Kd.zcb hR
    subst eq_
    refine⟨_,rfl,?_⟩
    have HI2:=am_ (Inv.fill (!(b 5) && true) (HI.out.zd7 hb hR) 6 rfl)
    refine hK.out _ _ ⟨L1,cl1,SL1,Q_n,cq_n,_,SX0,X0,cx0,X1,cx1,X2,cx2,X3,cx3,p11,CB8,m2_,(.agg #[.slice Q_n q0.length cq_n,.int .i64 q1,.string q2,.int .i64 q3]),m5_,m6_,m7_,m8_,m9_,m10_,m12_,m13_,m14_,m15_,(by rw [ha.out];exact zbh 2 hb_ rfl rfl rfl),Q_CBa,fun h0_=>ab_ (hoff 16 (by kernel_rfl)) h0_,HI2.out,Q_X2_,fun _=>rfl,fun h0_=>ab_ (hoff 5 (by kernel_rfl)) h0_,fun h0_=>ab_ (hoff 6 (by kernel_rfl)) h0_,fun h0_=>ab_ (hoff 7 (by kernel_rfl)) h0_,fun h0_=>ab_ (hoff 8 (by kernel_rfl)) h0_,fun h0_=>ab_ (hoff 9 (by kernel_rfl)) h0_,fun h0_=>ab_ (hoff 10 (by kernel_rfl)) h0_,Q_X12_,fun h0_=>ab_ (hoff 13 (by kernel_rfl)) h0_,fun h0_=>ab_ (hoff 14 (by kernel_rfl)) h0_,fun h0_=>ab_ (hoff 15 (by kernel_rfl)) h0_⟩
   refine zbe ?_ ?_
   ·
    rintro b a w' ⟨L1,cl1,SL1,Q1,cq1,T1,SX0,X0,cx0,X1,cx1,X2,cx2,X3,cx3,p11,CB8,m2_,m4_,m5_,m6_,m7_,m8_,m9_,m10_,m12_,m13_,m14_,m15_,ha,Q_CBa,Q_CBb,Q_HI,Q_X2_,Q_X4_,Q_X5_,Q_X6_,Q_X7_,Q_X8_,Q_X9_,Q_X10_,Q_X12_,Q_X13_,Q_X14_,Q_X15_⟩ hb_ hon hoff
    refine⟨_,rfl,fun K hK=>?_⟩
    have e39:a.tmps[39]?=some (.int .i64 kind):=by rw [ha];exact(zdu rfl).trans rfl
    have e41:a.tmps[41]?=some (m2_):=by rw [ha];exact zbw (e:=(2,41,m2_)) 0 rfl rfl (hon 2 (by kernel_rfl)) rfl
    rw [Q_X2_ (hon 2 (by kernel_rfl))] at e41
    have e43:a.tmps[43]?=some (m4_):=by rw [ha];exact zbw (e:=(4,43,m4_)) 2 rfl rfl (hon 4 (by kernel_rfl)) rfl
    rw [Q_X4_ (hon 4 (by kernel_rfl))] at e43
    replace ha:=am_ ha
    have CBa:=am_ (Q_CBa (hoff 16 (by kernel_rfl)))
    have HI:=am_ Q_HI
    have HI3:zal (Inv w NoB w' (row k32 32 w.heap.size (.slice Q1 q0.length cq1) q0 T1::[gif (b 12) (blk p11 38 CB8),gif (b 5) (rowS (Kd.slice 32 k32) 36 w.heap.size (.slice X0 x1.length cx0) x1 SX0),gif (b 5) (row k32 32 w.heap.size (.slice X1 x2.length cx1) x2 (fun k=>some k=(Value.ownBlock (.slice X1 x2.length cx1)))),gif (b 5) (row k32 32 w.heap.size (.slice X2 x3.length cx2) x3 (fun k=>some k=(Value.ownBlock (.slice X2 x3.length cx2)))),gif (b 5) (row k32 32 w.heap.size (.slice X3 x4.length cx3) x4 (fun k=>some k=(Value.ownBlock (.slice X3 x4.length cx3)))),gif (b 2) (rowS (Kd.slice 32 k32) 36 w.heap.size (.slice L1 L.length cl1) L SL1),gif false (row k32 32 w.heap.size (.slice Q1 q0.length cq1) q0 T1),blk p5 26 #[.slice A4 m0.length c4,.int .i64 m1,.string m2,.int .i64 m3]]) (fun w2=>Kd.C (Kd.slice 70 k70) w2 A2 l2.length l2∧Kd.C k70 w2 A4 m0.length m0)):=⟨Inv.take HI.out 6 rfl (show (!(b 5) && b 4)=true from by rw [hb_,(hon 4 (by kernel_rfl))];rfl)⟩
    refine goes_ Tryz.func21 (by kernel_rfl) rfl #[.int .i64 kind,.slice L1 L.length cl1,.agg #[.slice Q1 q0.length cq1,.int .i64 q1,.string q2,.int .i64 q3]] (by rfl) rfl rfl (by first|(simp only [List.map_toArray,List.map_cons,List.map_nil,Act.eval,Array.getD_eq_getD_getElem?,Option.getD_some,e39,e41,e43];done)|(simp only [List.map_toArray,List.map_cons,List.map_nil,Act.eval,Array.getD_eq_getD_getElem?,Option.getD_some,e39,e41,e43];rfl)) ?_
    with_reducible refine(zcs.calls k kind L1 cl1 L Q1 cq1 q0 q1 q2 q3 x1 x2 x3 x4 x5 x6 x7 g8 _ w _ HI3.out.below HI3.out.row0 (fun W_ ha=>(rowSC (gifA (HI3.out.ownOther ha (ownRow HI3.out) (gif (b 2) (rowS (Kd.slice 32 k32) 36 w.heap.size (.slice L1 L.length cl1) L SL1)) qz47_) (hon 2 (by kernel_rfl)))).2.2) (rowSC (gifA (HI.out.at_ (gif (b 2) (rowS (Kd.slice 32 k32) 36 w.heap.size (.slice L1 L.length cl1) L SL1)) qz47_) (hon 2 (by kernel_rfl)))).2.1 HSV.out).mono ?_
    rintro e wt ⟨v0_,v1_,v2_,v3_,rfl,hS0,hR1,hR2,hR3,hB2,hk⟩
    obtain⟨N0,nc0,ex_⟩:=Kd.zf6 hS0;subst ex_;obtain⟨N1,nc1,ex_⟩:=Kd.zcb hR1;subst ex_;obtain⟨N2,nc2,ex_⟩:=Kd.zcb hR2;subst ex_;obtain⟨N3,nc3,ex_⟩:=Kd.zcb hR3;subst ex_
    refine⟨_,rfl,?_⟩
    have HI5:=am_ (Inv.zkw rfl HI3.out (Agr.zi3 hk HI3.out.below hB2 (ownRow HI3.out)) hS0 hR1 hR2 hR3)
    have HI2:=am_ (Inv.fill true (Inv.fill true (Inv.fill true (Inv.fill true HI5.out 4 rfl) 4 rfl) 4 rfl) 4 rfl)
    refine hK.out _ _ ⟨L1,cl1,SL1,Q1,cq1,T1,_,N0,nc0,N1,nc1,N2,nc2,N3,nc3,p11,CB8,m2_,m4_,(.tuple #[.slice N0 x1.length nc0,.slice N1 x2.length nc1,.slice N2 x3.length nc2,.agg #[.slice N3 x4.length nc3,.int .i64 x5,.string x6,.int .i64 x7],.int .i64 g8]),m6_,m7_,m8_,m9_,m10_,m12_,m13_,m14_,m15_,(by rw [ha.out];exact zbh 3 hb_ rfl rfl rfl),Q_CBa,fun h0_=>ab_ (hoff 16 (by kernel_rfl)) h0_,HI2.out,Q_X2_,Q_X4_,fun _=>rfl,fun h0_=>ab_ (hoff 6 (by kernel_rfl)) h0_,fun h0_=>ab_ (hoff 7 (by kernel_rfl)) h0_,fun h0_=>ab_ (hoff 8 (by kernel_rfl)) h0_,fun h0_=>ab_ (hoff 9 (by kernel_rfl)) h0_,fun h0_=>ab_ (hoff 10 (by kernel_rfl)) h0_,Q_X12_,fun h0_=>ab_ (hoff 13 (by kernel_rfl)) h0_,fun h0_=>ab_ (hoff 14 (by kernel_rfl)) h0_,fun h0_=>ab_ (hoff 15 (by kernel_rfl)) h0_⟩
   refine zbe ?_ ?_
   ·
    rintro b a w' ⟨L1,cl1,SL1,Q1,cq1,T1,SX0,X0,cx0,X1,cx1,X2,cx2,X3,cx3,p11,CB8,m2_,m4_,m5_,m6_,m7_,m8_,m9_,m10_,m12_,m13_,m14_,m15_,ha,Q_CBa,Q_CBb,Q_HI,Q_X2_,Q_X4_,Q_X5_,Q_X6_,Q_X7_,Q_X8_,Q_X9_,Q_X10_,Q_X12_,Q_X13_,Q_X14_,Q_X15_⟩ hb_ hon hoff
    refine⟨_,rfl,fun K hK=>?_⟩
    have e44:a.tmps[44]?=some (m5_):=by rw [ha];exact zbw (e:=(5,44,m5_)) 3 rfl rfl (hon 5 (by kernel_rfl)) rfl
    rw [Q_X5_ (hon 5 (by kernel_rfl))] at e44
    replace ha:=am_ ha
    have CBa:=am_ (Q_CBa (hoff 16 (by kernel_rfl)))
    have HI:=am_ Q_HI
    refine zbg (w1:=w') (v:=.tuple #[.slice X0 x1.length cx0,.slice X1 x2.length cx1,.slice X2 x3.length cx2,.agg #[.slice X3 x4.length cx3,.int .i64 x5,.string x6,.int .i64 x7],.int .i64 g8]) (by rfl) rfl ?_ ?_
    ·
     go_simp
     (try simp only [i64_w])
     try rfl
    refine hK.out _ _ ⟨L1,cl1,SL1,Q1,cq1,T1,SX0,X0,cx0,X1,cx1,X2,cx2,X3,cx3,p11,CB8,m2_,m4_,m5_,(.tuple #[.slice X0 x1.length cx0,.slice X1 x2.length cx1,.slice X2 x3.length cx2,.agg #[.slice X3 x4.length cx3,.int .i64 x5,.string x6,.int .i64 x7],.int .i64 g8]),m7_,m8_,m9_,m10_,m12_,m13_,m14_,m15_,(by rw [ha.out];exact zbh 4 hb_ rfl rfl rfl),Q_CBa,fun h0_=>ab_ (hoff 16 (by kernel_rfl)) h0_,Q_HI,Q_X2_,Q_X4_,Q_X5_,fun _=>rfl,fun h0_=>ab_ (hoff 7 (by kernel_rfl)) h0_,fun h0_=>ab_ (hoff 8 (by kernel_rfl)) h0_,fun h0_=>ab_ (hoff 9 (by kernel_rfl)) h0_,fun h0_=>ab_ (hoff 10 (by kernel_rfl)) h0_,Q_X12_,fun h0_=>ab_ (hoff 13 (by kernel_rfl)) h0_,fun h0_=>ab_ (hoff 14 (by kernel_rfl)) h0_,fun h0_=>ab_ (hoff 15 (by kernel_rfl)) h0_⟩
   refine zbe ?_ ?_
   ·
    rintro b a w' ⟨L1,cl1,SL1,Q1,cq1,T1,SX0,X0,cx0,X1,cx1,X2,cx2,X3,cx3,p11,CB8,m2_,m4_,m5_,m6_,m7_,m8_,m9_,m10_,m12_,m13_,m14_,m15_,ha,Q_CBa,Q_CBb,Q_HI,Q_X2_,Q_X4_,Q_X5_,Q_X6_,Q_X7_,Q_X8_,Q_X9_,Q_X10_,Q_X12_,Q_X13_,Q_X14_,Q_X15_⟩ hb_ hon hoff
    refine⟨_,rfl,fun K hK=>?_⟩
    have e38:a.tmps[38]?=some (m6_):=by rw [ha];exact zbw (e:=(6,38,m6_)) 4 rfl rfl (hon 6 (by kernel_rfl)) rfl
    rw [Q_X6_ (hon 6 (by kernel_rfl))] at e38
    replace ha:=am_ ha
    have CBa:=am_ (Q_CBa (hoff 16 (by kernel_rfl)))
    have HI:=am_ Q_HI
    refine zbg (w1:=w') (v:=.slice X0 x1.length cx0) (by rfl) rfl ?_ ?_
    ·
     go_simp
     (try simp only [i64_w])
     try rfl
    refine hK.out _ _ ⟨L1,cl1,SL1,Q1,cq1,T1,SX0,X0,cx0,X1,cx1,X2,cx2,X3,cx3,p11,CB8,m2_,m4_,m5_,m6_,(.slice X0 x1.length cx0),m8_,m9_,m10_,m12_,m13_,m14_,m15_,(by rw [ha.out];exact zbh 5 hb_ rfl rfl rfl),Q_CBa,fun h0_=>ab_ (hoff 16 (by kernel_rfl)) h0_,Q_HI,Q_X2_,Q_X4_,Q_X5_,Q_X6_,fun _=>rfl,Q_X8_,Q_X9_,Q_X10_,Q_X12_,fun h0_=>ab_ (hoff 13 (by kernel_rfl)) h0_,fun h0_=>ab_ (hoff 14 (by kernel_rfl)) h0_,fun h0_=>ab_ (hoff 15 (by kernel_rfl)) h0_⟩
   refine zbe ?_ ?_
   ·
    rintro b a w' ⟨L1,cl1,SL1,Q1,cq1,T1,SX0,X0,cx0,X1,cx1,X2,cx2,X3,cx3,p11,CB8,m2_,m4_,m5_,m6_,m7_,m8_,m9_,m10_,m12_,m13_,m14_,m15_,ha,Q_CBa,Q_CBb,Q_HI,Q_X2_,Q_X4_,Q_X5_,Q_X6_,Q_X7_,Q_X8_,Q_X9_,Q_X10_,Q_X12_,Q_X13_,Q_X14_,Q_X15_⟩ hb_ hon hoff
    refine⟨_,rfl,fun K hK=>?_⟩
    have e38:a.tmps[38]?=some (m6_):=by rw [ha];exact zbw (e:=(6,38,m6_)) 4 rfl rfl (hon 6 (by kernel_rfl)) rfl
    rw [Q_X6_ (hon 6 (by kernel_rfl))] at e38
    replace ha:=am_ ha
    have CBa:=am_ (Q_CBa (hoff 16 (by kernel_rfl)))
    have HI:=am_ Q_HI
    refine zbg (w1:=w') (v:=.slice X1 x2.length cx1) (by rfl) rfl ?_ ?_
    ·
     go_simp
     (try simp only [i64_w])
     try rfl
    refine hK.out _ _ ⟨L1,cl1,SL1,Q1,cq1,T1,SX0,X0,cx0,X1,cx1,X2,cx2,X3,cx3,p11,CB8,m2_,m4_,m5_,m6_,m7_,(.slice X1 x2.length cx1),m9_,m10_,m12_,m13_,m14_,m15_,(by rw [ha.out];exact zbh 6 hb_ rfl rfl rfl),Q_CBa,fun h0_=>ab_ (hoff 16 (by kernel_rfl)) h0_,Q_HI,Q_X2_,Q_X4_,Q_X5_,Q_X6_,Q_X7_,fun _=>rfl,Q_X9_,Q_X10_,Q_X12_,Q_X13_,fun h0_=>ab_ (hoff 14 (by kernel_rfl)) h0_,fun h0_=>ab_ (hoff 15 (by kernel_rfl)) h0_⟩
   refine zbe ?_ ?_
   ·
    rintro b a w' ⟨L1,cl1,SL1,Q1,cq1,T1,SX0,X0,cx0,X1,cx1,X2,cx2,X3,cx3,p11,CB8,m2_,m4_,m5_,m6_,m7_,m8_,m9_,m10_,m12_,m13_,m14_,m15_,ha,Q_CBa,Q_CBb,Q_HI,Q_X2_,Q_X4_,Q_X5_,Q_X6_,Q_X7_,Q_X8_,Q_X9_,Q_X10_,Q_X12_,Q_X13_,Q_X14_,Q_X15_⟩ hb_ hon hoff
    refine⟨_,rfl,fun K hK=>?_⟩
    have e38:a.tmps[38]?=some (m6_):=by rw [ha];exact zbw (e:=(6,38,m6_)) 4 rfl rfl (hon 6 (by kernel_rfl)) rfl
    rw [Q_X6_ (hon 6 (by kernel_rfl))] at e38
    replace ha:=am_ ha
    have CBa:=am_ (Q_CBa (hoff 16 (by kernel_rfl)))
    have HI:=am_ Q_HI
    refine zbg (w1:=w') (v:=.slice X2 x3.length cx2) (by rfl) rfl ?_ ?_
    ·
     go_simp
     (try simp only [i64_w])
     try rfl
    refine hK.out _ _ ⟨L1,cl1,SL1,Q1,cq1,T1,SX0,X0,cx0,X1,cx1,X2,cx2,X3,cx3,p11,CB8,m2_,m4_,m5_,m6_,m7_,m8_,(.slice X2 x3.length cx2),m10_,m12_,m13_,m14_,m15_,(by rw [ha.out];exact zbh 7 hb_ rfl rfl rfl),Q_CBa,fun h0_=>ab_ (hoff 16 (by kernel_rfl)) h0_,Q_HI,Q_X2_,Q_X4_,Q_X5_,Q_X6_,Q_X7_,Q_X8_,fun _=>rfl,Q_X10_,Q_X12_,Q_X13_,Q_X14_,fun h0_=>ab_ (hoff 15 (by kernel_rfl)) h0_⟩
   refine zbe ?_ ?_
   ·
    rintro b a w' ⟨L1,cl1,SL1,Q1,cq1,T1,SX0,X0,cx0,X1,cx1,X2,cx2,X3,cx3,p11,CB8,m2_,m4_,m5_,m6_,m7_,m8_,m9_,m10_,m12_,m13_,m14_,m15_,ha,Q_CBa,Q_CBb,Q_HI,Q_X2_,Q_X4_,Q_X5_,Q_X6_,Q_X7_,Q_X8_,Q_X9_,Q_X10_,Q_X12_,Q_X13_,Q_X14_,Q_X15_⟩ hb_ hon hoff
    refine⟨_,rfl,fun K hK=>?_⟩
    have e38:a.tmps[38]?=some (m6_):=by rw [ha];exact zbw (e:=(6,38,m6_)) 4 rfl rfl (hon 6 (by kernel_rfl)) rfl
    rw [Q_X6_ (hon 6 (by kernel_rfl))] at e38
    replace ha:=am_ ha
    have CBa:=am_ (Q_CBa (hoff 16 (by kernel_rfl)))
    have HI:=am_ Q_HI
    refine zbg (w1:=w') (v:=.agg #[.slice X3 x4.length cx3,.int .i64 x5,.string x6,.int .i64 x7]) (by rfl) rfl ?_ ?_
    ·
     go_simp
     (try simp only [i64_w])
     try rfl
    refine hK.out _ _ ⟨L1,cl1,SL1,Q1,cq1,T1,SX0,X0,cx0,X1,cx1,X2,cx2,X3,cx3,p11,CB8,m2_,m4_,m5_,m6_,m7_,m8_,m9_,(.agg #[.slice X3 x4.length cx3,.int .i64 x5,.string x6,.int .i64 x7]),m12_,m13_,m14_,m15_,(by rw [ha.out];exact zbh 8 hb_ rfl rfl rfl),Q_CBa,fun h0_=>ab_ (hoff 16 (by kernel_rfl)) h0_,Q_HI,Q_X2_,Q_X4_,Q_X5_,Q_X6_,Q_X7_,Q_X8_,Q_X9_,fun _=>rfl,Q_X12_,Q_X13_,Q_X14_,Q_X15_⟩
   refine zbe ?_ ?_
   ·
    rintro b a w' ⟨L1,cl1,SL1,Q1,cq1,T1,SX0,X0,cx0,X1,cx1,X2,cx2,X3,cx3,p11,CB8,m2_,m4_,m5_,m6_,m7_,m8_,m9_,m10_,m12_,m13_,m14_,m15_,ha,Q_CBa,Q_CBb,Q_HI,Q_X2_,Q_X4_,Q_X5_,Q_X6_,Q_X7_,Q_X8_,Q_X9_,Q_X10_,Q_X12_,Q_X13_,Q_X14_,Q_X15_⟩ hb_ hon hoff
    refine⟨_,rfl,fun K hK=>?_⟩
    have e38:a.tmps[38]?=some (m6_):=by rw [ha];exact zbw (e:=(6,38,m6_)) 4 rfl rfl (hon 6 (by kernel_rfl)) rfl
    rw [Q_X6_ (hon 6 (by kernel_rfl))] at e38
    replace ha:=am_ ha
    have HI:=am_ Q_HI
    refine zbg (w1:=w') (v:=.int .i64 g8) (by rfl) rfl ?_ ?_
    ·
     go_simp
     (try simp only [i64_w])
     try rfl
    refine hK.out _ _ ⟨L1,cl1,SL1,Q1,cq1,T1,SX0,X0,cx0,X1,cx1,X2,cx2,X3,cx3,p11,CB8,m2_,m4_,m5_,m6_,m7_,m8_,m9_,m10_,m12_,m13_,m14_,m15_,(by rw [ha.out];exact zbh 9 hb_ rfl rfl rfl),Q_CBa,Q_CBb,Q_HI,Q_X2_,Q_X4_,Q_X5_,Q_X6_,Q_X7_,Q_X8_,Q_X9_,Q_X10_,Q_X12_,Q_X13_,Q_X14_,Q_X15_⟩
   refine zbe ?_ ?_
   ·
    rintro b a w' ⟨L1,cl1,SL1,Q1,cq1,T1,SX0,X0,cx0,X1,cx1,X2,cx2,X3,cx3,p11,CB8,m2_,m4_,m5_,m6_,m7_,m8_,m9_,m10_,m12_,m13_,m14_,m15_,ha,Q_CBa,Q_CBb,Q_HI,Q_X2_,Q_X4_,Q_X5_,Q_X6_,Q_X7_,Q_X8_,Q_X9_,Q_X10_,Q_X12_,Q_X13_,Q_X14_,Q_X15_⟩ hb_ hon hoff
    refine⟨_,rfl,fun K hK=>?_⟩
    replace ha:=am_ ha
    have CBa:=am_ (Q_CBa (hoff 16 (by kernel_rfl)))
    have HI:=am_ Q_HI
    refine zbg (w1:=w'.alloc (.cells #[.slice none 0 0,.int .i64 0,.string (⟨#[]⟩:ByteArray),.int .i64 0] 38)) (v:=.pointer (some ⟨w'.heap.size,0,none⟩)) (by rfl) rfl ?_ ?_
    ·
     first|(go_simp;done)|(go_simp;rfl)
    have HI2:=am_ (Inv.fill true (Inv.zks (HI.out.zhu 38 (#[.slice none 0 0,.int .i64 0,.string (⟨#[]⟩:ByteArray),.int .i64 0])) (cs':=CB8) CBa.out) 0 rfl)
    refine hK.out _ _ ⟨L1,cl1,SL1,Q1,cq1,T1,SX0,X0,cx0,X1,cx1,X2,cx2,X3,cx3,w'.heap.size,CB8,m2_,m4_,m5_,m6_,m7_,m8_,m9_,m10_,(.pointer (some ⟨w'.heap.size,0,none⟩)),m13_,m14_,m15_,(by rw [ha.out];exact zbh 10 hb_ rfl rfl rfl),Q_CBa,fun h0_=>ab_ (hoff 16 (by kernel_rfl)) h0_,HI2.out,Q_X2_,Q_X4_,Q_X5_,Q_X6_,Q_X7_,Q_X8_,Q_X9_,Q_X10_,fun _=>rfl,fun h0_=>ab_ (hoff 13 (by kernel_rfl)) h0_,fun h0_=>ab_ (hoff 14 (by kernel_rfl)) h0_,fun h0_=>ab_ (hoff 15 (by kernel_rfl)) h0_⟩
   refine zbe ?_ ?_
   ·
    rintro b a w' ⟨L1,cl1,SL1,Q1,cq1,T1,SX0,X0,cx0,X1,cx1,X2,cx2,X3,cx3,p11,CB8,m2_,m4_,m5_,m6_,m7_,m8_,m9_,m10_,m12_,m13_,m14_,m15_,ha,Q_CBa,Q_CBb,Q_HI,Q_X2_,Q_X4_,Q_X5_,Q_X6_,Q_X7_,Q_X8_,Q_X9_,Q_X10_,Q_X12_,Q_X13_,Q_X14_,Q_X15_⟩ hb_ hon hoff
    refine⟨_,rfl,fun K hK=>?_⟩
    have e45:a.tmps[45]?=some (m7_):=by rw [ha];exact zbw (e:=(7,45,m7_)) 5 rfl rfl (hon 7 (by kernel_rfl)) rfl
    rw [Q_X7_ (hon 7 (by kernel_rfl))] at e45
    replace ha:=am_ ha
    have CBa:=am_ (Q_CBa (hoff 16 (by kernel_rfl)))
    have HI:=am_ Q_HI
    refine zbg (w1:=w') (v:=.slice X0 x1.length cx0) (by rfl) rfl ?_ ?_
    ·
     go_simp
     (try simp only [i64_w])
     try rfl
    refine hK.out _ _ ⟨L1,cl1,SL1,Q1,cq1,T1,SX0,X0,cx0,X1,cx1,X2,cx2,X3,cx3,p11,CB8,m2_,m4_,m5_,m6_,m7_,m8_,m9_,m10_,m12_,(.slice X0 x1.length cx0),m14_,m15_,(by rw [ha.out];exact zbh 11 hb_ rfl rfl rfl),Q_CBa,fun h0_=>ab_ (hoff 16 (by kernel_rfl)) h0_,Q_HI,Q_X2_,Q_X4_,Q_X5_,Q_X6_,Q_X7_,Q_X8_,Q_X9_,Q_X10_,Q_X12_,fun _=>rfl,fun h0_=>ab_ (hoff 14 (by kernel_rfl)) h0_,fun h0_=>ab_ (hoff 15 (by kernel_rfl)) h0_⟩
   refine zbe ?_ ?_
   ·
    rintro b a w' ⟨L1,cl1,SL1,Q1,cq1,T1,SX0,X0,cx0,X1,cx1,X2,cx2,X3,cx3,p11,CB8,m2_,m4_,m5_,m6_,m7_,m8_,m9_,m10_,m12_,m13_,m14_,m15_,ha,Q_CBa,Q_CBb,Q_HI,Q_X2_,Q_X4_,Q_X5_,Q_X6_,Q_X7_,Q_X8_,Q_X9_,Q_X10_,Q_X12_,Q_X13_,Q_X14_,Q_X15_⟩ hb_ hon hoff
    refine⟨_,rfl,fun K hK=>?_⟩
    have e46:a.tmps[46]?=some (m8_):=by rw [ha];exact zbw (e:=(8,46,m8_)) 6 rfl rfl (hon 8 (by kernel_rfl)) rfl
    rw [Q_X8_ (hon 8 (by kernel_rfl))] at e46
    replace ha:=am_ ha
    have CBa:=am_ (Q_CBa (hoff 16 (by kernel_rfl)))
    have HI:=am_ Q_HI
    refine zbg (w1:=w') (v:=.slice X1 x2.length cx1) (by rfl) rfl ?_ ?_
    ·
     go_simp
     (try simp only [i64_w])
     try rfl
    refine hK.out _ _ ⟨L1,cl1,SL1,Q1,cq1,T1,SX0,X0,cx0,X1,cx1,X2,cx2,X3,cx3,p11,CB8,m2_,m4_,m5_,m6_,m7_,m8_,m9_,m10_,m12_,m13_,(.slice X1 x2.length cx1),m15_,(by rw [ha.out];exact zbh 12 hb_ rfl rfl rfl),Q_CBa,fun h0_=>ab_ (hoff 16 (by kernel_rfl)) h0_,Q_HI,Q_X2_,Q_X4_,Q_X5_,Q_X6_,Q_X7_,Q_X8_,Q_X9_,Q_X10_,Q_X12_,Q_X13_,fun _=>rfl,fun h0_=>ab_ (hoff 15 (by kernel_rfl)) h0_⟩
   refine zbe ?_ ?_
   ·
    rintro b a w' ⟨L1,cl1,SL1,Q1,cq1,T1,SX0,X0,cx0,X1,cx1,X2,cx2,X3,cx3,p11,CB8,m2_,m4_,m5_,m6_,m7_,m8_,m9_,m10_,m12_,m13_,m14_,m15_,ha,Q_CBa,Q_CBb,Q_HI,Q_X2_,Q_X4_,Q_X5_,Q_X6_,Q_X7_,Q_X8_,Q_X9_,Q_X10_,Q_X12_,Q_X13_,Q_X14_,Q_X15_⟩ hb_ hon hoff
    refine⟨_,rfl,fun K hK=>?_⟩
    have e47:a.tmps[47]?=some (m9_):=by rw [ha];exact zbw (e:=(9,47,m9_)) 7 rfl rfl (hon 9 (by kernel_rfl)) rfl
    rw [Q_X9_ (hon 9 (by kernel_rfl))] at e47
    replace ha:=am_ ha
    have CBa:=am_ (Q_CBa (hoff 16 (by kernel_rfl)))
    have HI:=am_ Q_HI
    refine zbg (w1:=w') (v:=.slice X2 x3.length cx2) (by rfl) rfl ?_ ?_
    ·
     go_simp
     (try simp only [i64_w])
     try rfl
    refine hK.out _ _ ⟨L1,cl1,SL1,Q1,cq1,T1,SX0,X0,cx0,X1,cx1,X2,cx2,X3,cx3,p11,CB8,m2_,m4_,m5_,m6_,m7_,m8_,m9_,m10_,m12_,m13_,m14_,(.slice X2 x3.length cx2),(by rw [ha.out];exact zbh 13 hb_ rfl rfl rfl),Q_CBa,fun h0_=>ab_ (hoff 16 (by kernel_rfl)) h0_,Q_HI,Q_X2_,Q_X4_,Q_X5_,Q_X6_,Q_X7_,Q_X8_,Q_X9_,Q_X10_,Q_X12_,Q_X13_,Q_X14_,fun _=>rfl⟩
   refine zbe ?_ ?_
   ·
    rintro b a w' ⟨L1,cl1,SL1,Q1,cq1,T1,SX0,X0,cx0,X1,cx1,X2,cx2,X3,cx3,p11,CB8,m2_,m4_,m5_,m6_,m7_,m8_,m9_,m10_,m12_,m13_,m14_,m15_,ha,Q_CBa,Q_CBb,Q_HI,Q_X2_,Q_X4_,Q_X5_,Q_X6_,Q_X7_,Q_X8_,Q_X9_,Q_X10_,Q_X12_,Q_X13_,Q_X14_,Q_X15_⟩ hb_ hon hoff
    refine⟨_,rfl,fun K hK=>?_⟩
    have e11:a.tmps[11]?=some (m12_):=by rw [ha];exact zbw (e:=(12,11,m12_)) 10 rfl rfl (hon 12 (by kernel_rfl)) rfl
    rw [Q_X12_ (hon 12 (by kernel_rfl))] at e11
    have e48:a.tmps[48]?=some (m10_):=by rw [ha];exact zbw (e:=(10,48,m10_)) 8 rfl rfl (hon 10 (by kernel_rfl)) rfl
    rw [Q_X10_ (hon 10 (by kernel_rfl))] at e48
    replace ha:=am_ ha
    have CBa:=am_ (Q_CBa hb_)
    have HI:=am_ Q_HI
    rw [if_pos (by rfl)]
    have HI3:=am_ (Inv.zks (Inv.take HI.out 0 rfl (hon 12 (by kernel_rfl))) (cs':=#[.slice none 0 0,.int .i64 0,.string (⟨#[]⟩:ByteArray),.int .i64 0]) CBa.out.symm)
    refine wp_store_row 38 _ _ rfl p11 (#[.slice X3 x4.length cx3,.int .i64 x5,.string x6,.int .i64 x7]) (zg4 e11) (zg4 e48) 38 (#[.slice none 0 0,.int .i64 0,.string (⟨#[]⟩:ByteArray),.int .i64 0]) HI3.out.blk0 (by kernel_rfl) rfl qz39_ ?_
    have HI2:=am_ (Inv.fill (b 12) (HI3.out.put0 (#[.slice X3 x4.length cx3,.int .i64 x5,.string x6,.int .i64 x7])) 0 rfl)
    refine hK.out _ _ ⟨L1,cl1,SL1,Q1,cq1,T1,SX0,X0,cx0,X1,cx1,X2,cx2,X3,cx3,p11,#[.slice X3 x4.length cx3,.int .i64 x5,.string x6,.int .i64 x7],m2_,m4_,m5_,m6_,m7_,m8_,m9_,m10_,m12_,m13_,m14_,m15_,(by rw [ha.out];exact zi8 (v:=undef) rfl),fun h0_=>absurd ((zh6 b 16).symm.trans h0_) (by decide),fun _=>rfl,HI2.out,Q_X2_,Q_X4_,Q_X5_,Q_X6_,Q_X7_,Q_X8_,Q_X9_,Q_X10_,Q_X12_,Q_X13_,Q_X14_,Q_X15_⟩
   refine zbe ?_ ?_
   ·
    rintro b a w' ⟨L1,cl1,SL1,Q1,cq1,T1,SX0,X0,cx0,X1,cx1,X2,cx2,X3,cx3,p11,CB8,m2_,m4_,m5_,m6_,m7_,m8_,m9_,m10_,m12_,m13_,m14_,m15_,ha,Q_CBa,Q_CBb,Q_HI,Q_X2_,Q_X4_,Q_X5_,Q_X6_,Q_X7_,Q_X8_,Q_X9_,Q_X10_,Q_X12_,Q_X13_,Q_X14_,Q_X15_⟩ hb_ hon hoff
    refine⟨_,rfl,fun K hK=>?_⟩
    have e49:a.tmps[49]?=some (.int .i64 g8):=by rw [ha];exact zbw (e:=(11,49,.int .i64 g8)) 9 rfl rfl (hon 11 (by kernel_rfl)) rfl
    replace ha:=am_ ha
    have CBb:=am_ (Q_CBb (hon 16 (by kernel_rfl)))
    have HI:=am_ Q_HI
    refine zbg (w1:=w') (v:=.int .i64 g8) (by rfl) rfl ?_ ?_
    ·
     go_simp
     (try simp only [i64_w])
     try rfl
    refine hK.out _ _ ⟨L1,cl1,SL1,Q1,cq1,T1,SX0,X0,cx0,X1,cx1,X2,cx2,X3,cx3,p11,CB8,m2_,m4_,m5_,m6_,m7_,m8_,m9_,m10_,m12_,m13_,m14_,m15_,(by rw [ha.out];exact zbh 14 hb_ rfl rfl rfl),fun h0_=>ab_ h0_ (hon 16 (by kernel_rfl)),Q_CBb,Q_HI,Q_X2_,Q_X4_,Q_X5_,Q_X6_,Q_X7_,Q_X8_,Q_X9_,Q_X10_,Q_X12_,Q_X13_,Q_X14_,Q_X15_⟩
   exact zj2
  rintro b a w' hall ⟨L1,cl1,SL1,Q1,cq1,T1,SX0,X0,cx0,X1,cx1,X2,cx2,X3,cx3,p11,CB8,m2_,m4_,m5_,m6_,m7_,m8_,m9_,m10_,m12_,m13_,m14_,m15_,ha,Q_CBa,Q_CBb,Q_HI,Q_X2_,Q_X4_,Q_X5_,Q_X6_,Q_X7_,Q_X8_,Q_X9_,Q_X10_,Q_X12_,Q_X13_,Q_X14_,Q_X15_⟩
  clear CBa HI
  have hb2_:=hall 2 (by kernel_rfl)
  have hb3_:=hall 3 (by kernel_rfl)
  have hb4_:=hall 4 (by kernel_rfl)
  have hb5_:=hall 5 (by kernel_rfl)
  have hb6_:=hall 6 (by kernel_rfl)
  have hb7_:=hall 7 (by kernel_rfl)
  have hb8_:=hall 8 (by kernel_rfl)
  have hb9_:=hall 9 (by kernel_rfl)
  have hb10_:=hall 10 (by kernel_rfl)
  have hb11_:=hall 11 (by kernel_rfl)
  have hb12_:=hall 12 (by kernel_rfl)
  have hb13_:=hall 13 (by kernel_rfl)
  have hb14_:=hall 14 (by kernel_rfl)
  have hb15_:=hall 15 (by kernel_rfl)
  have hb16_:=hall 16 (by kernel_rfl)
  have hb17_:=hall 17 (by kernel_rfl)
  subst ha
  obtain rfl:=Q_X2_ hb2_
  obtain rfl:=Q_X4_ hb4_
  obtain rfl:=Q_X5_ hb5_
  obtain rfl:=Q_X6_ hb6_
  obtain rfl:=Q_X7_ hb7_
  obtain rfl:=Q_X8_ hb8_
  obtain rfl:=Q_X9_ hb9_
  obtain rfl:=Q_X10_ hb10_
  obtain rfl:=Q_X12_ hb12_
  obtain rfl:=Q_X13_ hb13_
  obtain rfl:=Q_X14_ hb14_
  obtain rfl:=Q_X15_ hb15_
  simp only [zd1,hb2_,hb3_,hb4_,hb5_,hb6_,hb7_,hb8_,hb9_,hb10_,hb11_,hb12_,hb13_,hb14_,hb15_,hb16_,hb17_,if_true,Act.put,List.setIfInBounds_toArray,List.set_cons_zero,List.set_cons_succ]
  clear Q_CBa
  have CBb:=am_ (Q_CBb hb16_)
  clear Q_CBb
  have hCB_:=CBb.out
  clear CBb
  subst hCB_
  have HI:=am_ Q_HI
  replace HI:=am_ (Inv.take HI.out 5 rfl hb2_)
  replace HI:=am_ (Inv.take HI.out 5 rfl hb5_)
  replace HI:=am_ (Inv.take HI.out 5 rfl hb5_)
  replace HI:=am_ (Inv.take HI.out 5 rfl hb5_)
  replace HI:=am_ (Inv.take HI.out 5 rfl hb5_)
  replace HI:=am_ (Inv.take HI.out 5 rfl hb12_)
  replace HI:zal (Inv w NoB w' [blk p11 38 #[.slice X3 x4.length cx3,.int .i64 x5,.string x6,.int .i64 x7],rowS (Kd.slice 32 k32) 36 w.heap.size (.slice X0 x1.length cx0) x1 SX0,row k32 32 w.heap.size (.slice X1 x2.length cx1) x2 (fun k=>some k=(Value.ownBlock (.slice X1 x2.length cx1))),row k32 32 w.heap.size (.slice X2 x3.length cx2) x3 (fun k=>some k=(Value.ownBlock (.slice X2 x3.length cx2))),row k32 32 w.heap.size (.slice X3 x4.length cx3) x4 (fun k=>some k=(Value.ownBlock (.slice X3 x4.length cx3))),rowS (Kd.slice 32 k32) 36 w.heap.size (.slice L1 L.length cl1) L SL1,blk p5 26 #[.slice A4 m0.length c4,.int .i64 m1,.string m2,.int .i64 m3]] (fun w2=>Kd.C (Kd.slice 70 k70) w2 A2 l2.length l2∧Kd.C k70 w2 A4 m0.length m0)):=⟨HI.out.subL qz41_⟩
  clear Q_HI
  clear hall hb2_ hb3_ hb4_ hb5_ hb6_ hb7_ hb8_ hb9_ hb10_ hb11_ hb12_ hb13_ hb14_ hb15_ hb16_ hb17_
  go_wp2_with (first|((have hq0_:=cg0);clear hq0_;((go_at_call 22;(with_reducible refine(zbz.calls k A2 c2 l2 L _ HI.out.now.1 HC2.out HTL.out).mono ?_);rintro e w93 ⟨vl_,rfl,hS,hb⟩;obtain⟨L3,cl3,el_⟩:=Kd.zf6 hS;subst el_;replace HI:=am_ (HI.out.zfj hb hS);clear hS hb)))|((go_at_call 22;(with_reducible refine(zbz.calls k A2 c2 l2 L _ HI.out.now.1 HC2.out HTL.out).mono ?_);rintro e w51 ⟨vl_,rfl,hS,hb⟩;obtain⟨L2,cl2,el_⟩:=Kd.zf6 hS;subst el_;replace HI:=am_ (HI.out.zfj hb hS);clear hS hb))|((with_reducible refine zad (N:=52) rfl ?_);go_must (refine wpList_load_row rfl 26 _ rfl p5 rfl 26 (#[.slice A4 m0.length c4,.int .i64 m1,.string m2,.int .i64 m3]) (0,0) _ (HI.out.at_ (blk p5 26 #[.slice A4 m0.length c4,.int .i64 m1,.string m2,.int .i64 m3]) qz47_) hu26 rfl (by kernel_rfl) ?_))|((go_at_call 10;(with_reducible refine(zdj.calls k A4 c4 m0 m1 m2 m3 q0 q1 q2 q3 _ HI.out.now.2 HC4.out HTS.out).mono ?_);rintro e w53 ⟨vq_,rfl,hR,hb⟩;obtain⟨Q2,cq2,eq_⟩:=Kd.zcb hR;subst eq_;replace HI:=am_ (HI.out.zd7 hb hR);clear hR hb))|((with_reducible refine zad (N:=14) rfl ?_);refine zaj rfl (N:=14) rfl (cs:=#[.slice none 0 0,.int .i64 0,.string (⟨#[]⟩:ByteArray),.int .i64 0]) (t:=38) bx_ ?_;intro p14 hg w14_ hbox hb;replace HI:=am_ ((HI.out).box hg hbox hb);clear hb hbox hg)|((with_reducible refine za7 (p:=14) (v:=(.tmp 53)) (t:=38) rfl ?_);go_must (refine wpList_store_row rfl 38 _ _ rfl p14 (#[.slice Q2 q0.length cq2,.int .i64 q1,.string q2,.int .i64 q3]) rfl (by first|rfl|(go_simp;done)|(go_simp;rfl)) 38 (#[.slice none 0 0,.int .i64 0,.string (⟨#[]⟩:ByteArray),.int .i64 0]) (HI.out.get 0 rfl) (by kernel_rfl) rfl qz39_ ?_;replace HI:=am_ (HI.out.put0 (#[.slice Q2 q0.length cq2,.int .i64 q1,.string q2,.int .i64 q3]));generalize World.setRow _ p14 (#[.slice Q2 q0.length cq2,.int .i64 q1,.string q2,.int .i64 q3])=wz53 at HI ⊢))|((with_reducible refine zad (N:=57) rfl ?_);go_must (refine wpList_load_row rfl 38 _ rfl p14 rfl 38 (#[.slice Q2 q0.length cq2,.int .i64 q1,.string q2,.int .i64 q3]) (0,0) _ (HI.out.at_ (blk p14 38 #[.slice Q2 q0.length cq2,.int .i64 q1,.string q2,.int .i64 q3]) qz47_) hu38 rfl (by kernel_rfl) ?_))|((go_at_call 23;(with_reducible refine(zck.calls k kind L2 cl2 L Q2 cq2 q0 q1 q2 q3 g1 g2 g3 g4 g5 g6 g7 g8 _ (rowSC (HI.out.at_ (rowS (Kd.slice 32 k32) 36 w.heap.size (.slice L2 L.length cl2) L _) qz47_)).2.2 (rowSC (HI.out.at_ (rowS (Kd.slice 32 k32) 36 w.heap.size (.slice L2 L.length cl2) L _) qz47_)).2.1 (rowC (HI.out.at_ (row k32 32 w.heap.size (.slice Q2 q0.length cq2) q0 _) qz47_)).2.2 (rowC (HI.out.at_ (row k32 32 w.heap.size (.slice Q2 q0.length cq2) q0 _) qz47_)).2.1 HIV.out).mono ?_);rintro e w58 ⟨v0_,v1_,v2_,v3_,rfl,hS0,hR1,hR2,hR3,hb⟩;obtain⟨G0,cg0,ex_⟩:=Kd.zf6 hS0;subst ex_;obtain⟨G1,cg1,ex_⟩:=Kd.zcb hR1;subst ex_;obtain⟨G2,cg2,ex_⟩:=Kd.zcb hR2;subst ex_;obtain⟨G3,cg3,ex_⟩:=Kd.zcb hR3;subst ex_;replace HI:=am_ (Inv.zkw rfl HI.out.nil0 ((Agr.of_below hb).mono (fun _ h=>h.elim)) hS0 hR1 hR2 hR3);clear hS0 hR1 hR2 hR3 hb))|((with_reducible refine zad (N:=18) rfl ?_);refine zaj rfl (N:=18) rfl (cs:=#[.slice none 0 0,.int .i64 0,.string (⟨#[]⟩:ByteArray),.int .i64 0]) (t:=38) bx_ ?_;intro p18 hg w18_ hbox hb;replace HI:=am_ ((HI.out).box hg hbox hb);clear hb hbox hg)|((with_reducible refine za7 (p:=18) (v:=(.tmp 62)) (t:=38) rfl ?_);go_must (refine wpList_store_row rfl 38 _ _ rfl p18 (#[.slice G3 g4.length cg3,.int .i64 g5,.string g6,.int .i64 g7]) rfl (by first|rfl|(go_simp;done)|(go_simp;rfl)) 38 (#[.slice none 0 0,.int .i64 0,.string (⟨#[]⟩:ByteArray),.int .i64 0]) (HI.out.get 0 rfl) (by kernel_rfl) rfl qz39_ ?_;replace HI:=am_ (HI.out.put0 (#[.slice G3 g4.length cg3,.int .i64 g5,.string g6,.int .i64 g7]));generalize World.setRow _ p18 (#[.slice G3 g4.length cg3,.int .i64 g5,.string g6,.int .i64 g7])=wz62 at HI ⊢))|(go_at_call 24;(with_reducible refine(za2.calls k G0 cg0 g1 X0 cx0 x1 true _ (rowSC (HI.out.at_ (rowS (Kd.slice 32 k32) 36 w.heap.size (.slice G0 g1.length cg0) g1 _) qz47_)).2.2 (rowSC (HI.out.at_ (rowS (Kd.slice 32 k32) 36 w.heap.size (.slice G0 g1.length cg0) g1 _) qz47_)).2.1 (rowSC (HI.out.at_ (rowS (Kd.slice 32 k32) 36 w.heap.size (.slice X0 x1.length cx0) x1 _) qz47_)).2.2 (rowSC (HI.out.at_ (rowS (Kd.slice 32 k32) 36 w.heap.size (.slice X0 x1.length cx0) x1 _) qz47_)).2.1 HQ1.out).mono ?_);rintro e w66 ⟨rfl,hb⟩;replace HI:=am_ (HI.out.grow hb);clear hb)|(go_at_call 14;(with_reducible refine(zas.calls k G1 cg1 g2 X1 cx1 x2 true _ (rowC (HI.out.at_ (row k32 32 w.heap.size (.slice G1 g2.length cg1) g2 _) qz47_)).2.2 (rowC (HI.out.at_ (row k32 32 w.heap.size (.slice G1 g2.length cg1) g2 _) qz47_)).2.1 (rowC (HI.out.at_ (row k32 32 w.heap.size (.slice X1 x2.length cx1) x2 _) qz47_)).2.2 (rowC (HI.out.at_ (row k32 32 w.heap.size (.slice X1 x2.length cx1) x2 _) qz47_)).2.1 HQ2.out).mono ?_);rintro e w67 ⟨rfl,hb⟩;replace HI:=am_ (HI.out.grow hb);clear hb)|(go_at_call 14;(with_reducible refine(zas.calls k G2 cg2 g3 X2 cx2 x3 true _ (rowC (HI.out.at_ (row k32 32 w.heap.size (.slice G2 g3.length cg2) g3 _) qz47_)).2.2 (rowC (HI.out.at_ (row k32 32 w.heap.size (.slice G2 g3.length cg2) g3 _) qz47_)).2.1 (rowC (HI.out.at_ (row k32 32 w.heap.size (.slice X2 x3.length cx2) x3 _) qz47_)).2.2 (rowC (HI.out.at_ (row k32 32 w.heap.size (.slice X2 x3.length cx2) x3 _) qz47_)).2.1 HQ3.out).mono ?_);rintro e w68 ⟨rfl,hb⟩;replace HI:=am_ (HI.out.grow hb);clear hb;have ha0:World.cell? _ ⟨p18,0,none⟩=some (.slice G3 g4.length cg3):=(zaa (HI.out.at_ (blk p18 38 #[.slice G3 g4.length cg3,.int .i64 g5,.string g6,.int .i64 g7]) qz47_) 0).trans rfl;have ha1:World.cell? _ ⟨p18,1,none⟩=some (.int .i64 g5):=(zaa (HI.out.at_ (blk p18 38 #[.slice G3 g4.length cg3,.int .i64 g5,.string g6,.int .i64 g7]) qz47_) 1).trans rfl;have ha2:World.cell? _ ⟨p18,2,none⟩=some (.string g6):=(zaa (HI.out.at_ (blk p18 38 #[.slice G3 g4.length cg3,.int .i64 g5,.string g6,.int .i64 g7]) qz47_) 2).trans rfl;have ha3:World.cell? _ ⟨p18,3,none⟩=some (.int .i64 g7):=(zaa (HI.out.at_ (blk p18 38 #[.slice G3 g4.length cg3,.int .i64 g5,.string g6,.int .i64 g7]) qz47_) 3).trans rfl;have hab0:World.cell? _ ⟨p11,0,none⟩=some (.slice X3 x4.length cx3):=(zaa (HI.out.at_ (blk p11 38 #[.slice X3 x4.length cx3,.int .i64 x5,.string x6,.int .i64 x7]) qz47_) 0).trans rfl;have hab1:World.cell? _ ⟨p11,1,none⟩=some (.int .i64 x5):=(zaa (HI.out.at_ (blk p11 38 #[.slice X3 x4.length cx3,.int .i64 x5,.string x6,.int .i64 x7]) qz47_) 1).trans rfl;have hab2:World.cell? _ ⟨p11,2,none⟩=some (.string x6):=(zaa (HI.out.at_ (blk p11 38 #[.slice X3 x4.length cx3,.int .i64 x5,.string x6,.int .i64 x7]) qz47_) 2).trans rfl;have hab3:World.cell? _ ⟨p11,3,none⟩=some (.int .i64 x7):=(zaa (HI.out.at_ (blk p11 38 #[.slice X3 x4.length cx3,.int .i64 x5,.string x6,.int .i64 x7]) qz47_) 3).trans rfl)|(go_at_call 13;(with_reducible refine(zc6.calls k G3 cg3 g4 g5 g6 g7 X3 cx3 x4 x5 x6 x7 true _ (rowC (HI.out.at_ (row k32 32 w.heap.size (.slice G3 g4.length cg3) g4 _) qz47_)).2.2 (rowC (HI.out.at_ (row k32 32 w.heap.size (.slice G3 g4.length cg3) g4 _) qz47_)).2.1 (rowC (HI.out.at_ (row k32 32 w.heap.size (.slice X3 x4.length cx3) x4 _) qz47_)).2.2 (rowC (HI.out.at_ (row k32 32 w.heap.size (.slice X3 x4.length cx3) x4 _) qz47_)).2.1 HQ4.out).mono ?_);rintro e w69 ⟨rfl,hb⟩;replace HI:=am_ (HI.out.grow hb);clear hb)|(go_at_call 24;(with_reducible refine(za2.calls k L2 cl2 L L3 cl3 L true _ (rowSC (HI.out.at_ (rowS (Kd.slice 32 k32) 36 w.heap.size (.slice L2 L.length cl2) L _) qz47_)).2.2 (rowSC (HI.out.at_ (rowS (Kd.slice 32 k32) 36 w.heap.size (.slice L2 L.length cl2) L _) qz47_)).2.1 (rowSC (HI.out.at_ (rowS (Kd.slice 32 k32) 36 w.heap.size (.slice L3 L.length cl3) L _) qz47_)).2.2 (rowSC (HI.out.at_ (rowS (Kd.slice 32 k32) 36 w.heap.size (.slice L3 L.length cl3) L _) qz47_)).2.1 HQ5.out).mono ?_);rintro e w94 ⟨rfl,hb⟩;replace HI:=am_ (HI.out.grow hb);clear hb))
  refine zcn (n:=5) (S:=fun w'=>w'.cell? ⟨p14,0,none⟩=some (.slice Q2 q0.length cq2)∧w'.cell? ⟨p14,1,none⟩=some (.int .i64 q1)∧w'.cell? ⟨p14,2,none⟩=some (.string q2)∧w'.cell? ⟨p14,3,none⟩=some (.int .i64 q3)∧w'.cell? ⟨p5,0,none⟩=some (.slice A4 m0.length c4)∧w'.cell? ⟨p5,1,none⟩=some (.int .i64 m1)∧w'.cell? ⟨p5,2,none⟩=some (.string m2)∧w'.cell? ⟨p5,3,none⟩=some (.int .i64 m3)) (ds:=[]) (bs_ 5 0) (by kernel_rfl) rfl rfl ⟨(zaa (HI.out.drew.at_ (blk p14 38 #[.slice Q2 q0.length cq2,.int .i64 q1,.string q2,.int .i64 q3]) qz47_) 0).trans rfl,(zaa (HI.out.drew.at_ (blk p14 38 #[.slice Q2 q0.length cq2,.int .i64 q1,.string q2,.int .i64 q3]) qz47_) 1).trans rfl,(zaa (HI.out.drew.at_ (blk p14 38 #[.slice Q2 q0.length cq2,.int .i64 q1,.string q2,.int .i64 q3]) qz47_) 2).trans rfl,(zaa (HI.out.drew.at_ (blk p14 38 #[.slice Q2 q0.length cq2,.int .i64 q1,.string q2,.int .i64 q3]) qz47_) 3).trans rfl,(zaa (HI.out.drew.at_ (blk p5 26 #[.slice A4 m0.length c4,.int .i64 m1,.string m2,.int .i64 m3]) qz47_) 0).trans rfl,(zaa (HI.out.drew.at_ (blk p5 26 #[.slice A4 m0.length c4,.int .i64 m1,.string m2,.int .i64 m3]) qz47_) 1).trans rfl,(zaa (HI.out.drew.at_ (blk p5 26 #[.slice A4 m0.length c4,.int .i64 m1,.string m2,.int .i64 m3]) qz47_) 2).trans rfl,(zaa (HI.out.drew.at_ (blk p5 26 #[.slice A4 m0.length c4,.int .i64 m1,.string m2,.int .i64 m3]) qz47_) 3).trans rfl⟩ (fun hHeld=>?_)
  replace HI:=am_ (HI.out.drew)
  generalize World.drew _=wd0 at HI hHeld ⊢
  refine tk_ 0 (bs_ 5 1) hHeld ?_
  refine tk_ 1 (bs_ 5 3) hHeld ?_
  refine on_ 2 (some 98) (bs_ 5 7) (fun K hK=>?_)
  refine go_ Tryz.func10 #[.agg #[.slice A4 m0.length c4,.int .i64 m1,.string m2,.int .i64 m3]] ?_
  with_reducible refine(zdj.calls k A4 c4 m0 m1 m2 m3 q0 q1 q2 q3 _ HI.out.now.2 HC4.out HTS.out).mono ?_
  rintro e w97 ⟨vq_,rfl,hR,hb⟩
  obtain⟨Q3,cq3,eq_⟩:=Kd.zcb hR
  subst eq_
  refine⟨_,rfl,?_⟩
  replace HI:=am_ (HI.out.zd7 hb hR)
  clear hR hb
  refine hK.out _ _ ⟨(zaa (HI.out.at_ (blk p14 38 #[.slice Q2 q0.length cq2,.int .i64 q1,.string q2,.int .i64 q3]) qz47_) 0).trans rfl,(zaa (HI.out.at_ (blk p14 38 #[.slice Q2 q0.length cq2,.int .i64 q1,.string q2,.int .i64 q3]) qz47_) 1).trans rfl,(zaa (HI.out.at_ (blk p14 38 #[.slice Q2 q0.length cq2,.int .i64 q1,.string q2,.int .i64 q3]) qz47_) 2).trans rfl,(zaa (HI.out.at_ (blk p14 38 #[.slice Q2 q0.length cq2,.int .i64 q1,.string q2,.int .i64 q3]) qz47_) 3).trans rfl,(zaa (HI.out.at_ (blk p5 26 #[.slice A4 m0.length c4,.int .i64 m1,.string m2,.int .i64 m3]) qz47_) 0).trans rfl,(zaa (HI.out.at_ (blk p5 26 #[.slice A4 m0.length c4,.int .i64 m1,.string m2,.int .i64 m3]) qz47_) 1).trans rfl,(zaa (HI.out.at_ (blk p5 26 #[.slice A4 m0.length c4,.int .i64 m1,.string m2,.int .i64 m3]) qz47_) 2).trans rfl,(zaa (HI.out.at_ (blk p5 26 #[.slice A4 m0.length c4,.int .i64 m1,.string m2,.int .i64 m3]) qz47_) 3).trans rfl⟩ (fun hHeld=>?_)
  clear hK K
  refine nm_ 98 ?_
  refine on_ 3 (some 99) (bs_ 5 15) (fun K hK=>?_)
  refine go_ Tryz.func13 #[.agg #[.slice Q2 q0.length cq2,.int .i64 q1,.string q2,.int .i64 q3],.agg #[.slice Q3 q0.length cq3,.int .i64 q1,.string q2,.int .i64 q3]] ?_
  with_reducible refine(zc6.calls k Q2 cq2 q0 q1 q2 q3 Q3 cq3 q0 q1 q2 q3 true _ (rowC (HI.out.at_ (row k32 32 w.heap.size (.slice Q2 q0.length cq2) q0 _) qz47_)).2.2 (rowC (HI.out.at_ (row k32 32 w.heap.size (.slice Q2 q0.length cq2) q0 _) qz47_)).2.1 (rowC (HI.out.at_ (row k32 32 w.heap.size (.slice Q3 q0.length cq3) q0 _) qz47_)).2.2 (rowC (HI.out.at_ (row k32 32 w.heap.size (.slice Q3 q0.length cq3) q0 _) qz47_)).2.1 HQ6.out).mono ?_
  rintro e w98 ⟨rfl,hb⟩
  refine⟨_,rfl,?_⟩
  replace HI:=am_ (HI.out.grow hb)
  clear hb
  refine hK.out _ _ ⟨(zaa (HI.out.at_ (blk p14 38 #[.slice Q2 q0.length cq2,.int .i64 q1,.string q2,.int .i64 q3]) qz47_) 0).trans rfl,(zaa (HI.out.at_ (blk p14 38 #[.slice Q2 q0.length cq2,.int .i64 q1,.string q2,.int .i64 q3]) qz47_) 1).trans rfl,(zaa (HI.out.at_ (blk p14 38 #[.slice Q2 q0.length cq2,.int .i64 q1,.string q2,.int .i64 q3]) qz47_) 2).trans rfl,(zaa (HI.out.at_ (blk p14 38 #[.slice Q2 q0.length cq2,.int .i64 q1,.string q2,.int .i64 q3]) qz47_) 3).trans rfl,(zaa (HI.out.at_ (blk p5 26 #[.slice A4 m0.length c4,.int .i64 m1,.string m2,.int .i64 m3]) qz47_) 0).trans rfl,(zaa (HI.out.at_ (blk p5 26 #[.slice A4 m0.length c4,.int .i64 m1,.string m2,.int .i64 m3]) qz47_) 1).trans rfl,(zaa (HI.out.at_ (blk p5 26 #[.slice A4 m0.length c4,.int .i64 m1,.string m2,.int .i64 m3]) qz47_) 2).trans rfl,(zaa (HI.out.at_ (blk p5 26 #[.slice A4 m0.length c4,.int .i64 m1,.string m2,.int .i64 m3]) qz47_) 3).trans rfl⟩ (fun hHeld=>?_)
  clear hK K
  refine nm_ 99 ?_
  refine pu_ 4 100 (bs_ 5 31) ?_
  refine done_ (by kernel_rfl) ?_
  replace HI:zal (Inv w NoB _ [blk p18 38 #[.slice G3 g4.length cg3,.int .i64 g5,.string g6,.int .i64 g7],rowS (Kd.slice 32 k32) 36 w.heap.size (.slice G0 g1.length cg0) g1 _,row k32 32 w.heap.size (.slice G1 g2.length cg1) g2 _,row k32 32 w.heap.size (.slice G2 g3.length cg2) g3 _,row k32 32 w.heap.size (.slice G3 g4.length cg3) g4 _,blk p14 38 #[.slice Q2 q0.length cq2,.int .i64 q1,.string q2,.int .i64 q3],row k32 32 w.heap.size (.slice Q2 q0.length cq2) q0 _,rowS (Kd.slice 32 k32) 36 w.heap.size (.slice L2 L.length cl2) L _,blk p11 38 #[.slice X3 x4.length cx3,.int .i64 x5,.string x6,.int .i64 x7],rowS (Kd.slice 32 k32) 36 w.heap.size (.slice X0 x1.length cx0) x1 SX0,row k32 32 w.heap.size (.slice X1 x2.length cx1) x2 (fun k=>some k=(Value.ownBlock (.slice X1 x2.length cx1))),row k32 32 w.heap.size (.slice X2 x3.length cx2) x3 (fun k=>some k=(Value.ownBlock (.slice X2 x3.length cx2))),row k32 32 w.heap.size (.slice X3 x4.length cx3) x4 (fun k=>some k=(Value.ownBlock (.slice X3 x4.length cx3))),blk p5 26 #[.slice A4 m0.length c4,.int .i64 m1,.string m2,.int .i64 m3]] (fun w2=>Kd.C (Kd.slice 70 k70) w2 A2 l2.length l2∧Kd.C k70 w2 A4 m0.length m0)):=⟨HI.out.subL qz41_⟩
  go_wp2_with (first|(go_at_call 25;(with_reducible refine(zeu.calls k _ (.slice L2 L.length cl2) L 1 n1 Lm w _ HI.out.below (HI.out.get 7 rfl) HM1.out).mono ?_);rintro e wm ⟨rfl,hR,hB2,hk⟩;replace HI:=am_ (Inv.lose (HI.out.front 7 rfl) (Agr.zi3 hk HI.out.below hB2 (fun _ h=>h)));simp only [List.eraseIdx_cons_succ,List.eraseIdx_cons_zero] at HI;clear hR hB2 hk)|((with_reducible refine zad (N:=104) rfl ?_);go_must (refine wpList_load_row rfl 38 _ rfl p14 rfl 38 (#[.slice Q2 q0.length cq2,.int .i64 q1,.string q2,.int .i64 q3]) (0,0) _ (HI.out.at_ (blk p14 38 #[.slice Q2 q0.length cq2,.int .i64 q1,.string q2,.int .i64 q3]) qz47_) hu38 rfl (by kernel_rfl) ?_))|((go_at_call 16;(with_reducible refine(zc4.calls k _ (.slice Q2 q0.length cq2) q0 q1 q2 q3 n1 n2 ql w _ HI.out.below (HI.out.get 6 rfl) HM2.out).mono ?_);rintro e w105 ⟨rfl,_,hB2,hk⟩;replace HI:=am_ (Inv.lose (HI.out.front 6 rfl) (Agr.zi3 hk HI.out.below hB2 (fun _ h=>h)));simp only [List.eraseIdx_cons_succ,List.eraseIdx_cons_zero] at HI;clear hB2 hk))|(go_at_call 24;(with_reducible refine(za2.calls k G0 cg0 g1 X0 cx0 x1 true _ (rowSC (HI.out.at_ (rowS (Kd.slice 32 k32) 36 w.heap.size (.slice G0 g1.length cg0) g1 _) qz47_)).2.2 (rowSC (HI.out.at_ (rowS (Kd.slice 32 k32) 36 w.heap.size (.slice G0 g1.length cg0) g1 _) qz47_)).2.1 (rowSC (HI.out.at_ (rowS (Kd.slice 32 k32) 36 w.heap.size (.slice X0 x1.length cx0) x1 _) qz47_)).2.2 (rowSC (HI.out.at_ (rowS (Kd.slice 32 k32) 36 w.heap.size (.slice X0 x1.length cx0) x1 _) qz47_)).2.1 HQ1.out).mono ?_);rintro e w112 ⟨rfl,hb⟩;replace HI:=am_ (HI.out.grow hb);clear hb)|(go_at_call 14;(with_reducible refine(zas.calls k G1 cg1 g2 X1 cx1 x2 true _ (rowC (HI.out.at_ (row k32 32 w.heap.size (.slice G1 g2.length cg1) g2 _) qz47_)).2.2 (rowC (HI.out.at_ (row k32 32 w.heap.size (.slice G1 g2.length cg1) g2 _) qz47_)).2.1 (rowC (HI.out.at_ (row k32 32 w.heap.size (.slice X1 x2.length cx1) x2 _) qz47_)).2.2 (rowC (HI.out.at_ (row k32 32 w.heap.size (.slice X1 x2.length cx1) x2 _) qz47_)).2.1 HQ2.out).mono ?_);rintro e w113 ⟨rfl,hb⟩;replace HI:=am_ (HI.out.grow hb);clear hb)|(go_at_call 14;(with_reducible refine(zas.calls k G2 cg2 g3 X2 cx2 x3 true _ (rowC (HI.out.at_ (row k32 32 w.heap.size (.slice G2 g3.length cg2) g3 _) qz47_)).2.2 (rowC (HI.out.at_ (row k32 32 w.heap.size (.slice G2 g3.length cg2) g3 _) qz47_)).2.1 (rowC (HI.out.at_ (row k32 32 w.heap.size (.slice X2 x3.length cx2) x3 _) qz47_)).2.2 (rowC (HI.out.at_ (row k32 32 w.heap.size (.slice X2 x3.length cx2) x3 _) qz47_)).2.1 HQ3.out).mono ?_);rintro e w114 ⟨rfl,hb⟩;replace HI:=am_ (HI.out.grow hb);clear hb;have hc0:World.cell? _ ⟨p18,0,none⟩=some (.slice G3 g4.length cg3):=(zaa (HI.out.at_ (blk p18 38 #[.slice G3 g4.length cg3,.int .i64 g5,.string g6,.int .i64 g7]) qz47_) 0).trans rfl;have hc1:World.cell? _ ⟨p18,1,none⟩=some (.int .i64 g5):=(zaa (HI.out.at_ (blk p18 38 #[.slice G3 g4.length cg3,.int .i64 g5,.string g6,.int .i64 g7]) qz47_) 1).trans rfl;have hc2:World.cell? _ ⟨p18,2,none⟩=some (.string g6):=(zaa (HI.out.at_ (blk p18 38 #[.slice G3 g4.length cg3,.int .i64 g5,.string g6,.int .i64 g7]) qz47_) 2).trans rfl;have hc3:World.cell? _ ⟨p18,3,none⟩=some (.int .i64 g7):=(zaa (HI.out.at_ (blk p18 38 #[.slice G3 g4.length cg3,.int .i64 g5,.string g6,.int .i64 g7]) qz47_) 3).trans rfl;have hcb0:World.cell? _ ⟨p11,0,none⟩=some (.slice X3 x4.length cx3):=(zaa (HI.out.at_ (blk p11 38 #[.slice X3 x4.length cx3,.int .i64 x5,.string x6,.int .i64 x7]) qz47_) 0).trans rfl;have hcb1:World.cell? _ ⟨p11,1,none⟩=some (.int .i64 x5):=(zaa (HI.out.at_ (blk p11 38 #[.slice X3 x4.length cx3,.int .i64 x5,.string x6,.int .i64 x7]) qz47_) 1).trans rfl;have hcb2:World.cell? _ ⟨p11,2,none⟩=some (.string x6):=(zaa (HI.out.at_ (blk p11 38 #[.slice X3 x4.length cx3,.int .i64 x5,.string x6,.int .i64 x7]) qz47_) 2).trans rfl;have hcb3:World.cell? _ ⟨p11,3,none⟩=some (.int .i64 x7):=(zaa (HI.out.at_ (blk p11 38 #[.slice X3 x4.length cx3,.int .i64 x5,.string x6,.int .i64 x7]) qz47_) 3).trans rfl)|(go_at_call 13;(with_reducible refine(zc6.calls k G3 cg3 g4 g5 g6 g7 X3 cx3 x4 x5 x6 x7 true _ (rowC (HI.out.at_ (row k32 32 w.heap.size (.slice G3 g4.length cg3) g4 _) qz47_)).2.2 (rowC (HI.out.at_ (row k32 32 w.heap.size (.slice G3 g4.length cg3) g4 _) qz47_)).2.1 (rowC (HI.out.at_ (row k32 32 w.heap.size (.slice X3 x4.length cx3) x4 _) qz47_)).2.2 (rowC (HI.out.at_ (row k32 32 w.heap.size (.slice X3 x4.length cx3) x4 _) qz47_)).2.1 HQ4.out).mono ?_);rintro e w115 ⟨rfl,hb⟩;replace HI:=am_ (HI.out.grow hb);clear hb)|(go_at_call 25;(with_reducible refine(zeu.calls k _ (.slice G0 g1.length cg0) g1 1 n3 h1 w _ HI.out.below (HI.out.get 1 rfl) HM3.out).mono ?_);rintro e wm ⟨rfl,hR,hB2,hk⟩;replace HI:=am_ (Inv.keptS (HI.out.front 1 rfl) hB2 hk hR);simp only [List.eraseIdx_cons_succ,List.eraseIdx_cons_zero] at HI;clear hR hB2 hk)|(go_at_call 15;(with_reducible refine(zbb.calls k _ (.slice G1 g2.length cg1) g2 n3 n4 h2 w _ HI.out.below (HI.out.get 2 rfl) HM4.out).mono ?_);rintro e wm ⟨rfl,hR,hB2,hk⟩;replace HI:=am_ (Inv.kept0 (HI.out.front 2 rfl) hB2 hk hR (fun _ h=>h));simp only [List.eraseIdx_cons_succ,List.eraseIdx_cons_zero] at HI;clear hR hB2 hk)|(go_at_call 15;(with_reducible refine(zbb.calls k _ (.slice G2 g3.length cg2) g3 n4 n5 h3 w _ HI.out.below (HI.out.get 3 rfl) HM5.out).mono ?_);rintro e wm ⟨rfl,hR,hB2,hk⟩;replace HI:=am_ (Inv.kept0 (HI.out.front 3 rfl) hB2 hk hR (fun _ h=>h));simp only [List.eraseIdx_cons_succ,List.eraseIdx_cons_zero] at HI;clear hR hB2 hk)|((with_reducible refine zad (N:=147) rfl ?_);go_must (refine wpList_load_row rfl 38 _ rfl p18 rfl 38 (#[.slice G3 g4.length cg3,.int .i64 g5,.string g6,.int .i64 g7]) (0,0) _ (HI.out.at_ (blk p18 38 #[.slice G3 g4.length cg3,.int .i64 g5,.string g6,.int .i64 g7]) qz47_) hu38 rfl (by kernel_rfl) ?_))|((go_at_call 16;(with_reducible refine(zc4.calls k _ (.slice G3 g4.length cg3) g4 g5 g6 g7 n5 b4 h4 w _ HI.out.below (HI.out.get 4 rfl) HM6.out).mono ?_);rintro e w136 ⟨rfl,hR,hB2,hk⟩;replace HI:=am_ (Inv.kept0 (HI.out.front 4 rfl) hB2 hk hR (fun _ h=>h));simp only [List.eraseIdx_cons_succ,List.eraseIdx_cons_zero] at HI;clear hR hB2 hk))|((go_at_call 26;(with_reducible refine(zjl k 1 b1 _ (rowSR (HI.out.at_ (rowS (Kd.slice 32 k32) 36 w.heap.size (.slice G0 g1.length cg0) h1 _) qz47_)) HH1.out).mono ?_);rintro e w152 ⟨rfl,⟨n152,rfl⟩⟩;replace HI:=am_ (HI.out.drewN n152);generalize World.drewN _ n152=wn152 at HI ⊢))|((go_at_call 27;(with_reducible refine(zg6 k b1 b2 _ (rowR (HI.out.at_ (row k32 32 w.heap.size (.slice G1 g2.length cg1) h2 _) qz47_)) HH2.out).mono ?_);rintro e w157 ⟨rfl,⟨n157,rfl⟩⟩;replace HI:=am_ (HI.out.drewN n157);generalize World.drewN _ n157=wn157 at HI ⊢))|((go_at_call 27;(with_reducible refine(zg6 k b2 b3 _ (rowR (HI.out.at_ (row k32 32 w.heap.size (.slice G2 g3.length cg2) h3 _) qz47_)) HH3.out).mono ?_);rintro e w162 ⟨rfl,⟨n162,rfl⟩⟩;replace HI:=am_ (HI.out.drewN n162);generalize World.drewN _ n162=wn162 at HI ⊢))|((with_reducible refine zad (N:=165) rfl ?_);go_must (refine wpList_load_row rfl 38 _ rfl p18 rfl 38 (#[.slice G3 g4.length cg3,.int .i64 g5,.string g6,.int .i64 g7]) (0,0) _ (HI.out.at_ (blk p18 38 #[.slice G3 g4.length cg3,.int .i64 g5,.string g6,.int .i64 g7]) qz47_) hu38 rfl (by kernel_rfl) ?_))|((go_at_call 19;(with_reducible refine(zim k g5 g6 g7 b3 b4 _ (rowR (HI.out.at_ (row k32 32 w.heap.size (.slice G3 g4.length cg3) h4 _) qz47_)) HH4.out).mono ?_);rintro e w167 ⟨rfl,hb⟩;replace HI:=am_ (HI.out.grow hb);clear hb)))
  replace HI:zal (Inv w NoB _ [row k32 32 w.heap.size (.slice G3 g4.length cg3) h4 _,row k32 32 w.heap.size (.slice G2 g3.length cg2) h3 _,row k32 32 w.heap.size (.slice G1 g2.length cg1) h2 _,rowS (Kd.slice 32 k32) 36 w.heap.size (.slice G0 g1.length cg0) h1 _,blk p18 38 #[.slice G3 g4.length cg3,.int .i64 g5,.string g6,.int .i64 g7],blk p11 38 #[.slice X3 x4.length cx3,.int .i64 x5,.string x6,.int .i64 x7],rowS (Kd.slice 32 k32) 36 w.heap.size (.slice X0 x1.length cx0) x1 SX0,row k32 32 w.heap.size (.slice X1 x2.length cx1) x2 (fun k=>some k=(Value.ownBlock (.slice X1 x2.length cx1))),row k32 32 w.heap.size (.slice X2 x3.length cx2) x3 (fun k=>some k=(Value.ownBlock (.slice X2 x3.length cx2))),row k32 32 w.heap.size (.slice X3 x4.length cx3) x4 (fun k=>some k=(Value.ownBlock (.slice X3 x4.length cx3))),blk p5 26 #[.slice A4 m0.length c4,.int .i64 m1,.string m2,.int .i64 m3]] (fun w2=>Kd.C (Kd.slice 70 k70) w2 A2 l2.length l2∧Kd.C k70 w2 A4 m0.length m0)):=⟨HI.out.subL qz41_⟩
  have HE_:∃ (SM3:Nat→Prop) (SM2:Nat→Prop) (SM1:Nat→Prop) (SM0:Nat→Prop),Inv w NoB _ [row k32 32 w.heap.size (.slice G3 g4.length cg3) h4 SM3,row k32 32 w.heap.size (.slice G2 g3.length cg2) h3 SM2,row k32 32 w.heap.size (.slice G1 g2.length cg1) h2 SM1,rowS (Kd.slice 32 k32) 36 w.heap.size (.slice G0 g1.length cg0) h1 SM0,blk p18 38 #[.slice G3 g4.length cg3,.int .i64 g5,.string g6,.int .i64 g7],blk p11 38 #[.slice X3 x4.length cx3,.int .i64 x5,.string x6,.int .i64 x7],rowS (Kd.slice 32 k32) 36 w.heap.size (.slice X0 x1.length cx0) x1 SX0,row k32 32 w.heap.size (.slice X1 x2.length cx1) x2 (fun k=>some k=(Value.ownBlock (.slice X1 x2.length cx1))),row k32 32 w.heap.size (.slice X2 x3.length cx2) x3 (fun k=>some k=(Value.ownBlock (.slice X2 x3.length cx2))),row k32 32 w.heap.size (.slice X3 x4.length cx3) x4 (fun k=>some k=(Value.ownBlock (.slice X3 x4.length cx3))),blk p5 26 #[.slice A4 m0.length c4,.int .i64 m1,.string m2,.int .i64 m3]] (fun w2=>Kd.C (Kd.slice 70 k70) w2 A2 l2.length l2∧Kd.C k70 w2 A4 m0.length m0):=⟨_,_,_,_,HI.out⟩
  clear HI
  obtain⟨SM3,SM2,SM1,SM0,HI_⟩:=HE_
  have HI:=am_ HI_
  clear HI_
  refine zcn (n:=18) (S:=fun w'=>True) (ds:=[]) (bs_ 18 0) (by kernel_rfl) rfl rfl trivial (fun hHeld=>?_)
  refine zcj zaq.tab43 zaq.bits43 (fun HT_ HW_=>?_)
  have CBa:True:=trivial
  replace HI:=am_ (HI.out.drew)
  generalize World.drew _=wd43 at HI ⊢
  refine pt_ HT_.out 0 174 (bs_ 18 1) ?_
  refine pt_ HT_.out 1 175 (bs_ 18 3) ?_
  refine zpq [2,3,4,5,6,7,8,9,10,11,12,13,14,15,16,17] (fun a0_ b a w'=>∃ (L4:Option Addr) (cl4:Nat) (SL4:Nat→Prop) (Q4:Option Addr) (cq4:Nat) (T4:Nat→Prop) (SH0:Nat→Prop) (H0:Option Addr) (ch0:Nat) (H1:Option Addr) (ch1:Nat) (H2:Option Addr) (ch2:Nat) (H3:Option Addr) (ch3:Nat) (p26:Nat) (CB43:Array Value) (m2_:Value) (m4_:Value) (m5_:Value) (m6_:Value) (m7_:Value) (m8_:Value) (m9_:Value) (m10_:Value) (m12_:Value) (m13_:Value) (m14_:Value) (m15_:Value),a=zd1 a0_ b [(2,176,m2_),(3,177,.agg #[.slice A4 m0.length c4,.int .i64 m1,.string m2,.int .i64 m3]),(4,178,m4_),(5,179,m5_),(6,173,m6_),(7,180,m7_),(8,181,m8_),(9,182,m9_),(10,183,m10_),(11,184,.int .i64 g8),(12,26,m12_),(13,23,m13_),(14,24,m14_),(15,25,m15_),(17,27,.int .i64 g8)]∧(b 16=false→CB43=#[.slice none 0 0,.int .i64 0,.string (⟨#[]⟩:ByteArray),.int .i64 0])∧(b 16=true→CB43=#[.slice H3 g4.length ch3,.int .i64 g5,.string g6,.int .i64 g7])∧(Inv w NoB w' [gif (b 12) (blk p26 38 CB43),gif (b 5) (rowS (Kd.slice 32 k32) 36 w.heap.size (.slice H0 g1.length ch0) g1 SH0),gif (b 5) (row k32 32 w.heap.size (.slice H1 g2.length ch1) g2 (fun k=>some k=(Value.ownBlock (.slice H1 g2.length ch1)))),gif (b 5) (row k32 32 w.heap.size (.slice H2 g3.length ch2) g3 (fun k=>some k=(Value.ownBlock (.slice H2 g3.length ch2)))),gif (b 5) (row k32 32 w.heap.size (.slice H3 g4.length ch3) g4 (fun k=>some k=(Value.ownBlock (.slice H3 g4.length ch3)))),gif (b 2) (rowS (Kd.slice 32 k32) 36 w.heap.size (.slice L4 L.length cl4) L SL4),gif (b 4) (row k32 32 w.heap.size (.slice Q4 q0.length cq4) q0 T4),row k32 32 w.heap.size (.slice G3 g4.length cg3) h4 SM3,row k32 32 w.heap.size (.slice G2 g3.length cg2) h3 SM2,row k32 32 w.heap.size (.slice G1 g2.length cg1) h2 SM1,rowS (Kd.slice 32 k32) 36 w.heap.size (.slice G0 g1.length cg0) h1 SM0,blk p18 38 #[.slice G3 g4.length cg3,.int .i64 g5,.string g6,.int .i64 g7],blk p11 38 #[.slice X3 x4.length cx3,.int .i64 x5,.string x6,.int .i64 x7],rowS (Kd.slice 32 k32) 36 w.heap.size (.slice X0 x1.length cx0) x1 SX0,row k32 32 w.heap.size (.slice X1 x2.length cx1) x2 (fun k=>some k=(Value.ownBlock (.slice X1 x2.length cx1))),row k32 32 w.heap.size (.slice X2 x3.length cx2) x3 (fun k=>some k=(Value.ownBlock (.slice X2 x3.length cx2))),row k32 32 w.heap.size (.slice X3 x4.length cx3) x4 (fun k=>some k=(Value.ownBlock (.slice X3 x4.length cx3))),blk p5 26 #[.slice A4 m0.length c4,.int .i64 m1,.string m2,.int .i64 m3]] (fun w2=>Kd.C (Kd.slice 70 k70) w2 A2 l2.length l2∧Kd.C k70 w2 A4 m0.length m0))∧(b 2=true→(m2_:Value)=.slice L4 L.length cl4)∧(b 4=true→(m4_:Value)=.agg #[.slice Q4 q0.length cq4,.int .i64 q1,.string q2,.int .i64 q3])∧(b 5=true→(m5_:Value)=.tuple #[.slice H0 g1.length ch0,.slice H1 g2.length ch1,.slice H2 g3.length ch2,.agg #[.slice H3 g4.length ch3,.int .i64 g5,.string g6,.int .i64 g7],.int .i64 g8])∧(b 6=true→(m6_:Value)=.tuple #[.slice H0 g1.length ch0,.slice H1 g2.length ch1,.slice H2 g3.length ch2,.agg #[.slice H3 g4.length ch3,.int .i64 g5,.string g6,.int .i64 g7],.int .i64 g8])∧(b 7=true→(m7_:Value)=.slice H0 g1.length ch0)∧(b 8=true→(m8_:Value)=.slice H1 g2.length ch1)∧(b 9=true→(m9_:Value)=.slice H2 g3.length ch2)∧(b 10=true→(m10_:Value)=.agg #[.slice H3 g4.length ch3,.int .i64 g5,.string g6,.int .i64 g7])∧(b 12=true→(m12_:Value)=.pointer (some ⟨p26,0,none⟩))∧(b 13=true→(m13_:Value)=.slice H0 g1.length ch0)∧(b 14=true→(m14_:Value)=.slice H1 g2.length ch1)∧(b 15=true→(m15_:Value)=.slice H2 g3.length ch2)) HT_.out HW_.out (by kernel_rfl) (by kernel_rfl) ?_ ?_ ?_
  ·
   exact⟨none,0,fun _=>False,none,0,fun _=>False,fun _=>False,none,0,none,0,none,0,none,0,0,#[.slice none 0 0,.int .i64 0,.string (⟨#[]⟩:ByteArray),.int .i64 0],.bool false,.bool false,.bool false,.bool false,.bool false,.bool false,.bool false,.bool false,.bool false,.bool false,.bool false,.bool false,by simp only [zd1,Bool.false_eq_true,if_false],fun _=>rfl,fun h_=>absurd h_ (by decide),Inv.off (Inv.off (Inv.off (Inv.off (Inv.off (Inv.off (Inv.off (HI.out))))))),fun h_=>absurd h_ (by decide),fun h_=>absurd h_ (by decide),fun h_=>absurd h_ (by decide),fun h_=>absurd h_ (by decide),fun h_=>absurd h_ (by decide),fun h_=>absurd h_ (by decide),fun h_=>absurd h_ (by decide),fun h_=>absurd h_ (by decide),fun h_=>absurd h_ (by decide),fun h_=>absurd h_ (by decide),fun h_=>absurd h_ (by decide),fun h_=>absurd h_ (by decide)⟩
  ·
   skip
   clear CBa HI
   refine zbe ?_ ?_
   ·
    rintro b a w' ⟨L4,cl4,SL4,Q4,cq4,T4,SH0,H0,ch0,H1,ch1,H2,ch2,H3,ch3,p26,CB43,m2_,m4_,m5_,m6_,m7_,m8_,m9_,m10_,m12_,m13_,m14_,m15_,ha,Q_CBa,Q_CBb,Q_HI,Q_X2_,Q_X4_,Q_X5_,Q_X6_,Q_X7_,Q_X8_,Q_X9_,Q_X10_,Q_X12_,Q_X13_,Q_X14_,Q_X15_⟩ hb_ hon hoff
    refine⟨_,rfl,fun K hK=>?_⟩
    have e175:a.tmps[175]?=some (.slice A2 l2.length c2):=by rw [ha];exact(zdu rfl).trans rfl
    replace ha:=am_ ha
    have CBa:=am_ (Q_CBa (hoff 16 (by kernel_rfl)))
    have HI:=am_ Q_HI
    refine goes_ Tryz.func22 (by kernel_rfl) rfl #[.slice A2 l2.length c2] (by rfl) rfl rfl (by first|(simp only [List.map_toArray,List.map_cons,List.map_nil,Act.eval,Array.getD_eq_getD_getElem?,Option.getD_some,e175];done)|(simp only [List.map_toArray,List.map_cons,List.map_nil,Act.eval,Array.getD_eq_getD_getElem?,Option.getD_some,e175];rfl)) ?_
    with_reducible refine(zbz.calls k A2 c2 l2 L _ HI.out.now.1 HC2.out HTL.out).mono ?_
    rintro e wt ⟨vl_,rfl,hS,hb⟩
    obtain⟨L_n,cl_n,el_⟩:=Kd.zf6 hS
    subst el_
    refine⟨_,rfl,?_⟩
    have HI2:=am_ (Inv.fill true (HI.out.zfj hb hS) 5 rfl)
    refine hK.out _ _ ⟨L_n,cl_n,_,Q4,cq4,T4,SH0,H0,ch0,H1,ch1,H2,ch2,H3,ch3,p26,CB43,(.slice L_n L.length cl_n),m4_,m5_,m6_,m7_,m8_,m9_,m10_,m12_,m13_,m14_,m15_,(by rw [ha.out];exact zbh 0 hb_ rfl rfl rfl),Q_CBa,fun h0_=>ab_ (hoff 16 (by kernel_rfl)) h0_,HI2.out,fun _=>rfl,fun h0_=>ab_ (hoff 4 (by kernel_rfl)) h0_,fun h0_=>ab_ (hoff 5 (by kernel_rfl)) h0_,fun h0_=>ab_ (hoff 6 (by kernel_rfl)) h0_,fun h0_=>ab_ (hoff 7 (by kernel_rfl)) h0_,fun h0_=>ab_ (hoff 8 (by kernel_rfl)) h0_,fun h0_=>ab_ (hoff 9 (by kernel_rfl)) h0_,fun h0_=>ab_ (hoff 10 (by kernel_rfl)) h0_,Q_X12_,fun h0_=>ab_ (hoff 13 (by kernel_rfl)) h0_,fun h0_=>ab_ (hoff 14 (by kernel_rfl)) h0_,fun h0_=>ab_ (hoff 15 (by kernel_rfl)) h0_⟩
   refine zbe ?_ ?_
   ·
    rintro b a w' ⟨L4,cl4,SL4,Q4,cq4,T4,SH0,H0,ch0,H1,ch1,H2,ch2,H3,ch3,p26,CB43,m2_,m4_,m5_,m6_,m7_,m8_,m9_,m10_,m12_,m13_,m14_,m15_,ha,Q_CBa,Q_CBb,Q_HI,Q_X2_,Q_X4_,Q_X5_,Q_X6_,Q_X7_,Q_X8_,Q_X9_,Q_X10_,Q_X12_,Q_X13_,Q_X14_,Q_X15_⟩ hb_ hon hoff
    refine⟨_,rfl,fun K hK=>?_⟩
    have e5:a.tmps[5]?=some (.pointer (some ⟨p5,0,none⟩)):=by rw [ha];exact(zdu rfl).trans rfl
    replace ha:=am_ ha
    have CBa:=am_ (Q_CBa (hoff 16 (by kernel_rfl)))
    have HI:=am_ Q_HI
    have y_0:w'.cell? ⟨p5,0,none⟩=some (.slice A4 m0.length c4):=(zaa (HI.out.at_ (blk p5 26 #[.slice A4 m0.length c4,.int .i64 m1,.string m2,.int .i64 m3]) qz47_) 0).trans rfl
    have y_1:w'.cell? ⟨p5,1,none⟩=some (.int .i64 m1):=(zaa (HI.out.at_ (blk p5 26 #[.slice A4 m0.length c4,.int .i64 m1,.string m2,.int .i64 m3]) qz47_) 1).trans rfl
    have y_2:w'.cell? ⟨p5,2,none⟩=some (.string m2):=(zaa (HI.out.at_ (blk p5 26 #[.slice A4 m0.length c4,.int .i64 m1,.string m2,.int .i64 m3]) qz47_) 2).trans rfl
    have y_3:w'.cell? ⟨p5,3,none⟩=some (.int .i64 m3):=(zaa (HI.out.at_ (blk p5 26 #[.slice A4 m0.length c4,.int .i64 m1,.string m2,.int .i64 m3]) qz47_) 3).trans rfl
    refine zbg (w1:=w') (v:=.agg #[.slice A4 m0.length c4,.int .i64 m1,.string m2,.int .i64 m3]) (by rfl) rfl ?_ ?_
    ·
     go_simp
     (try simp only [i64_w])
     try rfl
    refine hK.out _ _ ⟨L4,cl4,SL4,Q4,cq4,T4,SH0,H0,ch0,H1,ch1,H2,ch2,H3,ch3,p26,CB43,m2_,m4_,m5_,m6_,m7_,m8_,m9_,m10_,m12_,m13_,m14_,m15_,(by rw [ha.out];exact zbh 1 hb_ rfl rfl rfl),Q_CBa,fun h0_=>ab_ (hoff 16 (by kernel_rfl)) h0_,Q_HI,Q_X2_,fun h0_=>ab_ (hoff 4 (by kernel_rfl)) h0_,fun h0_=>ab_ (hoff 5 (by kernel_rfl)) h0_,fun h0_=>ab_ (hoff 6 (by kernel_rfl)) h0_,fun h0_=>ab_ (hoff 7 (by kernel_rfl)) h0_,fun h0_=>ab_ (hoff 8 (by kernel_rfl)) h0_,fun h0_=>ab_ (hoff 9 (by kernel_rfl)) h0_,fun h0_=>ab_ (hoff 10 (by kernel_rfl)) h0_,Q_X12_,fun h0_=>ab_ (hoff 13 (by kernel_rfl)) h0_,fun h0_=>ab_ (hoff 14 (by kernel_rfl)) h0_,fun h0_=>ab_ (hoff 15 (by kernel_rfl)) h0_⟩
   refine zbe ?_ ?_
   ·
    rintro b a w' ⟨L4,cl4,SL4,Q4,cq4,T4,SH0,H0,ch0,H1,ch1,H2,ch2,H3,ch3,p26,CB43,m2_,m4_,m5_,m6_,m7_,m8_,m9_,m10_,m12_,m13_,m14_,m15_,ha,Q_CBa,Q_CBb,Q_HI,Q_X2_,Q_X4_,Q_X5_,Q_X6_,Q_X7_,Q_X8_,Q_X9_,Q_X10_,Q_X12_,Q_X13_,Q_X14_,Q_X15_⟩ hb_ hon hoff
    refine⟨_,rfl,fun K hK=>?_⟩
    have e177:a.tmps[177]?=some (.agg #[.slice A4 m0.length c4,.int .i64 m1,.string m2,.int .i64 m3]):=by rw [ha];exact zbw (e:=(3,177,.agg #[.slice A4 m0.length c4,.int .i64 m1,.string m2,.int .i64 m3])) 1 rfl rfl (hon 3 (by kernel_rfl)) rfl
    replace ha:=am_ ha
    have CBa:=am_ (Q_CBa (hoff 16 (by kernel_rfl)))
    have HI:=am_ Q_HI
    refine goes_ Tryz.func10 (by kernel_rfl) rfl #[.agg #[.slice A4 m0.length c4,.int .i64 m1,.string m2,.int .i64 m3]] (by rfl) rfl rfl (by first|(simp only [List.map_toArray,List.map_cons,List.map_nil,Act.eval,Array.getD_eq_getD_getElem?,Option.getD_some,e177];done)|(simp only [List.map_toArray,List.map_cons,List.map_nil,Act.eval,Array.getD_eq_getD_getElem?,Option.getD_some,e177];rfl)) ?_
    with_reducible refine(zdj.calls k A4 c4 m0 m1 m2 m3 q0 q1 q2 q3 _ HI.out.now.2 HC4.out HTS.out).mono ?_
    rintro e wt ⟨vq_,rfl,hR,hb⟩
    obtain⟨Q_n,cq_n,eq_⟩:=Kd.zcb hR
    subst eq_
    refine⟨_,rfl,?_⟩
    have HI2:=am_ (Inv.fill (true) (HI.out.zd7 hb hR) 6 rfl)
    refine hK.out _ _ ⟨L4,cl4,SL4,Q_n,cq_n,_,SH0,H0,ch0,H1,ch1,H2,ch2,H3,ch3,p26,CB43,m2_,(.agg #[.slice Q_n q0.length cq_n,.int .i64 q1,.string q2,.int .i64 q3]),m5_,m6_,m7_,m8_,m9_,m10_,m12_,m13_,m14_,m15_,(by rw [ha.out];exact zbh 2 hb_ rfl rfl rfl),Q_CBa,fun h0_=>ab_ (hoff 16 (by kernel_rfl)) h0_,HI2.out,Q_X2_,fun _=>rfl,fun h0_=>ab_ (hoff 5 (by kernel_rfl)) h0_,fun h0_=>ab_ (hoff 6 (by kernel_rfl)) h0_,fun h0_=>ab_ (hoff 7 (by kernel_rfl)) h0_,fun h0_=>ab_ (hoff 8 (by kernel_rfl)) h0_,fun h0_=>ab_ (hoff 9 (by kernel_rfl)) h0_,fun h0_=>ab_ (hoff 10 (by kernel_rfl)) h0_,Q_X12_,fun h0_=>ab_ (hoff 13 (by kernel_rfl)) h0_,fun h0_=>ab_ (hoff 14 (by kernel_rfl)) h0_,fun h0_=>ab_ (hoff 15 (by kernel_rfl)) h0_⟩
   refine zbe ?_ ?_
   ·
    rintro b a w' ⟨L4,cl4,SL4,Q4,cq4,T4,SH0,H0,ch0,H1,ch1,H2,ch2,H3,ch3,p26,CB43,m2_,m4_,m5_,m6_,m7_,m8_,m9_,m10_,m12_,m13_,m14_,m15_,ha,Q_CBa,Q_CBb,Q_HI,Q_X2_,Q_X4_,Q_X5_,Q_X6_,Q_X7_,Q_X8_,Q_X9_,Q_X10_,Q_X12_,Q_X13_,Q_X14_,Q_X15_⟩ hb_ hon hoff
    refine⟨_,rfl,fun K hK=>?_⟩
    have e174:a.tmps[174]?=some (.int .i64 kind):=by rw [ha];exact(zdu rfl).trans rfl
    have e176:a.tmps[176]?=some (m2_):=by rw [ha];exact zbw (e:=(2,176,m2_)) 0 rfl rfl (hon 2 (by kernel_rfl)) rfl
    rw [Q_X2_ (hon 2 (by kernel_rfl))] at e176
    have e178:a.tmps[178]?=some (m4_):=by rw [ha];exact zbw (e:=(4,178,m4_)) 2 rfl rfl (hon 4 (by kernel_rfl)) rfl
    rw [Q_X4_ (hon 4 (by kernel_rfl))] at e178
    replace ha:=am_ ha
    have CBa:=am_ (Q_CBa (hoff 16 (by kernel_rfl)))
    have HI:=am_ Q_HI
    refine goes_ Tryz.func23 (by kernel_rfl) rfl #[.int .i64 kind,.slice L4 L.length cl4,.agg #[.slice Q4 q0.length cq4,.int .i64 q1,.string q2,.int .i64 q3]] (by rfl) rfl rfl (by first|(simp only [List.map_toArray,List.map_cons,List.map_nil,Act.eval,Array.getD_eq_getD_getElem?,Option.getD_some,e174,e176,e178];done)|(simp only [List.map_toArray,List.map_cons,List.map_nil,Act.eval,Array.getD_eq_getD_getElem?,Option.getD_some,e174,e176,e178];rfl)) ?_
    have hQ_:=rowC (gifA (HI.out.at_ (gif (b 4) (row k32 32 w.heap.size (.slice Q4 q0.length cq4) q0 T4)) qz47_) (hon 4 (by kernel_rfl)))
    have hL_:=(rowSC (gifA (HI.out.at_ (gif (b 2) (rowS (Kd.slice 32 k32) 36 w.heap.size (.slice L4 L.length cl4) L SL4)) qz47_) (hon 2 (by kernel_rfl))))
    with_reducible refine(zck.calls k kind L4 cl4 L Q4 cq4 q0 q1 q2 q3 g1 g2 g3 g4 g5 g6 g7 g8 _ hL_.2.2 hL_.2.1 hQ_.2.2 hQ_.2.1 HIV.out).mono ?_
    rintro e wt ⟨v0_,v1_,v2_,v3_,rfl,hS0,hR1,hR2,hR3,hb⟩
    obtain⟨N0,nc0,ex_⟩:=Kd.zf6 hS0;subst ex_;obtain⟨N1,nc1,ex_⟩:=Kd.zcb hR1;subst ex_;obtain⟨N2,nc2,ex_⟩:=Kd.zcb hR2;subst ex_;obtain⟨N3,nc3,ex_⟩:=Kd.zcb hR3;subst ex_
    refine⟨_,rfl,?_⟩
    have HI5:=am_ (Inv.zkw rfl HI.out.nil0 ((Agr.of_below hb).mono (fun _ h=>h.elim)) hS0 hR1 hR2 hR3)
    have HI2:=am_ (Inv.fill true (Inv.fill true (Inv.fill true (Inv.fill true HI5.out 4 rfl) 4 rfl) 4 rfl) 4 rfl)
    refine hK.out _ _ ⟨L4,cl4,SL4,Q4,cq4,T4,_,N0,nc0,N1,nc1,N2,nc2,N3,nc3,p26,CB43,m2_,m4_,(.tuple #[.slice N0 g1.length nc0,.slice N1 g2.length nc1,.slice N2 g3.length nc2,.agg #[.slice N3 g4.length nc3,.int .i64 g5,.string g6,.int .i64 g7],.int .i64 g8]),m6_,m7_,m8_,m9_,m10_,m12_,m13_,m14_,m15_,(by rw [ha.out];exact zbh 3 hb_ rfl rfl rfl),Q_CBa,fun h0_=>ab_ (hoff 16 (by kernel_rfl)) h0_,HI2.out,Q_X2_,Q_X4_,fun _=>rfl,fun h0_=>ab_ (hoff 6 (by kernel_rfl)) h0_,fun h0_=>ab_ (hoff 7 (by kernel_rfl)) h0_,fun h0_=>ab_ (hoff 8 (by kernel_rfl)) h0_,fun h0_=>ab_ (hoff 9 (by kernel_rfl)) h0_,fun h0_=>ab_ (hoff 10 (by kernel_rfl)) h0_,Q_X12_,fun h0_=>ab_ (hoff 13 (by kernel_rfl)) h0_,fun h0_=>ab_ (hoff 14 (by kernel_rfl)) h0_,fun h0_=>ab_ (hoff 15 (by kernel_rfl)) h0_⟩
   refine zbe ?_ ?_
   ·
    rintro b a w' ⟨L4,cl4,SL4,Q4,cq4,T4,SH0,H0,ch0,H1,ch1,H2,ch2,H3,ch3,p26,CB43,m2_,m4_,m5_,m6_,m7_,m8_,m9_,m10_,m12_,m13_,m14_,m15_,ha,Q_CBa,Q_CBb,Q_HI,Q_X2_,Q_X4_,Q_X5_,Q_X6_,Q_X7_,Q_X8_,Q_X9_,Q_X10_,Q_X12_,Q_X13_,Q_X14_,Q_X15_⟩ hb_ hon hoff
    refine⟨_,rfl,fun K hK=>?_⟩
    have e179:a.tmps[179]?=some (m5_):=by rw [ha];exact zbw (e:=(5,179,m5_)) 3 rfl rfl (hon 5 (by kernel_rfl)) rfl
    rw [Q_X5_ (hon 5 (by kernel_rfl))] at e179
    replace ha:=am_ ha
    have CBa:=am_ (Q_CBa (hoff 16 (by kernel_rfl)))
    have HI:=am_ Q_HI
    refine zbg (w1:=w') (v:=.tuple #[.slice H0 g1.length ch0,.slice H1 g2.length ch1,.slice H2 g3.length ch2,.agg #[.slice H3 g4.length ch3,.int .i64 g5,.string g6,.int .i64 g7],.int .i64 g8]) (by rfl) rfl ?_ ?_
    ·
     go_simp
     (try simp only [i64_w])
     try rfl
    refine hK.out _ _ ⟨L4,cl4,SL4,Q4,cq4,T4,SH0,H0,ch0,H1,ch1,H2,ch2,H3,ch3,p26,CB43,m2_,m4_,m5_,(.tuple #[.slice H0 g1.length ch0,.slice H1 g2.length ch1,.slice H2 g3.length ch2,.agg #[.slice H3 g4.length ch3,.int .i64 g5,.string g6,.int .i64 g7],.int .i64 g8]),m7_,m8_,m9_,m10_,m12_,m13_,m14_,m15_,(by rw [ha.out];exact zbh 4 hb_ rfl rfl rfl),Q_CBa,fun h0_=>ab_ (hoff 16 (by kernel_rfl)) h0_,Q_HI,Q_X2_,Q_X4_,Q_X5_,fun _=>rfl,fun h0_=>ab_ (hoff 7 (by kernel_rfl)) h0_,fun h0_=>ab_ (hoff 8 (by kernel_rfl)) h0_,fun h0_=>ab_ (hoff 9 (by kernel_rfl)) h0_,fun h0_=>ab_ (hoff 10 (by kernel_rfl)) h0_,Q_X12_,fun h0_=>ab_ (hoff 13 (by kernel_rfl)) h0_,fun h0_=>ab_ (hoff 14 (by kernel_rfl)) h0_,fun h0_=>ab_ (hoff 15 (by kernel_rfl)) h0_⟩
   refine zbe ?_ ?_
   ·
    rintro b a w' ⟨L4,cl4,SL4,Q4,cq4,T4,SH0,H0,ch0,H1,ch1,H2,ch2,H3,ch3,p26,CB43,m2_,m4_,m5_,m6_,m7_,m8_,m9_,m10_,m12_,m13_,m14_,m15_,ha,Q_CBa,Q_CBb,Q_HI,Q_X2_,Q_X4_,Q_X5_,Q_X6_,Q_X7_,Q_X8_,Q_X9_,Q_X10_,Q_X12_,Q_X13_,Q_X14_,Q_X15_⟩ hb_ hon hoff
    refine⟨_,rfl,fun K hK=>?_⟩
    have e173:a.tmps[173]?=some (m6_):=by rw [ha];exact zbw (e:=(6,173,m6_)) 4 rfl rfl (hon 6 (by kernel_rfl)) rfl
    rw [Q_X6_ (hon 6 (by kernel_rfl))] at e173
    replace ha:=am_ ha
    have CBa:=am_ (Q_CBa (hoff 16 (by kernel_rfl)))
    have HI:=am_ Q_HI
    refine zbg (w1:=w') (v:=.slice H0 g1.length ch0) (by rfl) rfl ?_ ?_
    ·
     go_simp
     (try simp only [i64_w])
     try rfl
    refine hK.out _ _ ⟨L4,cl4,SL4,Q4,cq4,T4,SH0,H0,ch0,H1,ch1,H2,ch2,H3,ch3,p26,CB43,m2_,m4_,m5_,m6_,(.slice H0 g1.length ch0),m8_,m9_,m10_,m12_,m13_,m14_,m15_,(by rw [ha.out];exact zbh 5 hb_ rfl rfl rfl),Q_CBa,fun h0_=>ab_ (hoff 16 (by kernel_rfl)) h0_,Q_HI,Q_X2_,Q_X4_,Q_X5_,Q_X6_,fun _=>rfl,Q_X8_,Q_X9_,Q_X10_,Q_X12_,fun h0_=>ab_ (hoff 13 (by kernel_rfl)) h0_,fun h0_=>ab_ (hoff 14 (by kernel_rfl)) h0_,fun h0_=>ab_ (hoff 15 (by kernel_rfl)) h0_⟩
   refine zbe ?_ ?_
   ·
    rintro b a w' ⟨L4,cl4,SL4,Q4,cq4,T4,SH0,H0,ch0,H1,ch1,H2,ch2,H3,ch3,p26,CB43,m2_,m4_,m5_,m6_,m7_,m8_,m9_,m10_,m12_,m13_,m14_,m15_,ha,Q_CBa,Q_CBb,Q_HI,Q_X2_,Q_X4_,Q_X5_,Q_X6_,Q_X7_,Q_X8_,Q_X9_,Q_X10_,Q_X12_,Q_X13_,Q_X14_,Q_X15_⟩ hb_ hon hoff
    refine⟨_,rfl,fun K hK=>?_⟩
    have e173:a.tmps[173]?=some (m6_):=by rw [ha];exact zbw (e:=(6,173,m6_)) 4 rfl rfl (hon 6 (by kernel_rfl)) rfl
    rw [Q_X6_ (hon 6 (by kernel_rfl))] at e173
    replace ha:=am_ ha
    have CBa:=am_ (Q_CBa (hoff 16 (by kernel_rfl)))
    have HI:=am_ Q_HI
    refine zbg (w1:=w') (v:=.slice H1 g2.length ch1) (by rfl) rfl ?_ ?_
    ·
     go_simp
     (try simp only [i64_w])
     try rfl
    refine hK.out _ _ ⟨L4,cl4,SL4,Q4,cq4,T4,SH0,H0,ch0,H1,ch1,H2,ch2,H3,ch3,p26,CB43,m2_,m4_,m5_,m6_,m7_,(.slice H1 g2.length ch1),m9_,m10_,m12_,m13_,m14_,m15_,(by rw [ha.out];exact zbh 6 hb_ rfl rfl rfl),Q_CBa,fun h0_=>ab_ (hoff 16 (by kernel_rfl)) h0_,Q_HI,Q_X2_,Q_X4_,Q_X5_,Q_X6_,Q_X7_,fun _=>rfl,Q_X9_,Q_X10_,Q_X12_,Q_X13_,fun h0_=>ab_ (hoff 14 (by kernel_rfl)) h0_,fun h0_=>ab_ (hoff 15 (by kernel_rfl)) h0_⟩
   refine zbe ?_ ?_
   ·
    rintro b a w' ⟨L4,cl4,SL4,Q4,cq4,T4,SH0,H0,ch0,H1,ch1,H2,ch2,H3,ch3,p26,CB43,m2_,m4_,m5_,m6_,m7_,m8_,m9_,m10_,m12_,m13_,m14_,m15_,ha,Q_CBa,Q_CBb,Q_HI,Q_X2_,Q_X4_,Q_X5_,Q_X6_,Q_X7_,Q_X8_,Q_X9_,Q_X10_,Q_X12_,Q_X13_,Q_X14_,Q_X15_⟩ hb_ hon hoff
    refine⟨_,rfl,fun K hK=>?_⟩
    have e173:a.tmps[173]?=some (m6_):=by rw [ha];exact zbw (e:=(6,173,m6_)) 4 rfl rfl (hon 6 (by kernel_rfl)) rfl
    rw [Q_X6_ (hon 6 (by kernel_rfl))] at e173
    replace ha:=am_ ha
    have CBa:=am_ (Q_CBa (hoff 16 (by kernel_rfl)))
    have HI:=am_ Q_HI
    refine zbg (w1:=w') (v:=.slice H2 g3.length ch2) (by rfl) rfl ?_ ?_
    ·
     go_simp
     (try simp only [i64_w])
     try rfl
    refine hK.out _ _ ⟨L4,cl4,SL4,Q4,cq4,T4,SH0,H0,ch0,H1,ch1,H2,ch2,H3,ch3,p26,CB43,m2_,m4_,m5_,m6_,m7_,m8_,(.slice H2 g3.length ch2),m10_,m12_,m13_,m14_,m15_,(by rw [ha.out];exact zbh 7 hb_ rfl rfl rfl),Q_CBa,fun h0_=>ab_ (hoff 16 (by kernel_rfl)) h0_,Q_HI,Q_X2_,Q_X4_,Q_X5_,Q_X6_,Q_X7_,Q_X8_,fun _=>rfl,Q_X10_,Q_X12_,Q_X13_,Q_X14_,fun h0_=>ab_ (hoff 15 (by kernel_rfl)) h0_⟩
   refine zbe ?_ ?_
   ·
    rintro b a w' ⟨L4,cl4,SL4,Q4,cq4,T4,SH0,H0,ch0,H1,ch1,H2,ch2,H3,ch3,p26,CB43,m2_,m4_,m5_,m6_,m7_,m8_,m9_,m10_,m12_,m13_,m14_,m15_,ha,Q_CBa,Q_CBb,Q_HI,Q_X2_,Q_X4_,Q_X5_,Q_X6_,Q_X7_,Q_X8_,Q_X9_,Q_X10_,Q_X12_,Q_X13_,Q_X14_,Q_X15_⟩ hb_ hon hoff
    refine⟨_,rfl,fun K hK=>?_⟩
    have e173:a.tmps[173]?=some (m6_):=by rw [ha];exact zbw (e:=(6,173,m6_)) 4 rfl rfl (hon 6 (by kernel_rfl)) rfl
    rw [Q_X6_ (hon 6 (by kernel_rfl))] at e173
    replace ha:=am_ ha
    have CBa:=am_ (Q_CBa (hoff 16 (by kernel_rfl)))
    have HI:=am_ Q_HI
    refine zbg (w1:=w') (v:=.agg #[.slice H3 g4.length ch3,.int .i64 g5,.string g6,.int .i64 g7]) (by rfl) rfl ?_ ?_
    ·
     go_simp
     (try simp only [i64_w])
     try rfl
    refine hK.out _ _ ⟨L4,cl4,SL4,Q4,cq4,T4,SH0,H0,ch0,H1,ch1,H2,ch2,H3,ch3,p26,CB43,m2_,m4_,m5_,m6_,m7_,m8_,m9_,(.agg #[.slice H3 g4.length ch3,.int .i64 g5,.string g6,.int .i64 g7]),m12_,m13_,m14_,m15_,(by rw [ha.out];exact zbh 8 hb_ rfl rfl rfl),Q_CBa,fun h0_=>ab_ (hoff 16 (by kernel_rfl)) h0_,Q_HI,Q_X2_,Q_X4_,Q_X5_,Q_X6_,Q_X7_,Q_X8_,Q_X9_,fun _=>rfl,Q_X12_,Q_X13_,Q_X14_,Q_X15_⟩
   refine zbe ?_ ?_
   ·
    rintro b a w' ⟨L4,cl4,SL4,Q4,cq4,T4,SH0,H0,ch0,H1,ch1,H2,ch2,H3,ch3,p26,CB43,m2_,m4_,m5_,m6_,m7_,m8_,m9_,m10_,m12_,m13_,m14_,m15_,ha,Q_CBa,Q_CBb,Q_HI,Q_X2_,Q_X4_,Q_X5_,Q_X6_,Q_X7_,Q_X8_,Q_X9_,Q_X10_,Q_X12_,Q_X13_,Q_X14_,Q_X15_⟩ hb_ hon hoff
    refine⟨_,rfl,fun K hK=>?_⟩
    have e173:a.tmps[173]?=some (m6_):=by rw [ha];exact zbw (e:=(6,173,m6_)) 4 rfl rfl (hon 6 (by kernel_rfl)) rfl
    rw [Q_X6_ (hon 6 (by kernel_rfl))] at e173
    replace ha:=am_ ha
    have HI:=am_ Q_HI
    refine zbg (w1:=w') (v:=.int .i64 g8) (by rfl) rfl ?_ ?_
    ·
     go_simp
     (try simp only [i64_w])
     try rfl
    refine hK.out _ _ ⟨L4,cl4,SL4,Q4,cq4,T4,SH0,H0,ch0,H1,ch1,H2,ch2,H3,ch3,p26,CB43,m2_,m4_,m5_,m6_,m7_,m8_,m9_,m10_,m12_,m13_,m14_,m15_,(by rw [ha.out];exact zbh 9 hb_ rfl rfl rfl),Q_CBa,Q_CBb,Q_HI,Q_X2_,Q_X4_,Q_X5_,Q_X6_,Q_X7_,Q_X8_,Q_X9_,Q_X10_,Q_X12_,Q_X13_,Q_X14_,Q_X15_⟩
   refine zbe ?_ ?_
   ·
    rintro b a w' ⟨L4,cl4,SL4,Q4,cq4,T4,SH0,H0,ch0,H1,ch1,H2,ch2,H3,ch3,p26,CB43,m2_,m4_,m5_,m6_,m7_,m8_,m9_,m10_,m12_,m13_,m14_,m15_,ha,Q_CBa,Q_CBb,Q_HI,Q_X2_,Q_X4_,Q_X5_,Q_X6_,Q_X7_,Q_X8_,Q_X9_,Q_X10_,Q_X12_,Q_X13_,Q_X14_,Q_X15_⟩ hb_ hon hoff
    refine⟨_,rfl,fun K hK=>?_⟩
    replace ha:=am_ ha
    have CBa:=am_ (Q_CBa (hoff 16 (by kernel_rfl)))
    have HI:=am_ Q_HI
    refine zbg (w1:=w'.alloc (.cells #[.slice none 0 0,.int .i64 0,.string (⟨#[]⟩:ByteArray),.int .i64 0] 38)) (v:=.pointer (some ⟨w'.heap.size,0,none⟩)) (by rfl) rfl ?_ ?_
    ·
     first|(go_simp;done)|(go_simp;rfl)
    have HI2:=am_ (Inv.fill true (Inv.zks (HI.out.zhu 38 (#[.slice none 0 0,.int .i64 0,.string (⟨#[]⟩:ByteArray),.int .i64 0])) (cs':=CB43) CBa.out) 0 rfl)
    refine hK.out _ _ ⟨L4,cl4,SL4,Q4,cq4,T4,SH0,H0,ch0,H1,ch1,H2,ch2,H3,ch3,w'.heap.size,CB43,m2_,m4_,m5_,m6_,m7_,m8_,m9_,m10_,(.pointer (some ⟨w'.heap.size,0,none⟩)),m13_,m14_,m15_,(by rw [ha.out];exact zbh 10 hb_ rfl rfl rfl),Q_CBa,fun h0_=>ab_ (hoff 16 (by kernel_rfl)) h0_,HI2.out,Q_X2_,Q_X4_,Q_X5_,Q_X6_,Q_X7_,Q_X8_,Q_X9_,Q_X10_,fun _=>rfl,fun h0_=>ab_ (hoff 13 (by kernel_rfl)) h0_,fun h0_=>ab_ (hoff 14 (by kernel_rfl)) h0_,fun h0_=>ab_ (hoff 15 (by kernel_rfl)) h0_⟩
   refine zbe ?_ ?_
   ·
    rintro b a w' ⟨L4,cl4,SL4,Q4,cq4,T4,SH0,H0,ch0,H1,ch1,H2,ch2,H3,ch3,p26,CB43,m2_,m4_,m5_,m6_,m7_,m8_,m9_,m10_,m12_,m13_,m14_,m15_,ha,Q_CBa,Q_CBb,Q_HI,Q_X2_,Q_X4_,Q_X5_,Q_X6_,Q_X7_,Q_X8_,Q_X9_,Q_X10_,Q_X12_,Q_X13_,Q_X14_,Q_X15_⟩ hb_ hon hoff
    refine⟨_,rfl,fun K hK=>?_⟩
    have e180:a.tmps[180]?=some (m7_):=by rw [ha];exact zbw (e:=(7,180,m7_)) 5 rfl rfl (hon 7 (by kernel_rfl)) rfl
    rw [Q_X7_ (hon 7 (by kernel_rfl))] at e180
    replace ha:=am_ ha
    have CBa:=am_ (Q_CBa (hoff 16 (by kernel_rfl)))
    have HI:=am_ Q_HI
    refine zbg (w1:=w') (v:=.slice H0 g1.length ch0) (by rfl) rfl ?_ ?_
    ·
     go_simp
     (try simp only [i64_w])
     try rfl
    refine hK.out _ _ ⟨L4,cl4,SL4,Q4,cq4,T4,SH0,H0,ch0,H1,ch1,H2,ch2,H3,ch3,p26,CB43,m2_,m4_,m5_,m6_,m7_,m8_,m9_,m10_,m12_,(.slice H0 g1.length ch0),m14_,m15_,(by rw [ha.out];exact zbh 11 hb_ rfl rfl rfl),Q_CBa,fun h0_=>ab_ (hoff 16 (by kernel_rfl)) h0_,Q_HI,Q_X2_,Q_X4_,Q_X5_,Q_X6_,Q_X7_,Q_X8_,Q_X9_,Q_X10_,Q_X12_,fun _=>rfl,fun h0_=>ab_ (hoff 14 (by kernel_rfl)) h0_,fun h0_=>ab_ (hoff 15 (by kernel_rfl)) h0_⟩
   refine zbe ?_ ?_
   ·
    rintro b a w' ⟨L4,cl4,SL4,Q4,cq4,T4,SH0,H0,ch0,H1,ch1,H2,ch2,H3,ch3,p26,CB43,m2_,m4_,m5_,m6_,m7_,m8_,m9_,m10_,m12_,m13_,m14_,m15_,ha,Q_CBa,Q_CBb,Q_HI,Q_X2_,Q_X4_,Q_X5_,Q_X6_,Q_X7_,Q_X8_,Q_X9_,Q_X10_,Q_X12_,Q_X13_,Q_X14_,Q_X15_⟩ hb_ hon hoff
    refine⟨_,rfl,fun K hK=>?_⟩
    have e181:a.tmps[181]?=some (m8_):=by rw [ha];exact zbw (e:=(8,181,m8_)) 6 rfl rfl (hon 8 (by kernel_rfl)) rfl
    rw [Q_X8_ (hon 8 (by kernel_rfl))] at e181
    replace ha:=am_ ha
    have CBa:=am_ (Q_CBa (hoff 16 (by kernel_rfl)))
    have HI:=am_ Q_HI
    refine zbg (w1:=w') (v:=.slice H1 g2.length ch1) (by rfl) rfl ?_ ?_
    ·
     go_simp
     (try simp only [i64_w])
     try rfl
    refine hK.out _ _ ⟨L4,cl4,SL4,Q4,cq4,T4,SH0,H0,ch0,H1,ch1,H2,ch2,H3,ch3,p26,CB43,m2_,m4_,m5_,m6_,m7_,m8_,m9_,m10_,m12_,m13_,(.slice H1 g2.length ch1),m15_,(by rw [ha.out];exact zbh 12 hb_ rfl rfl rfl),Q_CBa,fun h0_=>ab_ (hoff 16 (by kernel_rfl)) h0_,Q_HI,Q_X2_,Q_X4_,Q_X5_,Q_X6_,Q_X7_,Q_X8_,Q_X9_,Q_X10_,Q_X12_,Q_X13_,fun _=>rfl,fun h0_=>ab_ (hoff 15 (by kernel_rfl)) h0_⟩
   refine zbe ?_ ?_
   ·
    rintro b a w' ⟨L4,cl4,SL4,Q4,cq4,T4,SH0,H0,ch0,H1,ch1,H2,ch2,H3,ch3,p26,CB43,m2_,m4_,m5_,m6_,m7_,m8_,m9_,m10_,m12_,m13_,m14_,m15_,ha,Q_CBa,Q_CBb,Q_HI,Q_X2_,Q_X4_,Q_X5_,Q_X6_,Q_X7_,Q_X8_,Q_X9_,Q_X10_,Q_X12_,Q_X13_,Q_X14_,Q_X15_⟩ hb_ hon hoff
    refine⟨_,rfl,fun K hK=>?_⟩
    have e182:a.tmps[182]?=some (m9_):=by rw [ha];exact zbw (e:=(9,182,m9_)) 7 rfl rfl (hon 9 (by kernel_rfl)) rfl
    rw [Q_X9_ (hon 9 (by kernel_rfl))] at e182
    replace ha:=am_ ha
    have CBa:=am_ (Q_CBa (hoff 16 (by kernel_rfl)))
    have HI:=am_ Q_HI
    refine zbg (w1:=w') (v:=.slice H2 g3.length ch2) (by rfl) rfl ?_ ?_
    ·
     go_simp
     (try simp only [i64_w])
     try rfl
    refine hK.out _ _ ⟨L4,cl4,SL4,Q4,cq4,T4,SH0,H0,ch0,H1,ch1,H2,ch2,H3,ch3,p26,CB43,m2_,m4_,m5_,m6_,m7_,m8_,m9_,m10_,m12_,m13_,m14_,(.slice H2 g3.length ch2),(by rw [ha.out];exact zbh 13 hb_ rfl rfl rfl),Q_CBa,fun h0_=>ab_ (hoff 16 (by kernel_rfl)) h0_,Q_HI,Q_X2_,Q_X4_,Q_X5_,Q_X6_,Q_X7_,Q_X8_,Q_X9_,Q_X10_,Q_X12_,Q_X13_,Q_X14_,fun _=>rfl⟩
   refine zbe ?_ ?_
   ·
    rintro b a w' ⟨L4,cl4,SL4,Q4,cq4,T4,SH0,H0,ch0,H1,ch1,H2,ch2,H3,ch3,p26,CB43,m2_,m4_,m5_,m6_,m7_,m8_,m9_,m10_,m12_,m13_,m14_,m15_,ha,Q_CBa,Q_CBb,Q_HI,Q_X2_,Q_X4_,Q_X5_,Q_X6_,Q_X7_,Q_X8_,Q_X9_,Q_X10_,Q_X12_,Q_X13_,Q_X14_,Q_X15_⟩ hb_ hon hoff
    refine⟨_,rfl,fun K hK=>?_⟩
    have e26:a.tmps[26]?=some (m12_):=by rw [ha];exact zbw (e:=(12,26,m12_)) 10 rfl rfl (hon 12 (by kernel_rfl)) rfl
    rw [Q_X12_ (hon 12 (by kernel_rfl))] at e26
    have e183:a.tmps[183]?=some (m10_):=by rw [ha];exact zbw (e:=(10,183,m10_)) 8 rfl rfl (hon 10 (by kernel_rfl)) rfl
    rw [Q_X10_ (hon 10 (by kernel_rfl))] at e183
    replace ha:=am_ ha
    have CBa:=am_ (Q_CBa hb_)
    have HI:=am_ Q_HI
    rw [if_pos (by rfl)]
    have HI3:=am_ (Inv.zks (Inv.take HI.out 0 rfl (hon 12 (by kernel_rfl))) (cs':=#[.slice none 0 0,.int .i64 0,.string (⟨#[]⟩:ByteArray),.int .i64 0]) CBa.out.symm)
    refine wp_store_row 38 _ _ rfl p26 (#[.slice H3 g4.length ch3,.int .i64 g5,.string g6,.int .i64 g7]) (zg4 e26) (zg4 e183) 38 (#[.slice none 0 0,.int .i64 0,.string (⟨#[]⟩:ByteArray),.int .i64 0]) HI3.out.blk0 (by kernel_rfl) rfl qz39_ ?_
    have HI2:=am_ (Inv.fill (b 12) (HI3.out.put0 (#[.slice H3 g4.length ch3,.int .i64 g5,.string g6,.int .i64 g7])) 0 rfl)
    refine hK.out _ _ ⟨L4,cl4,SL4,Q4,cq4,T4,SH0,H0,ch0,H1,ch1,H2,ch2,H3,ch3,p26,#[.slice H3 g4.length ch3,.int .i64 g5,.string g6,.int .i64 g7],m2_,m4_,m5_,m6_,m7_,m8_,m9_,m10_,m12_,m13_,m14_,m15_,(by rw [ha.out];exact zi8 (v:=undef) rfl),fun h0_=>absurd ((zh6 b 16).symm.trans h0_) (by decide),fun _=>rfl,HI2.out,Q_X2_,Q_X4_,Q_X5_,Q_X6_,Q_X7_,Q_X8_,Q_X9_,Q_X10_,Q_X12_,Q_X13_,Q_X14_,Q_X15_⟩
   refine zbe ?_ ?_
   ·
    rintro b a w' ⟨L4,cl4,SL4,Q4,cq4,T4,SH0,H0,ch0,H1,ch1,H2,ch2,H3,ch3,p26,CB43,m2_,m4_,m5_,m6_,m7_,m8_,m9_,m10_,m12_,m13_,m14_,m15_,ha,Q_CBa,Q_CBb,Q_HI,Q_X2_,Q_X4_,Q_X5_,Q_X6_,Q_X7_,Q_X8_,Q_X9_,Q_X10_,Q_X12_,Q_X13_,Q_X14_,Q_X15_⟩ hb_ hon hoff
    refine⟨_,rfl,fun K hK=>?_⟩
    have e184:a.tmps[184]?=some (.int .i64 g8):=by rw [ha];exact zbw (e:=(11,184,.int .i64 g8)) 9 rfl rfl (hon 11 (by kernel_rfl)) rfl
    replace ha:=am_ ha
    have CBb:=am_ (Q_CBb (hon 16 (by kernel_rfl)))
    have HI:=am_ Q_HI
    refine zbg (w1:=w') (v:=.int .i64 g8) (by rfl) rfl ?_ ?_
    ·
     go_simp
     (try simp only [i64_w])
     try rfl
    refine hK.out _ _ ⟨L4,cl4,SL4,Q4,cq4,T4,SH0,H0,ch0,H1,ch1,H2,ch2,H3,ch3,p26,CB43,m2_,m4_,m5_,m6_,m7_,m8_,m9_,m10_,m12_,m13_,m14_,m15_,(by rw [ha.out];exact zbh 14 hb_ rfl rfl rfl),fun h0_=>ab_ h0_ (hon 16 (by kernel_rfl)),Q_CBb,Q_HI,Q_X2_,Q_X4_,Q_X5_,Q_X6_,Q_X7_,Q_X8_,Q_X9_,Q_X10_,Q_X12_,Q_X13_,Q_X14_,Q_X15_⟩
   exact zj2
  rintro b a w' hall ⟨L4,cl4,SL4,Q4,cq4,T4,SH0,H0,ch0,H1,ch1,H2,ch2,H3,ch3,p26,CB43,m2_,m4_,m5_,m6_,m7_,m8_,m9_,m10_,m12_,m13_,m14_,m15_,ha,Q_CBa,Q_CBb,Q_HI,Q_X2_,Q_X4_,Q_X5_,Q_X6_,Q_X7_,Q_X8_,Q_X9_,Q_X10_,Q_X12_,Q_X13_,Q_X14_,Q_X15_⟩
  clear CBa HI
  have hb2_:=hall 2 (by kernel_rfl)
  have hb3_:=hall 3 (by kernel_rfl)
  have hb4_:=hall 4 (by kernel_rfl)
  have hb5_:=hall 5 (by kernel_rfl)
  have hb6_:=hall 6 (by kernel_rfl)
  have hb7_:=hall 7 (by kernel_rfl)
  have hb8_:=hall 8 (by kernel_rfl)
  have hb9_:=hall 9 (by kernel_rfl)
  have hb10_:=hall 10 (by kernel_rfl)
  have hb11_:=hall 11 (by kernel_rfl)
  have hb12_:=hall 12 (by kernel_rfl)
  have hb13_:=hall 13 (by kernel_rfl)
  have hb14_:=hall 14 (by kernel_rfl)
  have hb15_:=hall 15 (by kernel_rfl)
  have hb16_:=hall 16 (by kernel_rfl)
  have hb17_:=hall 17 (by kernel_rfl)
  subst ha
  obtain rfl:=Q_X2_ hb2_
  obtain rfl:=Q_X4_ hb4_
  obtain rfl:=Q_X5_ hb5_
  obtain rfl:=Q_X6_ hb6_
  obtain rfl:=Q_X7_ hb7_
  obtain rfl:=Q_X8_ hb8_
  obtain rfl:=Q_X9_ hb9_
  obtain rfl:=Q_X10_ hb10_
  obtain rfl:=Q_X12_ hb12_
  obtain rfl:=Q_X13_ hb13_
  obtain rfl:=Q_X14_ hb14_
  obtain rfl:=Q_X15_ hb15_
  simp only [zd1,hb2_,hb3_,hb4_,hb5_,hb6_,hb7_,hb8_,hb9_,hb10_,hb11_,hb12_,hb13_,hb14_,hb15_,hb16_,hb17_,if_true,Act.put,List.setIfInBounds_toArray,List.set_cons_zero,List.set_cons_succ]
  clear Q_CBa
  have CBb:=am_ (Q_CBb hb16_)
  clear Q_CBb
  have hCB_:=CBb.out
  clear CBb
  subst hCB_
  have HI:=am_ Q_HI
  replace HI:=am_ (Inv.take HI.out 6 rfl hb4_)
  replace HI:=am_ (Inv.take HI.out 6 rfl hb2_)
  replace HI:=am_ (Inv.take HI.out 6 rfl hb5_)
  replace HI:=am_ (Inv.take HI.out 6 rfl hb5_)
  replace HI:=am_ (Inv.take HI.out 6 rfl hb5_)
  replace HI:=am_ (Inv.take HI.out 6 rfl hb5_)
  replace HI:=am_ (Inv.take HI.out 6 rfl hb12_)
  replace HI:zal (Inv w NoB w' [blk p26 38 #[.slice H3 g4.length ch3,.int .i64 g5,.string g6,.int .i64 g7],rowS (Kd.slice 32 k32) 36 w.heap.size (.slice H0 g1.length ch0) g1 SH0,row k32 32 w.heap.size (.slice H1 g2.length ch1) g2 (fun k=>some k=(Value.ownBlock (.slice H1 g2.length ch1))),row k32 32 w.heap.size (.slice H2 g3.length ch2) g3 (fun k=>some k=(Value.ownBlock (.slice H2 g3.length ch2))),row k32 32 w.heap.size (.slice H3 g4.length ch3) g4 (fun k=>some k=(Value.ownBlock (.slice H3 g4.length ch3))),rowS (Kd.slice 32 k32) 36 w.heap.size (.slice L4 L.length cl4) L SL4,row k32 32 w.heap.size (.slice Q4 q0.length cq4) q0 T4,row k32 32 w.heap.size (.slice G3 g4.length cg3) h4 SM3,row k32 32 w.heap.size (.slice G2 g3.length cg2) h3 SM2,row k32 32 w.heap.size (.slice G1 g2.length cg1) h2 SM1,rowS (Kd.slice 32 k32) 36 w.heap.size (.slice G0 g1.length cg0) h1 SM0,blk p18 38 #[.slice G3 g4.length cg3,.int .i64 g5,.string g6,.int .i64 g7],blk p11 38 #[.slice X3 x4.length cx3,.int .i64 x5,.string x6,.int .i64 x7],rowS (Kd.slice 32 k32) 36 w.heap.size (.slice X0 x1.length cx0) x1 SX0,row k32 32 w.heap.size (.slice X1 x2.length cx1) x2 (fun k=>some k=(Value.ownBlock (.slice X1 x2.length cx1))),row k32 32 w.heap.size (.slice X2 x3.length cx2) x3 (fun k=>some k=(Value.ownBlock (.slice X2 x3.length cx2))),row k32 32 w.heap.size (.slice X3 x4.length cx3) x4 (fun k=>some k=(Value.ownBlock (.slice X3 x4.length cx3))),blk p5 26 #[.slice A4 m0.length c4,.int .i64 m1,.string m2,.int .i64 m3]] (fun w2=>Kd.C (Kd.slice 70 k70) w2 A2 l2.length l2∧Kd.C k70 w2 A4 m0.length m0)):=⟨HI.out.subL qz41_⟩
  clear Q_HI
  clear hall hb2_ hb3_ hb4_ hb5_ hb6_ hb7_ hb8_ hb9_ hb10_ hb11_ hb12_ hb13_ hb14_ hb15_ hb16_ hb17_
  go_wp2_with (first|(go_at_call 24;(with_reducible refine(za2.calls k H0 ch0 g1 X0 cx0 x1 true _ (rowSC (HI.out.at_ (rowS (Kd.slice 32 k32) 36 w.heap.size (.slice H0 g1.length ch0) g1 _) qz47_)).2.2 (rowSC (HI.out.at_ (rowS (Kd.slice 32 k32) 36 w.heap.size (.slice H0 g1.length ch0) g1 _) qz47_)).2.1 (rowSC (HI.out.at_ (rowS (Kd.slice 32 k32) 36 w.heap.size (.slice X0 x1.length cx0) x1 _) qz47_)).2.2 (rowSC (HI.out.at_ (rowS (Kd.slice 32 k32) 36 w.heap.size (.slice X0 x1.length cx0) x1 _) qz47_)).2.1 HQ1.out).mono ?_);rintro e w187 ⟨rfl,hb⟩;replace HI:=am_ (HI.out.grow hb);clear hb)|(go_at_call 14;(with_reducible refine(zas.calls k H1 ch1 g2 X1 cx1 x2 true _ (rowC (HI.out.at_ (row k32 32 w.heap.size (.slice H1 g2.length ch1) g2 _) qz47_)).2.2 (rowC (HI.out.at_ (row k32 32 w.heap.size (.slice H1 g2.length ch1) g2 _) qz47_)).2.1 (rowC (HI.out.at_ (row k32 32 w.heap.size (.slice X1 x2.length cx1) x2 _) qz47_)).2.2 (rowC (HI.out.at_ (row k32 32 w.heap.size (.slice X1 x2.length cx1) x2 _) qz47_)).2.1 HQ2.out).mono ?_);rintro e w188 ⟨rfl,hb⟩;replace HI:=am_ (HI.out.grow hb);clear hb)|(go_at_call 14;(with_reducible refine(zas.calls k H2 ch2 g3 X2 cx2 x3 true _ (rowC (HI.out.at_ (row k32 32 w.heap.size (.slice H2 g3.length ch2) g3 _) qz47_)).2.2 (rowC (HI.out.at_ (row k32 32 w.heap.size (.slice H2 g3.length ch2) g3 _) qz47_)).2.1 (rowC (HI.out.at_ (row k32 32 w.heap.size (.slice X2 x3.length cx2) x3 _) qz47_)).2.2 (rowC (HI.out.at_ (row k32 32 w.heap.size (.slice X2 x3.length cx2) x3 _) qz47_)).2.1 HQ3.out).mono ?_);rintro e w189 ⟨rfl,hb⟩;replace HI:=am_ (HI.out.grow hb);clear hb;have hd0:World.cell? _ ⟨p26,0,none⟩=some (.slice H3 g4.length ch3):=(zaa (HI.out.at_ (blk p26 38 #[.slice H3 g4.length ch3,.int .i64 g5,.string g6,.int .i64 g7]) qz47_) 0).trans rfl;have hd1:World.cell? _ ⟨p26,1,none⟩=some (.int .i64 g5):=(zaa (HI.out.at_ (blk p26 38 #[.slice H3 g4.length ch3,.int .i64 g5,.string g6,.int .i64 g7]) qz47_) 1).trans rfl;have hd2:World.cell? _ ⟨p26,2,none⟩=some (.string g6):=(zaa (HI.out.at_ (blk p26 38 #[.slice H3 g4.length ch3,.int .i64 g5,.string g6,.int .i64 g7]) qz47_) 2).trans rfl;have hd3:World.cell? _ ⟨p26,3,none⟩=some (.int .i64 g7):=(zaa (HI.out.at_ (blk p26 38 #[.slice H3 g4.length ch3,.int .i64 g5,.string g6,.int .i64 g7]) qz47_) 3).trans rfl;have hdb0:World.cell? _ ⟨p11,0,none⟩=some (.slice X3 x4.length cx3):=(zaa (HI.out.at_ (blk p11 38 #[.slice X3 x4.length cx3,.int .i64 x5,.string x6,.int .i64 x7]) qz47_) 0).trans rfl;have hdb1:World.cell? _ ⟨p11,1,none⟩=some (.int .i64 x5):=(zaa (HI.out.at_ (blk p11 38 #[.slice X3 x4.length cx3,.int .i64 x5,.string x6,.int .i64 x7]) qz47_) 1).trans rfl;have hdb2:World.cell? _ ⟨p11,2,none⟩=some (.string x6):=(zaa (HI.out.at_ (blk p11 38 #[.slice X3 x4.length cx3,.int .i64 x5,.string x6,.int .i64 x7]) qz47_) 2).trans rfl;have hdb3:World.cell? _ ⟨p11,3,none⟩=some (.int .i64 x7):=(zaa (HI.out.at_ (blk p11 38 #[.slice X3 x4.length cx3,.int .i64 x5,.string x6,.int .i64 x7]) qz47_) 3).trans rfl)|(go_at_call 13;(with_reducible refine(zc6.calls k H3 ch3 g4 g5 g6 g7 X3 cx3 x4 x5 x6 x7 true _ (rowC (HI.out.at_ (row k32 32 w.heap.size (.slice H3 g4.length ch3) g4 _) qz47_)).2.2 (rowC (HI.out.at_ (row k32 32 w.heap.size (.slice H3 g4.length ch3) g4 _) qz47_)).2.1 (rowC (HI.out.at_ (row k32 32 w.heap.size (.slice X3 x4.length cx3) x4 _) qz47_)).2.2 (rowC (HI.out.at_ (row k32 32 w.heap.size (.slice X3 x4.length cx3) x4 _) qz47_)).2.1 HQ4.out).mono ?_);rintro e w190 ⟨rfl,hb⟩;replace HI:=am_ (HI.out.grow hb);clear hb)|((go_at_call 26;(with_reducible refine(zjl k 1 b1 _ (rowSR (HI.out.at_ (rowS (Kd.slice 32 k32) 36 w.heap.size (.slice G0 g1.length cg0) h1 _) qz47_)) HH1.out).mono ?_);rintro e w152 ⟨rfl,⟨n152,rfl⟩⟩;replace HI:=am_ (HI.out.drewN n152);generalize World.drewN _ n152=wn152 at HI ⊢))|((go_at_call 27;(with_reducible refine(zg6 k b1 b2 _ (rowR (HI.out.at_ (row k32 32 w.heap.size (.slice G1 g2.length cg1) h2 _) qz47_)) HH2.out).mono ?_);rintro e w157 ⟨rfl,⟨n157,rfl⟩⟩;replace HI:=am_ (HI.out.drewN n157);generalize World.drewN _ n157=wn157 at HI ⊢))|((go_at_call 27;(with_reducible refine(zg6 k b2 b3 _ (rowR (HI.out.at_ (row k32 32 w.heap.size (.slice G2 g3.length cg2) h3 _) qz47_)) HH3.out).mono ?_);rintro e w162 ⟨rfl,⟨n162,rfl⟩⟩;replace HI:=am_ (HI.out.drewN n162);generalize World.drewN _ n162=wn162 at HI ⊢))|((with_reducible refine zad (N:=227) rfl ?_);go_must (refine wpList_load_row rfl 38 _ rfl p18 rfl 38 (#[.slice G3 g4.length cg3,.int .i64 g5,.string g6,.int .i64 g7]) (0,0) _ (HI.out.at_ (blk p18 38 #[.slice G3 g4.length cg3,.int .i64 g5,.string g6,.int .i64 g7]) qz47_) hu38 rfl (by kernel_rfl) ?_))|((go_at_call 19;(with_reducible refine(zim k g5 g6 g7 b3 b4 _ (rowR (HI.out.at_ (row k32 32 w.heap.size (.slice G3 g4.length cg3) h4 _) qz47_)) HH4.out).mono ?_);rintro e w167 ⟨rfl,hb⟩;replace HI:=am_ (HI.out.grow hb);clear hb)))
  go_ret
  exact⟨rfl,HI.out.below⟩
 ·
  rw [if_neg c64] at h;cases h
end Go.Proofs.YtgookagndlfehaaGreat.PT
end
section
/- Arguments that are read as data have the kinds' own form: for each kind, compositionally. Own text, for every seat (YtgookagndlfehaaGreat: the seat's name). -/
namespace Go.Proofs.YtgookagndlfehaaGreatO
open Go.RowKit Go.ChangeShapes Go.WideShapes Go.ChangeAt Go.Proofs.YtgookagndlfehaaGreatW.PrintWords
def Opens {α:Type} {H:Type} (enc:TypeId × Value→H) (P:Program) (w:World) (T:TypeId) (d:Kd α) (good:α→Prop):Prop:=
 ∀ (fuel:Nat) (cs:List Value) (x:DataW H × List MemPlace),DataW.trod enc P w 0 (fun _=>true) true fuel T cs=some x→∃ a,d.K w a cs∧good a
def zit {α:Type} {H:Type} (enc:TypeId × Value→H) (P:Program) (w:World) (fs:List (TypeId × Nat)) (d:Kd α) (good:α→Prop):Prop:=
 ∀ (fuel:Nat) (cs:List Value),cs.length=(fs.map (·.2)).sum→(∀ (j:Nat) (T n:Nat),fs[j]?=some (T,n)→∃ x,DataW.trod enc P w 0 (fun _=>true) true fuel T ((cs.drop ((fs.take j).map (·.2)).sum).take n)=some x)→∃ a,d.K w a cs∧good a
section
variable {H:Type} {enc:TypeId × Value→H} {P:Program} {w:World}
def zhr (k:IntKind) (a:Int):Prop:=(Lit.int k a).wf=true
def zlb (a:ByteArray):Prop:=a.size≤9223372036854775807
def zgo {α:Type} (g:α→Prop) (l:List α):Prop:=l.length≤9223372036854775807∧∀ x∈l,g x
theorem zqj {T:TypeId} {k:IntKind} (ht:P.underlying T=some (.int k)):Opens enc P w T (Kd.int k) (zhr k):=by
 intro fuel cs x h
 obtain⟨n,rfl,_,hw⟩:=DataW.trod_int ht h
 exact⟨n,rfl,hw⟩
theorem opens_bool {T:TypeId} (ht:P.underlying T=some .bool):Opens enc P w T Kd.bool (fun _=>True):=by
 intro fuel cs x h
 obtain⟨n,rfl,_⟩:=DataW.trod_bool ht h
 exact⟨n,rfl,trivial⟩
theorem zln {T:TypeId} (ht:P.underlying T=some .string):Opens enc P w T Kd.string zlb:=by
 intro fuel cs x h
 obtain⟨s,rfl,_,hs⟩:=DataW.trod_string ht h
 exact⟨s,rfl,(by unfold zlb;unfold maxLen at hs;omega)⟩
theorem zm5 {α:Type} {n:Nat} {p:Nat→α→Prop} (h:∀ i,i<n→∃ a,p i a):∃ l:List α,l.length=n∧∀ i a,l[i]?=some a→p i a:=by
 induction n with
 | zero=>exact⟨[],rfl,fun i a hi=>by simp at hi⟩
 | succ n ih=>
  obtain⟨l,hl,hp⟩:=ih (fun i hi=>h i (by omega))
  obtain⟨a,ha⟩:=h n (by omega)
  refine⟨l++[a],(by simp [hl]),fun i b hi=>?_⟩
  rcases Nat.lt_or_ge i l.length with hlt|hge
  ·
   rw [List.getElem?_append_left hlt] at hi
   exact hp i b hi
  ·
   rw [List.getElem?_append_right hge] at hi
   have:i - l.length=0:=by
    rcases Nat.eq_zero_or_pos (i - l.length) with h0|h0
    ·
     exact h0
    ·
     rw [List.getElem?_eq_none (by simp;omega)] at hi;simp at hi
   rw [this] at hi
   simp at hi
   subst hi
   have:i=n:=by omega
   rw [this]
   exact ha
theorem zjh {α:Type} {d:Kd α} {good:α→Prop} {T e:TypeId} (ht:P.underlying T=some (.slice e)) (hc:P.cellsOf e=d.sz) (ho:Opens enc P w e d good):Opens enc P w T (Kd.slice e d) (zgo good):=by
 intro fuel cs x h
 rcases Deep.open_slice ht h with ⟨rfl,_⟩|⟨a,len,cap,m,n,D,Pl,rfl,_,hl,hm,hmm,_,hx⟩
 ·
  exact⟨[],⟨none,0,rfl,Nat.le_refl _,⟨rfl,(by simp),fun h0=>by simp at h0⟩⟩,⟨(by simp),fun x hx=>by simp at hx⟩⟩
 ·
  have hle:len≤m:=by rw [hmm];split <;> omega
  have hex:∀ i,i<len→∃ b:α,(∃ c,c.length=d.sz∧d.K w b c∧∀ j u,c[j]?=some u→w.cell? (a.add (i * d.sz + j))=some u)∧good b:=by
   intro i hi
   obtain⟨cs',h1,h2⟩:=hx i (by omega)
   obtain⟨b,hK,hg⟩:=ho _ _ _ h2
   obtain⟨_,hlen,hcell⟩:=World.cells?_some h1
   refine⟨b,⟨cs',(by rw [hlen,hc]),hK,fun j u hu=>?_⟩,hg⟩
   have hj:j<P.cellsOf e:=by
    rw [←hlen]
    exact(List.getElem?_eq_some_iff.1 hu).1
   rw [←Deep.add_add,←hc,hcell j hj,hu]
  obtain⟨l,hll,hp⟩:=zm5 hex
  unfold maxLen at hm
  refine⟨l,⟨some a,cap,by rw [hll],by omega,⟨rfl,by omega,fun _=>⟨a,rfl,fun j p hj=>(hp j p hj).1⟩⟩⟩,⟨(by omega),fun x hx=>?_⟩⟩
  obtain⟨i,hi,rfl⟩:=List.getElem_of_mem hx
  exact(hp i _ (List.getElem?_eq_getElem hi)).2
theorem zio {α:Type} {d:Kd α} {good:α→Prop} {T n:Nat} (ho:Opens enc P w T d good):zit enc P w [(T,n)] d good:=by
 intro fuel cs hlen h
 obtain⟨x,hx⟩:=h 0 T n rfl
 simp at hlen
 simp [List.take_of_length_le (Nat.le_of_eq hlen)] at hx
 exact ho _ _ _ hx
theorem zfm {α β:Type} {d:Kd α} {good:α→Prop} {d2:Kd β} {good2:β→Prop} {T n:Nat} {fs:List (TypeId × Nat)} (ho:Opens enc P w T d good) (hs:zit enc P w fs d2 good2) :
  zit enc P w ((T,n)::fs) (Kd.pair d d2) (fun x=>good x.1∧good2 x.2):=by
 intro fuel cs hlen h
 obtain⟨x,hx⟩:=h 0 T n rfl
 simp at hx
 obtain⟨a,hK,hg⟩:=ho _ _ _ hx
 simp only [List.map_cons,List.sum_cons] at hlen
 obtain⟨b,hK2,hg2⟩:=hs fuel (cs.drop n) (by rw [List.length_drop,hlen];omega) (fun j T' n' hj=>by
  obtain⟨y,hy⟩:=h (j + 1) T' n' (by simpa using hj)
  refine⟨y,?_⟩
  simp only [List.take_succ_cons,List.map_cons,List.sum_cons] at hy
  rw [List.drop_drop]
  exact hy)
 exact⟨(a,b),⟨cs.take n,cs.drop n,(List.take_append_drop n cs).symm,hK,hK2⟩,hg,hg2⟩
theorem zik {α β:Type} {d:Kd α} {good:α→Prop} {T:TypeId} {fs:Array Field} {l:List (TypeId × Nat)} (f:β→α) (g:α→β) (hfg:∀ a,f (g a)=a) (ht:P.underlying T=some (.struct fs))
  (hl:l.length=fs.size) (hf:∀ (j:Nat) (T' n:Nat),l[j]?=some (T',n)→∃ fd,fs[j]?=some fd∧fd.type=T'∧P.cellsOf T'=n∧fd.offset=((l.take j).map (·.2)).sum) (hc:P.cellsOf T=(l.map (·.2)).sum)
  (hs:zit enc P w l d good):Opens enc P w T (Kd.iso d f) (fun x=>good (f x)):=by
 intro fuel cs x h
 obtain⟨xs,n,_,_,hlen,hxl,hx⟩:=DataW.trod_struct ht h
 obtain⟨a,hK,hg⟩:=hs n cs (by rw [hlen,hc]) (fun j T' n' hj=>by
  obtain⟨fd,h1,h2,h3,h4⟩:=hf j T' n' hj
  have h5:=hx j fd h1
  have hj2:j<xs.length:=by
   have:=(List.getElem?_eq_some_iff.1 hj).1
   omega
  rw [List.getElem?_eq_getElem hj2,h2,h3,h4] at h5
  exact⟨_,h5⟩)
 refine⟨g a,?_,?_⟩
 ·
  show d.K w (f (g a)) cs
  rw [hfg];exact hK
 ·
  show good (f (g a))
  rw [hfg];exact hg
end
end Go.Proofs.YtgookagndlfehaaGreatO
end
section
namespace Go.Proofs.YtgookagndlfehaaGreat.fnExactSumProve
open Go.RowKit Go.ChangeShapes Go.WideShapes Go.ChangeAt Go.Proofs.YtgookagndlfehaaGreatO Go.Proofs.YtgookagndlfehaaGreat.PT Go.Proofs.YtgookagndlfehaaGreatW.PrintWords Go.Proofs.YtgookagndlfehaaGreatW.PrintLast
set_option linter.unusedVariables false
theorem zk2 {H:Type} {enc:TypeId × Value→H} {w:World}:Opens enc Tryz.prog w 3 (Kd.int .i64) (zhr .i64):=zqj Tryz.underlying3
def zjt:S70→Prop:=(fun x:S70=>(zhr .i64) x.f0∧(zhr .i64) x.f1)
theorem opensT70 {H:Type} {enc:TypeId × Value→H} {w:World}:Opens enc Tryz.prog w 70 k70 zjt:=
 zik (l:=[(3,1),(3,1)]) (fun x:S70=>(x.f0,x.f1)) (fun a=>⟨a.1,a.2⟩) (fun _=>rfl) Tryz.underlying70 rfl (fun j T n h=>match j,T,n,h with
  | 0,_,_,h=>by cases h;exact⟨_,rfl,rfl,(by kernel_rfl),rfl⟩
  | 1,_,_,h=>by cases h;exact⟨_,rfl,rfl,(by kernel_rfl),rfl⟩
  | _ + 2,_,_,h=>by simp at h) (by kernel_rfl) (zfm zk2 (zio zk2))
theorem zns {H:Type} {enc:TypeId × Value→H} {w:World}:Opens enc Tryz.prog w 22 (Kd.slice 70 k70) (zgo zjt):=zjh Tryz.underlying22 (by kernel_rfl) opensT70
theorem opensT52 {H:Type} {enc:TypeId × Value→H} {w:World}:Opens enc Tryz.prog w 52 (Kd.slice 22 (Kd.slice 70 k70)) (zgo (zgo zjt)):=zjh Tryz.underlying52 (by kernel_rfl) zns
theorem opensT9 {H:Type} {enc:TypeId × Value→H} {w:World}:Opens enc Tryz.prog w 9 Kd.string zlb:=zln Tryz.underlying9
def zp7:S26→Prop:=(fun x:S26=>(zgo zjt) x.f0∧(zhr .i64) x.f1∧zlb x.f2∧(zhr .i64) x.f3)
theorem opensT26 {H:Type} {enc:TypeId × Value→H} {w:World}:Opens enc Tryz.prog w 26 k26 zp7:=
 zik (l:=[(22,1),(3,1),(9,1),(3,1)]) (fun x:S26=>(x.f0,x.f1,x.f2,x.f3)) (fun a=>⟨a.1,a.2.1,a.2.2.1,a.2.2.2⟩) (fun _=>rfl) Tryz.underlying26 rfl (fun j T n h=>match j,T,n,h with
  | 0,_,_,h=>by cases h;exact⟨_,rfl,rfl,(by kernel_rfl),rfl⟩
  | 1,_,_,h=>by cases h;exact⟨_,rfl,rfl,(by kernel_rfl),rfl⟩
  | 2,_,_,h=>by cases h;exact⟨_,rfl,rfl,(by kernel_rfl),rfl⟩
  | 3,_,_,h=>by cases h;exact⟨_,rfl,rfl,(by kernel_rfl),rfl⟩
  | _ + 4,_,_,h=>by simp at h) (by kernel_rfl) (zfm zns (zfm zk2 (zfm opensT9 (zio zk2))))
def Pure:Prop:=∀ (x0:Int) (x1:List (List (S70))) (x2:S26),(zhr .i64) x0→(zgo (zgo zjt)) x1→zp7 x2→∃ k,zaq.f k x0 x1 x2.f0 x2.f1 x2.f2 x2.f3=some true
end Go.Proofs.YtgookagndlfehaaGreat.fnExactSumProve
end
section
/- The field and the greater field, over whole numbers: what the printed functions of chapters 2 and 3 come to. -/
namespace Go.Proofs.YtgookagndlfehaaGreat.PT
open Go.RowKit Go.Proofs.YtgookagndlfehaaGreatW.PrintWords Go.Proofs.YtgookagndlfehaaGreatW.PrintLast Go.Proofs.YtgookagndlfehaaGreatW.PrintMore
set_option linter.unusedVariables false
set_option linter.unusedSimpArgs false
abbrev E:=S32
abbrev LE:=S70
theorem rdE (l:List E) (i:Int):zac l i=l.getD i.toNat z32:=rfl
theorem rdL (l:List LE) (i:Int):zhc l i=l.getD i.toNat z70:=rfl
abbrev zE:E:=z32
instance:DecidableEq S32:=fun x y=>decidable_of_iff (x.f0=y.f0∧x.f1=y.f1) ⟨fun h=>by cases x;cases y;simp_all,fun h=>by rw [h];exact⟨rfl,rfl⟩⟩
theorem E.ext_ {x y:E} (h0:x.f0=y.f0) (h1:x.f1=y.f1):x=y:=by cases x;cases y;simp_all
theorem LE.ext_ {x y:LE} (h0:x.f0=y.f0) (h1:x.f1=y.f1):x=y:=by cases x;cases y;simp_all
theorem w64 {n:Int} (h0 : -9223372036854775808≤n) (h1:n≤9223372036854775807):wrap64 n=n:=by unfold wrap64;omega
theorem zfy {a b:Int} (h:0≤a):Int.tmod a b=a % b:=Int.tmod_eq_emod_of_nonneg h
def inF (a:Int):Prop:=0≤a∧a≤2130706432
instance (a:Int):Decidable (inF a):=by unfold inF;infer_instance
def fadd (a b:Int):Int:=(a + b) % 2130706433
def fsub (a b:Int):Int:=(a - b) % 2130706433
def fmul (a b:Int):Int:=(a * b) % 2130706433
theorem zkz (a b:Int):inF (fadd a b):=by unfold inF fadd;omega
theorem zp4 (a b:Int):inF (fsub a b):=by unfold inF fsub;omega
theorem zh8 (a b:Int):inF (fmul a b):=by unfold inF fmul;omega
theorem mul_bd {a b:Int} (ha:inF a) (hb:inF b):0≤a * b∧a * b≤4539909903617114624:=by
 obtain⟨h1,h2⟩:=ha
 obtain⟨h3,h4⟩:=hb
 refine⟨Int.mul_nonneg h1 h3,Int.le_trans (Int.mul_le_mul h2 h4 h3 (by omega)) (by decide)⟩
theorem inF_0:inF 0:=by decide
theorem inF_3:inF 3:=by decide
structure okE (x:E):Prop where
 a:inF x.f0
 b:inF x.f1
def eadd (x y:E):E:=⟨fadd x.f0 y.f0,fadd x.f1 y.f1⟩
def esub (x y:E):E:=⟨fsub x.f0 y.f0,fsub x.f1 y.f1⟩
def emul (x y:E):E:=⟨fadd (fmul x.f0 y.f0) (fmul 3 (fmul x.f1 y.f1)),fadd (fmul x.f0 y.f1) (fmul x.f1 y.f0)⟩
theorem ok_add (x y:E):okE (eadd x y):=⟨zkz _ _,zkz _ _⟩
theorem znt (x y:E):okE (esub x y):=⟨zp4 _ _,zp4 _ _⟩
theorem zkj (x y:E):okE (emul x y):=⟨zkz _ _,zkz _ _⟩
theorem ok_zero:okE zE:=⟨inF_0,inF_0⟩
end Go.Proofs.YtgookagndlfehaaGreat.PT
end
section
/- What the printed functions of the field and of the greater field answer: the same sums and products on both sides. -/
namespace Go.Proofs.YtgookagndlfehaaGreat.PT
open Go.RowKit Go.Proofs.YtgookagndlfehaaGreatW.PrintWords Go.Proofs.YtgookagndlfehaaGreatW.PrintLast Go.Proofs.YtgookagndlfehaaGreatW.PrintMore
set_option linter.unusedVariables false
set_option linter.unusedSimpArgs false
theorem ze7 (a b c:Int):zcz.f a b c=some (decide (b≤a∧a≤c)):=by
 unfold zcz.f;by_cases h:b≤a <;> simp [h]
theorem zgm (a b c:Int):zcp.f a b c=some (decide (b≤a∧a≤c)):=by
 unfold zcp.f;by_cases h:b≤a <;> simp [h]
theorem zg0 (a:Int):zc2.f a=some (decide (inF a)):=by
 unfold zc2.f;rw [ze7];rfl
theorem zgu (a:Int):zc8.f a=some (decide (inF a)):=by
 unfold zc8.f;rw [zgm];rfl
def okB (x:E):Bool:=decide (inF x.f0) && decide (inF x.f1)
theorem zo1 (x:E):okB x=true↔okE x:=by
 unfold okB;rw [Bool.and_eq_true,decide_eq_true_eq,decide_eq_true_eq];exact⟨fun h=>⟨h.1,h.2⟩,fun h=>⟨h.a,h.b⟩⟩
theorem zku (a b:Int):zel.f a b=some (okB ⟨a,b⟩):=by
 unfold zel.f okB;rw [zg0,zg0]
 by_cases h:inF a <;> simp [h]
theorem zkv (a b:Int):zfg.f a b=some (okB ⟨a,b⟩):=by
 unfold zfg.f okB;rw [zgu,zgu]
 by_cases h:inF a <;> simp [h]
theorem zhi {a b:Int} (ha:inF a) (hb:inF b):zc1.f a b=some (fadd a b):=by
 unfold inF at ha hb;unfold zc1.f fadd;rw [w64 (by omega) (by omega),zfy (by omega)]
theorem zf3 {a b:Int} (ha:inF a) (hb:inF b):zb0.f a b=some (fadd a b):=by
 unfold inF at ha hb;unfold zb0.f fadd;rw [w64 (by omega) (by omega),zfy (by omega)]
theorem zjm {a b:Int} (ha:inF a) (hb:inF b):ze9.f a b=some (fsub a b):=by
 unfold inF at ha hb;unfold ze9.f fsub;rw [w64 (n:=a - b) (by omega) (by omega),w64 (by omega) (by omega),zfy (by omega)]
 congr 1;omega
theorem zg9 {a b:Int} (ha:inF a) (hb:inF b):zdv.f a b=some (fsub a b):=by
 unfold inF at ha hb;unfold zdv.f fsub;rw [w64 (n:=a + _) (by omega) (by omega),w64 (by omega) (by omega),zfy (by omega)]
 congr 1;omega
theorem zfv {a b:Int} (ha:inF a) (hb:inF b):zcm.f a b=some (fmul a b):=by
 have:=mul_bd ha hb
 unfold zcm.f fmul;rw [w64 (by omega) (by omega),zfy (by omega)]
theorem zfi {a b:Int} (ha:inF a) (hb:inF b):zb1.f a b=some (fmul a b):=by
 have:=mul_bd ha hb
 unfold zb1.f fmul;rw [w64 (by omega) (by omega),zfy (by omega)]
theorem zin {x y:E} (hx:okE x) (hy:okE y):zbr.f x.f0 x.f1 y.f0 y.f1=some ((eadd x y).f0,(eadd x y).f1):=by
 unfold zbr.f;rw [zhi hx.a hy.a,zhi hx.b hy.b];rfl
theorem zhw {x y:E} (hx:okE x) (hy:okE y):zbq.f x.f0 x.f1 y.f0 y.f1=some ((esub x y).f0,(esub x y).f1):=by
 unfold zbq.f;rw [zjm hx.a hy.a,zjm hx.b hy.b];rfl
theorem zfp {x y:E} (hx:okE x) (hy:okE y):za1.f x.f0 x.f1 y.f0 y.f1=some ((emul x y).f0,(emul x y).f1):=by
 unfold za1.f
 simp only [zfv hx.a hy.a,zfv hx.b hy.b,zfv hx.a hy.b,zfv hx.b hy.a,zfv inF_3 (zh8 _ _),zhi (zh8 _ _) (zh8 _ _),Option.bind_some]
 rfl
theorem zhb {x y:E} (hx:okE x) (hy:okE y):zcc.f x.f0 x.f1 y.f0 y.f1=some ((eadd x y).f0,(eadd x y).f1):=by
 unfold zcc.f;rw [zf3 hx.a hy.a,zf3 hx.b hy.b];rfl
theorem zha {x y:E} (hx:okE x) (hy:okE y):zci.f x.f0 x.f1 y.f0 y.f1=some ((esub x y).f0,(esub x y).f1):=by
 unfold zci.f;rw [zg9 hx.a hy.a,zg9 hx.b hy.b];rfl
theorem zfk {x y:E} (hx:okE x) (hy:okE y):zbp.f x.f0 x.f1 y.f0 y.f1=some ((emul x y).f0,(emul x y).f1):=by
 unfold zbp.f
 have h3:∀ t,inF t→Int.tmod (wrap64 (3 * t)) 2130706433=fmul 3 t:=by
  intro t ht;unfold inF at ht;unfold fmul;rw [w64 (by omega) (by omega),zfy (by omega)]
 simp only [zfi hx.a hy.a,zfi hx.b hy.b,zfi hx.a hy.b,zfi hx.b hy.a,Option.bind_some,h3 _ (zh8 _ _),zf3 (zh8 _ _) (zh8 _ _)]
 rfl
def okL (l:List E):Prop:=∀ x∈l,okE x
def okLB (l:List E):Bool:=l.all okB
theorem znz (l:List E):okLB l=true↔okL l:=by
 unfold okLB okL;rw [List.all_eq_true];exact⟨fun h x hx=>(zo1 x).1 (h x hx),fun h x hx=>(zo1 x).2 (h x hx)⟩
theorem zo3 {l:List E} (h:okL l) (i:Nat) (hi:i<l.length):okE (l.getD i zE):=by
 rw [List.getD_eq_getElem?_getD,List.getElem?_eq_getElem hi];exact h _ (List.getElem_mem hi)
theorem zjs (l:List E):zam.f l=some (okLB l):=by
 unfold zam.f okLB
 congr 2;funext x;unfold zam.p;rw [zku];rfl
theorem zjd (l:List E) (hl:l.length≤4611686018427387904) (d:Nat):∀ (k i:Nat),i + d=l.length→d<k→zbk.l0 k l i=some ((l.drop i).all okB):=by
 induction d with
 | zero=>
  intro k i hi hk
  obtain⟨k,rfl⟩:∃ m,k=m + 1:=⟨k - 1,(by omega)⟩
  simp only [zbk.l0];rw [if_neg (by omega),List.drop_eq_nil_of_le (by omega)];rfl
 | succ d ih=>
  intro k i hi hk
  obtain⟨k,rfl⟩:∃ m,k=m + 1:=⟨k - 1,(by omega)⟩
  have hlt:i<l.length:=by omega
  simp only [zbk.l0]
  rw [if_pos (by omega),if_pos (by omega),zkv,List.drop_eq_getElem_cons hlt]
  have hg:zac l (i:Int)=l[i]:=by rw [rdE,Int.toNat_natCast,List.getD_eq_getElem?_getD,List.getElem?_eq_getElem hlt];rfl
  rw [hg]
  simp only [Option.bind_some,List.all_cons]
  by_cases hb:okB l[i]=true
  ·
   have e:okB ⟨(l[i]).f0,(l[i]).f1⟩=true:=hb
   rw [e,if_pos rfl,w64 (by omega) (by omega),show (i:Int) + 1=((i + 1:Nat):Int) by omega,ih k (i + 1) (by omega) (by omega)]
   rfl
  ·
   replace hb:=Bool.eq_false_iff.mpr hb
   have e:okB ⟨(l[i]).f0,(l[i]).f1⟩=false:=hb
   rw [e];rfl
theorem zg2 {l:List E} (hl:l.length≤4611686018427387904) {k:Nat} (hk:l.length<k):zbk.f k l=some (okLB l):=by
 have:=zjd l hl l.length k 0 (by omega) hk
 unfold zbk.f;exact this
end Go.Proofs.YtgookagndlfehaaGreat.PT
end
section
/- The laws' own helpers: elements copied, compared, marked; and powers of two. -/
namespace Go.Proofs.YtgookagndlfehaaGreat.PT
open Go.RowKit Go.Proofs.YtgookagndlfehaaGreatW.PrintWords Go.Proofs.YtgookagndlfehaaGreatW.PrintLast Go.Proofs.YtgookagndlfehaaGreatW.PrintMore
set_option linter.unusedVariables false
set_option linter.unusedSimpArgs false
theorem zg5 {l:List LE} {a:Int} (ha:0≤a) (ha2:a≤1048576) (hl:l.length≤9223372036854775807) (h:a<l.length):zde.f l a=some (-1):=by
 unfold zde.f;rw [w64 (by omega) (by omega),if_pos (by omega)]
theorem zg7 {l:List LE} {a:Int} (ha2:a≤1048576) (h:(l.length:Int)≤a):zde.f l a=some (a - l.length):=by
 unfold zde.f;rw [w64 (by omega) (by omega),if_neg (by omega)]
def conv (x:LE):E:=⟨x.f0,x.f1⟩
def convL (l:List LE):List E:=l.map conv
theorem zg1 (l:List LE):(convL l).length=l.length:=by simp [convL]
theorem getD_at {α:Type} {l:List α} {z:α} {i:Nat} (h:i<l.length):l.getD i z=l[i]:=by
 rw [List.getD_eq_getElem?_getD,List.getElem?_eq_getElem h];rfl
theorem zp8 {l:List E} {i:Nat} (h:i<l.length):zac l (i:Int)=l[i]:=by rw [rdE,Int.toNat_natCast,getD_at h]
theorem rdL_at {l:List LE} {i:Nat} (h:i<l.length):zhc l (i:Int)=l[i]:=by rw [rdL,Int.toNat_natCast,getD_at h]
theorem set_mid {α:Type} (a b:List α) (x y:α):(a++x::b).set a.length y=a++y::b:=by
 rw [List.set_append_right _ _ (Nat.le_refl _)];simp
theorem zo6 (l:List LE) (hl:l.length≤4611686018427387904) (d:Nat):∀ (k i:Nat),i + d=l.length→d<k→
  zb3.l0 k l (convL (l.take i)++List.replicate d z32) i=some (convL l):=by
 induction d with
 | zero=>
  intro k i hi hk
  obtain⟨k,rfl⟩:∃ m,k=m + 1:=⟨k - 1,(by omega)⟩
  simp only [zb3.l0];rw [if_neg (by omega),List.take_of_length_le (by omega)];simp
 | succ d ih=>
  intro k i hi hk
  obtain⟨k,rfl⟩:∃ m,k=m + 1:=⟨k - 1,(by omega)⟩
  have hlt:i<l.length:=by omega
  have hlen:(convL (l.take i)).length=i:=by rw [zg1,List.length_take];omega
  simp only [zb3.l0]
  rw [if_pos (by omega),if_pos (by omega),rdL_at hlt]
  simp only [zga.f,Option.bind_some]
  rw [if_pos (by rw [List.length_append,hlen,List.length_replicate];omega),Int.toNat_natCast,List.replicate_succ]
  have hs:=set_mid (convL (l.take i)) (List.replicate d z32) z32 (conv l[i])
  rw [hlen] at hs
  show zb3.l0 k l ((convL (l.take i)++z32::List.replicate d z32).set i (conv l[i])) _=_
  rw [hs,w64 (by omega) (by omega),show (i:Int) + 1=((i + 1:Nat):Int) by omega]
  have:=ih k (i + 1) (by omega) (by omega)
  rw [List.take_succ_eq_append_getElem hlt] at this
  simp only [convL,List.map_append,List.map_cons,List.map_nil,List.append_assoc,List.cons_append,List.nil_append] at this
  exact this
theorem zl4 {l:List LE} (hl:l.length≤1048576) {k:Nat} (hk:l.length<k):zb3.f k l=some (convL l):=by
 unfold zb3.f
 rw [if_pos (by omega),if_pos (by simp;omega)]
 have:=zo6 l (by omega) l.length k 0 (by omega) hk
 simpa [convL] using this
theorem eqExt_eq (x y:E):zfc.f x.f0 x.f1 y.f0 y.f1=some (decide (x=y)):=by
 unfold zfc.f
 by_cases h0:x.f0=y.f0
 ·
  by_cases h1:x.f1=y.f1
  ·
   rw [if_pos h0,if_pos h1,decide_eq_true (E.ext_ h0 h1)]
  ·
   rw [if_pos h0,if_neg h1,decide_eq_false (fun e=>h1 (by rw [e]))]
 ·
  rw [if_neg h0,decide_eq_false (fun e=>h0 (by rw [e]))]
theorem zp9 (a:List E) (hl:a.length≤4611686018427387904) (d:Nat):∀ (k i:Nat),i + d=a.length→d<k→zas.l0 k a a i=some true:=by
 induction d with
 | zero=>
  intro k i hi hk
  obtain⟨k,rfl⟩:∃ m,k=m + 1:=⟨k - 1,(by omega)⟩
  simp only [zas.l0];rw [if_neg (by omega)]
 | succ d ih=>
  intro k i hi hk
  obtain⟨k,rfl⟩:∃ m,k=m + 1:=⟨k - 1,(by omega)⟩
  simp only [zas.l0]
  rw [if_pos (by omega),if_pos (by omega),if_pos (by omega),eqExt_eq]
  simp only [Option.bind_some,decide_true,if_true]
  rw [w64 (by omega) (by omega),show (i:Int) + 1=((i + 1:Nat):Int) by omega]
  exact ih k (i + 1) (by omega) (by omega)
theorem zge {a:List E} (hl:a.length≤4611686018427387904) {k:Nat} (hk:a.length<k):zas.f k a a=some true:=by
 unfold zas.f;rw [if_pos rfl];exact zp9 a hl a.length k 0 (by omega) hk
def marked:Nat→Int→List E
 | 0,_=>[]
 | n + 1,k=>⟨k,k + 1⟩::marked n (k + 2)
theorem zd0 (n:Nat) (k:Int):(marked n k).length=n:=by
 induction n generalizing k with
 | zero=>rfl
 | succ n ih=>simp [marked,ih]
theorem zmx (n:Nat) (k:Int):marked (n + 1) k=marked n k++[⟨k + 2 * n,k + 2 * n + 1⟩]:=by
 induction n generalizing k with
 | zero=>simp [marked]
 | succ n ih=>
  rw [marked,ih,marked,List.cons_append]
  have e:k + 2 + 2 * (n:Int)=k + 2 * ((n:Int) + 1):=by omega
  rw [Int.natCast_succ,e]
theorem zn5 (n:Nat) (k:Int) (i:Nat) (h:i<(marked n k).length):(marked n k)[i]=⟨k + 2 * i,k + 2 * i + 1⟩:=by
 induction n generalizing k i with
 | zero=>simp [marked] at h
 | succ n ih=>
  cases i with
  | zero=>simp [marked]
  | succ i=>
   simp only [marked,List.getElem_cons_succ]
   rw [ih]
   have e:k + 2 + 2 * (i:Int)=k + 2 * ((i + 1:Nat):Int):=by omega
   rw [e]
theorem zmz (a:List E) (k0:Int) (hk0:0≤k0) (hk1:k0≤4611686018427387904) (hl:a.length≤1152921504606846976) (d:Nat):∀ (k i:Nat),i + d=a.length→d<k→
  zbb.l0 k (marked i k0++a.drop i) (k0 + 2 * i) i=some (k0 + 2 * a.length,marked a.length k0):=by
 induction d with
 | zero=>
  intro k i hi hk
  obtain⟨k,rfl⟩:∃ m,k=m + 1:=⟨k - 1,(by omega)⟩
  have:i=a.length:=by omega
  subst this
  simp only [zbb.l0]
  rw [if_neg (by rw [List.length_append,zd0,List.length_drop];omega)];simp
 | succ d ih=>
  intro k i hi hk
  obtain⟨k,rfl⟩:∃ m,k=m + 1:=⟨k - 1,(by omega)⟩
  have hlt:i<a.length:=by omega
  simp only [zbb.l0]
  rw [if_pos (by rw [List.length_append,zd0,List.length_drop];omega),if_pos (by omega)]
  simp only [Option.bind_some,Int.toNat_natCast]
  rw [List.drop_eq_getElem_cons hlt]
  have hs:=fun y=>set_mid (marked i k0) (a.drop (i + 1)) a[i] y
  have hs2:=fun x y=>set_mid (marked i k0) (a.drop (i + 1)) x y
  rw [zd0] at hs hs2
  rw [hs,hs2]
  have hr:∀ x:E,zac (marked i k0++x::a.drop (i + 1)) (i:Int)=x:=by
   intro x
   rw [rdE,Int.toNat_natCast,List.getD_eq_getElem?_getD,List.getElem?_append_right (by rw [zd0];omega),zd0,Nat.sub_self];rfl
  rw [hr]
  rw [w64 (n:=k0 + 2 * (i:Int) + 1) (by omega) (by omega),w64 (by omega) (by omega),w64 (by omega) (by omega),show (i:Int) + 1=((i + 1:Nat):Int) by omega]
  have:=ih k (i + 1) (by omega) (by omega)
  rw [zmx,List.append_assoc] at this
  rw [show k0 + 2 * (i:Int) + 1 + 1=k0 + 2 * ((i + 1:Nat):Int) by omega]
  exact this
theorem zgn {a:List E} {k0:Int} (hk0:0≤k0) (hk1:k0≤4611686018427387904) (hl:a.length≤1152921504606846976) {k:Nat} (hk:a.length<k) :
  zbb.f k a k0=some (k0 + 2 * a.length,marked a.length k0):=by
 have:=zmz a k0 hk0 hk1 hl a.length k 0 (by omega) hk
 unfold zbb.f
 simpa [marked] using this
theorem znb (n:Nat) (k0:Int) (hk0:0≤k0) (hk1:k0≤4611686018427387904) (hl:n≤1152921504606846976) (d:Nat):∀ (k i:Nat),i + d=n→d<k→
  zbd.l0 k (marked n k0) (k0 + 2 * i) i=some (k0 + 2 * n):=by
 induction d with
 | zero=>
  intro k i hi hk
  obtain⟨k,rfl⟩:∃ m,k=m + 1:=⟨k - 1,(by omega)⟩
  have:i=n:=by omega
  subst this
  simp only [zbd.l0]
  rw [if_neg (by rw [zd0];omega)]
 | succ d ih=>
  intro k i hi hk
  obtain⟨k,rfl⟩:∃ m,k=m + 1:=⟨k - 1,(by omega)⟩
  have hlt:i<(marked n k0).length:=by rw [zd0];omega
  simp only [zbd.l0]
  rw [if_pos (by rw [zd0];omega),if_pos (by omega),zp8 hlt,zn5,if_pos rfl,w64 (n:=k0 + 2 * (i:Int) + 1) (by omega) (by omega),if_pos rfl,
   w64 (by omega) (by omega),w64 (by omega) (by omega),show (i:Int) + 1=((i + 1:Nat):Int) by omega,show k0 + 2 * (i:Int) + 1 + 1=k0 + 2 * ((i + 1:Nat):Int) by omega]
  exact ih k (i + 1) (by omega) (by omega)
theorem zgp {n:Nat} {k0:Int} (hk0:0≤k0) (hk1:k0≤4611686018427387904) (hl:n≤1152921504606846976) {k:Nat} (hk:n<k) :
  zbd.f k (marked n k0) k0=some (k0 + 2 * n):=by
 have:=znb n k0 hk0 hk1 hl n k 0 (by omega) hk
 unfold zbd.f
 simpa using this
def pow2B (n most:Int):Bool:=decide (n≤most) && (n == 1 || n == 2 || n == 4 || n == 8 || n == 16 || n == 32 || n == 64 || n == 128 || n == 256 || n == 512)
theorem zpk:∀ n:Fin 513,0<n.val→((Go.bits .and .i64 (n.val:Int) ((n.val:Int) - 1)) == 0)=pow2B n.val 512:=by decide +kernel
theorem zj3 {n most:Int} (hm:most≤512):zee.f n most=some (pow2B n most):=by
 unfold zee.f
 rw [ze7]
 simp only [Option.bind_some]
 by_cases h:1≤n∧n≤most
 ·
  rw [decide_eq_true h,if_pos rfl,w64 (by omega) (by omega)]
  have:=zpk ⟨n.toNat,(by omega)⟩ (by show 0<n.toNat;omega)
  simp only [Int.toNat_of_nonneg (show 0≤n by omega)] at this
  rw [this]
  unfold pow2B
  rw [decide_eq_true h.2,decide_eq_true (show n≤512 by omega)]
 ·
  rw [decide_eq_false h,if_neg (by decide)]
  congr 1
  symm
  unfold pow2B
  by_cases h2:n≤most
  ·
   have:n<1:=by omega
   have e:∀ m:Int,1≤m→(n == m)=false:=fun m hm=>beq_eq_false_iff_ne.2 (by omega)
   simp [e]
  ·
   rw [decide_eq_false h2];rfl
def pw (n most:Int):Nat→Int→Bool
 | 0,_=>false
 | r + 1,x=>(decide (x≤most) && (n == x)) || (decide (x≤most) && pw n most r (x * 2))
theorem zm1 (n most:Int) (hm:most≤512) (r:Nat):∀ (k:Nat) (x:Int),0<x→most<x * 2 ^ r→r<k→zb9.l0 k n most x=some (pw n most r x):=by
 induction r with
 | zero=>
  intro k x hx h hk
  obtain⟨k,rfl⟩:∃ m,k=m + 1:=⟨k - 1,(by omega)⟩
  simp only [zb9.l0];rw [if_neg (by simp at h;omega)];rfl
 | succ r ih=>
  intro k x hx h hk
  obtain⟨k,rfl⟩:∃ m,k=m + 1:=⟨k - 1,(by omega)⟩
  simp only [zb9.l0,pw]
  by_cases h1:x≤most
  ·
   rw [if_pos h1,decide_eq_true h1]
   by_cases h2:n=x
   ·
    rw [if_pos h2,beq_iff_eq.2 h2];rfl
   ·
    rw [if_neg h2,beq_eq_false_iff_ne.2 h2,w64 (by omega) (by omega),ih k (x * 2) (by omega) (by rw [Int.pow_succ] at h;rw [Int.mul_assoc,Int.mul_comm 2];exact h) (by omega)];simp
  ·
   rw [if_neg h1,decide_eq_false h1];rfl
theorem pw_eq {n most:Int} (hm:most≤512):pw n most 10 1=pow2B n most:=by
 rw [Bool.eq_iff_iff]
 simp only [pw,pow2B,Bool.or_eq_true,Bool.and_eq_true,decide_eq_true_eq,beq_iff_eq]
 simp
 omega
theorem zis {n most:Int} (hm:most≤512) {k:Nat} (hk:10<k):zb9.f k n most=some (pow2B n most):=by
 unfold zb9.f
 rw [zm1 n most hm 10 k 1 (by omega) (by omega) hk,pw_eq hm]
theorem zir {n:Int} {k:Nat} (hk:10<k):zd5.f k n=some (pow2B n 64):=by
 unfold zd5.f;rw [zis (by omega) hk];rfl
end Go.Proofs.YtgookagndlfehaaGreat.PT
end
section
/- Steps that several laws share: same answers compared, lists turned in place. -/
namespace Go.Proofs.YtgookagndlfehaaGreat.PT
open Go.RowKit Go.Proofs.YtgookagndlfehaaGreatW.PrintWords Go.Proofs.YtgookagndlfehaaGreatW.PrintLast Go.Proofs.YtgookagndlfehaaGreatW.PrintMore
set_option linter.unusedVariables false
set_option linter.unusedSimpArgs false
theorem bS {α β:Type} (a:α) (f:α→Option β):(some a).bind f=f a:=Eq.trans (Eq.refl _) (Option.bind_some a f)
theorem zfw {l:List E} (h:okL l) {i:Int} (hi:0≤i) (hl:i<l.length):okE (zac l i):=zo3 h i.toNat (by omega)
theorem okL_app {l m:List E} (h:okL l) (h2:okL m):okL (l++m):=by
 intro y hy
 rcases List.mem_append.mp hy with h1|h1
 ·
  exact h y h1
 ·
  exact h2 y h1
theorem okL_one {x:E} (hx:okE x):okL [x]:=by intro y hy;rw [List.mem_singleton.mp hy];exact hx
theorem okL_nil:okL []:=by intro y hy;cases hy
theorem znr {n:Int} (h:pow2B n 64=true):n=1∨n=2∨n=4∨n=8∨n=16∨n=32∨n=64:=by
 unfold pow2B at h
 simp only [Bool.and_eq_true,Bool.or_eq_true,decide_eq_true_eq,beq_iff_eq] at h
 omega
end Go.Proofs.YtgookagndlfehaaGreat.PT
end
section
/- The equality weight, at a point and as a table: both sides walk the same numbers. -/
namespace Go.Proofs.YtgookagndlfehaaGreat.PT
open Go.RowKit Go.Proofs.YtgookagndlfehaaGreatW.PrintWords Go.Proofs.YtgookagndlfehaaGreatW.PrintLast Go.Proofs.YtgookagndlfehaaGreatW.PrintMore
set_option linter.unusedVariables false
set_option linter.unusedSimpArgs false
theorem etaE (x:E):(⟨x.f0,x.f1⟩:E)=x:=rfl
end Go.Proofs.YtgookagndlfehaaGreat.PT
end
section
/- Tables turned in place, folded, and read at a point: both sides walk the same numbers. -/
namespace Go.Proofs.YtgookagndlfehaaGreat.PT
open Go.RowKit Go.Proofs.YtgookagndlfehaaGreatW.PrintWords Go.Proofs.YtgookagndlfehaaGreatW.PrintLast Go.Proofs.YtgookagndlfehaaGreatW.PrintMore
set_option linter.unusedVariables false
set_option linter.unusedSimpArgs false
theorem zi9 {l:List E} (hl:l.length≤1048576) {k:Nat} (hk:l.length + 20<k):zc0.f k l=some (pow2B l.length 64 && okLB l):=by
 unfold zc0.f
 by_cases h2:(l.length:Int)>4096
 ·
  rw [if_pos h2];congr 1;symm
  have:pow2B (l.length:Int) 64=false:=by unfold pow2B;rw [decide_eq_false (by omega)];rfl
  rw [this];rfl
 ·
  rw [if_neg h2,zir (by omega),zg2 (by omega) (by omega)]
  cases pow2B (l.length:Int) 64 <;> simp
theorem zju (l:List E):zef.f l=some (pow2B l.length 64 && okLB l):=by
 unfold zef.f
 rw [zj3 (by omega),zjs]
 cases pow2B (l.length:Int) 64 <;> simp
theorem zn4 {x y z:E} (hx:okE x) (hy:okE y) (hz:okE z):zcq.f x.f0 x.f1 y.f0 y.f1 z.f0 z.f1=some ((eadd x (emul z (esub y x))).f0,(eadd x (emul z (esub y x))).f1):=by
 unfold zcq.f
 rw [zhw hy hx]
 simp only [bS]
 rw [zfp hz (znt _ _)]
 simp only [bS]
 rw [zin hx (zkj _ _)]
 rfl
theorem fold_l0 (x0:List E) (h0:okL x0) (hn:x0.length≤4096) (z:E) (hz:okE z) (d:Nat):∀ (i:Nat) (a:List E),i + 2 * d=x0.length→a.length≤i→okL a→
  ∃ q,(okL q∧q.length=a.length + d)∧∀ k,d<k→zbc.l0 k x0 a i z.f0 z.f1=some q∧zav.l0 k x0 a i z.f0 z.f1=some q:=by
 induction d with
 | zero=>
  intro i a hi ha hoa
  refine⟨a,⟨hoa,rfl⟩,fun k hk=>?_⟩
  obtain⟨k,rfl⟩:∃ m,k=m + 1:=⟨k - 1,(by omega)⟩
  simp only [zbc.l0,zav.l0]
  rw [if_neg (by omega),if_neg (by omega)];exact⟨rfl,rfl⟩
 | succ d ih=>
  intro i a hi ha hoa
  have w1:wrap64 ((i:Int) + 1)=(i:Int) + 1:=w64 (by omega) (by omega)
  have w2:wrap64 ((i:Int) + 2)=((i + 2:Nat):Int):=by rw [w64 (by omega) (by omega)];omega
  have h1:okE (zac x0 i):=zfw h0 (by omega) (by omega)
  have h2:okE (zac x0 ((i:Int) + 1)):=zfw h0 (by omega) (by omega)
  obtain⟨q,hq,h⟩:=ih (i + 2) (a++[eadd (zac x0 i) (emul z (esub (zac x0 ((i:Int) + 1)) (zac x0 i)))]) (by omega) (by simp;omega) (okL_app hoa (okL_one (ok_add _ _)))
  refine⟨q,⟨hq.1,(by rw [hq.2];simp;omega)⟩,fun k hk=>?_⟩
  obtain⟨k,rfl⟩:∃ m,k=m + 1:=⟨k - 1,(by omega)⟩
  simp only [zbc.l0,zav.l0]
  rw [w1,w2,if_pos (by omega),if_pos (by omega),if_pos (by omega),if_pos (by omega),if_pos (by omega),if_pos (by omega),if_pos (by omega),if_pos (by omega)]
  rw [zha h2 h1,zn4 h1 h2 hz]
  simp only [bS]
  rw [zfk hz (znt _ _),if_pos (by omega)]
  simp only [bS]
  rw [zhb h1 (zkj _ _)]
  simp only [bS]
  rw [if_pos (by omega)]
  exact h k (by omega)
theorem zph {x0:List E} (h0:okL x0) {d:Nat} (hd:2 * d=x0.length) (hn:x0.length≤4096) {z:E} (hz:okE z) :
  ∃ q,(okL q∧q.length=d)∧∀ k,d<k→zbc.f k x0 z.f0 z.f1=some q∧zav.f k x0 z.f0 z.f1=some q:=by
 unfold zbc.f zav.f
 obtain⟨q,hq,h⟩:=fold_l0 x0 h0 hn z hz d 0 [] (by omega) (by simp) okL_nil
 exact⟨q,⟨hq.1,(by rw [hq.2];simp)⟩,h⟩
theorem shlS_0:∀ n:Fin 10,shl .i64 1 (n.val:Int)=((2 ^ n.val:Nat):Int):=by decide +kernel
theorem shlS_ {n:Nat} (h:n<10):shl .i64 1 (n:Int)=((2 ^ n:Nat):Int):=shlS_0 ⟨n,h⟩
end Go.Proofs.YtgookagndlfehaaGreat.PT
end
section
/- Powers, inverses and the line: what the printed functions of chapter 2 come to. -/
namespace Go.Proofs.YtgookagndlfehaaGreat.PT
open Go.RowKit Go.Proofs.YtgookagndlfehaaGreatW.PrintWords Go.Proofs.YtgookagndlfehaaGreatW.PrintLast Go.Proofs.YtgookagndlfehaaGreatW.PrintMore
set_option linter.unusedVariables false
set_option linter.unusedSimpArgs false
end Go.Proofs.YtgookagndlfehaaGreat.PT
end
section
/- bits.Len's contract, laid from the kit's shelf for this program. -/
namespace Go.Proofs
open Go.Shelf
def Tryz.lays128_ren:Go.Shelf.Ren:=⟨fun|128=>183|n=>n,fun|51=>174|3=>3|4=>4|46=>64|5=>5|9=>9|n=>n,fun|n=>n⟩
theorem Tryz.lays128:Go.Proofs.Lays.n128 Tryz.prog Tryz.lays128_ren:={
 mixed:=by kernel_rfl
 f128:=Tryz.func183.trans (congrArg some (by kernel_rfl))
 t3:=Tryz.underlying3
 a3:=Tryz.isAgg3
 z3:=Tryz.sizeOf3
 v3:=Tryz.zeroValue3
 t4:=Tryz.underlying4
 a4:=Tryz.isAgg4
 z4:=Tryz.sizeOf4
 v4:=Tryz.zeroValue4
 t5:=Tryz.underlying5
 a5:=Tryz.isAgg5
 z5:=Tryz.sizeOf5
 v5:=Tryz.zeroValue5
 t9:=Tryz.underlying9
 a9:=Tryz.isAgg9
 z9:=Tryz.sizeOf9
 v9:=Tryz.zeroValue9
 t46:=Tryz.underlying64
 a46:=Tryz.isAgg64
 z46:=Tryz.sizeOf64
 v46:=Tryz.zeroValue64
 t51:=Tryz.underlying174
 a51:=Tryz.isAgg174
 z51:=Tryz.sizeOf174
 v51:=Tryz.zeroValue174 }
theorem Tryz.bits_Len32 (x:Int) (w:World) (h0:0≤x) (h1:x≤4294967295) :
  Calls Tryz.prog 183 #[.int .u32 x] w fun e w'=>e=.returned (.int .i64 (Lib.bitLen x.toNat))∧w'=w:=Any.bits_Len32 Tryz.lays128 x w h0 h1
def Tryz.lays125_ren:Go.Shelf.Ren:=⟨fun|125=>181|128=>183|129=>184|n=>n,fun|46=>64|3=>3|51=>174|53=>151|4=>4|5=>5|9=>9|n=>n,fun|n=>n⟩
theorem Tryz.lays125:Go.Proofs.Lays.n125 Tryz.prog Tryz.lays125_ren:={
 mixed:=by kernel_rfl
 f125:=Tryz.func181.trans (congrArg some (by kernel_rfl))
 f128:=Tryz.func183.trans (congrArg some (by kernel_rfl))
 f129:=Tryz.func184.trans (congrArg some (by kernel_rfl))
 t3:=Tryz.underlying3
 a3:=Tryz.isAgg3
 z3:=Tryz.sizeOf3
 v3:=Tryz.zeroValue3
 t4:=Tryz.underlying4
 a4:=Tryz.isAgg4
 z4:=Tryz.sizeOf4
 v4:=Tryz.zeroValue4
 t5:=Tryz.underlying5
 a5:=Tryz.isAgg5
 z5:=Tryz.sizeOf5
 v5:=Tryz.zeroValue5
 t9:=Tryz.underlying9
 a9:=Tryz.isAgg9
 z9:=Tryz.sizeOf9
 v9:=Tryz.zeroValue9
 t46:=Tryz.underlying64
 a46:=Tryz.isAgg64
 z46:=Tryz.sizeOf64
 v46:=Tryz.zeroValue64
 t51:=Tryz.underlying174
 a51:=Tryz.isAgg174
 z51:=Tryz.sizeOf174
 v51:=Tryz.zeroValue174
 t53:=Tryz.underlying151
 a53:=Tryz.isAgg151
 z53:=Tryz.sizeOf151
 v53:=Tryz.zeroValue151 }
theorem Tryz.bits_Len (x:Int) (w:World) (h0:0≤x) (h1:x≤18446744073709551615) :
  Calls Tryz.prog 181 #[.int .u64 x] w fun e w'=>e=.returned (.int .i64 (Lib.bitLen x.toNat))∧w'=w:=Any.bits_Len Tryz.lays125 x w h0 h1
def Tryz.lays129_ren:Go.Shelf.Ren:=⟨fun|129=>184|n=>n,fun|53=>151|3=>3|4=>4|46=>64|5=>5|9=>9|n=>n,fun|n=>n⟩
theorem Tryz.lays129:Go.Proofs.Lays.n129 Tryz.prog Tryz.lays129_ren:={
 mixed:=by kernel_rfl
 f129:=Tryz.func184.trans (congrArg some (by kernel_rfl))
 t3:=Tryz.underlying3
 a3:=Tryz.isAgg3
 z3:=Tryz.sizeOf3
 v3:=Tryz.zeroValue3
 t4:=Tryz.underlying4
 a4:=Tryz.isAgg4
 z4:=Tryz.sizeOf4
 v4:=Tryz.zeroValue4
 t5:=Tryz.underlying5
 a5:=Tryz.isAgg5
 z5:=Tryz.sizeOf5
 v5:=Tryz.zeroValue5
 t9:=Tryz.underlying9
 a9:=Tryz.isAgg9
 z9:=Tryz.sizeOf9
 v9:=Tryz.zeroValue9
 t46:=Tryz.underlying64
 a46:=Tryz.isAgg64
 z46:=Tryz.sizeOf64
 v46:=Tryz.zeroValue64
 t53:=Tryz.underlying151
 a53:=Tryz.isAgg151
 z53:=Tryz.sizeOf151
 v53:=Tryz.zeroValue151 }
theorem Tryz.bits_Len64 (x:Int) (w:World) (h0:0≤x) (h1:x≤18446744073709551615) :
  Calls Tryz.prog 184 #[.int .u64 x] w fun e w'=>e=.returned (.int .i64 (Lib.bitLen x.toNat))∧w'=w:=Any.bits_Len64 Tryz.lays129 x w h0 h1
end Go.Proofs
end
section
namespace Go.Proofs.YtgookagndlfehaaGreat.PT
open Go.RowKit Go.Proofs.YtgookagndlfehaaGreatW.PrintWords Go.Proofs.YtgookagndlfehaaGreatW.PrintLast Go.Proofs.YtgookagndlfehaaGreatW.PrintMore
attribute [local go_sem] zez zey zfh zff zed zd9 zex zew   -- for this text's walks alone
set_option linter.unusedVariables false
set_option linter.unusedSimpArgs false
end Go.Proofs.YtgookagndlfehaaGreat.PT
end
section
/- Words: their transform, its inverse, and a word folded: both sides walk the same numbers. -/
namespace Go.Proofs.YtgookagndlfehaaGreat.PT
open Go.RowKit Go.Proofs.YtgookagndlfehaaGreatW.PrintWords Go.Proofs.YtgookagndlfehaaGreatW.PrintLast Go.Proofs.YtgookagndlfehaaGreatW.PrintMore
set_option linter.unusedVariables false
set_option linter.unusedSimpArgs false
end Go.Proofs.YtgookagndlfehaaGreat.PT
end
section
/- A row of rows that are held elsewhere, too: the rows' values, and what the rows hold, apart. -/
namespace Go.Proofs.YtgookagndlfehaaGreat.PT
open Go.RowKit Go.Proofs.YtgookagndlfehaaGreatW.PrintWords Go.Proofs.YtgookagndlfehaaGreatW.PrintLast Go.Proofs.YtgookagndlfehaaGreatW.PrintMore
set_option linter.unusedVariables false
set_option linter.unusedSimpArgs false
abbrev Desc:=Option Addr × Nat × Nat
abbrev Desc.v (x:Desc):Value:=.slice x.1 x.2.1 x.2.2
def kv:Kd Desc:=Kd.scalar Desc.v (fun _=>rfl)
def zkk {α:Type} (d:Kd α) (e b:Nat) (ps:List (Desc × List α)) (S:Nat→Prop):Grp:=⟨S,fun w=>(∀ p,p∈ps→d.R e w b S p.1.v p.2)∧ps.Pairwise (fun p q=>∀ k,p.1.v.ownBlock=some k→q.1.v.ownBlock≠some k)⟩
namespace Inv
variable {w0 w w1:World} {P:Nat→Prop} {L:List Grp} {F:World→Prop}
theorem mergeF {a b c:Grp} (h:Inv w0 P w (a::b::L) F) (hS:∀ k,c.S k↔(a.S k∨b.S k)) (hA:∀ w',a.A w'→b.A w'→c.A w'):Inv w0 P w (c::L) F:=by
 have hd:=List.pairwise_cons.1 h.dis
 have hd2:=List.pairwise_cons.1 hd.2
 refine⟨h.agr,fun x hx k hk=>?_,fun x hx k hk=>?_,fun x hx w' hw=>?_,List.Pairwise.cons (fun x hx k hk hk2=>?_) hd2.2,fun w' hw=>h.facts w' (hw.mono ?_)⟩
 ·
  rcases List.mem_cons.1 hx with rfl|hx
  ·
   rcases (hS k).1 hk with hk|hk
   ·
    exact h.lt _ List.mem_cons_self k hk
   ·
    exact h.lt _ (List.mem_cons_of_mem _ List.mem_cons_self) k hk
  ·
   exact h.lt x (List.mem_cons_of_mem _ (List.mem_cons_of_mem _ hx)) k hk
 ·
  rcases List.mem_cons.1 hx with rfl|hx
  ·
   rcases (hS k).1 hk with hk|hk
   ·
    exact h.new _ List.mem_cons_self k hk
   ·
    exact h.new _ (List.mem_cons_of_mem _ List.mem_cons_self) k hk
  ·
   exact h.new x (List.mem_cons_of_mem _ (List.mem_cons_of_mem _ hx)) k hk
 ·
  rcases List.mem_cons.1 hx with rfl|hx
  ·
   exact hA w' (h.own _ List.mem_cons_self w' (fun k hk=>hw k ((hS k).2 (.inl hk)))) (h.own _ (List.mem_cons_of_mem _ List.mem_cons_self) w' (fun k hk=>hw k ((hS k).2 (.inr hk))))
  ·
   exact h.own x (List.mem_cons_of_mem _ (List.mem_cons_of_mem _ hx)) w' hw
 ·
  rcases (hS k).1 hk with hk|hk
  ·
   exact hd.1 x (List.mem_cons_of_mem _ hx) k hk hk2
  ·
   exact hd2.1 x hx k hk hk2
 ·
  rintro k ⟨x,hx,hk⟩
  rcases List.mem_cons.1 hx with rfl|hx
  ·
   rcases (hS k).1 hk with hk|hk
   ·
    exact⟨a,List.mem_cons_self,hk⟩
   ·
    exact⟨b,List.mem_cons_of_mem _ List.mem_cons_self,hk⟩
  ·
   exact⟨x,List.mem_cons_of_mem _ (List.mem_cons_of_mem _ hx),hk⟩
section
variable {α:Type} {d:Kd α} {e b e':Nat} {ps:List (Desc × List α)} {S S2:Nat→Prop} {xs:List α} {v:Value}
theorem noInners (d:Kd α) (e b:Nat) (h:Inv w0 P w L F):Inv w0 P w (zkk d e b [] (fun _=>False)::L) F:=
 h.push (Below.refl _ _) _ (fun _ h=>h.elim) (fun _ _=>by refine⟨?_,List.Pairwise.nil⟩;intro p hp;cases hp)
theorem takeIn {x:Desc} (h:Inv w0 P w (row d e b x.v xs S::zkk d e b ps S2::L) F):Inv w0 P w (zkk d e b (ps++[(x,xs)]) (fun k=>S k∨S2 k)::L) F:=by
 have hd:=(List.pairwise_cons.1 h.dis).1 _ List.mem_cons_self
 refine h.mergeF (fun k=>Iff.rfl) (fun w' ha hb=>⟨fun p hp=>?_,List.pairwise_append.2 ⟨hb.2,List.pairwise_singleton _ _,fun p hp q hq k hk hk2=>?_⟩⟩)
 ·
  rcases List.mem_append.1 hp with hp|hp
  ·
   exact Kd.zba (hb.1 p hp) (fun k hk=>.inr hk)
  ·
   obtain rfl:=List.mem_singleton.1 hp
   exact Kd.zba ha (fun k hk=>.inl hk)
 ·
  obtain rfl:=List.mem_singleton.1 hq
  exact hd k (ha.1 k hk2) ((hb.1 p hp).1 k hk)
theorem rowForm (h:Inv w0 P w (row d e b v xs S::L) F):∃ x:Desc,v=x.v∧x.2.1=xs.length∧xs.length≤x.2.2:=by
 obtain⟨A,c,rfl,hc,_⟩:=Kd.zgv h.row0
 exact⟨(A,xs.length,c),rfl,rfl,hc⟩
theorem slices (h:Inv w0 P w (row kv e' b v (ps.map Prod.fst) S::zkk d e b ps S2::L) F):(Kd.slice e d).R e' w b (fun _=>True) v (ps.map Prod.snd):=by
 have hd:=(List.pairwise_cons.1 h.dis).1 _ List.mem_cons_self
 have hin:=h.get 1 rfl
 obtain⟨h0,inner,ho,hr⟩:=h.row0
 refine⟨fun _ _=>trivial,inner,?_,?_,fun j xs hj=>?_⟩
 ·
  rw [List.length_map] at ho ⊢;exact ho
 ·
  have:=hr.1;rw [List.length_map] at this ⊢;exact this
 ·
  rw [List.getElem?_map] at hj
  cases hp:ps[j]? with
  | none=>rw [hp] at hj;cases hj
  | some p=>
   rw [hp] at hj
   obtain rfl:p.2=xs:=by simpa using hj
   have h1:=hr.2 j p.1 (by rw [List.getElem?_map,hp];rfl)
   exact⟨p.1.v,h1,Kd.zba (hin.1 p (List.mem_of_getElem? hp)) (fun k hk=>⟨trivial,fun e=>hd k (h0 k e.symm) hk⟩)⟩
theorem zmo {β:Type} (key:β→Option Nat):∀ ps:List β,ps.Pairwise (fun p q=>∀ k,key p=some k→key q≠some k)→∃ f:Nat→Nat,∀ j p,ps[j]?=some p→∀ k,key p=some k→f k=j
 | [],_=>⟨fun _=>0,fun j p h=>by simp at h⟩
 | p::ps,h=>by
  obtain⟨f,hf⟩:=zmo key ps (List.pairwise_cons.1 h).2
  refine⟨fun k=>if key p=some k then 0 else f k + 1,fun j q hj k hk=>?_⟩
  cases j with
  | zero=>
   obtain rfl:p=q:=by simpa using hj
   exact if_pos hk
  | succ j=>
   have hq:ps[j]?=some q:=by simpa using hj
   show (if key p=some k then 0 else f k + 1)=j + 1
   rw [if_neg (fun hp=>(List.pairwise_cons.1 h).1 q (List.mem_of_getElem? hq) k hp hk),hf j q hq k hk]
theorem slicesS {ps:List (Desc × List ByteArray)} (h:Inv w0 P w (row kv e' b v (ps.map Prod.fst) S::zkk Kd.string e b ps S2::L) F):Kd.S (Kd.slice e Kd.string) e' w b (fun _=>True) v (ps.map Prod.snd):=by
 have hd:=(List.pairwise_cons.1 h.dis).1 _ List.mem_cons_self
 have hin:=h.get 1 rfl
 obtain⟨f,hf⟩:=zmo (fun p:Desc × List ByteArray=>p.1.v.ownBlock) ps hin.2
 obtain⟨h0,inner,ho,hr⟩:=h.row0
 refine⟨f,fun _ _=>trivial,inner,?_,?_,fun j x hj=>?_⟩
 ·
  rw [List.length_zipIdx,List.length_map];rw [List.length_map] at ho;exact ho
 ·
  have:=hr.1;rw [List.length_zipIdx,List.length_map];rw [List.length_map] at this;exact this
 ·
  rw [List.getElem?_zipIdx,List.getElem?_map] at hj
  cases hp:ps[j]? with
  | none=>rw [hp] at hj;cases hj
  | some p=>
   rw [hp] at hj
   obtain rfl:(p.2,0 + j)=x:=by simpa using hj
   have h1:=hr.2 j p.1 (by rw [List.getElem?_map,hp];rfl)
   have h2:=hin.1 p (List.mem_of_getElem? hp)
   exact⟨p.1.v,h1,Kd.zba (Kd.zem rfl h2) (fun k hk=>⟨⟨trivial,fun e=>hd k (h0 k e.symm) (h2.1 k hk.symm)⟩,by rw [Nat.zero_add];exact hf j p hp k hk.symm⟩)⟩
theorem reads (h:Inv w0 P w L F) {A:Option Addr} {n c:Nat} (i:Nat) (hi:L[i]?=some (zkk d e b ps S)) (hm:((A,n,c),xs)∈ps):d.C w A xs.length xs:=(Kd.R_reads' ((h.get i hi).1 _ hm)).2.2
end
end Inv
def hl (t:ByteArray):ByteArray:=kec (nums_ ((⟨#[0]⟩:ByteArray)++t))
def hn (a b:ByteArray):ByteArray:=kec (nums_ (((⟨#[1]⟩:ByteArray)++a)++b))
theorem kec_len (xs:List Int):(kec xs).size=32:=by
 unfold kec
 rw [strOfNums_size,List.length_take,ze6]
 rfl
def pairs:List ByteArray→List ByteArray
 | a::b::l=>hn a b::pairs l
 | _=>[]
theorem zlu:∀ l:List ByteArray,(pairs l).length=l.length / 2
 | []=>rfl
 | [_]=>by simp [pairs]
 | a::b::l=>by rw [pairs,List.length_cons,zlu l,List.length_cons,List.length_cons];omega
theorem zlq:∀ (l:List ByteArray) (j:Nat),2 * j + 1<l.length→(pairs l)[j]?=some (hn (rdOf ByteArray.empty l ((2 * j:Nat):Int)) (rdOf ByteArray.empty l ((2 * j + 1:Nat):Int)))
 | [],j,h=>by simp at h
 | [_],j,h=>by simp at h
 | a::b::l,0,h=>rfl
 | a::b::l,j + 1,h=>by
  have:=zlq l j (by simp at h;omega)
  rw [pairs,List.getElem?_cons_succ,this]
  rfl
theorem pairs_take (l:List ByteArray) (j:Nat) (h:2 * j + 1<l.length):(pairs l).take (j + 1)=(pairs l).take j++[hn (rdOf ByteArray.empty l ((2 * j:Nat):Int)) (rdOf ByteArray.empty l ((2 * j + 1:Nat):Int))]:=by
 rw [List.take_add_one,zlq l j h]
 rfl
theorem zoa:∀ l:List ByteArray,∀ t,t∈pairs l→t.size=32
 | [],t,h=>by cases h
 | [_],t,h=>by cases h
 | a::b::l,t,h=>by
  rcases List.mem_cons.1 h with rfl|h
  ·
   exact kec_len _
  ·
   exact zoa l t h
def rise:Nat→List ByteArray→Option (List (List ByteArray))
 | 0,_=>none
 | k + 1,l=>if l.length≤1 then some [] else if l.length % 2=0 then(rise k (pairs l)).map (pairs l::·) else none
def levels_ (l:List ByteArray):Option (List (List ByteArray)):=if l.length≤4096∧l.all (fun t=>decide (t.size≤1000))=true then(rise 20 (l.map hl)).map (l.map hl::·) else none
theorem size_of_all {l:List ByteArray} (h:l.all (fun t=>decide (t.size≤1000))=true):∀ t∈l,t.size≤1000:=fun t ht=>of_decide_eq_true (List.all_eq_true.1 h t ht)
theorem map_take {l:List ByteArray} (j:Nat) (h:j<l.length):(l.take (j + 1)).map hl=(l.take j).map hl++[hl (rdOf ByteArray.empty l (j:Int))]:=by
 rw [List.take_succ_eq_append_getElem h,List.map_append]
 have:rdOf ByteArray.empty l (j:Int)=l[j]:=by show l.getD (j:Int).toNat ByteArray.empty=l[j];rw [Int.toNat_natCast];simp [List.getD,h]
 rw [this]
 rfl
theorem rd_mem {l:List ByteArray} {i:Nat} (h:i<l.length):rdOf ByteArray.empty l (i:Int)∈l:=by
 have:rdOf ByteArray.empty l (i:Int)=l[i]:=by show l.getD (i:Int).toNat ByteArray.empty=l[i];rw [Int.toNat_natCast];simp [List.getD,h]
 rw [this]
 exact List.getElem_mem h
end Go.Proofs.YtgookagndlfehaaGreat.PT
end
section
/- copy of a whole row, of elements of any kind, onto a row of the call's own: own words beside the print's (YtgookagndlfehaaGreat: the seat's name). -/
namespace Go.Proofs.YtgookagndlfehaaGreatW.PrintLast
open Go.RowKit Go.Proofs.YtgookagndlfehaaGreatW.PrintWords
section
variable {P:Program}
theorem zlt (w:World) (dT sT ty elem:TypeId) (b o dLen dCap:Nat) (a:Addr) (sLen sCap size:Nat) (cs:List Value)
  (hu:P.underlying dT=some (.slice elem)) (hs:(P.info? elem).map (·.size)=some size) (hn:cs.length=Nat.min sLen dLen * size)
  (hsrc:∀ j v,cs[j]?=some v→w.cell? (a.add j)=some v) (hc:∀ j,j<cs.length→(w.cell? ⟨b,o + j,none⟩).isSome=true) (hf:∀ j,j<cs.length→w.frozen? ⟨b,o + j,none⟩=false) (h1:∀ v∈cs,v.oneCell'=true) :
  (Builtin.copy_ #[dT,sT] ty #[.slice (some ⟨b,o,none⟩) dLen dCap,.slice (some a) sLen sCap]).run P w=.ok (goInt (Nat.min sLen dLen:Nat)) (w.setCells b o cs):=by
 have hl:=run_loadCells_list (P:=P) w a cs hsrc
 have hst:=run_storeCells_cells (P:=P) b o cs 0 w (by simpa using hc) (by simpa using hf) h1
 cases hq:P.info? elem with
 | none=>simp [hq] at hs
 | some i=>
  have hi:i.size=size:=by simpa [hq] using hs
  rw [hn] at hl
  simp [Builtin.copy_,run_underlying hu,Builtin.lenOf,Builtin.firstCells,sizeOf,typeInfo,hq,hi,hl,hst]
theorem zk7 (w:World) (dT sT ty elem:TypeId) (d a:Option Addr) (dLen dCap sLen sCap size:Nat) (hu:P.underlying dT=some (.slice elem)) (hs:(P.info? elem).map (·.size)=some size) (hn:Nat.min sLen dLen=0) :
  (Builtin.copy_ #[dT,sT] ty #[.slice d dLen dCap,.slice a sLen sCap]).run P w=.ok (goInt 0) w:=by
 cases hq:P.info? elem with
 | none=>simp [hq] at hs
 | some i=>
  have hl:∀ (x:Addr),(loadCells x 0).run P w=.ok #[] w:=fun x=>by simpa using run_loadCells_list (P:=P) w x [] (by simp)
  cases d <;> cases a <;> simp [Builtin.copy_,run_underlying hu,Builtin.lenOf,Builtin.firstCells,sizeOf,typeInfo,hq,hn,storeCells,hl]
end
namespace Kd
section
variable {P:Program} {ops:Array Oper} {rest:List Oper} {o:Oper} {a:Act} {Q:Exit→Act→World→Prop} {α:Type}
open Go.Proofs.YtgookagndlfehaaGreatW.PrintWords.Kd
theorem R_copy_rows (d:Kd α) {w0 W:World} (base:Nat) (hgd:o.guard=none) (s x:Operand) (t t' e:TypeId)
  (ho:o.op=.call { callee:=.builtin .copy,args:=#[s,x],argTypes:=#[t,t'] }) (ht:P.underlying t=some (.slice e)) (hinfo:(P.info? e).map (·.size)=some d.sz) (hs0:0<d.sz)
  (v:Value) (xs ys:List α) (A:Option Addr) (m c:Nat) (ok okp:Nat→Prop) (hs:a.eval s=v) (hx:a.eval x=.slice A m c)
  (HO:d.R e W base ok v xs) (HR:d.C W A m ys) (hKM:∀ x cs,d.K W x cs→d.M W base okp x cs) (hokp:∀ k,okp k→ok k∧some k≠v.ownBlock) (hmn:m≤xs.length) (HB:Below base w0 W) (hbase:base≤W.heap.size)
  (h:∀ w1,d.R e w1 base ok v (ys++xs.drop m)→Below base w0 w1→W.grownBy w1 v.ownBlock→wpList P ops Q rest (a.put o.dst (goInt (m:Int))) w1) :
  wpList P ops Q (o::rest) a W:=by
 have hm:ys.length=m:=HR.1
 obtain⟨h0ok,inner,hown,hr⟩:=HO
 have fin:∀ w1,(Builtin.copy_ #[t,t'] o.type #[v,.slice A m c]).run P W=.ok (goInt (m:Int)) w1→d.R e w1 base ok v (ys++xs.drop m)→W.grownBy w1 v.ownBlock→wpList P ops Q (o::rest) a W:=by
  intro w1 hr hrow hg
  refine wpList_plain hgd fun K hK=>?_
  unfold Oper.wp execOp
  simp only [ho,resolve,invoke,builtin,Sem.run_bind,Sem.run_pure,Result.andThen_ok,List.map_toArray,List.map_cons,List.map_nil,hs,hx,hr]
  exact hK _ _ (h w1 hrow (HB.grown hg hbase (own_base hown)) hg)
 rcases Nat.eq_zero_or_pos m with hz|hp
 ·
  subst hz
  obtain rfl:ys=[]:=List.eq_nil_of_length_eq_zero hm
  obtain⟨A',c',hv⟩:=zpt hown
  refine fin W ?_ (by rw [List.nil_append,List.drop_zero];exact⟨h0ok,inner,hown,hr⟩) (World.grownBy.refl W _)
  rw [hv]
  exact zk7 W t t' o.type e A' A xs.length c' 0 c d.sz ht hinfo (Nat.zero_min _)
 ·
  obtain⟨ad,hA,_⟩:=HR.2.2 (by omega)
  subst hA
  obtain⟨news,hnr,hnc⟩:=zdx.zo9 HR
  have hnl:news.length=m * d.sz:=by rw [hnr.1,hm]
  have hone:∀ u∈news,u.oneCell'=true:=by
   intro u hu
   obtain⟨q,hq,rfl⟩:=List.mem_iff_getElem.1 hu
   have hql:q / d.sz<ys.length:=by
    rw [Nat.div_lt_iff_lt_mul hs0]
    rw [←hnr.1]
    exact hq
   have hc:=hnr.2 (q / d.sz) _ (List.getElem?_eq_getElem hql)
   refine d.K_one hc _ ?_
   rw [List.mem_iff_getElem?]
   refine⟨q % d.sz,?_⟩
   rw [List.getElem?_take,if_pos (Nat.mod_lt _ hs0),List.getElem?_drop,Nat.mul_comm,Nat.div_add_mod,List.getElem?_eq_getElem hq]
  rcases hown.2 with ⟨_,hx0⟩|⟨g,cap,cur,hv,hb,hh,hnc2,hcm,hcs,htake⟩
  ·
   omega
  have hmz:m * d.sz≤xs.length * d.sz:=Nat.mul_le_mul_right _ hmn
  have hxz:xs.length * d.sz≤cap * d.sz:=Nat.mul_le_mul_right _ (by omega)
  have hfit:m * d.sz≤cur.size:=by omega
  have hmin:Nat.min m xs.length=m:=Nat.min_eq_left hmn
  have hr1:=zlt (P:=P) W t t' o.type e g 0 xs.length cap ad m c d.sz news ht hinfo (by rw [hmin,hnl]) hnc
   (fun j hj=>by rw [cell_of_row W g _ cur e (0,0) hh];simp;omega) (fun j _=>zbu hh _) hone
  obtain⟨cur',h3,h4,h5⟩:=zgw news 0 W cur hh (by omega)
  obtain⟨s1,s2,s3,s4⟩:=zgq g news 0 W
  have hg:W.grownBy (W.setCells g 0 news) v.ownBlock:=⟨s1,s2,s3,(by rw [s4];exact Nat.le_refl _),fun k _ hk=>zgx _ _ k (fun he=>hk (by rw [hv,he];simp [Value.ownBlock]))⟩
  have step:∀ {q:α} {c:List Value} {o:Nat→Prop},d.M W base o q c→(∀ k,o k→ok k∧some k≠v.ownBlock)→d.M (W.setCells g 0 news) base (fun k=>ok k∧some k≠v.ownBlock) q c:=by
   intro q c o hq ho
   have h1:=d.M_move (w1:=W.setCells g 0 news) (fun k hk=>hg.block k hk.2.2.1 (ho k hk.1).2) (d.M_bound hq)
   exact d.M_mono (fun k hk=>ho k hk.1) h1
  have hln:(ys++xs.drop m).length=xs.length:=by rw [List.length_append,List.length_drop];omega
  refine fin _ (by rw [hv,hr1,hmin]) ⟨h0ok,news++inner.drop (m * d.sz),?_,?_⟩ hg
  ·
   rw [hln]
   refine⟨by rw [List.length_append,List.length_drop,hnl,hown.1];omega,.inr ⟨g,cap,cur',hv,hb,h3,hnc2,hcm,(by rw [h4,hcs]),?_⟩⟩
   rw [h5,List.take_zero,List.nil_append,hnl,Nat.zero_add,List.take_append,hnl,List.take_of_length_le (by omega),←htake,List.drop_take]
  ·
   exact zhn (hnr.imp_ (fun p c hp=>step (hKM p c hp) hokp)) ((zpd hr).imp_ (fun p c hp=>step hp (fun _ hk=>hk)))
end
end Kd
end Go.Proofs.YtgookagndlfehaaGreatW.PrintLast
end
section
/- A table's word, its leaves and the tree above them: both sides come to the same root. -/
namespace Go.Proofs.YtgookagndlfehaaGreat.PT
open Go.RowKit Go.Proofs.YtgookagndlfehaaGreatW.PrintWords Go.Proofs.YtgookagndlfehaaGreatW.PrintLast Go.Proofs.YtgookagndlfehaaGreatW.PrintMore
set_option linter.unusedVariables false
set_option linter.unusedSimpArgs false
theorem ziu (n:Int) (m:Int) (p:Nat) (hp:min (IntKind.u64.wrap m).toNat 64=p):shr .i64 n (IntKind.u64.wrap m)=n / 2 ^ p:=by
 show n / 2 ^ (min (IntKind.u64.wrap m).toNat 64)=n / 2 ^ p
 rw [hp]
theorem zle (n:Int) (k:Nat):zau.f (k + 5) n 4=some (four_ n):=by
 have e1:=ziu n 24 24 (by decide +kernel)
 have e2:=ziu n 16 16 (by decide +kernel)
 have e3:=ziu n 8 8 (by decide +kernel)
 have e4:=ziu n 0 0 (by decide +kernel)
 unfold zau.f
 rw [show wrap64 ((4:Int) - 1)=3 by decide +kernel]
 rw [zau.l0,if_pos (by decide +kernel),show wrap64 (8 * (3:Int))=24 by decide +kernel,if_pos (by decide +kernel),if_pos (by decide +kernel),e1,show wrap64 ((3:Int) - 1)=2 by decide +kernel]
 rw [zau.l0,if_pos (by decide +kernel),show wrap64 (8 * (2:Int))=16 by decide +kernel,if_pos (by decide +kernel),if_pos (by simp),e2,show wrap64 ((2:Int) - 1)=1 by decide +kernel]
 rw [zau.l0,if_pos (by decide +kernel),show wrap64 (8 * (1:Int))=8 by decide +kernel,if_pos (by decide +kernel),if_pos (by simp),e3,show wrap64 ((1:Int) - 1)=0 by decide +kernel]
 rw [zau.l0,if_pos (by decide +kernel),show wrap64 (8 * (0:Int))=0 by decide +kernel,if_pos (by decide +kernel),if_pos (by simp),e4,show wrap64 ((0:Int) - 1) = -1 by decide +kernel]
 rw [zau.l0,if_neg (by decide +kernel)]
 unfold four_
 simp
def bytes_:List Int→List E→List Int
 | a,[]=>a
 | a,x::l=>bytes_ ((a++four_ x.f0)++four_ x.f1) l
theorem zil:∀ (l:List E) (a:List Int),(bytes_ a l).length=a.length + 8 * l.length
 | [],a=>by rw [bytes_];rfl
 | x::l,a=>by rw [bytes_,zil l,List.length_append,List.length_append,zcy,zcy,List.length_cons];omega
theorem zmq (l:List E) (hl:l.length≤100000) (d:Nat):∀ (i:Nat) (a:List Int) (k:Nat),i + d=l.length→a.length≤1000000000→a.length + 8 * d≤1000000000→d<k→za8.l0 k a l (l.length:Int) (i:Int)=some (bytes_ a (l.drop i)):=by
 induction d with
 | zero=>
  intro i a k hi ha hb hk
  obtain⟨k,rfl⟩:∃ m,k=m + 1:=⟨k - 1,(by omega)⟩
  rw [za8.l0,if_neg (by omega),List.drop_eq_nil_of_le (by omega),bytes_]
 | succ d ih=>
  intro i a k hi ha hb hk
  obtain⟨k,rfl⟩:∃ m,k=m + 1:=⟨k - 1,(by omega)⟩
  have hlt:i<l.length:=by omega
  rw [za8.l0,if_pos (by omega),if_pos (by omega),if_pos (by omega),zp8 hlt,zmr (by omega)]
  simp only [bS]
  rw [zmr (by rw [List.length_append,zcy];omega)]
  simp only [bS]
  rw [w64 (by omega) (by omega),show (i:Int) + 1=((i + 1:Nat):Int) by omega,ih (i + 1) _ k (by omega) (by rw [List.length_append,List.length_append,zcy,zcy];omega) (by rw [List.length_append,List.length_append,zcy,zcy];omega) (by omega),List.drop_eq_getElem_cons hlt,bytes_]
theorem zmu {l:List E} (hl:l.length≤100000) {k:Nat} (hk:l.length<k):za8.f k l=some (bytes_ [] l):=by
 unfold za8.f
 have e:=zmq l hl l.length 0 [] k (by omega) (by simp) (by simp;omega) hk
 rw [Int.natCast_zero,List.drop_zero] at e
 exact e
theorem zlr (l:List E) (hl:l.length≤100000) (d:Nat):∀ (i:Nat) (a:List Int) (k:Nat),i + d=l.length→a.length + 8 * d≤1000000000→d + 5<k→za0.l0 k l a (i:Int)=some (bytes_ a (l.drop i)):=by
 induction d with
 | zero=>
  intro i a k hi hb hk
  obtain⟨k,rfl⟩:∃ m,k=m + 1:=⟨k - 1,(by omega)⟩
  rw [za0.l0,if_neg (by omega),List.drop_eq_nil_of_le (by omega),bytes_]
 | succ d ih=>
  intro i a k hi hb hk
  obtain⟨k,rfl⟩:∃ m,k=m + 5 + 1:=⟨k - 6,(by omega)⟩
  have hlt:i<l.length:=by omega
  rw [za0.l0,if_pos (by omega),if_pos (by omega),zp8 hlt,zle]
  simp only [bS]
  rw [if_pos (by rw [zcy];omega),zle]
  simp only [bS]
  rw [if_pos (by rw [List.length_append,zcy,zcy];omega),w64 (by omega) (by omega),show (i:Int) + 1=((i + 1:Nat):Int) by omega,ih (i + 1) _ (k + 5) (by omega) (by rw [List.length_append,List.length_append,zcy,zcy];omega) (by omega),List.drop_eq_getElem_cons hlt,bytes_]
theorem zmg {l:List E} (hl:l.length≤100000) {k:Nat} (hk:l.length + 5<k):za0.f k l=some (bytes_ [] l):=by
 unfold za0.f
 have e:=zlr l hl l.length 0 [] k (by omega) (by simp;omega) hk
 rw [Int.natCast_zero,List.drop_zero] at e
 exact e
end Go.Proofs.YtgookagndlfehaaGreat.PT
end
section
/- The line through points: both sides come to the same sum. -/
namespace Go.Proofs.YtgookagndlfehaaGreat.PT
open Go.RowKit Go.Proofs.YtgookagndlfehaaGreatW.PrintWords Go.Proofs.YtgookagndlfehaaGreatW.PrintLast Go.Proofs.YtgookagndlfehaaGreatW.PrintMore
set_option linter.unusedVariables false
set_option linter.unusedSimpArgs false
end Go.Proofs.YtgookagndlfehaaGreat.PT
end
section
/- What a source takes in and draws, alike on both sides. -/
namespace Go.Proofs.YtgookagndlfehaaGreat.PT
open Go.RowKit Go.Proofs.YtgookagndlfehaaGreatW.PrintWords Go.Proofs.YtgookagndlfehaaGreatW.PrintLast Go.Proofs.YtgookagndlfehaaGreatW.PrintMore
set_option linter.unusedVariables false
set_option linter.unusedSimpArgs false
def num_:Nat→List Nat→Nat
 | a,[]=>a
 | a,x::l=>num_ (a * 256 + x) l
theorem or_byte {a b:Nat} (hb:b<256):a * 256 ||| b=a * 256 + b:=by
 have h:=Nat.shiftLeft_add_eq_or_of_lt (a:=a) (b:=b) (i:=8) (by omega)
 rw [Nat.shiftLeft_eq] at h
 exact h.symm
theorem u64nat {n:Nat} (h:n<18446744073709551616):IntKind.u64.wrap ((n:Nat):Int)=(n:Int):=by
 rw [IntKind.wrap_u64]
 omega
def natL (l:List Nat):List Int:=l.map fun(x:Nat)=>(x:Int)
theorem zhg (l:List Nat):(natL l).length=l.length:=by simp [natL]
theorem natL_rd {l:List Nat} {i:Nat} (h:i<l.length):rd (natL l) (i:Int)=((l.getD i 0:Nat):Int):=by
 show (natL l).getD (i:Int).toNat 0=_
 rw [Int.toNat_natCast,getD_at (by rw [zhg];exact h),getD_at h]
 simp [natL]
theorem zot (l:List Nat) (hl:∀ x∈l,x<256) (hn:l.length=8) (d:Nat):∀ (i a k:Nat),i + d=8→d<k→a<256 ^ i→
  zce.l0 k (a:Int) (natL l) 8 (i:Int)=some (((num_ a (l.drop i)) % 2130706433:Nat):Int):=by
 induction d with
 | zero=>
  intro i a k hi hk ha
  obtain⟨k,rfl⟩:∃ m,k=m + 1:=⟨k - 1,(by omega)⟩
  obtain rfl:i=8:=by omega
  rw [zce.l0,if_neg (by omega),List.drop_of_length_le (by omega),zfy (by omega)]
  show some (wrap64 ((a:Int) % 2130706433))=some (((a % 2130706433:Nat)):Int)
  rw [w64 (by omega) (by omega)]
  congr 1
 | succ d ih=>
  intro i a k hi hk ha
  obtain⟨k,rfl⟩:∃ m,k=m + 1:=⟨k - 1,(by omega)⟩
  have hil:i<l.length:=by omega
  have hp:256 ^ i≤256 ^ 7:=Nat.pow_le_pow_right (by omega) (by omega)
  have hx:l.getD i 0<256:=by rw [getD_at hil];exact hl _ (List.getElem_mem _)
  have ha2:a * 256<18446744073709551616:=by
   have:a<256 ^ 7:=Nat.lt_of_lt_of_le ha hp
   have e:(256:Nat) ^ 7=72057594037927936:=by decide
   omega
  rw [zce.l0,if_pos (by omega),if_pos (by omega),if_pos (by rw [zhg];omega),natL_rd hil]
  rw [show ((a:Int) * 256)=((a * 256:Nat):Int) by omega,u64nat ha2,u64nat (by omega),bits_or_u64_nat _ _ ha2 (by omega),or_byte hx,w64 (by omega) (by omega),show (i:Int) + 1=((i + 1:Nat):Int) by omega]
  have h:=ih (i + 1) (a * 256 + l.getD i 0) k (by omega) (by omega) (by rw [Nat.pow_succ];clear hp ha2;generalize 256 ^ i=p at ha ⊢;omega)
  rw [h,show l.drop i=l.getD i 0::l.drop (i + 1) by rw [getD_at hil,List.getElem_cons_drop]]
  rfl
theorem znn {l:List Nat} (hl:∀ x∈l,x<256) (hn:l.length=8):mod8 (natL l)=((num_ 0 l % 2130706433:Nat):Int):=by
 unfold mod8 zce.f
 rw [zhg,hn]
 have h:=zot l hl hn 8 0 0 20 (by omega) (by omega) (by decide)
 rw [show (((8:Nat)):Int)=8 from rfl]
 rw [show ((0:Nat):Int)=0 from rfl] at h
 rw [h]
 rfl
theorem zpx:∀ (l:List Nat) (a b:Nat),a % 2130706433=b % 2130706433→num_ a l % 2130706433=num_ b l % 2130706433
 | [],a,b,h=>h
 | x::l,a,b,h=>zpx l _ _ (by omega)
theorem zp6 (t:ByteArray) (ht:t.size=8) (d:Nat):∀ (i a k:Nat),i + d=8→d<k→a<2130706433→
  zbj.l0 k t (a:Int) (i:Int)=some (((num_ a ((t.data.toList.map UInt8.toNat).drop i)) % 2130706433:Nat):Int):=by
 have hlen:(t.data.toList.map UInt8.toNat).length=8:=by rw [List.length_map,Array.length_toList];exact ht
 induction d with
 | zero=>
  intro i a k hi hk ha
  obtain⟨k,rfl⟩:∃ m,k=m + 1:=⟨k - 1,(by omega)⟩
  obtain rfl:i=8:=by omega
  rw [zbj.l0,if_neg (by omega),List.drop_of_length_le (by omega)]
  show some (a:Int)=some (((a % 2130706433:Nat)):Int)
  rw [Nat.mod_eq_of_lt ha]
 | succ d ih=>
  intro i a k hi hk ha
  obtain⟨k,rfl⟩:∃ m,k=m + 1:=⟨k - 1,(by omega)⟩
  have hil:i<(t.data.toList.map UInt8.toNat).length:=by omega
  have hb:bt t (i:Int)=(((t.data.toList.map UInt8.toNat).getD i 0:Nat):Int):=by
   unfold bt
   rw [dif_pos (show (i:Int).toNat<t.size by omega),getD_at hil]
   simp [ByteArray.getElem_eq_getElem_data]
  have hx:(t.data.toList.map UInt8.toNat).getD i 0<256:=by
   rw [getD_at hil,List.getElem_map]
   exact UInt8.toNat_lt _
  rw [zbj.l0,if_pos (by omega),if_pos (by omega),if_pos (by omega),hb]
  generalize hv:(t.data.toList.map UInt8.toNat).getD i 0=v at hx
  rw [w64 (n:=(v:Int)) (by omega) (by omega),w64 (n:=(a:Int) * 256) (by omega) (by omega),w64 (by omega) (by omega),w64 (by omega) (by omega),zfy (by omega),show (i:Int) + 1=((i + 1:Nat):Int) by omega,show ((a:Int) * 256 + (v:Int)) % 2130706433=(((a * 256 + v) % 2130706433:Nat):Int) by omega]
  rw [ih (i + 1) _ k (by omega) (by omega) (Nat.mod_lt _ (by omega)),show (t.data.toList.map UInt8.toNat).drop i=v::(t.data.toList.map UInt8.toNat).drop (i + 1) by rw [←hv,getD_at hil,List.getElem_cons_drop]]
  congr 2
  exact zpx _ _ _ (by omega)
theorem zni {t:ByteArray} (ht:t.size=8) {k:Nat} (hk:8<k):zbj.f k t=some (mod8 (nums_ t)):=by
 have hlen:(t.data.toList.map UInt8.toNat).length=8:=by rw [List.length_map,Array.length_toList];exact ht
 have e:nums_ t=natL (t.data.toList.map UInt8.toNat):=by
  unfold nums_ natL
  rw [List.map_map]
  rfl
 unfold zbj.f
 rw [e,znn (fun x hx=>by obtain⟨u,_,rfl⟩:=List.mem_map.1 hx;exact UInt8.toNat_lt _) hlen]
 exact zp6 t ht 8 0 0 k (by omega) (by omega) (by omega)
theorem zht (a b:ByteArray):nums_ (a++b)=nums_ a++nums_ b:=by
 unfold nums_
 rw [ByteArray.data_append,Array.toList_append,List.map_append]
theorem zn2 (t:ByteArray) (a b:Nat):nums_ (t.extract a b)=((nums_ t).drop a).take (b - a):=by
 unfold nums_
 rw [ByteArray.data_extract,Array.toList_extract,List.map_take,List.map_drop]
theorem zhz (n:Int):Byt (four_ n):=by
 intro x hx
 simp only [four_,List.mem_cons,List.not_mem_nil,or_false] at hx
 omega
theorem znh {xs ys:List Int} (h:Byt xs) (k:Byt ys):Byt (xs++ys):=fun x hx=>(List.mem_append.1 hx).elim (h x) (k x)
theorem zml:∀ (l:List E) (a:List Int),Byt a→Byt (bytes_ a l)
 | [],a,h=>h
 | x::l,a,h=>zml l _ (znh (znh h (zhz _)) (zhz _))
theorem zm6 {s0:List E} {s1 s3:Int} {s2:ByteArray} {r:List E} (hs:s2.size=32) (hr:r.length≤8) :
  ∃ H:ByteArray,H.size=32∧∀ k,20<k→zcr.f k s0 s1 s2 s3 r=some (s1,H,0)∧zet.f k s0 s1 s2 s3 r=some (s0,s1,H,0):=by
 have hlen:(bytes_ [] r).length=8 * r.length:=by rw [zil];simp
 have hbt:Byt (bytes_ [] r):=zml r [] (fun _ h=>by cases h)
 refine⟨kec (nums_ s2++([97,98,115,111,114,98]++(four_ ((bytes_ [] r).length:Int)++bytes_ [] r))),zk3 _,fun k hk=>⟨?_,?_⟩⟩
 ·
  unfold zcr.f zca.f
  rw [zmu (by omega) (by omega)]
  simp only [bS]
  rw [if_pos (by omega),if_pos (by omega)]
  simp only [bS,List.flatten_cons,List.flatten_nil,List.append_nil]
 ·
  obtain⟨k,rfl⟩:∃ m,k=m + 5:=⟨k - 5,(by omega)⟩
  unfold zet.f
  rw [zmg (by omega) (by omega)]
  simp only [bS]
  unfold zb6.f
  have hsz:(strOfNums (bytes_ [] r)).size=(bytes_ [] r).length:=strOfNums_size _
  have h6:(⟨#[97,98,115,111,114,98]⟩:ByteArray).size=6:=rfl
  have h4:(strOfNums (four_ ((bytes_ [] r).length:Int))).size=4:=by rw [strOfNums_size,zcy]
  rw [if_pos (by omega),zle,hsz]
  simp only [bS]
  rw [if_pos (by rw [ByteArray.size_append,h6,h4];omega),if_pos (by rw [ByteArray.size_append,ByteArray.size_append,h6,h4];omega)]
  unfold zcv.f
  rw [if_pos (by rw [ByteArray.size_append,ByteArray.size_append,ByteArray.size_append,h6,h4,hsz];omega)]
  simp only [bS]
  rw [zht,zht,zht,ziw (zhz _),ziw hbt,List.append_assoc,List.append_assoc]
  rfl
theorem zo4 {s0:List E} {s1 s3:Int} {s2:ByteArray} (hs:s2.size=32) (ho:okL s0) (hl:s0.length≤64) (h0:0≤s1) (h1:s1≤2000000) :
  ∃ (e:E) (t1 t3:Int),okE e∧(t1=s1∨t1=s1 + 1)∧∀ k,20<k→zc5.f s0 s1 s2 s3=some (e.f0,e.f1,t1,s2,t3)∧zay.f k s0 s1 s2 s3=some (s0,t1,s2,t3,e.f0,e.f1):=by
 by_cases hp:0<s0.length
 ·
  have hm0:0≤Int.tmod s1 (s0.length:Int):=by rw [zfy h0];exact Int.emod_nonneg _ (by omega)
  have hm1:Int.tmod s1 (s0.length:Int)<(s0.length:Int):=by rw [zfy h0];exact Int.emod_lt_of_pos _ (by omega)
  have e:dpl s1 (s0.length:Int)=Int.tmod s1 (s0.length:Int):=by
   unfold dpl
   rw [w64 (n:=s1 + 1) (by omega) (by omega),w64 (by omega) (by omega),show s1 + 1 - 1=s1 by omega]
  refine⟨zac s0 (Int.tmod s1 (s0.length:Int)),s1 + 1,s3,zfw ho hm0 hm1,.inr rfl,fun k hk=>⟨?_,?_⟩⟩
  ·
   unfold zc5.f
   rw [if_pos hp,e,if_pos hm0,if_pos hm1,w64 (by omega) (by omega)]
  ·
   unfold zay.f
   rw [if_pos (by omega),if_neg (by omega),if_pos hm0,if_pos hm1,w64 (by omega) (by omega)]
 ·
  have hz:nums_ (⟨#[100,114,97,119]⟩:ByteArray)=[100,114,97,119]:=rfl
  obtain⟨T,hT⟩:∃ T,T=kec (nums_ s2++([100,114,97,119]++four_ s3)):=⟨_,rfl⟩
  have hTs:T.size=32:=by rw [hT];exact zk3 _
  have m_ok:∀ t:ByteArray,t.size=8→inF (mod8 (nums_ t)):=by
   intro t ht
   have e:nums_ t=natL (t.data.toList.map UInt8.toNat):=by unfold nums_ natL;rw [List.map_map];rfl
   rw [e,znn (fun x hx=>by obtain⟨u,_,rfl⟩:=List.mem_map.1 hx;exact UInt8.toNat_lt _) (by rw [List.length_map,Array.length_toList];exact ht)]
   have:=Nat.mod_lt (num_ 0 (t.data.toList.map UInt8.toNat)) (show 2130706433>0 by omega)
   exact⟨(by omega),(by omega)⟩
  have hx1:(T.extract 0 8).size=8:=by rw [ByteArray.size_extract];omega
  have hx2:(T.extract 8 16).size=8:=by rw [ByteArray.size_extract];omega
  have c1:(nums_ T).take 8=nums_ (T.extract 0 8):=by rw [zn2];rfl
  have c2:((nums_ T).take 16).drop 8=nums_ (T.extract 8 16):=by rw [zn2,List.drop_take]
  refine⟨⟨mod8 (nums_ (T.extract 0 8)),mod8 (nums_ (T.extract 8 16))⟩,s1,wrap64 (s3 + 1),⟨m_ok _ hx1,m_ok _ hx2⟩,.inl rfl,fun k hk=>⟨?_,?_⟩⟩
  ·
   unfold zc5.f
   rw [if_neg hp,if_pos (by omega)]
   simp only [List.flatten_cons,List.flatten_nil,List.append_nil]
   rw [←hT,c1,c2]
  ·
   obtain⟨k,rfl⟩:∃ m,k=m + 5:=⟨k - 5,(by omega)⟩
   unfold zay.f
   have h4:(⟨#[100,114,97,119]⟩:ByteArray).size=4:=rfl
   have h5:(strOfNums (four_ s3)).size=4:=by rw [strOfNums_size,zcy]
   rw [if_neg (by omega),if_pos (by omega),zle]
   simp only [bS]
   rw [if_pos (by rw [ByteArray.size_append,h4,h5];omega)]
   unfold zcv.f
   rw [if_pos (by rw [ByteArray.size_append,ByteArray.size_append,h4,h5];omega)]
   simp only [bS]
   rw [zht,zht,ziw (zhz _),hz,List.append_assoc,←hT,if_pos (by omega),if_pos (by omega),zni hx1 (by omega)]
   simp only [bS]
   rw [if_pos (by omega),if_pos (by omega),zni hx2 (by omega)]
   simp only [bS]
end Go.Proofs.YtgookagndlfehaaGreat.PT
end
section
/- Tables of tables: the laws' helpers over them, and the sum over all points. -/
namespace Go.Proofs.YtgookagndlfehaaGreat.PT
open Go.RowKit Go.Proofs.YtgookagndlfehaaGreatW.PrintWords Go.Proofs.YtgookagndlfehaaGreatW.PrintLast Go.Proofs.YtgookagndlfehaaGreatW.PrintMore
set_option linter.unusedVariables false
set_option linter.unusedSimpArgs false
theorem zld {L:List (List LE)} {i:Nat} (h:i<L.length):rd_L9 L (i:Int)=L[i]:=by
 show L.getD (i:Int).toNat []=L[i]
 rw [Int.toNat_natCast,getD_at h]
theorem zgi {L:List (List E)} {i:Nat} (h:i<L.length):rd_L3 L (i:Int)=L[i]:=by
 show L.getD (i:Int).toNat []=L[i]
 rw [Int.toNat_natCast,getD_at h]
theorem szSS_l0 (L:List (List LE)) (hg:∀ x∈L,x.length≤9223372036854775807) (hL:L.length≤1048576) (d:Nat):∀ (k i:Nat) (a:Int),i + d=L.length→d<k→0≤a→a≤1048576→
  ∃ r,zbf.l0 k L a i=some r∧(r<0∨∀ x∈L.drop i,(x.length:Int)≤1048576):=by
 induction d with
 | zero=>
  intro k i a hi hk h0 h1
  obtain⟨k,rfl⟩:∃ m,k=m + 1:=⟨k - 1,(by omega)⟩
  simp only [zbf.l0]
  rw [if_neg (by omega)]
  exact⟨_,rfl,Or.inr (by rw [List.drop_eq_nil_of_le (by omega)];intro x hx;cases hx)⟩
 | succ d ih=>
  intro k i a hi hk h0 h1
  obtain⟨k,rfl⟩:∃ m,k=m + 1:=⟨k - 1,(by omega)⟩
  have hlt:i<L.length:=by omega
  simp only [zbf.l0]
  rw [if_pos (show (i:Int)<(L.length:Int) by omega),if_pos (show 0≤(i:Int) by omega),zld hlt]
  by_cases h:a<((L[i]).length:Int)
  ·
   rw [zg5 h0 h1 (hg _ (List.getElem_mem hlt)) h]
   simp only [bS]
   exact⟨_,if_pos (by omega),Or.inl (by omega)⟩
  ·
   rw [zg7 h1 (by omega)]
   simp only [bS]
   rw [if_neg (by omega),w64 (by omega) (by omega),show (i:Int) + 1=((i + 1:Nat):Int) by omega]
   obtain⟨r,e,hr⟩:=ih k (i + 1) (a - (L[i]).length) (by omega) (by omega) (by omega) (by omega)
   refine⟨r,e,?_⟩
   rcases hr with hr|hr
   ·
    exact Or.inl hr
   ·
    refine Or.inr fun x hx=>?_
    rw [List.drop_eq_getElem_cons hlt] at hx
    rcases List.mem_cons.mp hx with rfl|hx
    ·
     omega
    ·
     exact hr x hx
theorem szSS_eq {L:List (List LE)} (hg:∀ x∈L,x.length≤9223372036854775807) (hg2:L.length≤9223372036854775807) :
  ∃ r,(∀ k,min L.length 1048576<k→zbf.f k L 1048576=some r)∧(r<0∨(L.length≤1048576∧∀ x∈L,x.length≤1048576)):=by
 by_cases h:L.length≤1048576
 ·
  obtain⟨r0,e0,hr0⟩:=szSS_l0 L hg h L.length (L.length + 1) 0 (1048576 - L.length) (by omega) (by omega) (by omega) (by omega)
  have mono:∀ (d k i:Nat) (a:Int),i + d=L.length→d<k→0≤a→a≤1048576→zbf.l0 k L a i=zbf.l0 (d + 1) L a i:=by
   intro d
   induction d with
   | zero=>
    intro k i a hi hk _ _
    obtain⟨k,rfl⟩:∃ m,k=m + 1:=⟨k - 1,(by omega)⟩
    simp only [zbf.l0]
    rw [if_neg (by omega),if_neg (by omega)]
   | succ d ih=>
    intro k i a hi hk h0 h1
    obtain⟨k,rfl⟩:∃ m,k=m + 1:=⟨k - 1,(by omega)⟩
    have hlt:i<L.length:=by omega
    rw [zbf.l0,zbf.l0,if_pos (show (i:Int)<(L.length:Int) by omega),if_pos (show 0≤(i:Int) by omega),zld hlt,
     if_pos (show (i:Int)<(L.length:Int) by omega),if_pos (show 0≤(i:Int) by omega)]
    by_cases h:a<((L[i]).length:Int)
    ·
     rw [zg5 h0 h1 (hg _ (List.getElem_mem hlt)) h]
     simp only [bS]
     rw [if_pos (by omega),if_pos (by omega)]
    ·
     rw [zg7 h1 (by omega)]
     simp only [bS]
     rw [if_neg (by omega),if_neg (by omega),w64 (n:=(i:Int) + 1) (by omega) (by omega),show (i:Int) + 1=((i + 1:Nat):Int) by omega]
     exact ih k (i + 1) _ (by omega) (by omega) (by omega) (by omega)
  refine⟨r0,fun k hk=>?_,?_⟩
  ·
   unfold zbf.f
   rw [w64 (by omega) (by omega),if_neg (by omega)]
   have:=mono L.length k 0 (1048576 - L.length) (by omega) (by omega) (by omega) (by omega)
   rw [Int.natCast_zero] at this e0
   rw [this];exact e0
  ·
   rcases hr0 with h1|h1
   ·
    exact Or.inl h1
   ·
    exact Or.inr ⟨h,fun x hx=>by have:=h1 x (by rw [List.drop_zero];exact hx);omega⟩
 ·
  refine⟨-1,fun k hk=>?_,Or.inl (by omega)⟩
  unfold zbf.f
  rw [w64 (by omega) (by omega),if_pos (by omega)]
def zf0 (L:List (List LE)):List (List E):=L.map convL
theorem zfn (L:List (List LE)):(zf0 L).length=L.length:=by simp [zf0]
theorem zn6 (L:List (List LE)) (i:Nat) (h:i<(zf0 L).length):(zf0 L)[i]=convL (L[i]'(by rw [zfn] at h;exact h)):=by simp [zf0]
theorem toSS_l0 (L:List (List LE)) (hL:L.length≤1048576) (hx:∀ x∈L,x.length≤1048576) (d:Nat):∀ (k i:Nat),i + d=L.length→d + 1048576<k→
  zbz.l0 k L ((zf0 L).take i++List.replicate d []) i=some (zf0 L):=by
 induction d with
 | zero=>
  intro k i hi hk
  obtain⟨k,rfl⟩:∃ m,k=m + 1:=⟨k - 1,(by omega)⟩
  simp only [zbz.l0]
  rw [if_neg (by omega),List.take_of_length_le (by rw [zfn];omega)];simp
 | succ d ih=>
  intro k i hi hk
  obtain⟨k,rfl⟩:∃ m,k=m + 1:=⟨k - 1,(by omega)⟩
  have hlt:i<L.length:=by omega
  have hlt2:i<(zf0 L).length:=by rw [zfn];exact hlt
  have hxi:=hx _ (List.getElem_mem hlt)
  have hlen:((zf0 L).take i).length=i:=by rw [List.length_take];omega
  simp only [zbz.l0]
  rw [if_pos (show (i:Int)<(L.length:Int) by omega),if_pos (show 0≤(i:Int) by omega),zld hlt,zl4 hxi (by omega)]
  simp only [bS]
  rw [if_pos (by rw [List.length_append,hlen,List.length_replicate];omega),Int.toNat_natCast,List.replicate_succ]
  have hs:=set_mid ((zf0 L).take i) (List.replicate d []) [] (convL L[i])
  rw [hlen] at hs
  rw [hs,w64 (by omega) (by omega),show (i:Int) + 1=((i + 1:Nat):Int) by omega]
  have:=ih k (i + 1) (by omega) (by omega)
  rw [List.take_succ_eq_append_getElem hlt2,zn6,List.append_assoc] at this
  exact this
theorem toSS_eq {L:List (List LE)} (hL:L.length≤1048576) (hx:∀ x∈L,x.length≤1048576) {k:Nat} (hk:3000000<k):zbz.f k L=some (zf0 L):=by
 unfold zbz.f
 rw [if_pos (by omega),if_pos (by omega)]
 have:=toSS_l0 L hL hx L.length k 0 (by omega) (by omega)
 rw [List.take_zero,List.nil_append,Int.natCast_zero] at this
 rw [Int.toNat_natCast]
 exact this
theorem eqSS_l0 (L:List (List E)) (hL:L.length≤1048576) (hx:∀ x∈L,x.length≤1048576) (d:Nat):∀ (k i:Nat),i + d=L.length→d + 1048576<k→za2.l0 k L L i=some true:=by
 induction d with
 | zero=>
  intro k i hi hk
  obtain⟨k,rfl⟩:∃ m,k=m + 1:=⟨k - 1,(by omega)⟩
  simp only [za2.l0]
  rw [if_neg (by omega)]
 | succ d ih=>
  intro k i hi hk
  obtain⟨k,rfl⟩:∃ m,k=m + 1:=⟨k - 1,(by omega)⟩
  have hlt:i<L.length:=by omega
  have hxi:=hx _ (List.getElem_mem hlt)
  simp only [za2.l0]
  rw [if_pos (show (i:Int)<(L.length:Int) by omega),if_pos (show 0≤(i:Int) by omega),if_pos (show (i:Int)<(L.length:Int) by omega),zgi hlt,zge (by omega) (by omega)]
  simp only [bS,if_true]
  rw [w64 (by omega) (by omega),show (i:Int) + 1=((i + 1:Nat):Int) by omega]
  exact ih k (i + 1) (by omega) (by omega)
theorem zlp {L:List (List E)} (hL:L.length≤1048576) (hx:∀ x∈L,x.length≤1048576) {k:Nat} (hk:3000000<k):za2.f k L L=some true:=by
 unfold za2.f
 rw [if_pos rfl]
 exact eqSS_l0 L hL hx L.length k 0 (by omega) (by omega)
theorem zl5 {L:List (List LE)} (hx:∀ x∈L,x.length≤1048576):∀ x∈zf0 L,x.length≤1048576:=by
 intro x h
 obtain⟨y,hy,rfl⟩:=List.mem_map.mp h
 rw [zg1];exact hx y hy
def okT (x:List E):Bool:=pow2B x.length 64 && okLB x
def askK (n0:Nat):List (List E)→Int
 | []=>0
 | x::xs=>if okT x=true then(if x.length=n0 then askK n0 xs else 8) else 1
theorem ask_l0 (L:List (List E)) (hL:L.length≤4096) (hL0:0<L.length) (hx:∀ x∈L,x.length≤1048576) (d:Nat):∀ (k i:Nat),i + d=L.length→d + 1048600<k→
  zax.l0 k L i=some (askK (L[0]).length (L.drop i))∧zaz.l0 k L L (L.length:Int) i=some (askK (L[0]).length (L.drop i)):=by
 induction d with
 | zero=>
  intro k i hi hk
  obtain⟨k,rfl⟩:∃ m,k=m + 1:=⟨k - 1,(by omega)⟩
  simp only [zax.l0,zaz.l0]
  rw [if_neg (by omega),if_neg (by omega),List.drop_eq_nil_of_le (by omega)]
  exact⟨rfl,rfl⟩
 | succ d ih=>
  intro k i hi hk
  obtain⟨k,rfl⟩:∃ m,k=m + 1:=⟨k - 1,(by omega)⟩
  have hlt:i<L.length:=by omega
  have hxi:=hx _ (List.getElem_mem hlt)
  have h0:rd_L3 L 0=L[0]:=zgi hL0
  simp only [zax.l0,zaz.l0]
  rw [if_pos (show (i:Int)<(L.length:Int) by omega),if_pos (show 0≤(i:Int) by omega),zgi hlt,h0,zi9 hxi (by omega),
   if_pos (show (i:Int)<(L.length:Int) by omega),if_pos (show 0≤(i:Int) by omega),if_pos (show (i:Int)<(L.length:Int) by omega),zju,List.drop_eq_getElem_cons hlt]
  simp only [bS,askK]
  by_cases h1:okT L[i]=true
  ·
   have h1':(pow2B ((L[i]).length:Int) 64 && okLB L[i])=true:=h1
   rw [if_pos h1',if_pos h1',if_pos h1,if_pos (show 0<(L.length:Int) by omega),if_pos (show 0<(L.length:Int) by omega)]
   by_cases h2:(L[i]).length=(L[0]).length
   ·
    have hc:((L[i]).length:Int)=((L[0]).length:Int):=by omega
    rw [if_pos hc,if_pos h2,if_pos hc,w64 (by omega) (by omega),show (i:Int) + 1=((i + 1:Nat):Int) by omega]
    exact ih k (i + 1) (by omega) (by omega)
   ·
    have hc:¬((L[i]).length:Int)=((L[0]).length:Int):=by omega
    rw [if_neg hc,if_neg h2,if_neg hc];exact⟨rfl,rfl⟩
  ·
   have h1':¬(pow2B ((L[i]).length:Int) 64 && okLB L[i])=true:=h1
   rw [if_neg h1',if_neg h1',if_neg h1];exact⟨rfl,rfl⟩
theorem zl0 {n0:Nat}:∀ {L:List (List E)},askK n0 L=0→∀ x∈L,okT x=true∧x.length=n0
 | [],_=>by intro x hx;cases hx
 | y::ys,h=>by
  intro x hx
  unfold askK at h
  by_cases h1:okT y=true
  ·
   rw [if_pos h1] at h
   by_cases h2:y.length=n0
   ·
    rw [if_pos h2] at h
    rcases List.mem_cons.mp hx with rfl|hx
    ·
     exact⟨h1,h2⟩
    ·
     exact zl0 h x hx
   ·
    rw [if_neg h2] at h;omega
  ·
   rw [if_neg h1] at h;omega
theorem ask_same (a:Int) {L:List (List E)} (hx:∀ x∈L,x.length≤1048576) (hL:L.length≤1048576) :
  ∃ c,(∀ k,3000000<k→zax.f k a L=some c∧zaz.f k a L=some c)∧(4096<L.length→c=2)∧
   (c=0→(a=1∨a=2)∧(L.length:Int)=2 * a∧∃ n0,∀ x∈L,okT x=true∧x.length=n0):=by
 by_cases h:(L.length:Int)>4096
 ·
  refine⟨2,fun k hk=>?_,fun _=>rfl,fun h=>by omega⟩
  unfold zax.f zaz.f
  rw [if_pos h,if_pos h];exact⟨rfl,rfl⟩
 ·
  by_cases h1:a=1∨a=2
  ·
   have e1:(if a=1 then some true else some (a == 2))=some true:=by rcases h1 with rfl|rfl <;> rfl
   have e2:decide (1≤a∧a≤2)=true:=decide_eq_true (by omega)
   by_cases h2:(L.length:Int)=2 * a
   ·
    refine⟨askK (L[0]'(by omega)).length L,fun k hk=>?_,fun _=>by omega,fun h0=>⟨h1,h2,_,zl0 h0⟩⟩
    obtain⟨k,rfl⟩:∃ m,k=m + 1:=⟨k - 1,(by omega)⟩
    have q1:=(ask_l0 L (by omega) (by omega) hx L.length k 0 (by omega) (by omega)).1
    have q2:=(ask_l0 L (by omega) (by omega) hx L.length (k + 1) 0 (by omega) (by omega)).2
    unfold zax.f zaz.f zdb.f zcl.f zc3.f zds.f
    have e3:((L.length:Int) != 2 * a)=false:=by rw [bne_eq_false_iff_eq];exact h2
    rw [if_neg h,if_neg h,e1,ze7]
    simp only [bS,if_true]
    rw [e2]
    simp only [if_true,bS]
    rw [w64 (n:=a + 1) (by omega) (by omega),w64 (n:=2 * a) (by omega) (by omega),if_neg (show ¬a + 1=0 by omega),if_pos h2,e3]
    simp only [zax.j0,Bool.false_eq_true,if_false]
    rw [Int.natCast_zero,List.drop_zero] at q1 q2
    exact⟨q1,q2⟩
   ·
    refine⟨4,fun k hk=>?_,fun _=>by omega,fun h=>by omega⟩
    obtain⟨k,rfl⟩:∃ m,k=m + 1:=⟨k - 1,(by omega)⟩
    have e3:((L.length:Int) != 2 * a)=true:=by rw [bne_iff_ne];exact h2
    unfold zax.f zaz.f zdb.f zcl.f zc3.f zds.f
    rw [if_neg h,if_neg h,e1,ze7]
    simp only [bS,if_true]
    rw [e2]
    simp only [if_true,bS]
    rw [w64 (n:=a + 1) (by omega) (by omega),w64 (n:=2 * a) (by omega) (by omega),if_neg (show ¬a + 1=0 by omega),if_neg h2,e3]
    simp only [zax.j0,if_true]
    exact⟨trivial,trivial⟩
  ·
   refine⟨4,fun k hk=>?_,fun _=>by omega,fun h=>by omega⟩
   obtain⟨k,rfl⟩:∃ m,k=m + 1:=⟨k - 1,(by omega)⟩
   have e1:(if a=1 then some true else some (a == 2))=some false:=by
    rw [if_neg (by omega)];congr 1;exact beq_eq_false_iff_ne.2 (by omega)
   have e2:decide (1≤a∧a≤2)=false:=decide_eq_false (by omega)
   unfold zax.f zaz.f zdb.f zcl.f
   rw [if_neg h,if_neg h,e1,ze7]
   simp only [bS]
   rw [e2]
   simp only [Bool.false_eq_true,if_false,bS,zax.j0,if_true]
   exact⟨trivial,trivial⟩
theorem zn8 {a:Int} {l:List E} (ha:a=1∨a=2) (hl:okL l) (hn:(l.length:Int)=2 * a):∃ r:E,okE r∧za4.f a l=some (r.f0,r.f1)∧zbo.f a l=some (r.f0,r.f1):=by
 unfold za4.f zbo.f
 rcases ha with rfl|rfl
 ·
  rw [if_pos rfl,if_pos (by omega),if_pos (by omega),if_pos rfl,if_pos (by omega),if_pos (by omega)]
  rw [zfk (zfw hl (by omega) (by omega)) (zfw hl (by omega) (by omega)),zfp (zfw hl (by omega) (by omega)) (zfw hl (by omega) (by omega))]
  simp only [bS]
  exact⟨_,zkj _ _,rfl,rfl⟩
 ·
  rw [if_neg (by omega),if_pos (by omega),if_pos (by omega),if_pos (by omega),if_neg (by omega),if_pos (by omega),if_pos (by omega),if_pos (by omega)]
  rw [zfk (zfw hl (by omega) (by omega)) (zfw hl (by omega) (by omega)),zfp (zfw hl (by omega) (by omega)) (zfw hl (by omega) (by omega))]
  simp only [bS]
  rw [if_pos (by omega),if_pos (by omega)]
  rw [zha (zkj _ _) (zfw hl (by omega) (by omega)),zhw (zkj _ _) (zfw hl (by omega) (by omega))]
  simp only [bS]
  rw [zfk (zfw hl (by omega) (by omega)) (znt _ _),zfp (zfw hl (by omega) (by omega)) (znt _ _)]
  simp only [bS]
  exact⟨_,zkj _ _,rfl,rfl⟩
def col (i:Nat) (x:List E):E:=x.getD i zE
theorem zpm (a:Int) (L:List (List E)) (hL:L.length≤4) (n0:Nat) (hx:∀ x∈L,x.length=n0) (i:Nat) (hi:i<n0) (d:Nat):∀ (k j:Nat),j + d=L.length→d<k→
  zc7.l0 k a L i ((L.take j).map (col i)) j=(za4.f a (L.map (col i))).bind fun bt=>some (bt.1,bt.2):=by
 induction d with
 | zero=>
  intro k j hj hk
  obtain⟨k,rfl⟩:∃ m,k=m + 1:=⟨k - 1,(by omega)⟩
  simp only [zc7.l0]
  rw [if_neg (by omega),List.take_of_length_le (by omega)]
 | succ d ih=>
  intro k j hj hk
  obtain⟨k,rfl⟩:∃ m,k=m + 1:=⟨k - 1,(by omega)⟩
  have hlt:j<L.length:=by omega
  have hxj:=hx _ (List.getElem_mem hlt)
  have e:zac L[j] (i:Int)=col i L[j]:=by rw [rdE,Int.toNat_natCast];rfl
  simp only [zc7.l0]
  rw [if_pos (show (j:Int)<(L.length:Int) by omega),if_pos (show 0≤(j:Int) by omega),if_pos (show 0≤(i:Int) by omega),zgi hlt,if_pos (show (i:Int)<((L[j]).length:Int) by omega),
   if_pos (by simp;omega),etaE,e,w64 (by omega) (by omega),show (j:Int) + 1=((j + 1:Nat):Int) by omega]
  have:=ih k (j + 1) (by omega) (by omega)
  rw [List.take_succ_eq_append_getElem hlt,List.map_append] at this
  exact this
theorem zog (a:Int) (L:List (List E)) (hL:L.length≤4) (n0:Nat) (hx:∀ x∈L,x.length=n0) (i:Nat) (hi:i<n0) (acc:E) (d:Nat):∀ (k j:Nat),j + d=L.length→d<k→
  zbv.l1 k a L i ((L.take j).map (col i)) (n0:Int) i L (L.length:Int) j acc.f0 acc.f1 =
   (zbo.f a (L.map (col i))).bind fun bt112=>((zbr.f acc.f0 acc.f1 bt112.1 bt112.2).bind fun bt114=>(zbv.l0 (k - d - 1) a L (n0:Int) (wrap64 ((i:Int) + 1)) bt114.1 bt114.2)):=by
 induction d with
 | zero=>
  intro k j hj hk
  obtain⟨k,rfl⟩:∃ m,k=m + 1:=⟨k - 1,(by omega)⟩
  simp only [zbv.l1]
  rw [if_neg (by omega),List.take_of_length_le (by omega)]
  rfl
 | succ d ih=>
  intro k j hj hk
  obtain⟨k,rfl⟩:∃ m,k=m + 1:=⟨k - 1,(by omega)⟩
  have hlt:j<L.length:=by omega
  have hxj:=hx _ (List.getElem_mem hlt)
  have e:zac L[j] (i:Int)=col i L[j]:=by rw [rdE,Int.toNat_natCast];rfl
  have e2:k + 1 - (d + 1) - 1=k - d - 1:=by omega
  simp only [zbv.l1]
  rw [if_pos (show (j:Int)<(L.length:Int) by omega),if_pos (show 0≤(j:Int) by omega),if_pos (show (j:Int)<(L.length:Int) by omega),if_pos (show 0≤(i:Int) by omega),zgi hlt,if_pos (show (i:Int)<((L[j]).length:Int) by omega),
   if_pos (by simp;omega),etaE,e,w64 (n:=(j:Int) + 1) (by omega) (by omega),show (j:Int) + 1=((j + 1:Nat):Int) by omega,e2]
  have:=ih k (j + 1) (by omega) (by omega)
  rw [List.take_succ_eq_append_getElem hlt,List.map_append] at this
  exact this
theorem sum_l0 (a:Int) (ha:a=1∨a=2) (L:List (List E)) (hL:(L.length:Int)=2 * a) (n0:Nat) (hx:∀ x∈L,okL x∧x.length=n0) (hn:n0≤4096) (d:Nat):∀ (i:Nat) (acc:E),i + d=n0→okE acc→
  ∃ q:E,okE q∧∀ ks ki,d + 20<ks→d * 10 + 20<ki→zcf.l0 ks a L i acc.f0 acc.f1=some (q.f0,q.f1)∧zbv.l0 ki a L (n0:Int) i acc.f0 acc.f1=some (q.f0,q.f1):=by
 have hpos:0<L.length:=by omega
 have h0:rd_L3 L 0=L[0]'hpos:=zgi hpos
 have h0n:(L[0]'hpos).length=n0:=(hx _ (List.getElem_mem _)).2
 induction d with
 | zero=>
  intro i acc hi hacc
  refine⟨acc,hacc,fun ks ki hks hki=>?_⟩
  obtain⟨ks,rfl⟩:∃ m,ks=m + 1:=⟨ks - 1,(by omega)⟩
  obtain⟨ki,rfl⟩:∃ m,ki=m + 1:=⟨ki - 1,(by omega)⟩
  simp only [zcf.l0,zbv.l0]
  rw [if_pos (show 0<(L.length:Int) by omega),h0,h0n,if_neg (by omega),if_neg (by omega)];exact⟨rfl,rfl⟩
 | succ d ih=>
  intro i acc hi hacc
  have hcol:okL (L.map (col i)):=by
   intro y hy
   obtain⟨x,hxm,rfl⟩:=List.mem_map.mp hy
   exact zo3 (hx x hxm).1 i (by rw [(hx x hxm).2];omega)
  obtain⟨r,hr,c1,c2⟩:=zn8 ha hcol (by rw [List.length_map];exact hL)
  obtain⟨q,hq,h⟩:=ih (i + 1) (eadd acc r) (by omega) (ok_add _ _)
  refine⟨q,hq,fun ks ki hks hki=>?_⟩
  obtain⟨ks,rfl⟩:∃ m,ks=m + 1:=⟨ks - 1,(by omega)⟩
  obtain⟨ki,rfl⟩:∃ m,ki=m + 1:=⟨ki - 1,(by omega)⟩
  have s1:=zpm a L (by omega) n0 (fun x hm=>(hx x hm).2) i (by omega) L.length ks 0 (by omega) (by omega)
  have s2:=zog a L (by omega) n0 (fun x hm=>(hx x hm).2) i (by omega) acc L.length ki 0 (by omega) (by omega)
  rw [List.take_zero,List.map_nil,Int.natCast_zero] at s1 s2
  simp only [zcf.l0,zbv.l0,zc7.f]
  rw [if_pos (show 0<(L.length:Int) by omega),h0,h0n,if_pos (by omega),if_pos (by omega),s1,s2,c1,c2]
  simp only [bS]
  rw [zhb hacc hr,zin hacc hr]
  simp only [bS]
  rw [w64 (by omega) (by omega),show (i:Int) + 1=((i + 1:Nat):Int) by omega]
  exact h ks (ki - L.length - 1) (by omega) (by omega)
theorem sum_same {a:Int} (ha:a=1∨a=2) {L:List (List E)} (hL:(L.length:Int)=2 * a) {n0:Nat} (hx:∀ x∈L,okL x∧x.length=n0) (hn:n0≤4096) :
  ∃ q:E,okE q∧∀ k,100000<k→zcf.f k a L=some (q.f0,q.f1)∧zbv.f k a L=some (q.f0,q.f1):=by
 have hpos:0<L.length:=by omega
 have h0:rd_L3 L 0=L[0]'hpos:=zgi hpos
 have h0n:(L[0]'hpos).length=n0:=(hx _ (List.getElem_mem _)).2
 obtain⟨q,hq,h⟩:=sum_l0 a ha L hL n0 hx hn n0 0 zE (by omega) ok_zero
 refine⟨q,hq,fun k hk=>?_⟩
 unfold zcf.f zbv.f
 rw [if_pos (show 0<(L.length:Int) by omega),h0,h0n]
 exact h k k (by omega) (by omega)
theorem okT_iff {x:List E} (h:okT x=true):okL x∧x.length≤64:=by
 unfold okT at h
 rw [Bool.and_eq_true] at h
 exact⟨(znz x).1 h.2,(by have:=znr h.1;omega)⟩
def zhd.go (k:Nat):List (List (S32))→Int→Option Int
 | [],a=>some a
 | l::ls,a=>(zbb.f k l a).bind fun t=>zhd.go k ls t.1
theorem zhd.back {wr w6:World} {base j:Nat} {ok oki ok1:Nat→Prop} {v vi:Value} {xs:List (List (S32))} {l2:List (S32)} (hH:Kd.H (Kd.slice 32 k32) 36 wr base ok v xs (j:Int) oki [vi]) (hk:Kept wr w6 oki) (hR:Kd.R k32 32 w6 base ok1 vi l2) (h0:∀ k,vi.ownBlock=some k→oki k) :
  Kd.S (Kd.slice 32 k32) 36 w6 base ok v (xs.set j l2):=
 Kd.zpn (Kd.H_kept hH hk (fun _ _ hn=>hn)) (x':=l2) (okp:=oki) ⟨vi,rfl,Kd.zba (Kd.zem rfl hR) (fun k hk=>h0 k hk.symm)⟩ (fun _ h=>h)
end Go.Proofs.YtgookagndlfehaaGreat.PT
end
section
/- Tables bound at an element, and the sums of a round, alike on both sides. -/
namespace Go.Proofs.YtgookagndlfehaaGreat.PT
open Go.RowKit Go.Proofs.YtgookagndlfehaaGreatW.PrintWords Go.Proofs.YtgookagndlfehaaGreatW.PrintLast Go.Proofs.YtgookagndlfehaaGreatW.PrintMore
set_option linter.unusedVariables false
set_option linter.unusedSimpArgs false
theorem bind_l0 (L:List (List E)) (hL:L.length≤4096) {h:Nat} (hh:h≤2048) (hx:∀ x∈L,okL x∧x.length=2 * h) {z:E} (hz:okE z) (d:Nat):∀ (i:Nat) (acc:List (List E)),i + d=L.length→acc.length=i→(∀ x∈acc,okL x∧x.length=h)→
  ∃ q:List (List E),(q.length=L.length∧∀ x∈q,okL x∧x.length=h)∧∀ k,d + 5000<k→za3.l0 k L acc i z.f0 z.f1=some q∧zch.l0 k acc L (L.length:Int) i z.f0 z.f1=some q:=by
 induction d with
 | zero=>
  intro i acc hi ha hacc
  refine⟨acc,⟨(by omega),hacc⟩,fun k hk=>?_⟩
  obtain⟨k,rfl⟩:∃ m,k=m + 1:=⟨k - 1,(by omega)⟩
  simp only [za3.l0,zch.l0]
  rw [if_neg (by omega),if_neg (by omega)];exact⟨rfl,rfl⟩
 | succ d ih=>
  intro i acc hi ha hacc
  have hlt:i<L.length:=by omega
  have hxi:=hx _ (List.getElem_mem hlt)
  obtain⟨q1,hq1,h1⟩:=zph hxi.1 (d:=h) (by rw [hxi.2]) (by rw [hxi.2];omega) hz
  obtain⟨q,hq,h2⟩:=ih (i + 1) (acc++[q1]) (by omega) (by rw [List.length_append,ha];rfl) (by
   intro x hm
   rcases List.mem_append.mp hm with hm|hm
   ·
    exact hacc x hm
   ·
    rw [List.mem_singleton.mp hm];exact hq1)
  refine⟨q,hq,fun k hk=>?_⟩
  obtain⟨k,rfl⟩:∃ m,k=m + 1:=⟨k - 1,(by omega)⟩
  obtain⟨f1,f2⟩:=h1 k (by omega)
  obtain⟨g1,g2⟩:=h2 k (by omega)
  simp only [za3.l0,zch.l0]
  rw [if_pos (show (i:Int)<(L.length:Int) by omega),if_pos (show (i:Int)<(L.length:Int) by omega),if_pos (show 0≤(i:Int) by omega),if_pos (show 0≤(i:Int) by omega),if_pos (show (i:Int)<(L.length:Int) by omega),zgi hlt,f1,f2]
  simp only [bS]
  rw [if_pos (show acc.length<5864062014805 by omega),if_pos (show acc.length<5864062014805 by omega),w64 (by omega) (by omega),show (i:Int) + 1=((i + 1:Nat):Int) by omega]
  exact⟨g1,g2⟩
theorem zmk {L:List (List E)} (hL:L.length≤4096) {h:Nat} (hh:h≤2048) (hx:∀ x∈L,okL x∧x.length=2 * h) {z:E} (hz:okE z) :
  ∃ q:List (List E),(q.length=L.length∧∀ x∈q,okL x∧x.length=h)∧∀ k,10000<k→za3.f k L z.f0 z.f1=some q∧zch.f k L z.f0 z.f1=some q:=by
 obtain⟨q,hq,h1⟩:=bind_l0 L hL hh hx hz L.length 0 [] (by omega) rfl (by intro x hm;cases hm)
 refine⟨q,hq,fun k hk=>?_⟩
 unfold za3.f zch.f
 exact h1 k (by omega)
theorem round_l0 {a:Int} (ha:a=1∨a=2) {L:List (List E)} (hL:(L.length:Int)=2 * a) {h:Nat} (hh:h≤2048) (hx:∀ x∈L,okL x∧x.length=2 * h) (d:Nat):∀ (i:Nat) (acc:List E),(i:Int) + d=a + 2→acc.length=i→
  ∃ q:List E,q.length≤4∧∀ k,d + 200000<k→zbs.l0 k a L acc i=some q∧zb2.l0 k a L acc (a + 2) i=some q:=by
 induction d with
 | zero=>
  intro i acc hi hacc
  refine⟨acc,(by omega),fun k hk=>?_⟩
  obtain⟨k,rfl⟩:∃ m,k=m + 1:=⟨k - 1,(by omega)⟩
  simp only [zbs.l0,zb2.l0,zd8.f,bS]
  rw [w64 (n:=a + 1) (by omega) (by omega),if_neg (by omega),if_neg (by omega)];exact⟨rfl,rfl⟩
 | succ d ih=>
  intro i acc hi hacc
  have hz:okE (⟨(i:Int),0⟩:E):=by refine⟨?_,inF_0⟩;show inF (i:Int);unfold inF;omega
  obtain⟨q1,hq1,h1⟩:=zmk (L:=L) (by omega) hh hx hz
  obtain⟨s,hs,h2⟩:=sum_same ha (L:=q1) (by rw [hq1.1];exact hL) hq1.2 (by omega)
  obtain⟨q,hq,h3⟩:=ih (i + 1) (acc++[s]) (by omega) (by rw [List.length_append,hacc];rfl)
  refine⟨q,hq,fun k hk=>?_⟩
  obtain⟨k,rfl⟩:∃ m,k=m + 1:=⟨k - 1,(by omega)⟩
  obtain⟨f1,f2⟩:=h1 k (by omega)
  obtain⟨g1,g2⟩:=h2 k (by omega)
  obtain⟨e1,e2⟩:=h3 k (by omega)
  have f1':za3.f k L (i:Int) 0=some q1:=f1
  have f2':zch.f k L (i:Int) 0=some q1:=f2
  simp only [zbs.l0,zb2.l0,zd8.f,zft.f,bS]
  rw [w64 (n:=a + 1) (by omega) (by omega),if_pos (by omega),if_pos (by omega),f1',f2']
  simp only [bS]
  rw [g1,g2]
  simp only [bS]
  rw [if_pos (by omega),if_pos (by omega),etaE,w64 (by omega) (by omega),show (i:Int) + 1=((i + 1:Nat):Int) by omega]
  exact⟨e1,e2⟩
theorem zoe {a:Int} (ha:a=1∨a=2) {L:List (List E)} (hL:(L.length:Int)=2 * a) {h:Nat} (hh:h≤2048) (hx:∀ x∈L,okL x∧x.length=2 * h) :
  ∃ q:List E,q.length≤4∧∀ k,300000<k→zbs.f k a L=some q∧zb2.f k a L=some q:=by
 obtain⟨q,hq,h1⟩:=round_l0 ha hL hh hx (a + 2).toNat 0 [] (by omega) rfl
 refine⟨q,hq,fun k hk=>?_⟩
 unfold zbs.f zb2.f zcl.f
 rw [ze7]
 simp only [bS]
 rw [decide_eq_true (show 1≤a∧a≤2 by omega),if_pos rfl]
 simp only [bS]
 rw [w64 (n:=a + 1) (by omega) (by omega),w64 (n:=a + 1 + 1) (by omega) (by omega),show a + 1 + 1=a + 2 by omega]
 exact h1 k (by omega)
end Go.Proofs.YtgookagndlfehaaGreat.PT
end
section
/- A sum's proof, alike on both sides. -/
namespace Go.Proofs.YtgookagndlfehaaGreat.PT
open Go.RowKit Go.Proofs.YtgookagndlfehaaGreatW.PrintWords Go.Proofs.YtgookagndlfehaaGreatW.PrintLast Go.Proofs.YtgookagndlfehaaGreatW.PrintMore
set_option linter.unusedVariables false
set_option linter.unusedSimpArgs false
def srcB (l:List E) (i:Int) (t:ByteArray) (c:Int):Bool:=decide (l.length≤64) && (okLB l && (decide (t.size=32) && (decide (0≤i∧i≤1000000) && decide (0≤c∧c≤1000000))))
theorem zmw (l:List E) (i:Int) (t:ByteArray) (c:Int):zd4.f l i t c=some (srcB l i t c):=by
 unfold zd4.f zd6.f srcB
 by_cases h1:l.length≤64
 ·
  rw [if_pos (by omega),zjs,decide_eq_true h1,Bool.true_and]
  simp only [bS]
  by_cases h2:okLB l=true
  ·
   rw [if_pos h2,h2,Bool.true_and]
   by_cases h3:t.size=32
   ·
    rw [decide_eq_true h3,Bool.true_and,show ((t.size:Int) == 32)=true by rw [h3];rfl,ze7,ze7]
    simp only [bS,if_true]
    by_cases h4:0≤i∧i≤1000000
    ·
     rw [decide_eq_true h4];simp only [bS,if_true,Bool.true_and]
    ·
     rw [decide_eq_false h4];rfl
   ·
    rw [decide_eq_false h3,Bool.false_and,show ((t.size:Int) == 32)=false by rw [beq_eq_false_iff_ne];omega]
    rfl
  ·
   rw [if_neg h2,show okLB l=false by simpa using h2]
   rfl
 ·
  rw [if_neg (by omega),decide_eq_false h1]
  rfl
theorem zmv (l:List E) (i:Int) (t:ByteArray) (c:Int) {k:Nat} (hk:100<k):zdz.f k l i t c=some (srcB l i t c):=by
 unfold zdz.f srcB
 by_cases h1:l.length≤64
 ·
  rw [if_pos (by omega),zg2 (by omega) (by omega),decide_eq_true h1,Bool.true_and]
  simp only [bS]
  by_cases h2:okLB l=true
  ·
   rw [if_pos h2,h2,Bool.true_and,zgm]
   simp only [bS]
   by_cases h4:0≤i∧i≤1000000
   ·
    rw [decide_eq_true h4]
    simp only [if_true,Bool.true_and]
    by_cases h3:t.size=32
    ·
     rw [if_pos (by omega),decide_eq_true h3,zgm];simp only [bS,Bool.true_and]
    ·
     rw [if_neg (by omega),decide_eq_false h3];rfl
   ·
    rw [decide_eq_false h4];simp
  ·
   rw [if_neg h2,show okLB l=false by simpa using h2]
   rfl
 ·
  rw [if_neg (by omega),decide_eq_false h1]
  rfl
theorem zkg {kind:Int} (hk2:kind=1∨kind=2) {s0:List E} (hs0:okL s0) (hsl:s0.length≤64) {k:Nat} (hk:400000<k):∀ (m:Nat),m≤6→∀ (L:List (List E)),(L.length:Int)=2 * kind→(∀ x∈L,okL x∧x.length=2 ^ m)→
  ∀ (rs:List (List E)) (pt:List E) (s1 s3:Int) (s2:ByteArray) (n:Nat),s2.size=32→0≤s1→s1 + m≤1500000→rs.length + m≤1000→pt.length + m≤1000→(∀ r∈rs,r.length≤8)→m<n→
  ∃ (a:List (List E)) (b c:List E) (x z:Int) (y:ByteArray),(a.length≤rs.length + m∧(∀ r∈a,r.length≤8)∧b.length≤pt.length + m∧c.length=L.length)∧pv_ k kind s0 n L rs pt s1 s2 s3=some (a,b,c,x,y,z)∧pvs_ k kind n L rs pt s0 s1 s2 s3=some (a,b,c,s0,x,y,z)
 | 0,_,L,hL,hx,rs,pt,s1,s3,s2,n,hs2,h0,h1,hrs,hpt,hr8,hn=>by
  obtain⟨n,rfl⟩:∃ j,n=j + 1:=⟨n - 1,(by omega)⟩
  have hpos:0<L.length:=by omega
  have hg:L.getD 0 []=L[0]:=getD_at hpos
  have hl0:=(hx _ (List.getElem_mem hpos)).2
  refine⟨rs,pt,L.map (fun r=>zac r 0),s1,s3,s2,⟨(by omega),hr8,(by omega),(by rw [List.length_map])⟩,?_,?_⟩
  ·
   simp only [pv_]
   rw [if_pos hpos,hg,if_neg (by omega),lastOf,if_pos ⟨(by omega),fun r hr=>by have:=(hx r hr).2;omega⟩]
   simp only [bS]
  ·
   simp only [pvs_]
   rw [if_pos hpos,hg,if_neg (by omega),lastOf,if_pos ⟨(by omega),fun r hr=>by have:=(hx r hr).2;omega⟩]
   simp only [bS]
 | m + 1,hm,L,hL,hx,rs,pt,s1,s3,s2,n,hs2,h0,h1,hrs,hpt,hr8,hn=>by
  obtain⟨n,rfl⟩:∃ j,n=j + 1:=⟨n - 1,(by omega)⟩
  have hpos:0<L.length:=by omega
  have hg:L.getD 0 []=L[0]:=getD_at hpos
  have hl0:=(hx _ (List.getElem_mem hpos)).2
  have hx2:∀ x∈L,okL x∧x.length=2 * 2 ^ m:=fun x h=>⟨(hx x h).1,(by rw [(hx x h).2,Nat.pow_succ];omega)⟩
  have hp1:1≤2 ^ m:=Nat.one_le_two_pow
  have hp2:2 ^ m≤2 ^ 5:=Nat.pow_le_pow_right (by omega) (by omega)
  rw [Nat.pow_succ] at hl0
  obtain⟨r,hr,hround⟩:=zoe hk2 hL (h:=2 ^ m) (by omega) hx2
  obtain⟨H,hH,ha⟩:=zm6 (s0:=s0) (s1:=s1) (s3:=s3) (s2:=s2) (r:=r) hs2 (by omega)
  obtain⟨e,t1,t3,he,ht1,hdr⟩:=zo4 (s0:=s0) (s1:=s1) (s3:=0) (s2:=H) hH hs0 hsl h0 (by push_cast at h1;omega)
  obtain⟨q,hq,hb⟩:=zmk (L:=L) (by omega) (h:=2 ^ m) (by omega) hx2 (z:=e) he
  obtain⟨r1,r2⟩:=hround k (by omega)
  obtain⟨a1,a2⟩:=ha k (by omega)
  obtain⟨d1,d2⟩:=hdr k (by omega)
  obtain⟨b1,b2⟩:=hb k (by omega)
  obtain⟨a,b,c,x,z,y,⟨g1,g2,g3,g4⟩,p1,p2⟩:=zkg hk2 hs0 hsl hk m (by omega) q (by rw [hq.1];exact hL) hq.2 (rs++[r]) (pt++[⟨e.f0,e.f1⟩]) t1 t3 H n hH (by omega) (by push_cast at h1;omega)
   (by rw [List.length_append,List.length_singleton];omega) (by rw [List.length_append,List.length_singleton];omega) (fun x h=>by
    rcases List.mem_append.1 h with h|h
    ·
     exact hr8 x h
    ·
     rw [List.mem_singleton.1 h];omega) (by omega)
  rw [List.length_append,List.length_singleton] at g1 g3
  refine⟨a,b,c,x,z,y,⟨(by omega),g2,(by omega),(by rw [g4,hq.1])⟩,?_,?_⟩
  ·
   simp only [pv_]
   rw [if_pos hpos,hg,if_pos (by omega),r2]
   simp only [bS]
   rw [a1]
   simp only [bS]
   rw [d1]
   simp only [bS]
   rw [b2]
   simp only [bS]
   rw [if_pos ⟨(by omega),(by omega)⟩]
   exact p1
  ·
   simp only [pvs_]
   rw [if_pos hpos,hg,if_pos (by omega),r1]
   simp only [bS]
   rw [a2]
   simp only [bS]
   rw [d2]
   simp only [bS]
   rw [b1]
   simp only [bS]
   rw [if_pos ⟨(by omega),(by omega)⟩]
   exact p2
theorem zqe (kind:Int) {L:List (List E)} (hx:∀ x∈L,x.length≤1048576) (hL:L.length≤1048576) (q0:List E) (q1 q3:Int) (q2:ByteArray) {k:Nat} (hk:3000000<k) :
  ∃ (a:List (List E)) (b c d:List E) (e:Int) (f:ByteArray) (g h:Int),(a.length≤8∧(∀ x∈a,x.length≤8)∧b.length≤4096∧c.length≤4096∧d.length≤64)∧zcs.f k kind L q0 q1 q2 q3=some (a,b,c,d,e,f,g,h)∧zck.f k kind L q0 q1 q2 q3=some (a,b,c,d,e,f,g,h):=by
 have bad:∀ n:Int,zcs.f k kind L q0 q1 q2 q3=some ([],[],[],[],0,(⟨#[]⟩:ByteArray),0,n)→zck.f k kind L q0 q1 q2 q3=some ([],[],[],[],0,(⟨#[]⟩:ByteArray),0,n)→
  ∃ (a:List (List E)) (b c d:List E) (e:Int) (f:ByteArray) (g h:Int),(a.length≤8∧(∀ x∈a,x.length≤8)∧b.length≤4096∧c.length≤4096∧d.length≤64)∧zcs.f k kind L q0 q1 q2 q3=some (a,b,c,d,e,f,g,h)∧zck.f k kind L q0 q1 q2 q3=some (a,b,c,d,e,f,g,h):=
  fun n h1 h2=>⟨[],[],[],[],0,_,0,n,⟨(by simp),fun x h=>(List.not_mem_nil h).elim,(by simp),(by simp),(by simp)⟩,h1,h2⟩
 obtain⟨c,hc1,hc2,hc3⟩:=ask_same kind hx hL
 obtain⟨k1,k2⟩:=hc1 k hk
 by_cases h4:(L.length:Int)>4096
 ·
  obtain rfl:=hc2 (by omega)
  refine bad 2 ?_ ?_
  ·
   unfold zcs.f;rw [if_pos h4]
  ·
   unfold zck.f;rw [k2];simp only [bS];rw [if_neg (by omega)]
 by_cases h0:c=0
 rotate_left
 ·
  refine bad c ?_ ?_
  ·
   unfold zcs.f;rw [if_neg h4,k1];simp only [bS];rw [if_neg h0]
  ·
   unfold zck.f;rw [k2];simp only [bS];rw [if_neg h0]
 by_cases e2:srcB q0 q1 q2 q3=false
 ·
  refine bad 1 ?_ ?_
  ·
   unfold zcs.f;rw [if_neg h4,k1];simp only [bS];rw [if_pos h0,zmv _ _ _ _ (by omega)];simp only [bS];rw [if_pos e2]
  ·
   unfold zck.f;rw [k2];simp only [bS];rw [if_pos h0,zmw];simp only [bS];rw [if_pos e2]
 have hsrc2:srcB q0 q1 q2 q3=true:=by simpa using e2
 unfold srcB at hsrc2
 simp only [Bool.and_eq_true,decide_eq_true_eq] at hsrc2
 obtain⟨hq64,hqo,hq32,hq1,hq3⟩:=hsrc2
 have eL:zdn.f q0 q1 q2 q3=some (1000000 - mx q1 q3):=by
  unfold zdn.f
  rw [w64 (by unfold mx;split <;> omega) (by unfold mx;split <;> omega)]
 have eS:zeh.f q0 q1 q2 q3 6=some (decide (1000000 - mx q1 q3<6)):=by
  unfold zeh.f mx
  rw [show wrap64 (1000000 - 6)=999994 by decide +kernel]
  by_cases hg:q1>999994
  ·
   rw [if_pos hg,decide_eq_true (by split <;> omega)]
  ·
   rw [if_neg hg]
   congr 1
   rw [decide_eq_decide]
   split <;> omega
 by_cases hm:1000000 - mx q1 q3<6
 ·
  refine bad 6 ?_ ?_
  ·
   unfold zcs.f;rw [if_neg h4,k1];simp only [bS];rw [if_pos h0,zmv _ _ _ _ (by omega)];simp only [bS];rw [if_neg e2,eS,decide_eq_true hm];rfl
  ·
   unfold zck.f;rw [k2];simp only [bS];rw [if_pos h0,zmw];simp only [bS];rw [if_neg e2,eL];simp only [bS];rw [if_pos hm]
 obtain⟨ha,hn,n0,hall⟩:=hc3 h0
 have hpos:0<L.length:=by omega
 obtain⟨m,hm6,hn0⟩:∃ m,m≤6∧n0=2 ^ m:=by
  obtain⟨ht,hxl⟩:=hall _ (List.getElem_mem hpos)
  unfold okT at ht
  rw [Bool.and_eq_true] at ht
  have hp:=znr ht.1
  rw [hxl] at hp
  rcases hp with h|h|h|h|h|h|h
  ·
   exact⟨0,(by omega),(by omega)⟩
  ·
   exact⟨1,(by omega),(by omega)⟩
  ·
   exact⟨2,(by omega),(by omega)⟩
  ·
   exact⟨3,(by omega),(by omega)⟩
  ·
   exact⟨4,(by omega),(by omega)⟩
  ·
   exact⟨5,(by omega),(by omega)⟩
  ·
   exact⟨6,(by omega),(by omega)⟩
 have hall2:∀ x∈L,okL x∧x.length=2 ^ m:=fun x h=>⟨(okT_iff (hall x h).1).1,(by rw [(hall x h).2,hn0])⟩
 obtain⟨a,b,v,x,z,y,⟨g1,g2,g3,g4⟩,p1,p2⟩:=zkg ha ((znz _).1 hqo) hq64 (k:=k) (by omega) m hm6 L hn hall2 [] [] q1 q3 q2 k hq32 hq1.1 (by omega) (by simp;omega) (by simp;omega) (fun x h=>(List.not_mem_nil h).elim) (by omega)
 have eC:zdm.f q0 q1 q2 q3=some (q0,q1,q2,q3):=by
  unfold zdm.f ze5.f
  rw [if_pos (by omega)]
  simp only [bS]
 rw [List.length_nil] at g1 g3
 refine⟨a,b,v,q0,x,y,z,0,⟨(by omega),g2,(by omega),(by omega),hq64⟩,?_,?_⟩
 ·
  unfold zcs.f zfe.f;rw [if_neg h4,k1];simp only [bS];rw [if_pos h0,zmv _ _ _ _ (by omega)];simp only [bS];rw [if_neg e2,eS,decide_eq_false hm];simp only [bS,if_true];rw [p2];simp only [bS]
  rw [if_pos (show ([]:List E).length + q0.length<8796093022208 by rw [List.length_nil];omega)]
  rfl
 ·
  unfold zck.f;rw [k2];simp only [bS];rw [if_pos h0,zmw];simp only [bS];rw [if_neg e2,eL];simp only [bS];rw [if_neg hm,eC];simp only [bS];rw [p1]
  simp only [bS]
end Go.Proofs.YtgookagndlfehaaGreat.PT
end
section
/- A sum's proof: alike on both sides, its answers of their own, the arguments as they were. -/
namespace Go.Proofs.YtgookagndlfehaaGreat.fnExactSumProve
open Go.Proofs.YtgookagndlfehaaGreat.PT Go.RowKit Go.Proofs.YtgookagndlfehaaGreatO Go.Proofs.YtgookagndlfehaaGreatW.PrintWords Go.Proofs.YtgookagndlfehaaGreatW.PrintLast Go.Proofs.YtgookagndlfehaaGreatW.PrintMore
set_option linter.unusedVariables false
set_option linter.unusedSimpArgs false
theorem znp (L:List (List LE)) (hg:∀ x∈L,x.length≤9223372036854775807) (hg2:L.length≤9223372036854775807):∀ (k i:Nat) (a r:Int),0≤a→a≤1048576→zbf.l0 k L a (i:Int)=some r→r≤1048576
 | 0,i,a,r,_,_,h=>by simp [zbf.l0] at h
 | k + 1,i,a,r,h0,h1,h=>by
  simp only [zbf.l0] at h
  by_cases hi:(i:Int)<(L.length:Int)
  ·
   have hlt:i<L.length:=by omega
   rw [if_pos hi,if_pos (by omega),zld hlt] at h
   by_cases hb:a<((L[i]).length:Int)
   ·
    rw [zg5 h0 h1 (hg _ (List.getElem_mem hlt)) hb] at h
    simp only [bS] at h
    rw [if_pos (by omega)] at h
    have:=Option.some.inj h
    omega
   ·
    rw [zg7 h1 (by omega)] at h
    simp only [bS] at h
    rw [if_neg (by omega),w64 (by omega) (by omega),show (i:Int) + 1=((i + 1:Nat):Int) by omega] at h
    exact znp L hg hg2 k (i + 1) _ r (by omega) (by omega) h
  ·
   rw [if_neg hi] at h
   have:=Option.some.inj h
   omega
theorem szSS_le {L:List (List LE)} (hg:∀ x∈L,x.length≤9223372036854775807) (hg2:L.length≤9223372036854775807) {k:Nat} {r:Int} (h:zbf.f k L 1048576=some r):r≤1048576:=by
 unfold zbf.f at h
 rw [w64 (by omega) (by omega)] at h
 by_cases hn:(1048576:Int) - (L.length:Int)<0
 ·
  rw [if_pos hn] at h
  have:=Option.some.inj h
  omega
 ·
  rw [if_neg hn] at h
  exact znp L hg hg2 k 0 _ r (by omega) (by omega) h
theorem szSrc {l:List LE} {i c a:Int} {t:ByteArray} (h0:0≤a) (h1:a≤1048576) (hl:l.length≤9223372036854775807):∃ r,zej.f l i t c a=some r∧(r<0∨l.length≤1048576):=by
 unfold zej.f
 by_cases hb:a<(l.length:Int)
 ·
  rw [zg5 h0 h1 hl hb]
  simp only [bS]
  exact⟨-1,if_pos (by omega),.inl (by omega)⟩
 ·
  rw [zg7 h1 (by omega)]
  simp only [bS]
  rw [if_neg (by omega)]
  by_cases hw:wrap64 ((a - (l.length:Int)) - (t.size:Int))<0
  ·
   exact⟨-1,if_pos hw,.inl (by omega)⟩
  ·
   exact⟨_,if_neg hw,.inr (by omega)⟩
theorem eqSrc {l:List E} {i c:Int} {t:ByteArray} (hl:l.length≤4000000) {k:Nat} (hk:l.length<k):zc6.f k l i t c l i t c=some true:=by
 unfold zc6.f
 rw [zge (by omega) hk]
 simp only [bS,if_true]
theorem toSrc {l:List LE} {i c:Int} {t:ByteArray} (hl:l.length≤1048576) {k:Nat} (hk:l.length<k):zdj.f k l i t c=some (convL l,i,t,c):=by
 unfold zdj.f
 rw [zl4 hl hk]
 simp only [bS]
theorem zo5 {l:List E} {i c n:Int} {t:ByteArray} (h0:0≤n) (h1:n≤4611686018427387904) (hl:l.length≤4000000) {k:Nat} (hk:l.length<k):zc4.f k l i t c n=some (n + 2 * l.length,marked l.length n):=by
 unfold zc4.f
 rw [zgn h0 h1 (by omega) hk]
 simp only [bS]
theorem heldSrc {m:Nat} {i c n:Int} {t:ByteArray} (h0:0≤n) (h1:n≤4611686018427387904) (hl:m≤4000000) {k:Nat} (hk:m<k):zdl.f k (marked m n) i t c n=some (n + 2 * m):=by
 unfold zdl.f
 rw [zgp h0 h1 (by omega) hk]
 simp only [bS]
 rw [if_neg (by omega)]
theorem zhm:∀ (L:List (List E)),(∀ x∈L,x.length≤1048576)→∀ (a:Int),0≤a→a + 2097152 * L.length≤4000000000000→
  ∃ (r:Int) (M:List (List E)),(a≤r∧r≤a + 2097152 * L.length)∧(∀ k,1048576<k→zeu.f k L a=some (r,M))∧
   ∀ (P:List (List E)) (k:Nat),P.length + L.length≤4000000→1048576 + L.length<k→zby.l0 k (P++M) a (P.length:Int)=some r
 | [],_,a,h0,h1=>by
  refine⟨a,[],⟨(by omega),(by simp)⟩,fun _ _=>rfl,fun P k hP hk=>?_⟩
  obtain⟨k,rfl⟩:∃ j,k=j + 1:=⟨k - 1,(by omega)⟩
  rw [zby.l0,List.append_nil,if_neg (by omega)]
 | l::ls,hx,a,h0,h1=>by
  have hl:=hx l (List.mem_cons_self ..)
  have hlen:(l::ls).length=ls.length + 1:=rfl
  rw [hlen] at h1
  obtain⟨r,M,⟨hr,hr2⟩,h2,h3⟩:=zhm ls (fun x hm=>hx x (List.mem_cons_of_mem _ hm)) (a + 2 * l.length) (by omega) (by push_cast at h1;omega)
  refine⟨r,marked l.length a::M,⟨(by omega),(by rw [hlen];push_cast;omega)⟩,fun k hk=>?_,fun P k hP hk=>?_⟩
  ·
   rw [zeu.f,zgn h0 (by push_cast at h1;omega) (by omega) (by omega)]
   simp only [bS]
   rw [h2 k hk]
   simp only [bS]
  ·
   obtain⟨k,rfl⟩:∃ j,k=j + 1:=⟨k - 1,(by omega)⟩
   rw [hlen] at hP hk
   have hlen2:(P++marked l.length a::M).length=P.length + (M.length + 1):=by rw [List.length_append,List.length_cons]
   have hi:P.length<(P++marked l.length a::M).length:=by omega
   have hg:rd_L3 (P++marked l.length a::M) (P.length:Int)=marked l.length a:=by
    rw [zgi hi,List.getElem_append_right (Nat.le_refl _)]
    simp
   rw [zby.l0,if_pos (by omega),if_pos (by omega),hg,zgp h0 (by push_cast at h1;omega) (by omega) (by omega)]
   simp only [bS]
   rw [if_neg (by omega),w64 (by omega) (by omega),show P++marked l.length a::M=(P++[marked l.length a])++M by simp,show (P.length:Int) + 1=((P++[marked l.length a]).length:Int) by simp]
   exact h3 _ k (by rw [List.length_append,List.length_singleton];omega) (by omega)
theorem zhs:Pure:=by
 intro kind x m _ hx hm
 obtain⟨t1,hz,hz2⟩:=szSS_eq (L:=x) (fun y hy=>(hx.2 y hy).1) hx.1
 have htop:t1≤1048576:=szSS_le (fun y hy=>(hx.2 y hy).1) hx.1 (hz 1048577 (by omega))
 refine⟨4000000,?_⟩
 generalize hK:4000000=K
 unfold zaq.f
 rw [hz K (by omega)]
 simp only [bS]
 by_cases h0:t1<0
 ·
  rw [if_pos h0]
 rw [if_neg h0]
 obtain⟨hL,hs⟩:x.length≤1048576∧∀ y∈x,y.length≤1048576:=by
  rcases hz2 with h|h
  ·
   exact absurd h h0
  ·
   exact h
 obtain⟨t2,e2,ht2⟩:=szSrc (l:=m.f0) (i:=m.f1) (c:=m.f3) (t:=m.f2) (a:=t1) (by omega) htop hm.1.1
 rw [e2]
 simp only [bS]
 by_cases h2:t2<0
 ·
  rw [if_pos h2]
 rw [if_neg h2]
 have hM:m.f0.length≤1048576:=by
  rcases ht2 with h|h
  ·
   exact absurd h h2
  ·
   exact h
 have hM2:(convL m.f0).length≤1048576:=by rw [zg1];exact hM
 have hL2:(zf0 x).length≤1048576:=by rw [zfn];exact hL
 have hs2:=zl5 hs
 rw [toSS_eq hL hs (k:=K) (by omega),toSrc hM (k:=K) (by omega)]
 simp only [bS]
 obtain⟨a,b,c,d,e,f,g,h,⟨ha,ha2,hb,hc,hd⟩,s1,s2⟩:=zqe kind hs2 hL2 (convL m.f0) m.f1 m.f3 m.f2 (k:=K) (by omega)
 rw [s1,s2]
 simp only [bS]
 have ha3:∀ y∈a,y.length≤1048576:=fun y hy=>by have:=ha2 y hy;omega
 rw [if_pos ⟨zlp (by omega) ha3 (by omega),zge (by omega) (by omega),zge (by omega) (by omega),eqSrc (by omega) (by omega),trivial,zlp hL2 hs2 (by omega),eqSrc (by omega) (by omega)⟩]
 obtain⟨n1,M1,⟨hn0,hn1⟩,hn,_⟩:=zhm (zf0 x) hs2 1 (by omega) (by omega)
 rw [hn K (by omega)]
 simp only [bS]
 rw [zo5 (by omega) (by omega) (by omega) (by omega)]
 simp only [bS]
 rw [if_neg (by omega)]
 obtain⟨n3,M3,⟨hg0,hg1⟩,hg,hh⟩:=zhm a ha3 1 (by omega) (by omega)
 rw [hg K (by omega)]
 simp only [bS]
 rw [zgn (by omega) (by omega) (by omega) (by omega)]
 simp only [bS]
 rw [zgn (by omega) (by omega) (by omega) (by omega)]
 simp only [bS]
 rw [zo5 (by omega) (by omega) (by omega) (by omega)]
 simp only [bS]
 rw [show zby.f K M3 1=some n3 from hh [] K (by simp;omega) (by omega)]
 simp only [bS]
 rw [if_neg (by omega),zgp (by omega) (by omega) (by omega) (by omega)]
 simp only [bS]
 rw [if_neg (by omega),zgp (by omega) (by omega) (by omega) (by omega)]
 simp only [bS]
 rw [if_neg (by omega),heldSrc (by omega) (by omega) (by omega) (by omega)]
 simp only [bS]
 rw [if_neg (by omega),if_pos trivial]
end Go.Proofs.YtgookagndlfehaaGreat.fnExactSumProve
end
