/- Part 5 of the proof of FnExactSumVerify: what functions compute, shown step by step, and what that says (the claim's last text states the law). -/
import Derived.Test.YtgookagndlfehaaProg
import Derived.Test.YtgookagndlfehaaVMore
import Derived.Test.YtgookagndlfehaaVWords
import Derived.Test.YtgookagndlfehaaVLast
import Derived.Test.YtgookagndlfehaaVTab
import Derived.Test.YtgookagndlfehaaVFour
import Derived.Test.YtgookagndlfehaaVQPut
import Derived.Test.YtgookagndlfehaaVApart
import Derived.Test.YtgookagndlfehaaVArr
import Derived.Test.YtgookagndlfehaaVZeros
import Derived.Test.YtgookagndlfehaaVFoot
import Derived.Test.YtgookagndlfehaaVKept
import Derived.Test.YtgookagndlfehaaVShare
import Derived.Test.YtgookagndlfehaaVN
import Derived.Test.YtgookagndlfehaaVFootNe
import Derived.Test.YtgookagndlfehaaVAt
import Derived.Test.YtgookagndlfehaaVRepsOne
import Derived.Test.YtgookagndlfehaaVInv
import Derived.Test.YtgookagndlfehaaVInvWords
import Derived.Test.YtgookagndlfehaaVGuard
import Derived.Test.YtgookagndlfehaaVNEv
import Derived.Test.YtgookagndlfehaaRows
import Derived.JoinedOf
import Derived.WalkKit
import Derived.ProofKit
import Derived.Below
import Derived.Deep.Draws
import Derived.Deep.AppendLies
import Derived.Maps.AppendAt
import Derived.OwnWalk
import Derived.Laws.BytesArg
import Derived.Laws.MakeOwn
import Derived.Laws.OwnMore
import Derived.Deep.OwnRows
import Derived.Tactics
import Derived.Lib.ConvBytes
import Derived.Laws.Slices
import Derived.KernelRfl
import Derived.RowKit3
import Derived.Deep.LoopGhost
import Derived.Deep.QuietTactic
import Derived.BigQuiet
import Derived.WideLaws
import Derived.Deep.DeepCutAuto
import Derived.Deep.CutBlock
import Derived.Deep.RegionHeld3
import Derived.Laws.Rows
import Derived.Lib.AppendStr
import Derived.ArgAppend
import Derived.Laws.IdiomCopy
import Derived.OrdersHeld
import Derived.Laws.BitsLemmas
import Derived.RowKit
import Derived.Deep.DeepMust
import Derived.Laws.CopyOwn
import Derived.Lib.BufferMore
import Derived.Lib.SliceRun
import Derived.OpenShut
import Derived.ShutString
import Derived.ChangeOld
import Derived.SizedLaws
import Derived.Deep.Slices
import Derived.ChangeArms
import Derived.Shelf.Small.Bits
import Derived.Shelf.Strconv.Itoa0
import Derived.Laws.Bits64b
import Derived.Test.YtgookagndlfehaaZFnExactSumVerify4
set_option maxRecDepth 100000
set_option maxHeartbeats 8000000
section
/- Arguments that are read as data have the kinds' own form: for each kind, compositionally. Own text, for every seat (Ytgookagndlfehaa: the seat's name). -/
namespace Go.Proofs.YtgookagndlfehaaO
open Go.RowKit Go.ChangeShapes Go.WideShapes Go.ChangeAt Go.Proofs.YtgookagndlfehaaW.PrintWords
def Opens {α:Type} {H:Type} (enc:TypeId × Value→H) (P:Program) (w:World) (T:TypeId) (d:Kd α) (good:α→Prop):Prop:=
 ∀ (fuel:Nat) (cs:List Value) (x:DataW H × List MemPlace),DataW.trod enc P w 0 (fun _=>true) true fuel T cs=some x→∃ a,d.K w a cs∧good a
def zic {α:Type} {H:Type} (enc:TypeId × Value→H) (P:Program) (w:World) (fs:List (TypeId × Nat)) (d:Kd α) (good:α→Prop):Prop:=
 ∀ (fuel:Nat) (cs:List Value),cs.length=(fs.map (·.2)).sum→(∀ (j:Nat) (T n:Nat),fs[j]?=some (T,n)→∃ x,DataW.trod enc P w 0 (fun _=>true) true fuel T ((cs.drop ((fs.take j).map (·.2)).sum).take n)=some x)→∃ a,d.K w a cs∧good a
section
variable {H:Type} {enc:TypeId × Value→H} {P:Program} {w:World}
def zgd (k:IntKind) (a:Int):Prop:=(Lit.int k a).wf=true
def zkd (a:ByteArray):Prop:=a.size≤9223372036854775807
def zf5 {α:Type} (g:α→Prop) (l:List α):Prop:=l.length≤9223372036854775807∧∀ x∈l,g x
theorem zox {T:TypeId} {k:IntKind} (ht:P.underlying T=some (.int k)):Opens enc P w T (Kd.int k) (zgd k):=by
 intro fuel cs x h
 obtain⟨n,rfl,_,hw⟩:=DataW.trod_int ht h
 exact⟨n,rfl,hw⟩
theorem opens_bool {T:TypeId} (ht:P.underlying T=some .bool):Opens enc P w T Kd.bool (fun _=>True):=by
 intro fuel cs x h
 obtain⟨n,rfl,_⟩:=DataW.trod_bool ht h
 exact⟨n,rfl,trivial⟩
theorem zlv {T:TypeId} (ht:P.underlying T=some .string):Opens enc P w T Kd.string zkd:=by
 intro fuel cs x h
 obtain⟨s,rfl,_,hs⟩:=DataW.trod_string ht h
 exact⟨s,rfl,(by unfold zkd;unfold maxLen at hs;omega)⟩
theorem zl9 {α:Type} {n:Nat} {p:Nat→α→Prop} (h:∀ i,i<n→∃ a,p i a):∃ l:List α,l.length=n∧∀ i a,l[i]?=some a→p i a:=by
 induction n with
 | zero=>exact⟨[],rfl,fun i a hi=>by simp at hi⟩
 | succ n ih=>
  obtain⟨l,hl,hp⟩:=ih (fun i hi=>h i (by omega))
  obtain⟨a,ha⟩:=h n (by omega)
  refine⟨l++[a],(by simp [hl]),fun i b hi=>?_⟩
  rcases Nat.lt_or_ge i l.length with hlt|hge
  ·
   rw [List.getElem?_append_left hlt] at hi
   exact hp i b hi
  ·
   rw [List.getElem?_append_right hge] at hi
   have:i - l.length=0:=by
    rcases Nat.eq_zero_or_pos (i - l.length) with h0|h0
    ·
     exact h0
    ·
     rw [List.getElem?_eq_none (by simp;omega)] at hi;simp at hi
   rw [this] at hi
   simp at hi
   subst hi
   have:i=n:=by omega
   rw [this]
   exact ha
theorem zje {α:Type} {d:Kd α} {good:α→Prop} {T e:TypeId} (ht:P.underlying T=some (.slice e)) (hc:P.cellsOf e=d.sz) (ho:Opens enc P w e d good):Opens enc P w T (Kd.slice e d) (zf5 good):=by
 intro fuel cs x h
 rcases Deep.open_slice ht h with ⟨rfl,_⟩|⟨a,len,cap,m,n,D,Pl,rfl,_,hl,hm,hmm,_,hx⟩
 ·
  exact⟨[],⟨none,0,rfl,Nat.le_refl _,⟨rfl,(by simp),fun h0=>by simp at h0⟩⟩,⟨(by simp),fun x hx=>by simp at hx⟩⟩
 ·
  have hle:len≤m:=by rw [hmm];split <;> omega
  have hex:∀ i,i<len→∃ b:α,(∃ c,c.length=d.sz∧d.K w b c∧∀ j u,c[j]?=some u→w.cell? (a.add (i * d.sz + j))=some u)∧good b:=by
   intro i hi
   obtain⟨cs',h1,h2⟩:=hx i (by omega)
   obtain⟨b,hK,hg⟩:=ho _ _ _ h2
   obtain⟨_,hlen,hcell⟩:=World.cells?_some h1
   refine⟨b,⟨cs',(by rw [hlen,hc]),hK,fun j u hu=>?_⟩,hg⟩
   have hj:j<P.cellsOf e:=by
    rw [←hlen]
    exact(List.getElem?_eq_some_iff.1 hu).1
   rw [←Deep.add_add,←hc,hcell j hj,hu]
  obtain⟨l,hll,hp⟩:=zl9 hex
  unfold maxLen at hm
  refine⟨l,⟨some a,cap,by rw [hll],by omega,⟨rfl,by omega,fun _=>⟨a,rfl,fun j p hj=>(hp j p hj).1⟩⟩⟩,⟨(by omega),fun x hx=>?_⟩⟩
  obtain⟨i,hi,rfl⟩:=List.getElem_of_mem hx
  exact(hp i _ (List.getElem?_eq_getElem hi)).2
theorem zh2 {α:Type} {d:Kd α} {good:α→Prop} {T n:Nat} (ho:Opens enc P w T d good):zic enc P w [(T,n)] d good:=by
 intro fuel cs hlen h
 obtain⟨x,hx⟩:=h 0 T n rfl
 simp at hlen
 simp [List.take_of_length_le (Nat.le_of_eq hlen)] at hx
 exact ho _ _ _ hx
theorem zfi {α β:Type} {d:Kd α} {good:α→Prop} {d2:Kd β} {good2:β→Prop} {T n:Nat} {fs:List (TypeId × Nat)} (ho:Opens enc P w T d good) (hs:zic enc P w fs d2 good2) :
  zic enc P w ((T,n)::fs) (Kd.pair d d2) (fun x=>good x.1∧good2 x.2):=by
 intro fuel cs hlen h
 obtain⟨x,hx⟩:=h 0 T n rfl
 simp at hx
 obtain⟨a,hK,hg⟩:=ho _ _ _ hx
 simp only [List.map_cons,List.sum_cons] at hlen
 obtain⟨b,hK2,hg2⟩:=hs fuel (cs.drop n) (by rw [List.length_drop,hlen];omega) (fun j T' n' hj=>by
  obtain⟨y,hy⟩:=h (j + 1) T' n' (by simpa using hj)
  refine⟨y,?_⟩
  simp only [List.take_succ_cons,List.map_cons,List.sum_cons] at hy
  rw [List.drop_drop]
  exact hy)
 exact⟨(a,b),⟨cs.take n,cs.drop n,(List.take_append_drop n cs).symm,hK,hK2⟩,hg,hg2⟩
theorem zia {α β:Type} {d:Kd α} {good:α→Prop} {T:TypeId} {fs:Array Field} {l:List (TypeId × Nat)} (f:β→α) (g:α→β) (hfg:∀ a,f (g a)=a) (ht:P.underlying T=some (.struct fs))
  (hl:l.length=fs.size) (hf:∀ (j:Nat) (T' n:Nat),l[j]?=some (T',n)→∃ fd,fs[j]?=some fd∧fd.type=T'∧P.cellsOf T'=n∧fd.offset=((l.take j).map (·.2)).sum) (hc:P.cellsOf T=(l.map (·.2)).sum)
  (hs:zic enc P w l d good):Opens enc P w T (Kd.iso d f) (fun x=>good (f x)):=by
 intro fuel cs x h
 obtain⟨xs,n,_,_,hlen,hxl,hx⟩:=DataW.trod_struct ht h
 obtain⟨a,hK,hg⟩:=hs n cs (by rw [hlen,hc]) (fun j T' n' hj=>by
  obtain⟨fd,h1,h2,h3,h4⟩:=hf j T' n' hj
  have h5:=hx j fd h1
  have hj2:j<xs.length:=by
   have:=(List.getElem?_eq_some_iff.1 hj).1
   omega
  rw [List.getElem?_eq_getElem hj2,h2,h3,h4] at h5
  exact⟨_,h5⟩)
 refine⟨g a,?_,?_⟩
 ·
  show d.K w (f (g a)) cs
  rw [hfg];exact hK
 ·
  show good (f (g a))
  rw [hfg];exact hg
end
end Go.Proofs.YtgookagndlfehaaO
end
section
namespace Go.Proofs.Ytgookagndlfehaa.fnExactSumVerify
open Go.RowKit Go.ChangeShapes Go.WideShapes Go.ChangeAt Go.Proofs.YtgookagndlfehaaO Go.Proofs.Ytgookagndlfehaa.PT Go.Proofs.YtgookagndlfehaaW.PrintWords Go.Proofs.YtgookagndlfehaaW.PrintLast
set_option linter.unusedVariables false
theorem zkr {H:Type} {enc:TypeId × Value→H} {w:World}:Opens enc Try.prog w 3 (Kd.int .i64) (zgd .i64):=zox Try.underlying3
def zh1:S56→Prop:=(fun x:S56=>(zgd .i64) x.f0∧(zgd .i64) x.f1)
theorem zne {H:Type} {enc:TypeId × Value→H} {w:World}:Opens enc Try.prog w 56 k56 zh1:=
 zia (l:=[(3,1),(3,1)]) (fun x:S56=>(x.f0,x.f1)) (fun a=>⟨a.1,a.2⟩) (fun _=>rfl) Try.underlying56 rfl (fun j T n h=>match j,T,n,h with
  | 0,_,_,h=>by cases h;exact⟨_,rfl,rfl,(by kernel_rfl),rfl⟩
  | 1,_,_,h=>by cases h;exact⟨_,rfl,rfl,(by kernel_rfl),rfl⟩
  | _ + 2,_,_,h=>by simp at h) (by kernel_rfl) (zfi zkr (zh2 zkr))
theorem zm4 {H:Type} {enc:TypeId × Value→H} {w:World}:Opens enc Try.prog w 50 (Kd.slice 56 k56) (zf5 zh1):=zje Try.underlying50 (by kernel_rfl) zne
theorem opensT57 {H:Type} {enc:TypeId × Value→H} {w:World}:Opens enc Try.prog w 57 (Kd.slice 50 (Kd.slice 56 k56)) (zf5 (zf5 zh1)):=zje Try.underlying57 (by kernel_rfl) zm4
theorem opensT9 {H:Type} {enc:TypeId × Value→H} {w:World}:Opens enc Try.prog w 9 Kd.string zkd:=zlv Try.underlying9
def zoj:S59→Prop:=(fun x:S59=>(zf5 zh1) x.f0∧(zgd .i64) x.f1∧zkd x.f2∧(zgd .i64) x.f3)
theorem opensT59 {H:Type} {enc:TypeId × Value→H} {w:World}:Opens enc Try.prog w 59 k59 zoj:=
 zia (l:=[(50,1),(3,1),(9,1),(3,1)]) (fun x:S59=>(x.f0,x.f1,x.f2,x.f3)) (fun a=>⟨a.1,a.2.1,a.2.2.1,a.2.2.2⟩) (fun _=>rfl) Try.underlying59 rfl (fun j T n h=>match j,T,n,h with
  | 0,_,_,h=>by cases h;exact⟨_,rfl,rfl,(by kernel_rfl),rfl⟩
  | 1,_,_,h=>by cases h;exact⟨_,rfl,rfl,(by kernel_rfl),rfl⟩
  | 2,_,_,h=>by cases h;exact⟨_,rfl,rfl,(by kernel_rfl),rfl⟩
  | 3,_,_,h=>by cases h;exact⟨_,rfl,rfl,(by kernel_rfl),rfl⟩
  | _ + 4,_,_,h=>by simp at h) (by kernel_rfl) (zfi zm4 (zfi zkr (zfi opensT9 (zh2 zkr))))
def Pure:Prop:=∀ (x0:Int) (x1:S56) (x2:List (List (S56))) (x3:Int) (x4:S59),(zgd .i64) x0→zh1 x1→(zf5 (zf5 zh1)) x2→(zgd .i64) x3→zoj x4→∃ k,zao.f k x0 x1.f0 x1.f1 x2 x3 x4.f0 x4.f1 x4.f2 x4.f3=some true
end Go.Proofs.Ytgookagndlfehaa.fnExactSumVerify
end
section
/- The field and the greater field, over whole numbers: what the printed functions of chapters 2 and 3 come to. -/
namespace Go.Proofs.Ytgookagndlfehaa.PT
open Go.RowKit Go.Proofs.YtgookagndlfehaaW.PrintWords Go.Proofs.YtgookagndlfehaaW.PrintLast Go.Proofs.YtgookagndlfehaaW.PrintMore
set_option linter.unusedVariables false
set_option linter.unusedSimpArgs false
abbrev E:=S34
abbrev LE:=S56
theorem rdE (l:List E) (i:Int):zan l i=l.getD i.toNat z34:=rfl
theorem rdL (l:List LE) (i:Int):zgt l i=l.getD i.toNat z56:=rfl
abbrev zE:E:=z34
instance:DecidableEq S34:=fun x y=>decidable_of_iff (x.f0=y.f0∧x.f1=y.f1) ⟨fun h=>by cases x;cases y;simp_all,fun h=>by rw [h];exact⟨rfl,rfl⟩⟩
theorem E.ext_ {x y:E} (h0:x.f0=y.f0) (h1:x.f1=y.f1):x=y:=by cases x;cases y;simp_all
theorem LE.ext_ {x y:LE} (h0:x.f0=y.f0) (h1:x.f1=y.f1):x=y:=by cases x;cases y;simp_all
theorem w64 {n:Int} (h0 : -9223372036854775808≤n) (h1:n≤9223372036854775807):wrap64 n=n:=by unfold wrap64;omega
theorem zfd {a b:Int} (h:0≤a):Int.tmod a b=a % b:=Int.tmod_eq_emod_of_nonneg h
theorem tdiv_nn {a b:Int} (h:0≤a):Int.tdiv a b=a / b:=Int.tdiv_eq_ediv_of_nonneg h
def inF (a:Int):Prop:=0≤a∧a≤2130706432
instance (a:Int):Decidable (inF a):=by unfold inF;infer_instance
def fadd (a b:Int):Int:=(a + b) % 2130706433
def fsub (a b:Int):Int:=(a - b) % 2130706433
def fmul (a b:Int):Int:=(a * b) % 2130706433
theorem zj7 (a b:Int):inF (fadd a b):=by unfold inF fadd;omega
theorem zki (a b:Int):inF (fsub a b):=by unfold inF fsub;omega
theorem ze2 (a b:Int):inF (fmul a b):=by unfold inF fmul;omega
theorem mul_bd {a b:Int} (ha:inF a) (hb:inF b):0≤a * b∧a * b≤4539909903617114624:=by
 obtain⟨h1,h2⟩:=ha
 obtain⟨h3,h4⟩:=hb
 refine⟨Int.mul_nonneg h1 h3,Int.le_trans (Int.mul_le_mul h2 h4 h3 (by omega)) (by decide)⟩
theorem inF_0:inF 0:=by decide
theorem inF_1:inF 1:=by decide
theorem inF_3:inF 3:=by decide
structure okE (x:E):Prop where
 a:inF x.f0
 b:inF x.f1
def eadd (x y:E):E:=⟨fadd x.f0 y.f0,fadd x.f1 y.f1⟩
def esub (x y:E):E:=⟨fsub x.f0 y.f0,fsub x.f1 y.f1⟩
def emul (x y:E):E:=⟨fadd (fmul x.f0 y.f0) (fmul 3 (fmul x.f1 y.f1)),fadd (fmul x.f0 y.f1) (fmul x.f1 y.f0)⟩
def eof (n:Int):E:=⟨n,0⟩
def zgv (x:E) (n:Int):E:=⟨fmul x.f0 n,fmul x.f1 n⟩
theorem ok_add (x y:E):okE (eadd x y):=⟨zj7 _ _,zj7 _ _⟩
theorem ok_sub (x y:E):okE (esub x y):=⟨zki _ _,zki _ _⟩
theorem zmy (x y:E):okE (emul x y):=⟨zj7 _ _,zj7 _ _⟩
theorem zm1 (x:E) (n:Int):okE (zgv x n):=⟨ze2 _ _,ze2 _ _⟩
theorem ok_of {n:Int} (h:inF n):okE (eof n):=⟨h,inF_0⟩
theorem ok_zero:okE zE:=⟨inF_0,inF_0⟩
theorem zor {a:Int} (h:inF a):fadd a 0=a:=by unfold fadd inF at *;omega
theorem ziz (a:Int):fmul a 0=0:=by simp [fmul]
theorem zna {a:Int} (h:inF a):fmul a 1=a:=by unfold fmul inF at *;omega
theorem emul_of (x:E) (n:Int):emul x (eof n)=zgv x n:=by
 refine E.ext_ ?_ ?_
 ·
  show fadd (fmul x.f0 n) (fmul 3 (fmul x.f1 0))=fmul x.f0 n
  rw [ziz,ziz,zor (ze2 _ _)]
 ·
  show fadd (fmul x.f0 0) (fmul x.f1 n)=fmul x.f1 n
  rw [ziz];unfold fadd;have:=ze2 x.f1 n;unfold inF at this;omega
end Go.Proofs.Ytgookagndlfehaa.PT
end
section
/- What the printed functions of the field and of the greater field answer: the same sums and products on both sides. -/
namespace Go.Proofs.Ytgookagndlfehaa.PT
open Go.RowKit Go.Proofs.YtgookagndlfehaaW.PrintWords Go.Proofs.YtgookagndlfehaaW.PrintLast Go.Proofs.YtgookagndlfehaaW.PrintMore
set_option linter.unusedVariables false
set_option linter.unusedSimpArgs false
theorem zem (a b c:Int):zcn.f a b c=some (decide (b≤a∧a≤c)):=by
 unfold zcn.f;by_cases h:b≤a <;> simp [h]
theorem zeg (a b c:Int):zb2.f a b c=some (decide (b≤a∧a≤c)):=by
 unfold zb2.f;by_cases h:b≤a <;> simp [h]
theorem zgj (a:Int):zcw.f a=some (decide (inF a)):=by
 unfold zcw.f;rw [zem];rfl
theorem zgb (a:Int):zc4.f a=some (decide (inF a)):=by
 unfold zc4.f;rw [zeg];rfl
def okB (x:E):Bool:=decide (inF x.f0) && decide (inF x.f1)
theorem zod (x:E):okB x=true↔okE x:=by
 unfold okB;rw [Bool.and_eq_true,decide_eq_true_eq,decide_eq_true_eq];exact⟨fun h=>⟨h.1,h.2⟩,fun h=>⟨h.a,h.b⟩⟩
theorem zdg (a b:Int):zcl.f a b=some (okB ⟨a,b⟩):=by
 unfold zcl.f okB;rw [zgj,zgj]
 by_cases h:inF a <;> simp [h]
theorem zd2 (a b:Int):zdd.f a b=some (okB ⟨a,b⟩):=by
 unfold zdd.f okB;rw [zgb,zgb]
 by_cases h:inF a <;> simp [h]
theorem zg3 {a b:Int} (ha:inF a) (hb:inF b):zcv.f a b=some (fadd a b):=by
 unfold inF at ha hb;unfold zcv.f fadd;rw [w64 (by omega) (by omega),zfd (by omega)]
theorem zfw {a b:Int} (ha:inF a) (hb:inF b):zbv.f a b=some (fadd a b):=by
 unfold inF at ha hb;unfold zbv.f fadd;rw [w64 (by omega) (by omega),zfd (by omega)]
theorem zg9 {a b:Int} (ha:inF a) (hb:inF b):zek.f a b=some (fsub a b):=by
 unfold inF at ha hb;unfold zek.f fsub;rw [w64 (n:=a - b) (by omega) (by omega),w64 (by omega) (by omega),zfd (by omega)]
 congr 1;omega
theorem zfv {a b:Int} (ha:inF a) (hb:inF b):zcs.f a b=some (fsub a b):=by
 unfold inF at ha hb;unfold zcs.f fsub;rw [w64 (n:=a + _) (by omega) (by omega),w64 (by omega) (by omega),zfd (by omega)]
 congr 1;omega
theorem zd6 {a b:Int} (ha:inF a) (hb:inF b):zbn.f a b=some (fmul a b):=by
 have:=mul_bd ha hb
 unfold zbn.f fmul;rw [w64 (by omega) (by omega),zfd (by omega)]
theorem zdv {a b:Int} (ha:inF a) (hb:inF b):za6.f a b=some (fmul a b):=by
 have:=mul_bd ha hb
 unfold za6.f fmul;rw [w64 (by omega) (by omega),zfd (by omega)]
theorem zh4 {x y:E} (hx:okE x) (hy:okE y):zbu.f x.f0 x.f1 y.f0 y.f1=some ((eadd x y).f0,(eadd x y).f1):=by
 unfold zbu.f;rw [zg3 hx.a hy.a,zg3 hx.b hy.b];rfl
theorem zj6 {x y:E} (hx:okE x) (hy:okE y):zb5.f x.f0 x.f1 y.f0 y.f1=some ((esub x y).f0,(esub x y).f1):=by
 unfold zb5.f;rw [zg9 hx.a hy.a,zg9 hx.b hy.b];rfl
theorem zkn {x y:E} (hx:okE x) (hy:okE y):zb6.f x.f0 x.f1 y.f0 y.f1=some ((emul x y).f0,(emul x y).f1):=by
 unfold zb6.f
 simp only [zd6 hx.a hy.a,zd6 hx.b hy.b,zd6 hx.a hy.b,zd6 hx.b hy.a,zd6 inF_3 (ze2 _ _),zg3 (ze2 _ _) (ze2 _ _),Option.bind_some]
 rfl
theorem zjh {x:E} {n:Int} (hx:okE x) (hn:inF n):zbk.f x.f0 x.f1 n=some ((zgv x n).f0,(zgv x n).f1):=by
 unfold zbk.f;rw [zd6 hx.a hn,zd6 hx.b hn];rfl
theorem zgs {x y:E} (hx:okE x) (hy:okE y):zb9.f x.f0 x.f1 y.f0 y.f1=some ((eadd x y).f0,(eadd x y).f1):=by
 unfold zb9.f;rw [zfw hx.a hy.a,zfw hx.b hy.b];rfl
theorem zjj {x y:E} (hx:okE x) (hy:okE y):zct.f x.f0 x.f1 y.f0 y.f1=some ((esub x y).f0,(esub x y).f1):=by
 unfold zct.f;rw [zfv hx.a hy.a,zfv hx.b hy.b];rfl
theorem zgx {x y:E} (hx:okE x) (hy:okE y):zcf.f x.f0 x.f1 y.f0 y.f1=some ((emul x y).f0,(emul x y).f1):=by
 unfold zcf.f
 have h3:∀ t,inF t→Int.tmod (wrap64 (3 * t)) 2130706433=fmul 3 t:=by
  intro t ht;unfold inF at ht;unfold fmul;rw [w64 (by omega) (by omega),zfd (by omega)]
 simp only [zdv hx.a hy.a,zdv hx.b hy.b,zdv hx.a hy.b,zdv hx.b hy.a,Option.bind_some,h3 _ (ze2 _ _),zfw (ze2 _ _) (ze2 _ _)]
 rfl
theorem zhp (n:Int):ze4.f n=some ((eof n).f0,(eof n).f1):=rfl
def okL (l:List E):Prop:=∀ x∈l,okE x
def okLB (l:List E):Bool:=l.all okB
theorem zie (l:List E):okLB l=true↔okL l:=by
 unfold okLB okL;rw [List.all_eq_true];exact⟨fun h x hx=>(zod x).1 (h x hx),fun h x hx=>(zod x).2 (h x hx)⟩
theorem okL_get {l:List E} (h:okL l) (i:Nat) (hi:i<l.length):okE (l.getD i zE):=by
 rw [List.getD_eq_getElem?_getD,List.getElem?_eq_getElem hi];exact h _ (List.getElem_mem hi)
theorem zl3 (l:List E):zam.f l=some (okLB l):=by
 unfold zam.f okLB
 congr 2;funext x;unfold zam.p;rw [zdg];rfl
theorem zis (l:List E) (hl:l.length≤4611686018427387904) (d:Nat):∀ (k i:Nat),i + d=l.length→d<k→zbl.l0 k l i=some ((l.drop i).all okB):=by
 induction d with
 | zero=>
  intro k i hi hk
  obtain⟨k,rfl⟩:∃ m,k=m + 1:=⟨k - 1,(by omega)⟩
  simp only [zbl.l0];rw [if_neg (by omega),List.drop_eq_nil_of_le (by omega)];rfl
 | succ d ih=>
  intro k i hi hk
  obtain⟨k,rfl⟩:∃ m,k=m + 1:=⟨k - 1,(by omega)⟩
  have hlt:i<l.length:=by omega
  simp only [zbl.l0]
  rw [if_pos (by omega),if_pos (by omega),zd2,List.drop_eq_getElem_cons hlt]
  have hg:zan l (i:Int)=l[i]:=by rw [rdE,Int.toNat_natCast,List.getD_eq_getElem?_getD,List.getElem?_eq_getElem hlt];rfl
  rw [hg]
  simp only [Option.bind_some,List.all_cons]
  by_cases hb:okB l[i]=true
  ·
   have e:okB ⟨(l[i]).f0,(l[i]).f1⟩=true:=hb
   rw [e,if_pos rfl,w64 (by omega) (by omega),show (i:Int) + 1=((i + 1:Nat):Int) by omega,ih k (i + 1) (by omega) (by omega)]
   rfl
  ·
   replace hb:=Bool.eq_false_iff.mpr hb
   have e:okB ⟨(l[i]).f0,(l[i]).f1⟩=false:=hb
   rw [e];rfl
theorem zgh {l:List E} (hl:l.length≤4611686018427387904) {k:Nat} (hk:l.length<k):zbl.f k l=some (okLB l):=by
 have:=zis l hl l.length k 0 (by omega) hk
 unfold zbl.f;exact this
end Go.Proofs.Ytgookagndlfehaa.PT
end
section
/- The laws' own helpers: elements copied, compared, marked; and powers of two. -/
namespace Go.Proofs.Ytgookagndlfehaa.PT
open Go.RowKit Go.Proofs.YtgookagndlfehaaW.PrintWords Go.Proofs.YtgookagndlfehaaW.PrintLast Go.Proofs.YtgookagndlfehaaW.PrintMore
set_option linter.unusedVariables false
set_option linter.unusedSimpArgs false
theorem zgo {l:List LE} {a:Int} (ha:0≤a) (ha2:a≤1048576) (hl:l.length≤9223372036854775807) (h:a<l.length):zc9.f l a=some (-1):=by
 unfold zc9.f;rw [w64 (by omega) (by omega),if_pos (by omega)]
theorem zgn {l:List LE} {a:Int} (ha2:a≤1048576) (h:(l.length:Int)≤a):zc9.f l a=some (a - l.length):=by
 unfold zc9.f;rw [w64 (by omega) (by omega),if_neg (by omega)]
def conv (x:LE):E:=⟨x.f0,x.f1⟩
def convL (l:List LE):List E:=l.map conv
theorem zge (l:List LE):(convL l).length=l.length:=by simp [convL]
theorem getD_at {α:Type} {l:List α} {z:α} {i:Nat} (h:i<l.length):l.getD i z=l[i]:=by
 rw [List.getD_eq_getElem?_getD,List.getElem?_eq_getElem h];rfl
theorem zpt {l:List E} {i:Nat} (h:i<l.length):zan l (i:Int)=l[i]:=by rw [rdE,Int.toNat_natCast,getD_at h]
theorem rdL_at {l:List LE} {i:Nat} (h:i<l.length):zgt l (i:Int)=l[i]:=by rw [rdL,Int.toNat_natCast,getD_at h]
theorem set_mid {α:Type} (a b:List α) (x y:α):(a++x::b).set a.length y=a++y::b:=by
 rw [List.set_append_right _ _ (Nat.le_refl _)];simp
theorem zn4 (l:List LE) (hl:l.length≤4611686018427387904) (d:Nat):∀ (k i:Nat),i + d=l.length→d<k→
  zbz.l0 k l (convL (l.take i)++List.replicate d z34) i=some (convL l):=by
 induction d with
 | zero=>
  intro k i hi hk
  obtain⟨k,rfl⟩:∃ m,k=m + 1:=⟨k - 1,(by omega)⟩
  simp only [zbz.l0];rw [if_neg (by omega),List.take_of_length_le (by omega)];simp
 | succ d ih=>
  intro k i hi hk
  obtain⟨k,rfl⟩:∃ m,k=m + 1:=⟨k - 1,(by omega)⟩
  have hlt:i<l.length:=by omega
  have hlen:(convL (l.take i)).length=i:=by rw [zge,List.length_take];omega
  simp only [zbz.l0]
  rw [if_pos (by omega),if_pos (by omega),rdL_at hlt]
  simp only [zea.f,Option.bind_some]
  rw [if_pos (by rw [List.length_append,hlen,List.length_replicate];omega),Int.toNat_natCast,List.replicate_succ]
  have hs:=set_mid (convL (l.take i)) (List.replicate d z34) z34 (conv l[i])
  rw [hlen] at hs
  show zbz.l0 k l ((convL (l.take i)++z34::List.replicate d z34).set i (conv l[i])) _=_
  rw [hs,w64 (by omega) (by omega),show (i:Int) + 1=((i + 1:Nat):Int) by omega]
  have:=ih k (i + 1) (by omega) (by omega)
  rw [List.take_succ_eq_append_getElem hlt] at this
  simp only [convL,List.map_append,List.map_cons,List.map_nil,List.append_assoc,List.cons_append,List.nil_append] at this
  exact this
theorem zlu {l:List LE} (hl:l.length≤1048576) {k:Nat} (hk:l.length<k):zbz.f k l=some (convL l):=by
 unfold zbz.f
 rw [if_pos (by omega),if_pos (by simp;omega)]
 have:=zn4 l (by omega) l.length k 0 (by omega) hk
 simpa [convL] using this
theorem eqExt_eq (x y:E):zdn.f x.f0 x.f1 y.f0 y.f1=some (decide (x=y)):=by
 unfold zdn.f
 by_cases h0:x.f0=y.f0
 ·
  by_cases h1:x.f1=y.f1
  ·
   rw [if_pos h0,if_pos h1,decide_eq_true (E.ext_ h0 h1)]
  ·
   rw [if_pos h0,if_neg h1,decide_eq_false (fun e=>h1 (by rw [e]))]
 ·
  rw [if_neg h0,decide_eq_false (fun e=>h0 (by rw [e]))]
theorem zpj (a:List E) (hl:a.length≤4611686018427387904) (d:Nat):∀ (k i:Nat),i + d=a.length→d<k→zax.l0 k a a i=some true:=by
 induction d with
 | zero=>
  intro k i hi hk
  obtain⟨k,rfl⟩:∃ m,k=m + 1:=⟨k - 1,(by omega)⟩
  simp only [zax.l0];rw [if_neg (by omega)]
 | succ d ih=>
  intro k i hi hk
  obtain⟨k,rfl⟩:∃ m,k=m + 1:=⟨k - 1,(by omega)⟩
  simp only [zax.l0]
  rw [if_pos (by omega),if_pos (by omega),if_pos (by omega),eqExt_eq]
  simp only [Option.bind_some,decide_true,if_true]
  rw [w64 (by omega) (by omega),show (i:Int) + 1=((i + 1:Nat):Int) by omega]
  exact ih k (i + 1) (by omega) (by omega)
theorem zha {a:List E} (hl:a.length≤4611686018427387904) {k:Nat} (hk:a.length<k):zax.f k a a=some true:=by
 unfold zax.f;rw [if_pos rfl];exact zpj a hl a.length k 0 (by omega) hk
def marked:Nat→Int→List E
 | 0,_=>[]
 | n + 1,k=>⟨k,k + 1⟩::marked n (k + 2)
theorem zd3 (n:Nat) (k:Int):(marked n k).length=n:=by
 induction n generalizing k with
 | zero=>rfl
 | succ n ih=>simp [marked,ih]
theorem zl2 (n:Nat) (k:Int):marked (n + 1) k=marked n k++[⟨k + 2 * n,k + 2 * n + 1⟩]:=by
 induction n generalizing k with
 | zero=>simp [marked]
 | succ n ih=>
  rw [marked,ih,marked,List.cons_append]
  have e:k + 2 + 2 * (n:Int)=k + 2 * ((n:Int) + 1):=by omega
  rw [Int.natCast_succ,e]
theorem zno (n:Nat) (k:Int) (i:Nat) (h:i<(marked n k).length):(marked n k)[i]=⟨k + 2 * i,k + 2 * i + 1⟩:=by
 induction n generalizing k i with
 | zero=>simp [marked] at h
 | succ n ih=>
  cases i with
  | zero=>simp [marked]
  | succ i=>
   simp only [marked,List.getElem_cons_succ]
   rw [ih]
   have e:k + 2 + 2 * (i:Int)=k + 2 * ((i + 1:Nat):Int):=by omega
   rw [e]
theorem zl8 (a:List E) (k0:Int) (hk0:0≤k0) (hk1:k0≤4611686018427387904) (hl:a.length≤1152921504606846976) (d:Nat):∀ (k i:Nat),i + d=a.length→d<k→
  zbh.l0 k (marked i k0++a.drop i) (k0 + 2 * i) i=some (k0 + 2 * a.length,marked a.length k0):=by
 induction d with
 | zero=>
  intro k i hi hk
  obtain⟨k,rfl⟩:∃ m,k=m + 1:=⟨k - 1,(by omega)⟩
  have:i=a.length:=by omega
  subst this
  simp only [zbh.l0]
  rw [if_neg (by rw [List.length_append,zd3,List.length_drop];omega)];simp
 | succ d ih=>
  intro k i hi hk
  obtain⟨k,rfl⟩:∃ m,k=m + 1:=⟨k - 1,(by omega)⟩
  have hlt:i<a.length:=by omega
  simp only [zbh.l0]
  rw [if_pos (by rw [List.length_append,zd3,List.length_drop];omega),if_pos (by omega)]
  simp only [Option.bind_some,Int.toNat_natCast]
  rw [List.drop_eq_getElem_cons hlt]
  have hs:=fun y=>set_mid (marked i k0) (a.drop (i + 1)) a[i] y
  have hs2:=fun x y=>set_mid (marked i k0) (a.drop (i + 1)) x y
  rw [zd3] at hs hs2
  rw [hs,hs2]
  have hr:∀ x:E,zan (marked i k0++x::a.drop (i + 1)) (i:Int)=x:=by
   intro x
   rw [rdE,Int.toNat_natCast,List.getD_eq_getElem?_getD,List.getElem?_append_right (by rw [zd3];omega),zd3,Nat.sub_self];rfl
  rw [hr]
  rw [w64 (n:=k0 + 2 * (i:Int) + 1) (by omega) (by omega),w64 (by omega) (by omega),w64 (by omega) (by omega),show (i:Int) + 1=((i + 1:Nat):Int) by omega]
  have:=ih k (i + 1) (by omega) (by omega)
  rw [zl2,List.append_assoc] at this
  rw [show k0 + 2 * (i:Int) + 1 + 1=k0 + 2 * ((i + 1:Nat):Int) by omega]
  exact this
theorem zhc {a:List E} {k0:Int} (hk0:0≤k0) (hk1:k0≤4611686018427387904) (hl:a.length≤1152921504606846976) {k:Nat} (hk:a.length<k) :
  zbh.f k a k0=some (k0 + 2 * a.length,marked a.length k0):=by
 have:=zl8 a k0 hk0 hk1 hl a.length k 0 (by omega) hk
 unfold zbh.f
 simpa [marked] using this
theorem zmf (n:Nat) (k0:Int) (hk0:0≤k0) (hk1:k0≤4611686018427387904) (hl:n≤1152921504606846976) (d:Nat):∀ (k i:Nat),i + d=n→d<k→
  zbo.l0 k (marked n k0) (k0 + 2 * i) i=some (k0 + 2 * n):=by
 induction d with
 | zero=>
  intro k i hi hk
  obtain⟨k,rfl⟩:∃ m,k=m + 1:=⟨k - 1,(by omega)⟩
  have:i=n:=by omega
  subst this
  simp only [zbo.l0]
  rw [if_neg (by rw [zd3];omega)]
 | succ d ih=>
  intro k i hi hk
  obtain⟨k,rfl⟩:∃ m,k=m + 1:=⟨k - 1,(by omega)⟩
  have hlt:i<(marked n k0).length:=by rw [zd3];omega
  simp only [zbo.l0]
  rw [if_pos (by rw [zd3];omega),if_pos (by omega),zpt hlt,zno,if_pos rfl,w64 (n:=k0 + 2 * (i:Int) + 1) (by omega) (by omega),if_pos rfl,
   w64 (by omega) (by omega),w64 (by omega) (by omega),show (i:Int) + 1=((i + 1:Nat):Int) by omega,show k0 + 2 * (i:Int) + 1 + 1=k0 + 2 * ((i + 1:Nat):Int) by omega]
  exact ih k (i + 1) (by omega) (by omega)
theorem zi9 {n:Nat} {k0:Int} (hk0:0≤k0) (hk1:k0≤4611686018427387904) (hl:n≤1152921504606846976) {k:Nat} (hk:n<k) :
  zbo.f k (marked n k0) k0=some (k0 + 2 * n):=by
 have:=zmf n k0 hk0 hk1 hl n k 0 (by omega) hk
 unfold zbo.f
 simpa using this
end Go.Proofs.Ytgookagndlfehaa.PT
end
section
/- Steps that several laws share: same answers compared, lists turned in place. -/
namespace Go.Proofs.Ytgookagndlfehaa.PT
open Go.RowKit Go.Proofs.YtgookagndlfehaaW.PrintWords Go.Proofs.YtgookagndlfehaaW.PrintLast Go.Proofs.YtgookagndlfehaaW.PrintMore
set_option linter.unusedVariables false
set_option linter.unusedSimpArgs false
theorem bS {α β:Type} (a:α) (f:α→Option β):(some a).bind f=f a:=Eq.trans (Eq.refl _) (Option.bind_some a f)
theorem zjq {l:List E} (h:okL l) {i:Int} (hi:0≤i) (hl:i<l.length):okE (zan l i):=okL_get h i.toNat (by omega)
end Go.Proofs.Ytgookagndlfehaa.PT
end
section
/- The equality weight, at a point and as a table: both sides walk the same numbers. -/
namespace Go.Proofs.Ytgookagndlfehaa.PT
open Go.RowKit Go.Proofs.YtgookagndlfehaaW.PrintWords Go.Proofs.YtgookagndlfehaaW.PrintLast Go.Proofs.YtgookagndlfehaaW.PrintMore
set_option linter.unusedVariables false
set_option linter.unusedSimpArgs false
end Go.Proofs.Ytgookagndlfehaa.PT
end
section
/- Tables turned in place, folded, and read at a point: both sides walk the same numbers. -/
namespace Go.Proofs.Ytgookagndlfehaa.PT
open Go.RowKit Go.Proofs.YtgookagndlfehaaW.PrintWords Go.Proofs.YtgookagndlfehaaW.PrintLast Go.Proofs.YtgookagndlfehaaW.PrintMore
set_option linter.unusedVariables false
set_option linter.unusedSimpArgs false
theorem shlS_0:∀ n:Fin 10,shl .i64 1 (n.val:Int)=((2 ^ n.val:Nat):Int):=by decide +kernel
theorem shlS_ {n:Nat} (h:n<10):shl .i64 1 (n:Int)=((2 ^ n:Nat):Int):=shlS_0 ⟨n,h⟩
end Go.Proofs.Ytgookagndlfehaa.PT
end
section
/- Powers, inverses and the line: what the printed functions of chapter 2 come to. -/
namespace Go.Proofs.Ytgookagndlfehaa.PT
open Go.RowKit Go.Proofs.YtgookagndlfehaaW.PrintWords Go.Proofs.YtgookagndlfehaaW.PrintLast Go.Proofs.YtgookagndlfehaaW.PrintMore
set_option linter.unusedVariables false
set_option linter.unusedSimpArgs false
theorem e_al (a b:Int):(a % 2130706433 + b) % 2130706433=(a + b) % 2130706433:=by omega
theorem e_ar (a b:Int):(a + b % 2130706433) % 2130706433=(a + b) % 2130706433:=by omega
theorem e_ml (a b:Int):(a % 2130706433 * b) % 2130706433=(a * b) % 2130706433:=by rw [Int.mul_emod,Int.emod_emod_of_dvd _ (Int.dvd_refl _),←Int.mul_emod]
theorem e_mr (a b:Int):(a * (b % 2130706433)) % 2130706433=(a * b) % 2130706433:=by rw [Int.mul_emod,Int.emod_emod_of_dvd _ (Int.dvd_refl _),←Int.mul_emod]
theorem e_pow (a:Int) (n:Nat):(a % 2130706433) ^ n % 2130706433=a ^ n % 2130706433:=by
 induction n with
 | zero=>rw [Int.pow_zero,Int.pow_zero]
 | succ n ih=>rw [Int.pow_succ,Int.pow_succ,e_mr,←e_ml,ih,e_ml]
theorem pow_sq (a:Int) (m:Nat):(a * a) ^ m=a ^ (2 * m):=by
 induction m with
 | zero=>rw [Nat.mul_zero,Int.pow_zero,Int.pow_zero]
 | succ m ih=>rw [Int.pow_succ,ih,show 2 * (m + 1)=2 * m + 1 + 1 by omega,Int.pow_succ,Int.pow_succ,Int.mul_assoc]
theorem and1 {x:Int} (h0:0≤x) (h1:x≤9223372036854775807):Go.bits .and .i64 x 1=x % 2:=by
 have:=bits_mask .i64 63 (by decide) (fun n h0 h1=>by
  simp only [IntKind.wrap,IntKind.bits,IntKind.signed]
  simp
  simp at h1
  omega) 1 (by decide) x h0 (by simp;omega)
 simpa using this
def fpow (a:Int) (n:Nat):Int:=a ^ n % 2130706433
theorem inF_pow (a:Int) (n:Nat):inF (fpow a n):=by unfold inF fpow;omega
theorem fpow_mul (a b:Int) (n:Nat):fpow (fmul a b) n=fmul (fpow a n) (fpow b n):=by
 unfold fpow fmul
 rw [e_pow,e_ml,e_mr,Int.mul_pow]
theorem fpow_one (n:Nat):fpow 1 n=1:=by unfold fpow;rw [Int.one_pow];rfl
theorem pow_l0 (d:Nat) (hd:d≤62):∀ (n:Nat) (a r:Int),n<2 ^ d→inF a→inF r→∀ k,d<k→
  zdo.l0 k a n r=some (r * a ^ n % 2130706433)∧zci.l0 k a n r=some (r * a ^ n % 2130706433):=by
 induction d with
 | zero=>
  intro n a r hn ha hr k hk
  obtain⟨k,rfl⟩:∃ m,k=m + 1:=⟨k - 1,(by omega)⟩
  obtain rfl:n=0:=by simp at hn;exact hn
  simp only [zdo.l0,zci.l0]
  have e:r * a ^ 0 % 2130706433=r:=by unfold inF at hr;rw [Int.pow_zero];omega
  rw [if_neg (by omega),if_neg (by omega),e];exact⟨rfl,rfl⟩
 | succ d ih=>
  intro n a r hn ha hr k hk
  obtain⟨k,rfl⟩:∃ m,k=m + 1:=⟨k - 1,(by omega)⟩
  simp only [zdo.l0,zci.l0]
  by_cases h0:n=0
  ·
   subst h0
   have e:r * a ^ 0 % 2130706433=r:=by unfold inF at hr;rw [Int.pow_zero];omega
   rw [if_neg (by omega),if_neg (by omega),e];exact⟨rfl,rfl⟩
  ·
   have hd2:n<2 ^ 62:=Nat.lt_of_lt_of_le hn (Nat.pow_le_pow_right (by omega) hd)
   have hn62:n<4611686018427387904:=hd2
   have e1:Go.bits .and .i64 (n:Int) 1=(n:Int) % 2:=and1 (by omega) (by omega)
   have e2:Int.tmod (n:Int) 2=(n:Int) % 2:=zfd (by omega)
   have e3:wrap64 (Int.tdiv (n:Int) 2)=((n / 2:Nat):Int):=by rw [tdiv_nn (by omega),w64 (by omega) (by omega)];omega
   have e4:(n:Int) / 2=((n / 2:Nat):Int):=by omega
   have hm:n / 2<2 ^ d:=by rw [Nat.pow_succ] at hn;omega
   have hpos:(n:Int)>0:=by omega
   rw [e1,e2,e3,e4,if_pos hpos]
   by_cases h1:(n:Int) % 2=1
   ·
    rw [if_pos h1,if_pos hpos,if_pos h1,zd6 hr ha,zdv hr ha,zd6 ha ha,zdv ha ha]
    simp only [bS]
    have hx:=ih (by omega) (n / 2) (fmul a a) (fmul r a) hm (ze2 _ _) (ze2 _ _) k (by omega)
    have e5:fmul r a * fmul a a ^ (n / 2) % 2130706433=r * a ^ n % 2130706433:=by
     unfold fmul
     rw [e_ml,←e_mr,e_pow,e_mr,pow_sq,Int.mul_assoc,Int.mul_comm a,←Int.pow_succ,show (2 * (n / 2)).succ=n by omega]
    rw [e5] at hx
    exact hx
   ·
    rw [if_neg h1,if_pos hpos,if_neg h1,zd6 ha ha,zdv ha ha]
    simp only [bS]
    have hx:=ih (by omega) (n / 2) (fmul a a) r hm (ze2 _ _) hr k (by omega)
    have e5:r * fmul a a ^ (n / 2) % 2130706433=r * a ^ n % 2130706433:=by
     unfold fmul
     rw [←e_mr,e_pow,e_mr,pow_sq,show 2 * (n / 2)=n by omega]
    rw [e5] at hx
    exact hx
theorem zmw {a:Int} (ha:inF a) {n:Nat} (hn:n<2 ^ 40) {k:Nat} (hk:40<k):zdo.f k a n=some (fpow a n)∧zci.f k a n=some (fpow a n):=by
 have h:=pow_l0 40 (by omega) n a 1 hn ha inF_1 k hk
 rw [Int.one_mul] at h
 exact h
def finv (a:Int):Int:=fpow a 2130706431
theorem zn8 (a:Int):inF (finv a):=inF_pow _ _
theorem finv_mul (a b:Int):finv (fmul a b)=fmul (finv a) (finv b):=fpow_mul a b _
theorem finv_one:finv 1=1:=fpow_one _
theorem ziu {a:Int} (ha:inF a) {k:Nat} (hk:40<k):zd5.f k a=some (finv a):=by
 unfold zd5.f finv
 have h:=(zmw ha (n:=2130706431) (by decide) hk).1
 rw [show ((2130706431:Nat):Int)=2130706431 from rfl] at h
 rw [h];rfl
theorem zkl {a:Int} (ha:inF a) {k:Nat} (hk:40<k):zd9.f k a=some (finv a):=by
 unfold zd9.f finv
 have h:=(zmw ha (n:=2130706431) (by decide) hk).2
 rw [show ((2130706431:Nat):Int)=2130706431 from rfl] at h
 rw [h];rfl
theorem zo1 (x w:E) (n m:Int):zgv (emul (zgv x n) w) m=zgv (emul x w) (fmul n m):=by
 refine E.ext_ ?_ ?_
 ·
  show fmul (fadd (fmul (fmul x.f0 n) w.f0) (fmul 3 (fmul (fmul x.f1 n) w.f1))) m=fmul (fadd (fmul x.f0 w.f0) (fmul 3 (fmul x.f1 w.f1))) (fmul n m)
  unfold fmul fadd
  simp only [e_al,e_ar,e_ml,e_mr]
  congr 1;grind
 ·
  show fmul (fadd (fmul (fmul x.f0 n) w.f1) (fmul (fmul x.f1 n) w.f0)) m=fmul (fadd (fmul x.f0 w.f1) (fmul x.f1 w.f0)) (fmul n m)
  unfold fmul fadd
  simp only [e_al,e_ar,e_ml,e_mr]
  congr 1;grind
theorem zom {x:E} (hx:okE x):zgv x 1=x:=E.ext_ (zna hx.a) (zna hx.b)
end Go.Proofs.Ytgookagndlfehaa.PT
end
section
/- bits.Len's contract, laid from the kit's shelf for this program. -/
namespace Go.Proofs
open Go.Shelf
def Try.lays128_ren:Go.Shelf.Ren:=⟨fun|128=>171|n=>n,fun|51=>175|3=>3|4=>4|46=>121|5=>5|9=>9|n=>n,fun|n=>n⟩
theorem Try.lays128:Go.Proofs.Lays.n128 Try.prog Try.lays128_ren:={
 mixed:=by kernel_rfl
 f128:=Try.func171.trans (congrArg some (by kernel_rfl))
 t3:=Try.underlying3
 a3:=Try.isAgg3
 z3:=Try.sizeOf3
 v3:=Try.zeroValue3
 t4:=Try.underlying4
 a4:=Try.isAgg4
 z4:=Try.sizeOf4
 v4:=Try.zeroValue4
 t5:=Try.underlying5
 a5:=Try.isAgg5
 z5:=Try.sizeOf5
 v5:=Try.zeroValue5
 t9:=Try.underlying9
 a9:=Try.isAgg9
 z9:=Try.sizeOf9
 v9:=Try.zeroValue9
 t46:=Try.underlying121
 a46:=Try.isAgg121
 z46:=Try.sizeOf121
 v46:=Try.zeroValue121
 t51:=Try.underlying175
 a51:=Try.isAgg175
 z51:=Try.sizeOf175
 v51:=Try.zeroValue175 }
theorem Try.bits_Len32 (x:Int) (w:World) (h0:0≤x) (h1:x≤4294967295) :
  Calls Try.prog 171 #[.int .u32 x] w fun e w'=>e=.returned (.int .i64 (Lib.bitLen x.toNat))∧w'=w:=Any.bits_Len32 Try.lays128 x w h0 h1
def Try.lays125_ren:Go.Shelf.Ren:=⟨fun|125=>168|128=>171|129=>172|n=>n,fun|46=>121|3=>3|51=>175|53=>132|4=>4|5=>5|9=>9|n=>n,fun|n=>n⟩
theorem Try.lays125:Go.Proofs.Lays.n125 Try.prog Try.lays125_ren:={
 mixed:=by kernel_rfl
 f125:=Try.func168.trans (congrArg some (by kernel_rfl))
 f128:=Try.func171.trans (congrArg some (by kernel_rfl))
 f129:=Try.func172.trans (congrArg some (by kernel_rfl))
 t3:=Try.underlying3
 a3:=Try.isAgg3
 z3:=Try.sizeOf3
 v3:=Try.zeroValue3
 t4:=Try.underlying4
 a4:=Try.isAgg4
 z4:=Try.sizeOf4
 v4:=Try.zeroValue4
 t5:=Try.underlying5
 a5:=Try.isAgg5
 z5:=Try.sizeOf5
 v5:=Try.zeroValue5
 t9:=Try.underlying9
 a9:=Try.isAgg9
 z9:=Try.sizeOf9
 v9:=Try.zeroValue9
 t46:=Try.underlying121
 a46:=Try.isAgg121
 z46:=Try.sizeOf121
 v46:=Try.zeroValue121
 t51:=Try.underlying175
 a51:=Try.isAgg175
 z51:=Try.sizeOf175
 v51:=Try.zeroValue175
 t53:=Try.underlying132
 a53:=Try.isAgg132
 z53:=Try.sizeOf132
 v53:=Try.zeroValue132 }
theorem Try.bits_Len (x:Int) (w:World) (h0:0≤x) (h1:x≤18446744073709551615) :
  Calls Try.prog 168 #[.int .u64 x] w fun e w'=>e=.returned (.int .i64 (Lib.bitLen x.toNat))∧w'=w:=Any.bits_Len Try.lays125 x w h0 h1
def Try.lays129_ren:Go.Shelf.Ren:=⟨fun|129=>172|n=>n,fun|53=>132|3=>3|4=>4|46=>121|5=>5|9=>9|n=>n,fun|n=>n⟩
theorem Try.lays129:Go.Proofs.Lays.n129 Try.prog Try.lays129_ren:={
 mixed:=by kernel_rfl
 f129:=Try.func172.trans (congrArg some (by kernel_rfl))
 t3:=Try.underlying3
 a3:=Try.isAgg3
 z3:=Try.sizeOf3
 v3:=Try.zeroValue3
 t4:=Try.underlying4
 a4:=Try.isAgg4
 z4:=Try.sizeOf4
 v4:=Try.zeroValue4
 t5:=Try.underlying5
 a5:=Try.isAgg5
 z5:=Try.sizeOf5
 v5:=Try.zeroValue5
 t9:=Try.underlying9
 a9:=Try.isAgg9
 z9:=Try.sizeOf9
 v9:=Try.zeroValue9
 t46:=Try.underlying121
 a46:=Try.isAgg121
 z46:=Try.sizeOf121
 v46:=Try.zeroValue121
 t53:=Try.underlying132
 a53:=Try.isAgg132
 z53:=Try.sizeOf132
 v53:=Try.zeroValue132 }
theorem Try.bits_Len64 (x:Int) (w:World) (h0:0≤x) (h1:x≤18446744073709551615) :
  Calls Try.prog 172 #[.int .u64 x] w fun e w'=>e=.returned (.int .i64 (Lib.bitLen x.toNat))∧w'=w:=Any.bits_Len64 Try.lays129 x w h0 h1
end Go.Proofs
end
section
namespace Go.Proofs.Ytgookagndlfehaa.PT
open Go.RowKit Go.Proofs.YtgookagndlfehaaW.PrintWords Go.Proofs.YtgookagndlfehaaW.PrintLast Go.Proofs.YtgookagndlfehaaW.PrintMore
attribute [local go_sem] zex zev zfa ze8 zec zed zeu zew   -- for this text's walks alone
set_option linter.unusedVariables false
set_option linter.unusedSimpArgs false
end Go.Proofs.Ytgookagndlfehaa.PT
end
section
/- Words: their transform, its inverse, and a word folded: both sides walk the same numbers. -/
namespace Go.Proofs.Ytgookagndlfehaa.PT
open Go.RowKit Go.Proofs.YtgookagndlfehaaW.PrintWords Go.Proofs.YtgookagndlfehaaW.PrintLast Go.Proofs.YtgookagndlfehaaW.PrintMore
set_option linter.unusedVariables false
set_option linter.unusedSimpArgs false
end Go.Proofs.Ytgookagndlfehaa.PT
end
section
/- A row of rows that are held elsewhere, too: the rows' values, and what the rows hold, apart. -/
namespace Go.Proofs.Ytgookagndlfehaa.PT
open Go.RowKit Go.Proofs.YtgookagndlfehaaW.PrintWords Go.Proofs.YtgookagndlfehaaW.PrintLast Go.Proofs.YtgookagndlfehaaW.PrintMore
set_option linter.unusedVariables false
set_option linter.unusedSimpArgs false
abbrev Desc:=Option Addr × Nat × Nat
abbrev Desc.v (x:Desc):Value:=.slice x.1 x.2.1 x.2.2
def kv:Kd Desc:=Kd.scalar Desc.v (fun _=>rfl)
def zjx {α:Type} (d:Kd α) (e b:Nat) (ps:List (Desc × List α)) (S:Nat→Prop):Grp:=⟨S,fun w=>(∀ p,p∈ps→d.R e w b S p.1.v p.2)∧ps.Pairwise (fun p q=>∀ k,p.1.v.ownBlock=some k→q.1.v.ownBlock≠some k)⟩
namespace Inv
variable {w0 w w1:World} {P:Nat→Prop} {L:List Grp} {F:World→Prop}
theorem merge {a b c:Grp} (h:Inv w0 P w (a::b::L) F) (hS:∀ k,c.S k↔(a.S k∨b.S k)) (hA:∀ w',a.A w'→b.A w'→c.A w'):Inv w0 P w (c::L) F:=by
 have hd:=List.pairwise_cons.1 h.dis
 have hd2:=List.pairwise_cons.1 hd.2
 refine⟨h.agr,fun x hx k hk=>?_,fun x hx k hk=>?_,fun x hx w' hw=>?_,List.Pairwise.cons (fun x hx k hk hk2=>?_) hd2.2,fun w' hw=>h.facts w' (hw.mono ?_)⟩
 ·
  rcases List.mem_cons.1 hx with rfl|hx
  ·
   rcases (hS k).1 hk with hk|hk
   ·
    exact h.lt _ List.mem_cons_self k hk
   ·
    exact h.lt _ (List.mem_cons_of_mem _ List.mem_cons_self) k hk
  ·
   exact h.lt x (List.mem_cons_of_mem _ (List.mem_cons_of_mem _ hx)) k hk
 ·
  rcases List.mem_cons.1 hx with rfl|hx
  ·
   rcases (hS k).1 hk with hk|hk
   ·
    exact h.new _ List.mem_cons_self k hk
   ·
    exact h.new _ (List.mem_cons_of_mem _ List.mem_cons_self) k hk
  ·
   exact h.new x (List.mem_cons_of_mem _ (List.mem_cons_of_mem _ hx)) k hk
 ·
  rcases List.mem_cons.1 hx with rfl|hx
  ·
   exact hA w' (h.own _ List.mem_cons_self w' (fun k hk=>hw k ((hS k).2 (.inl hk)))) (h.own _ (List.mem_cons_of_mem _ List.mem_cons_self) w' (fun k hk=>hw k ((hS k).2 (.inr hk))))
  ·
   exact h.own x (List.mem_cons_of_mem _ (List.mem_cons_of_mem _ hx)) w' hw
 ·
  rcases (hS k).1 hk with hk|hk
  ·
   exact hd.1 x (List.mem_cons_of_mem _ hx) k hk hk2
  ·
   exact hd2.1 x hx k hk hk2
 ·
  rintro k ⟨x,hx,hk⟩
  rcases List.mem_cons.1 hx with rfl|hx
  ·
   rcases (hS k).1 hk with hk|hk
   ·
    exact⟨a,List.mem_cons_self,hk⟩
   ·
    exact⟨b,List.mem_cons_of_mem _ List.mem_cons_self,hk⟩
  ·
   exact⟨x,List.mem_cons_of_mem _ (List.mem_cons_of_mem _ hx),hk⟩
section
variable {α:Type} {d:Kd α} {e b e':Nat} {ps:List (Desc × List α)} {S S2:Nat→Prop} {xs:List α} {v:Value}
theorem noInners (d:Kd α) (e b:Nat) (h:Inv w0 P w L F):Inv w0 P w (zjx d e b [] (fun _=>False)::L) F:=
 h.push (Below.refl _ _) _ (fun _ h=>h.elim) (fun _ _=>by refine⟨?_,List.Pairwise.nil⟩;intro p hp;cases hp)
theorem takeIn {x:Desc} (h:Inv w0 P w (row d e b x.v xs S::zjx d e b ps S2::L) F):Inv w0 P w (zjx d e b (ps++[(x,xs)]) (fun k=>S k∨S2 k)::L) F:=by
 have hd:=(List.pairwise_cons.1 h.dis).1 _ List.mem_cons_self
 refine h.merge (fun k=>Iff.rfl) (fun w' ha hb=>⟨fun p hp=>?_,List.pairwise_append.2 ⟨hb.2,List.pairwise_singleton _ _,fun p hp q hq k hk hk2=>?_⟩⟩)
 ·
  rcases List.mem_append.1 hp with hp|hp
  ·
   exact Kd.zbi (hb.1 p hp) (fun k hk=>.inr hk)
  ·
   obtain rfl:=List.mem_singleton.1 hp
   exact Kd.zbi ha (fun k hk=>.inl hk)
 ·
  obtain rfl:=List.mem_singleton.1 hq
  exact hd k (ha.1 k hk2) ((hb.1 p hp).1 k hk)
theorem rowForm (h:Inv w0 P w (row d e b v xs S::L) F):∃ x:Desc,v=x.v∧x.2.1=xs.length∧xs.length≤x.2.2:=by
 obtain⟨A,c,rfl,hc,_⟩:=Kd.zgi h.row0
 exact⟨(A,xs.length,c),rfl,rfl,hc⟩
theorem slices (h:Inv w0 P w (row kv e' b v (ps.map Prod.fst) S::zjx d e b ps S2::L) F):(Kd.slice e d).R e' w b (fun _=>True) v (ps.map Prod.snd):=by
 have hd:=(List.pairwise_cons.1 h.dis).1 _ List.mem_cons_self
 have hin:=h.get 1 rfl
 obtain⟨h0,inner,ho,hr⟩:=h.row0
 refine⟨fun _ _=>trivial,inner,?_,?_,fun j xs hj=>?_⟩
 ·
  rw [List.length_map] at ho ⊢;exact ho
 ·
  have:=hr.1;rw [List.length_map] at this ⊢;exact this
 ·
  rw [List.getElem?_map] at hj
  cases hp:ps[j]? with
  | none=>rw [hp] at hj;cases hj
  | some p=>
   rw [hp] at hj
   obtain rfl:p.2=xs:=by simpa using hj
   have h1:=hr.2 j p.1 (by rw [List.getElem?_map,hp];rfl)
   exact⟨p.1.v,h1,Kd.zbi (hin.1 p (List.mem_of_getElem? hp)) (fun k hk=>⟨trivial,fun e=>hd k (h0 k e.symm) hk⟩)⟩
theorem zld {β:Type} (key:β→Option Nat):∀ ps:List β,ps.Pairwise (fun p q=>∀ k,key p=some k→key q≠some k)→∃ f:Nat→Nat,∀ j p,ps[j]?=some p→∀ k,key p=some k→f k=j
 | [],_=>⟨fun _=>0,fun j p h=>by simp at h⟩
 | p::ps,h=>by
  obtain⟨f,hf⟩:=zld key ps (List.pairwise_cons.1 h).2
  refine⟨fun k=>if key p=some k then 0 else f k + 1,fun j q hj k hk=>?_⟩
  cases j with
  | zero=>
   obtain rfl:p=q:=by simpa using hj
   exact if_pos hk
  | succ j=>
   have hq:ps[j]?=some q:=by simpa using hj
   show (if key p=some k then 0 else f k + 1)=j + 1
   rw [if_neg (fun hp=>(List.pairwise_cons.1 h).1 q (List.mem_of_getElem? hq) k hp hk),hf j q hq k hk]
theorem slicesS {ps:List (Desc × List ByteArray)} (h:Inv w0 P w (row kv e' b v (ps.map Prod.fst) S::zjx Kd.string e b ps S2::L) F):Kd.S (Kd.slice e Kd.string) e' w b (fun _=>True) v (ps.map Prod.snd):=by
 have hd:=(List.pairwise_cons.1 h.dis).1 _ List.mem_cons_self
 have hin:=h.get 1 rfl
 obtain⟨f,hf⟩:=zld (fun p:Desc × List ByteArray=>p.1.v.ownBlock) ps hin.2
 obtain⟨h0,inner,ho,hr⟩:=h.row0
 refine⟨f,fun _ _=>trivial,inner,?_,?_,fun j x hj=>?_⟩
 ·
  rw [List.length_zipIdx,List.length_map];rw [List.length_map] at ho;exact ho
 ·
  have:=hr.1;rw [List.length_zipIdx,List.length_map];rw [List.length_map] at this;exact this
 ·
  rw [List.getElem?_zipIdx,List.getElem?_map] at hj
  cases hp:ps[j]? with
  | none=>rw [hp] at hj;cases hj
  | some p=>
   rw [hp] at hj
   obtain rfl:(p.2,0 + j)=x:=by simpa using hj
   have h1:=hr.2 j p.1 (by rw [List.getElem?_map,hp];rfl)
   have h2:=hin.1 p (List.mem_of_getElem? hp)
   exact⟨p.1.v,h1,Kd.zbi (Kd.zfo rfl h2) (fun k hk=>⟨⟨trivial,fun e=>hd k (h0 k e.symm) (h2.1 k hk.symm)⟩,by rw [Nat.zero_add];exact hf j p hp k hk.symm⟩)⟩
theorem reads (h:Inv w0 P w L F) {A:Option Addr} {n c:Nat} (i:Nat) (hi:L[i]?=some (zjx d e b ps S)) (hm:((A,n,c),xs)∈ps):d.C w A xs.length xs:=(Kd.R_reads' ((h.get i hi).1 _ hm)).2.2
end
end Inv
def hl (t:ByteArray):ByteArray:=kec (nums_ ((⟨#[0]⟩:ByteArray)++t))
def hn (a b:ByteArray):ByteArray:=kec (nums_ (((⟨#[1]⟩:ByteArray)++a)++b))
theorem kec_len (xs:List Int):(kec xs).size=32:=by
 unfold kec
 rw [strOfNums_size,List.length_take,ze0]
 rfl
def pairs:List ByteArray→List ByteArray
 | a::b::l=>hn a b::pairs l
 | _=>[]
theorem zk0:∀ l:List ByteArray,(pairs l).length=l.length / 2
 | []=>rfl
 | [_]=>by simp [pairs]
 | a::b::l=>by rw [pairs,List.length_cons,zk0 l,List.length_cons,List.length_cons];omega
theorem zlp:∀ (l:List ByteArray) (j:Nat),2 * j + 1<l.length→(pairs l)[j]?=some (hn (rdOf ByteArray.empty l ((2 * j:Nat):Int)) (rdOf ByteArray.empty l ((2 * j + 1:Nat):Int)))
 | [],j,h=>by simp at h
 | [_],j,h=>by simp at h
 | a::b::l,0,h=>rfl
 | a::b::l,j + 1,h=>by
  have:=zlp l j (by simp at h;omega)
  rw [pairs,List.getElem?_cons_succ,this]
  rfl
theorem pairs_take (l:List ByteArray) (j:Nat) (h:2 * j + 1<l.length):(pairs l).take (j + 1)=(pairs l).take j++[hn (rdOf ByteArray.empty l ((2 * j:Nat):Int)) (rdOf ByteArray.empty l ((2 * j + 1:Nat):Int))]:=by
 rw [List.take_add_one,zlp l j h]
 rfl
theorem znw:∀ l:List ByteArray,∀ t,t∈pairs l→t.size=32
 | [],t,h=>by cases h
 | [_],t,h=>by cases h
 | a::b::l,t,h=>by
  rcases List.mem_cons.1 h with rfl|h
  ·
   exact kec_len _
  ·
   exact znw l t h
def rise:Nat→List ByteArray→Option (List (List ByteArray))
 | 0,_=>none
 | k + 1,l=>if l.length≤1 then some [] else if l.length % 2=0 then(rise k (pairs l)).map (pairs l::·) else none
def levels_ (l:List ByteArray):Option (List (List ByteArray)):=if l.length≤4096∧l.all (fun t=>decide (t.size≤1000))=true then(rise 20 (l.map hl)).map (l.map hl::·) else none
theorem size_of_all {l:List ByteArray} (h:l.all (fun t=>decide (t.size≤1000))=true):∀ t∈l,t.size≤1000:=fun t ht=>of_decide_eq_true (List.all_eq_true.1 h t ht)
theorem map_take {l:List ByteArray} (j:Nat) (h:j<l.length):(l.take (j + 1)).map hl=(l.take j).map hl++[hl (rdOf ByteArray.empty l (j:Int))]:=by
 rw [List.take_succ_eq_append_getElem h,List.map_append]
 have:rdOf ByteArray.empty l (j:Int)=l[j]:=by show l.getD (j:Int).toNat ByteArray.empty=l[j];rw [Int.toNat_natCast];simp [List.getD,h]
 rw [this]
 rfl
theorem rd_mem {l:List ByteArray} {i:Nat} (h:i<l.length):rdOf ByteArray.empty l (i:Int)∈l:=by
 have:rdOf ByteArray.empty l (i:Int)=l[i]:=by show l.getD (i:Int).toNat ByteArray.empty=l[i];rw [Int.toNat_natCast];simp [List.getD,h]
 rw [this]
 exact List.getElem_mem h
end Go.Proofs.Ytgookagndlfehaa.PT
end
section
/- copy of a whole row, of elements of any kind, onto a row of the call's own: own words beside the print's (Ytgookagndlfehaa: the seat's name). -/
namespace Go.Proofs.YtgookagndlfehaaW.PrintLast
open Go.RowKit Go.Proofs.YtgookagndlfehaaW.PrintWords
section
variable {P:Program}
theorem zk7 (w:World) (dT sT ty elem:TypeId) (b o dLen dCap:Nat) (a:Addr) (sLen sCap size:Nat) (cs:List Value)
  (hu:P.underlying dT=some (.slice elem)) (hs:(P.info? elem).map (·.size)=some size) (hn:cs.length=Nat.min sLen dLen * size)
  (hsrc:∀ j v,cs[j]?=some v→w.cell? (a.add j)=some v) (hc:∀ j,j<cs.length→(w.cell? ⟨b,o + j,none⟩).isSome=true) (hf:∀ j,j<cs.length→w.frozen? ⟨b,o + j,none⟩=false) (h1:∀ v∈cs,v.oneCell'=true) :
  (Builtin.copy_ #[dT,sT] ty #[.slice (some ⟨b,o,none⟩) dLen dCap,.slice (some a) sLen sCap]).run P w=.ok (goInt (Nat.min sLen dLen:Nat)) (w.setCells b o cs):=by
 have hl:=run_loadCells_list (P:=P) w a cs hsrc
 have hst:=run_storeCells_cells (P:=P) b o cs 0 w (by simpa using hc) (by simpa using hf) h1
 cases hq:P.info? elem with
 | none=>simp [hq] at hs
 | some i=>
  have hi:i.size=size:=by simpa [hq] using hs
  rw [hn] at hl
  simp [Builtin.copy_,run_underlying hu,Builtin.lenOf,Builtin.firstCells,sizeOf,typeInfo,hq,hi,hl,hst]
theorem zkj (w:World) (dT sT ty elem:TypeId) (d a:Option Addr) (dLen dCap sLen sCap size:Nat) (hu:P.underlying dT=some (.slice elem)) (hs:(P.info? elem).map (·.size)=some size) (hn:Nat.min sLen dLen=0) :
  (Builtin.copy_ #[dT,sT] ty #[.slice d dLen dCap,.slice a sLen sCap]).run P w=.ok (goInt 0) w:=by
 cases hq:P.info? elem with
 | none=>simp [hq] at hs
 | some i=>
  have hl:∀ (x:Addr),(loadCells x 0).run P w=.ok #[] w:=fun x=>by simpa using run_loadCells_list (P:=P) w x [] (by simp)
  cases d <;> cases a <;> simp [Builtin.copy_,run_underlying hu,Builtin.lenOf,Builtin.firstCells,sizeOf,typeInfo,hq,hn,storeCells,hl]
end
namespace Kd
section
variable {P:Program} {ops:Array Oper} {rest:List Oper} {o:Oper} {a:Act} {Q:Exit→Act→World→Prop} {α:Type}
open Go.Proofs.YtgookagndlfehaaW.PrintWords.Kd
theorem R_copy_rows (d:Kd α) {w0 W:World} (base:Nat) (hgd:o.guard=none) (s x:Operand) (t t' e:TypeId)
  (ho:o.op=.call { callee:=.builtin .copy,args:=#[s,x],argTypes:=#[t,t'] }) (ht:P.underlying t=some (.slice e)) (hinfo:(P.info? e).map (·.size)=some d.sz) (hs0:0<d.sz)
  (v:Value) (xs ys:List α) (A:Option Addr) (m c:Nat) (ok okp:Nat→Prop) (hs:a.eval s=v) (hx:a.eval x=.slice A m c)
  (HO:d.R e W base ok v xs) (HR:d.C W A m ys) (hKM:∀ x cs,d.K W x cs→d.M W base okp x cs) (hokp:∀ k,okp k→ok k∧some k≠v.ownBlock) (hmn:m≤xs.length) (HB:Below base w0 W) (hbase:base≤W.heap.size)
  (h:∀ w1,d.R e w1 base ok v (ys++xs.drop m)→Below base w0 w1→W.grownBy w1 v.ownBlock→wpList P ops Q rest (a.put o.dst (goInt (m:Int))) w1) :
  wpList P ops Q (o::rest) a W:=by
 have hm:ys.length=m:=HR.1
 obtain⟨h0ok,inner,hown,hr⟩:=HO
 have fin:∀ w1,(Builtin.copy_ #[t,t'] o.type #[v,.slice A m c]).run P W=.ok (goInt (m:Int)) w1→d.R e w1 base ok v (ys++xs.drop m)→W.grownBy w1 v.ownBlock→wpList P ops Q (o::rest) a W:=by
  intro w1 hr hrow hg
  refine wpList_plain hgd fun K hK=>?_
  unfold Oper.wp execOp
  simp only [ho,resolve,invoke,builtin,Sem.run_bind,Sem.run_pure,Result.andThen_ok,List.map_toArray,List.map_cons,List.map_nil,hs,hx,hr]
  exact hK _ _ (h w1 hrow (HB.grown hg hbase (own_base hown)) hg)
 rcases Nat.eq_zero_or_pos m with hz|hp
 ·
  subst hz
  obtain rfl:ys=[]:=List.eq_nil_of_length_eq_zero hm
  obtain⟨A',c',hv⟩:=zo0 hown
  refine fin W ?_ (by rw [List.nil_append,List.drop_zero];exact⟨h0ok,inner,hown,hr⟩) (World.grownBy.refl W _)
  rw [hv]
  exact zkj W t t' o.type e A' A xs.length c' 0 c d.sz ht hinfo (Nat.zero_min _)
 ·
  obtain⟨ad,hA,_⟩:=HR.2.2 (by omega)
  subst hA
  obtain⟨news,hnr,hnc⟩:=zd1.zpo HR
  have hnl:news.length=m * d.sz:=by rw [hnr.1,hm]
  have hone:∀ u∈news,u.oneCell'=true:=by
   intro u hu
   obtain⟨q,hq,rfl⟩:=List.mem_iff_getElem.1 hu
   have hql:q / d.sz<ys.length:=by
    rw [Nat.div_lt_iff_lt_mul hs0]
    rw [←hnr.1]
    exact hq
   have hc:=hnr.2 (q / d.sz) _ (List.getElem?_eq_getElem hql)
   refine d.K_one hc _ ?_
   rw [List.mem_iff_getElem?]
   refine⟨q % d.sz,?_⟩
   rw [List.getElem?_take,if_pos (Nat.mod_lt _ hs0),List.getElem?_drop,Nat.mul_comm,Nat.div_add_mod,List.getElem?_eq_getElem hq]
  rcases hown.2 with ⟨_,hx0⟩|⟨g,cap,cur,hv,hb,hh,hnc2,hcm,hcs,htake⟩
  ·
   omega
  have hmz:m * d.sz≤xs.length * d.sz:=Nat.mul_le_mul_right _ hmn
  have hxz:xs.length * d.sz≤cap * d.sz:=Nat.mul_le_mul_right _ (by omega)
  have hfit:m * d.sz≤cur.size:=by omega
  have hmin:Nat.min m xs.length=m:=Nat.min_eq_left hmn
  have hr1:=zk7 (P:=P) W t t' o.type e g 0 xs.length cap ad m c d.sz news ht hinfo (by rw [hmin,hnl]) hnc
   (fun j hj=>by rw [cell_of_row W g _ cur e (0,0) hh];simp;omega) (fun j _=>zab hh _) hone
  obtain⟨cur',h3,h4,h5⟩:=zgg news 0 W cur hh (by omega)
  obtain⟨s1,s2,s3,s4⟩:=zf6 g news 0 W
  have hg:W.grownBy (W.setCells g 0 news) v.ownBlock:=⟨s1,s2,s3,(by rw [s4];exact Nat.le_refl _),fun k _ hk=>zgk _ _ k (fun he=>hk (by rw [hv,he];simp [Value.ownBlock]))⟩
  have step:∀ {q:α} {c:List Value} {o:Nat→Prop},d.M W base o q c→(∀ k,o k→ok k∧some k≠v.ownBlock)→d.M (W.setCells g 0 news) base (fun k=>ok k∧some k≠v.ownBlock) q c:=by
   intro q c o hq ho
   have h1:=d.M_move (w1:=W.setCells g 0 news) (fun k hk=>hg.block k hk.2.2.1 (ho k hk.1).2) (d.M_bound hq)
   exact d.M_mono (fun k hk=>ho k hk.1) h1
  have hln:(ys++xs.drop m).length=xs.length:=by rw [List.length_append,List.length_drop];omega
  refine fin _ (by rw [hv,hr1,hmin]) ⟨h0ok,news++inner.drop (m * d.sz),?_,?_⟩ hg
  ·
   rw [hln]
   refine⟨by rw [List.length_append,List.length_drop,hnl,hown.1];omega,.inr ⟨g,cap,cur',hv,hb,h3,hnc2,hcm,(by rw [h4,hcs]),?_⟩⟩
   rw [h5,List.take_zero,List.nil_append,hnl,Nat.zero_add,List.take_append,hnl,List.take_of_length_le (by omega),←htake,List.drop_take]
  ·
   exact zg5 (hnr.imp_ (fun p c hp=>step (hKM p c hp) hokp)) ((zoq hr).imp_ (fun p c hp=>step hp (fun _ hk=>hk)))
end
end Kd
end Go.Proofs.YtgookagndlfehaaW.PrintLast
end
section
/- A table's word, its leaves and the tree above them: both sides come to the same root. -/
namespace Go.Proofs.Ytgookagndlfehaa.PT
open Go.RowKit Go.Proofs.YtgookagndlfehaaW.PrintWords Go.Proofs.YtgookagndlfehaaW.PrintLast Go.Proofs.YtgookagndlfehaaW.PrintMore
set_option linter.unusedVariables false
set_option linter.unusedSimpArgs false
theorem zid (n:Int) (m:Int) (p:Nat) (hp:min (IntKind.u64.wrap m).toNat 64=p):shr .i64 n (IntKind.u64.wrap m)=n / 2 ^ p:=by
 show n / 2 ^ (min (IntKind.u64.wrap m).toNat 64)=n / 2 ^ p
 rw [hp]
theorem zko (n:Int) (k:Nat):zau.f (k + 5) n 4=some (four_ n):=by
 have e1:=zid n 24 24 (by decide +kernel)
 have e2:=zid n 16 16 (by decide +kernel)
 have e3:=zid n 8 8 (by decide +kernel)
 have e4:=zid n 0 0 (by decide +kernel)
 unfold zau.f
 rw [show wrap64 ((4:Int) - 1)=3 by decide +kernel]
 rw [zau.l0,if_pos (by decide +kernel),show wrap64 (8 * (3:Int))=24 by decide +kernel,if_pos (by decide +kernel),if_pos (by decide +kernel),e1,show wrap64 ((3:Int) - 1)=2 by decide +kernel]
 rw [zau.l0,if_pos (by decide +kernel),show wrap64 (8 * (2:Int))=16 by decide +kernel,if_pos (by decide +kernel),if_pos (by simp),e2,show wrap64 ((2:Int) - 1)=1 by decide +kernel]
 rw [zau.l0,if_pos (by decide +kernel),show wrap64 (8 * (1:Int))=8 by decide +kernel,if_pos (by decide +kernel),if_pos (by simp),e3,show wrap64 ((1:Int) - 1)=0 by decide +kernel]
 rw [zau.l0,if_pos (by decide +kernel),show wrap64 (8 * (0:Int))=0 by decide +kernel,if_pos (by decide +kernel),if_pos (by simp),e4,show wrap64 ((0:Int) - 1) = -1 by decide +kernel]
 rw [zau.l0,if_neg (by decide +kernel)]
 unfold four_
 simp
def bytes_:List Int→List E→List Int
 | a,[]=>a
 | a,x::l=>bytes_ ((a++four_ x.f0)++four_ x.f1) l
theorem zh7:∀ (l:List E) (a:List Int),(bytes_ a l).length=a.length + 8 * l.length
 | [],a=>by rw [bytes_];rfl
 | x::l,a=>by rw [bytes_,zh7 l,List.length_append,List.length_append,zcu,zcu,List.length_cons];omega
theorem zmc (l:List E) (hl:l.length≤100000) (d:Nat):∀ (i:Nat) (a:List Int) (k:Nat),i + d=l.length→a.length≤1000000000→a.length + 8 * d≤1000000000→d<k→za7.l0 k a l (l.length:Int) (i:Int)=some (bytes_ a (l.drop i)):=by
 induction d with
 | zero=>
  intro i a k hi ha hb hk
  obtain⟨k,rfl⟩:∃ m,k=m + 1:=⟨k - 1,(by omega)⟩
  rw [za7.l0,if_neg (by omega),List.drop_eq_nil_of_le (by omega),bytes_]
 | succ d ih=>
  intro i a k hi ha hb hk
  obtain⟨k,rfl⟩:∃ m,k=m + 1:=⟨k - 1,(by omega)⟩
  have hlt:i<l.length:=by omega
  rw [za7.l0,if_pos (by omega),if_pos (by omega),if_pos (by omega),zpt hlt,zme (by omega)]
  simp only [bS]
  rw [zme (by rw [List.length_append,zcu];omega)]
  simp only [bS]
  rw [w64 (by omega) (by omega),show (i:Int) + 1=((i + 1:Nat):Int) by omega,ih (i + 1) _ k (by omega) (by rw [List.length_append,List.length_append,zcu,zcu];omega) (by rw [List.length_append,List.length_append,zcu,zcu];omega) (by omega),List.drop_eq_getElem_cons hlt,bytes_]
theorem zlx {l:List E} (hl:l.length≤100000) {k:Nat} (hk:l.length<k):za7.f k l=some (bytes_ [] l):=by
 unfold za7.f
 have e:=zmc l hl l.length 0 [] k (by omega) (by simp) (by simp;omega) hk
 rw [Int.natCast_zero,List.drop_zero] at e
 exact e
theorem zk3 (l:List E) (hl:l.length≤100000) (d:Nat):∀ (i:Nat) (a:List Int) (k:Nat),i + d=l.length→a.length + 8 * d≤1000000000→d + 5<k→za3.l0 k l a (i:Int)=some (bytes_ a (l.drop i)):=by
 induction d with
 | zero=>
  intro i a k hi hb hk
  obtain⟨k,rfl⟩:∃ m,k=m + 1:=⟨k - 1,(by omega)⟩
  rw [za3.l0,if_neg (by omega),List.drop_eq_nil_of_le (by omega),bytes_]
 | succ d ih=>
  intro i a k hi hb hk
  obtain⟨k,rfl⟩:∃ m,k=m + 5 + 1:=⟨k - 6,(by omega)⟩
  have hlt:i<l.length:=by omega
  rw [za3.l0,if_pos (by omega),if_pos (by omega),zpt hlt,zko]
  simp only [bS]
  rw [if_pos (by rw [zcu];omega),zko]
  simp only [bS]
  rw [if_pos (by rw [List.length_append,zcu,zcu];omega),w64 (by omega) (by omega),show (i:Int) + 1=((i + 1:Nat):Int) by omega,ih (i + 1) _ (k + 5) (by omega) (by rw [List.length_append,List.length_append,zcu,zcu];omega) (by omega),List.drop_eq_getElem_cons hlt,bytes_]
theorem zlh {l:List E} (hl:l.length≤100000) {k:Nat} (hk:l.length + 5<k):za3.f k l=some (bytes_ [] l):=by
 unfold za3.f
 have e:=zk3 l hl l.length 0 [] k (by omega) (by simp;omega) hk
 rw [Int.natCast_zero,List.drop_zero] at e
 exact e
end Go.Proofs.Ytgookagndlfehaa.PT
end
section
/- The line through points: both sides come to the same sum. -/
namespace Go.Proofs.Ytgookagndlfehaa.PT
open Go.RowKit Go.Proofs.YtgookagndlfehaaW.PrintWords Go.Proofs.YtgookagndlfehaaW.PrintLast Go.Proofs.YtgookagndlfehaaW.PrintMore
set_option linter.unusedVariables false
set_option linter.unusedSimpArgs false
def lineN (z:E) (i:Nat):Nat→Nat→E→Int→E × Int
 | 0,_,x,n=>(x,n)
 | d + 1,j,x,n=>if j=i then lineN z i d (j + 1) x n else lineN z i d (j + 1) (emul x (esub z (eof j))) (fmul n (fsub i j))
theorem zma (y:List E) (hy:okL y) (hn:y.length≤8) (z:E) (hz:okE z) (i:Nat) (hi:i<y.length) (acc:E) (hacc:okE acc) (d:Nat) :
  ∀ (k j:Nat) (x:E) (n:Int),j + d=y.length→d + 50<k→okE x→inF n→
  zas.l1 k y i n j z.f0 z.f1 acc.f0 acc.f1 x.f0 x.f1 =
   zas.l0 (k - d - 1) y ((i + 1:Nat):Int) z.f0 z.f1 (eadd acc (emul (lineN z i d j x n).1 (eof (finv (lineN z i d j x n).2)))).f0 (eadd acc (emul (lineN z i d j x n).1 (eof (finv (lineN z i d j x n).2)))).f1:=by
 induction d with
 | zero=>
  intro k j x n hj hk hx hn'
  obtain⟨k,rfl⟩:∃ m,k=m + 1:=⟨k - 1,(by omega)⟩
  simp only [zas.l1,lineN]
  rw [if_neg (by omega),zkl hn' (by omega)]
  simp only [bS]
  rw [zhp]
  simp only [bS]
  rw [zgx hx (ok_of (zn8 _))]
  simp only [bS]
  rw [zgs hacc (zmy _ _)]
  simp only [bS]
  rw [w64 (by omega) (by omega),show (i:Int) + 1=((i + 1:Nat):Int) by omega]
  rfl
 | succ d ih=>
  intro k j x n hj hk hx hn'
  obtain⟨k,rfl⟩:∃ m,k=m + 1:=⟨k - 1,(by omega)⟩
  simp only [zas.l1,lineN]
  have hij:inF (i:Int):=by unfold inF;omega
  have hjj:inF (j:Int):=by unfold inF;omega
  have e:k + 1 - (d + 1) - 1=k - d - 1:=by omega
  rw [if_pos (by omega),w64 (n:=(j:Int) + 1) (by omega) (by omega),show (j:Int) + 1=((j + 1:Nat):Int) by omega,e]
  by_cases h:j=i
  ·
   rw [if_pos (by omega),if_pos h]
   exact ih k (j + 1) x n (by omega) (by omega) hx hn'
  ·
   rw [if_neg (by omega),if_neg h,zhp]
   simp only [bS]
   rw [zjj hz (ok_of hjj)]
   simp only [bS]
   rw [zgx hx (ok_sub _ _)]
   simp only [bS]
   rw [zfv hij hjj]
   simp only [bS]
   rw [zdv hn' (zki _ _)]
   simp only [bS]
   exact ih k (j + 1) _ _ (by omega) (by omega) (zmy _ _) (ze2 _ _)
theorem zmm (y:List E) (hy:okL y) (hn:y.length≤8) (z:E) (hz:okE z) (i:Nat) (hi:i<y.length) (acc:E) (hacc:okE acc) (d:Nat) :
  ∀ (k j:Nat) (x:E) (n:Int),j + d=y.length→d + 50<k→okE x→inF n→
  zav.l1 k y i y (y.length:Int) i (y.length:Int) j z.f0 z.f1 acc.f0 acc.f1 (zgv x (finv n)).f0 (zgv x (finv n)).f1 =
   zav.l0 (k - d - 1) y y (y.length:Int) ((i + 1:Nat):Int) z.f0 z.f1 (eadd acc (emul (lineN z i d j x n).1 (eof (finv (lineN z i d j x n).2)))).f0 (eadd acc (emul (lineN z i d j x n).1 (eof (finv (lineN z i d j x n).2)))).f1:=by
 induction d with
 | zero=>
  intro k j x n hj hk hx hn'
  obtain⟨k,rfl⟩:∃ m,k=m + 1:=⟨k - 1,(by omega)⟩
  simp only [zav.l1,lineN]
  rw [if_neg (by omega),zh4 hacc (zm1 _ _)]
  simp only [bS]
  rw [w64 (by omega) (by omega),show (i:Int) + 1=((i + 1:Nat):Int) by omega,emul_of]
  rfl
 | succ d ih=>
  intro k j x n hj hk hx hn'
  obtain⟨k,rfl⟩:∃ m,k=m + 1:=⟨k - 1,(by omega)⟩
  simp only [zav.l1,lineN]
  have hij:inF (i:Int):=by unfold inF;omega
  have hjj:inF (j:Int):=by unfold inF;omega
  have e:k + 1 - (d + 1) - 1=k - d - 1:=by omega
  rw [if_pos (by omega),w64 (n:=(j:Int) + 1) (by omega) (by omega),show (j:Int) + 1=((j + 1:Nat):Int) by omega,e]
  by_cases h:j=i
  ·
   rw [if_pos (by omega),if_pos h]
   exact ih k (j + 1) x n (by omega) (by omega) hx hn'
  ·
   have hm:=zj6 hz (ok_of hjj)
   have hm':zb5.f z.f0 z.f1 (j:Int) 0=some ((esub z (eof j)).f0,(esub z (eof j)).f1):=hm
   rw [if_neg (by omega),if_neg h,hm']
   simp only [bS]
   rw [zkn (zm1 _ _) (ok_sub _ _)]
   simp only [bS]
   rw [zg9 hij hjj]
   simp only [bS]
   rw [ziu (zki _ _) (by omega)]
   simp only [bS]
   rw [zjh (zmy _ _) (zn8 _)]
   simp only [bS]
   rw [zo1,←finv_mul]
   exact ih k (j + 1) _ _ (by omega) (by omega) (zmy _ _) (ze2 _ _)
theorem line_l0 (y:List E) (hy:okL y) (hn:y.length≤8) (z:E) (hz:okE z) (d:Nat):∀ (k i:Nat) (acc:E),i + d=y.length→d * 10 + 100<k→okE acc→
  ∃ q,zas.l0 k y i z.f0 z.f1 acc.f0 acc.f1=some q∧zav.l0 k y y (y.length:Int) i z.f0 z.f1 acc.f0 acc.f1=some q:=by
 induction d with
 | zero=>
  intro k i acc hi hk hacc
  obtain⟨k,rfl⟩:∃ m,k=m + 1:=⟨k - 1,(by omega)⟩
  simp only [zas.l0,zav.l0]
  rw [if_neg (by omega),if_neg (by omega)];exact⟨_,rfl,rfl⟩
 | succ d ih=>
  intro k i acc hi hk hacc
  obtain⟨k,rfl⟩:∃ m,k=m + 1:=⟨k - 1,(by omega)⟩
  have h1:okE (zan y i):=zjq hy (by omega) (by omega)
  simp only [zas.l0,zav.l0]
  rw [if_pos (by omega),if_pos (by omega),if_pos (by omega),if_pos (by omega),if_pos (by omega)]
  have e1:=zma y hy hn z hz i (by omega) acc hacc y.length k 0 (zan y i) 1 (by omega) (by omega) h1 inF_1
  have e2:=zmm y hy hn z hz i (by omega) acc hacc y.length k 0 (zan y i) 1 (by omega) (by omega) h1 inF_1
  rw [finv_one,zom h1] at e2
  rw [Int.natCast_zero] at e1 e2
  rw [e1,e2]
  exact ih (k - y.length - 1) (i + 1) _ (by omega) (by omega) (ok_add _ _)
theorem zpb {y:List E} (hy:okL y) (hn:y.length≤8) {z:E} (hz:okE z) {k:Nat} (hk:200<k) :
  ∃ q,zas.f k y z.f0 z.f1=some q∧zav.f k y z.f0 z.f1=some q:=
 line_l0 y hy hn z hz y.length k 0 zE (by omega) (by omega) ok_zero
end Go.Proofs.Ytgookagndlfehaa.PT
end
section
/- Both sides' rounds of a sum-check, one by one: the same draws, the same answer. -/
namespace Go.Proofs.Ytgookagndlfehaa.PT
open Go.RowKit Go.Proofs.YtgookagndlfehaaW.PrintWords Go.Proofs.YtgookagndlfehaaW.PrintLast Go.Proofs.YtgookagndlfehaaW.PrintMore
set_option linter.unusedVariables false
set_option linter.unusedSimpArgs false
def num_:Nat→List Nat→Nat
 | a,[]=>a
 | a,x::l=>num_ (a * 256 + x) l
theorem or_byte {a b:Nat} (hb:b<256):a * 256 ||| b=a * 256 + b:=by
 have h:=Nat.shiftLeft_add_eq_or_of_lt (a:=a) (b:=b) (i:=8) (by omega)
 rw [Nat.shiftLeft_eq] at h
 exact h.symm
theorem u64nat {n:Nat} (h:n<18446744073709551616):IntKind.u64.wrap ((n:Nat):Int)=(n:Int):=by
 rw [IntKind.wrap_u64]
 omega
def natL (l:List Nat):List Int:=l.map fun(x:Nat)=>(x:Int)
theorem zg4 (l:List Nat):(natL l).length=l.length:=by simp [natL]
theorem natL_rd {l:List Nat} {i:Nat} (h:i<l.length):rd (natL l) (i:Int)=((l.getD i 0:Nat):Int):=by
 show (natL l).getD (i:Int).toNat 0=_
 rw [Int.toNat_natCast,getD_at (by rw [zg4];exact h),getD_at h]
 simp [natL]
theorem znv (l:List Nat) (hl:∀ x∈l,x<256) (hn:l.length=8) (d:Nat):∀ (i a k:Nat),i + d=8→d<k→a<256 ^ i→
  zcc.l0 k (a:Int) (natL l) 8 (i:Int)=some (((num_ a (l.drop i)) % 2130706433:Nat):Int):=by
 induction d with
 | zero=>
  intro i a k hi hk ha
  obtain⟨k,rfl⟩:∃ m,k=m + 1:=⟨k - 1,(by omega)⟩
  obtain rfl:i=8:=by omega
  rw [zcc.l0,if_neg (by omega),List.drop_of_length_le (by omega),zfd (by omega)]
  show some (wrap64 ((a:Int) % 2130706433))=some (((a % 2130706433:Nat)):Int)
  rw [w64 (by omega) (by omega)]
  congr 1
 | succ d ih=>
  intro i a k hi hk ha
  obtain⟨k,rfl⟩:∃ m,k=m + 1:=⟨k - 1,(by omega)⟩
  have hil:i<l.length:=by omega
  have hp:256 ^ i≤256 ^ 7:=Nat.pow_le_pow_right (by omega) (by omega)
  have hx:l.getD i 0<256:=by rw [getD_at hil];exact hl _ (List.getElem_mem _)
  have ha2:a * 256<18446744073709551616:=by
   have:a<256 ^ 7:=Nat.lt_of_lt_of_le ha hp
   have e:(256:Nat) ^ 7=72057594037927936:=by decide
   omega
  rw [zcc.l0,if_pos (by omega),if_pos (by omega),if_pos (by rw [zg4];omega),natL_rd hil]
  rw [show ((a:Int) * 256)=((a * 256:Nat):Int) by omega,u64nat ha2,u64nat (by omega),bits_or_u64_nat _ _ ha2 (by omega),or_byte hx,w64 (by omega) (by omega),show (i:Int) + 1=((i + 1:Nat):Int) by omega]
  have h:=ih (i + 1) (a * 256 + l.getD i 0) k (by omega) (by omega) (by rw [Nat.pow_succ];clear hp ha2;generalize 256 ^ i=p at ha ⊢;omega)
  rw [h,show l.drop i=l.getD i 0::l.drop (i + 1) by rw [getD_at hil,List.getElem_cons_drop]]
  rfl
theorem zm3 {l:List Nat} (hl:∀ x∈l,x<256) (hn:l.length=8):mod8 (natL l)=((num_ 0 l % 2130706433:Nat):Int):=by
 unfold mod8 zcc.f
 rw [zg4,hn]
 have h:=znv l hl hn 8 0 0 20 (by omega) (by omega) (by decide)
 rw [show (((8:Nat)):Int)=8 from rfl]
 rw [show ((0:Nat):Int)=0 from rfl] at h
 rw [h]
 rfl
theorem zph:∀ (l:List Nat) (a b:Nat),a % 2130706433=b % 2130706433→num_ a l % 2130706433=num_ b l % 2130706433
 | [],a,b,h=>h
 | x::l,a,b,h=>zph l _ _ (by omega)
theorem zo4 (t:ByteArray) (ht:t.size=8) (d:Nat):∀ (i a k:Nat),i + d=8→d<k→a<2130706433→
  zbg.l0 k t (a:Int) (i:Int)=some (((num_ a ((t.data.toList.map UInt8.toNat).drop i)) % 2130706433:Nat):Int):=by
 have hlen:(t.data.toList.map UInt8.toNat).length=8:=by rw [List.length_map,Array.length_toList];exact ht
 induction d with
 | zero=>
  intro i a k hi hk ha
  obtain⟨k,rfl⟩:∃ m,k=m + 1:=⟨k - 1,(by omega)⟩
  obtain rfl:i=8:=by omega
  rw [zbg.l0,if_neg (by omega),List.drop_of_length_le (by omega)]
  show some (a:Int)=some (((a % 2130706433:Nat)):Int)
  rw [Nat.mod_eq_of_lt ha]
 | succ d ih=>
  intro i a k hi hk ha
  obtain⟨k,rfl⟩:∃ m,k=m + 1:=⟨k - 1,(by omega)⟩
  have hil:i<(t.data.toList.map UInt8.toNat).length:=by omega
  have hb:bt t (i:Int)=(((t.data.toList.map UInt8.toNat).getD i 0:Nat):Int):=by
   unfold bt
   rw [dif_pos (show (i:Int).toNat<t.size by omega),getD_at hil]
   simp [ByteArray.getElem_eq_getElem_data]
  have hx:(t.data.toList.map UInt8.toNat).getD i 0<256:=by
   rw [getD_at hil,List.getElem_map]
   exact UInt8.toNat_lt _
  rw [zbg.l0,if_pos (by omega),if_pos (by omega),if_pos (by omega),hb]
  generalize hv:(t.data.toList.map UInt8.toNat).getD i 0=v at hx
  rw [w64 (n:=(v:Int)) (by omega) (by omega),w64 (n:=(a:Int) * 256) (by omega) (by omega),w64 (by omega) (by omega),w64 (by omega) (by omega),zfd (by omega),show (i:Int) + 1=((i + 1:Nat):Int) by omega,show ((a:Int) * 256 + (v:Int)) % 2130706433=(((a * 256 + v) % 2130706433:Nat):Int) by omega]
  rw [ih (i + 1) _ k (by omega) (by omega) (Nat.mod_lt _ (by omega)),show (t.data.toList.map UInt8.toNat).drop i=v::(t.data.toList.map UInt8.toNat).drop (i + 1) by rw [←hv,getD_at hil,List.getElem_cons_drop]]
  congr 2
  exact zph _ _ _ (by omega)
theorem znc {t:ByteArray} (ht:t.size=8) {k:Nat} (hk:8<k):zbg.f k t=some (mod8 (nums_ t)):=by
 have hlen:(t.data.toList.map UInt8.toNat).length=8:=by rw [List.length_map,Array.length_toList];exact ht
 have e:nums_ t=natL (t.data.toList.map UInt8.toNat):=by
  unfold nums_ natL
  rw [List.map_map]
  rfl
 unfold zbg.f
 rw [e,zm3 (fun x hx=>by obtain⟨u,_,rfl⟩:=List.mem_map.1 hx;exact UInt8.toNat_lt _) hlen]
 exact zo4 t ht 8 0 0 k (by omega) (by omega) (by omega)
theorem zho (a b:ByteArray):nums_ (a++b)=nums_ a++nums_ b:=by
 unfold nums_
 rw [ByteArray.data_append,Array.toList_append,List.map_append]
theorem zni (t:ByteArray) (a b:Nat):nums_ (t.extract a b)=((nums_ t).drop a).take (b - a):=by
 unfold nums_
 rw [ByteArray.data_extract,Array.toList_extract,List.map_take,List.map_drop]
theorem zhl (n:Int):Byt (four_ n):=by
 intro x hx
 simp only [four_,List.mem_cons,List.not_mem_nil,or_false] at hx
 omega
theorem zmt {xs ys:List Int} (h:Byt xs) (k:Byt ys):Byt (xs++ys):=fun x hx=>(List.mem_append.1 hx).elim (h x) (k x)
theorem zlq:∀ (l:List E) (a:List Int),Byt a→Byt (bytes_ a l)
 | [],a,h=>h
 | x::l,a,h=>zlq l _ (zmt (zmt h (zhl _)) (zhl _))
theorem zml {s0:List E} {s1 s3:Int} {s2:ByteArray} {r:List E} (hs:s2.size=32) (hr:r.length≤8) :
  ∃ H:ByteArray,H.size=32∧∀ k,20<k→zck.f k s0 s1 s2 s3 r=some (s1,H,0)∧zer.f k s0 s1 s2 s3 r=some (s0,s1,H,0):=by
 have hlen:(bytes_ [] r).length=8 * r.length:=by rw [zh7];simp
 have hbt:Byt (bytes_ [] r):=zlq r [] (fun _ h=>by cases h)
 refine⟨kec (nums_ s2++([97,98,115,111,114,98]++(four_ ((bytes_ [] r).length:Int)++bytes_ [] r))),zkp _,fun k hk=>⟨?_,?_⟩⟩
 ·
  unfold zck.f zca.f
  rw [zlx (by omega) (by omega)]
  simp only [bS]
  rw [if_pos (by omega),if_pos (by omega)]
  simp only [bS,List.flatten_cons,List.flatten_nil,List.append_nil]
 ·
  obtain⟨k,rfl⟩:∃ m,k=m + 5:=⟨k - 5,(by omega)⟩
  unfold zer.f
  rw [zlh (by omega) (by omega)]
  simp only [bS]
  unfold zb7.f
  have hsz:(strOfNums (bytes_ [] r)).size=(bytes_ [] r).length:=strOfNums_size _
  have h6:(⟨#[97,98,115,111,114,98]⟩:ByteArray).size=6:=rfl
  have h4:(strOfNums (four_ ((bytes_ [] r).length:Int))).size=4:=by rw [strOfNums_size,zcu]
  rw [if_pos (by omega),zko,hsz]
  simp only [bS]
  rw [if_pos (by rw [ByteArray.size_append,h6,h4];omega),if_pos (by rw [ByteArray.size_append,ByteArray.size_append,h6,h4];omega)]
  unfold zcm.f
  rw [if_pos (by rw [ByteArray.size_append,ByteArray.size_append,ByteArray.size_append,h6,h4,hsz];omega)]
  simp only [bS]
  rw [zho,zho,zho,zib (zhl _),zib hbt,List.append_assoc,List.append_assoc]
  rfl
theorem zpl {s0:List E} {s1 s3:Int} {s2:ByteArray} (hs:s2.size=32) (ho:okL s0) (hl:s0.length≤64) (h0:0≤s1) (h1:s1≤2000000) :
  ∃ (e:E) (t1 t3:Int),okE e∧(t1=s1∨t1=s1 + 1)∧∀ k,20<k→zcz.f s0 s1 s2 s3=some (e.f0,e.f1,t1,s2,t3)∧za2.f k s0 s1 s2 s3=some (s0,t1,s2,t3,e.f0,e.f1):=by
 by_cases hp:0<s0.length
 ·
  have hm0:0≤Int.tmod s1 (s0.length:Int):=by rw [zfd h0];exact Int.emod_nonneg _ (by omega)
  have hm1:Int.tmod s1 (s0.length:Int)<(s0.length:Int):=by rw [zfd h0];exact Int.emod_lt_of_pos _ (by omega)
  have e:dpl s1 (s0.length:Int)=Int.tmod s1 (s0.length:Int):=by
   unfold dpl
   rw [w64 (n:=s1 + 1) (by omega) (by omega),w64 (by omega) (by omega),show s1 + 1 - 1=s1 by omega]
  refine⟨zan s0 (Int.tmod s1 (s0.length:Int)),s1 + 1,s3,zjq ho hm0 hm1,.inr rfl,fun k hk=>⟨?_,?_⟩⟩
  ·
   unfold zcz.f
   rw [if_pos hp,e,if_pos hm0,if_pos hm1,w64 (by omega) (by omega)]
  ·
   unfold za2.f
   rw [if_pos (by omega),if_neg (by omega),if_pos hm0,if_pos hm1,w64 (by omega) (by omega)]
 ·
  have hz:nums_ (⟨#[100,114,97,119]⟩:ByteArray)=[100,114,97,119]:=rfl
  obtain⟨T,hT⟩:∃ T,T=kec (nums_ s2++([100,114,97,119]++four_ s3)):=⟨_,rfl⟩
  have hTs:T.size=32:=by rw [hT];exact zkp _
  have m_ok:∀ t:ByteArray,t.size=8→inF (mod8 (nums_ t)):=by
   intro t ht
   have e:nums_ t=natL (t.data.toList.map UInt8.toNat):=by unfold nums_ natL;rw [List.map_map];rfl
   rw [e,zm3 (fun x hx=>by obtain⟨u,_,rfl⟩:=List.mem_map.1 hx;exact UInt8.toNat_lt _) (by rw [List.length_map,Array.length_toList];exact ht)]
   have:=Nat.mod_lt (num_ 0 (t.data.toList.map UInt8.toNat)) (show 2130706433>0 by omega)
   exact⟨(by omega),(by omega)⟩
  have hx1:(T.extract 0 8).size=8:=by rw [ByteArray.size_extract];omega
  have hx2:(T.extract 8 16).size=8:=by rw [ByteArray.size_extract];omega
  have c1:(nums_ T).take 8=nums_ (T.extract 0 8):=by rw [zni];rfl
  have c2:((nums_ T).take 16).drop 8=nums_ (T.extract 8 16):=by rw [zni,List.drop_take]
  refine⟨⟨mod8 (nums_ (T.extract 0 8)),mod8 (nums_ (T.extract 8 16))⟩,s1,wrap64 (s3 + 1),⟨m_ok _ hx1,m_ok _ hx2⟩,.inl rfl,fun k hk=>⟨?_,?_⟩⟩
  ·
   unfold zcz.f
   rw [if_neg hp,if_pos (by omega)]
   simp only [List.flatten_cons,List.flatten_nil,List.append_nil]
   rw [←hT,c1,c2]
  ·
   obtain⟨k,rfl⟩:∃ m,k=m + 5:=⟨k - 5,(by omega)⟩
   unfold za2.f
   have h4:(⟨#[100,114,97,119]⟩:ByteArray).size=4:=rfl
   have h5:(strOfNums (four_ s3)).size=4:=by rw [strOfNums_size,zcu]
   rw [if_neg (by omega),if_pos (by omega),zko]
   simp only [bS]
   rw [if_pos (by rw [ByteArray.size_append,h4,h5];omega)]
   unfold zcm.f
   rw [if_pos (by rw [ByteArray.size_append,ByteArray.size_append,h4,h5];omega)]
   simp only [bS]
   rw [zho,zho,zib (zhl _),hz,List.append_assoc,←hT,if_pos (by omega),if_pos (by omega),znc hx1 (by omega)]
   simp only [bS]
   rw [if_pos (by omega),if_pos (by omega),znc hx2 (by omega)]
   simp only [bS]
end Go.Proofs.Ytgookagndlfehaa.PT
end
section
/- Tables of tables: the laws' helpers over them, and the sum over all points. -/
namespace Go.Proofs.Ytgookagndlfehaa.PT
open Go.RowKit Go.Proofs.YtgookagndlfehaaW.PrintWords Go.Proofs.YtgookagndlfehaaW.PrintLast Go.Proofs.YtgookagndlfehaaW.PrintMore
set_option linter.unusedVariables false
set_option linter.unusedSimpArgs false
theorem zkg {L:List (List LE)} {i:Nat} (h:i<L.length):zf1 L (i:Int)=L[i]:=by
 show L.getD (i:Int).toNat []=L[i]
 rw [Int.toNat_natCast,getD_at h]
theorem zo6 {L:List (List E)} {i:Nat} (h:i<L.length):zd0 L (i:Int)=L[i]:=by
 show L.getD (i:Int).toNat []=L[i]
 rw [Int.toNat_natCast,getD_at h]
theorem szSS_l0 (L:List (List LE)) (hg:∀ x∈L,x.length≤9223372036854775807) (hL:L.length≤1048576) (d:Nat):∀ (k i:Nat) (a:Int),i + d=L.length→d<k→0≤a→a≤1048576→
  ∃ r,zbd.l0 k L a i=some r∧(r<0∨∀ x∈L.drop i,(x.length:Int)≤1048576):=by
 induction d with
 | zero=>
  intro k i a hi hk h0 h1
  obtain⟨k,rfl⟩:∃ m,k=m + 1:=⟨k - 1,(by omega)⟩
  simp only [zbd.l0]
  rw [if_neg (by omega)]
  exact⟨_,rfl,Or.inr (by rw [List.drop_eq_nil_of_le (by omega)];intro x hx;cases hx)⟩
 | succ d ih=>
  intro k i a hi hk h0 h1
  obtain⟨k,rfl⟩:∃ m,k=m + 1:=⟨k - 1,(by omega)⟩
  have hlt:i<L.length:=by omega
  simp only [zbd.l0]
  rw [if_pos (show (i:Int)<(L.length:Int) by omega),if_pos (show 0≤(i:Int) by omega),zkg hlt]
  by_cases h:a<((L[i]).length:Int)
  ·
   rw [zgo h0 h1 (hg _ (List.getElem_mem hlt)) h]
   simp only [bS]
   exact⟨_,if_pos (by omega),Or.inl (by omega)⟩
  ·
   rw [zgn h1 (by omega)]
   simp only [bS]
   rw [if_neg (by omega),w64 (by omega) (by omega),show (i:Int) + 1=((i + 1:Nat):Int) by omega]
   obtain⟨r,e,hr⟩:=ih k (i + 1) (a - (L[i]).length) (by omega) (by omega) (by omega) (by omega)
   refine⟨r,e,?_⟩
   rcases hr with hr|hr
   ·
    exact Or.inl hr
   ·
    refine Or.inr fun x hx=>?_
    rw [List.drop_eq_getElem_cons hlt] at hx
    rcases List.mem_cons.mp hx with rfl|hx
    ·
     omega
    ·
     exact hr x hx
theorem szSS_eq {L:List (List LE)} (hg:∀ x∈L,x.length≤9223372036854775807) (hg2:L.length≤9223372036854775807) :
  ∃ r,(∀ k,min L.length 1048576<k→zbd.f k L 1048576=some r)∧(r<0∨(L.length≤1048576∧∀ x∈L,x.length≤1048576)):=by
 by_cases h:L.length≤1048576
 ·
  obtain⟨r0,e0,hr0⟩:=szSS_l0 L hg h L.length (L.length + 1) 0 (1048576 - L.length) (by omega) (by omega) (by omega) (by omega)
  have mono:∀ (d k i:Nat) (a:Int),i + d=L.length→d<k→0≤a→a≤1048576→zbd.l0 k L a i=zbd.l0 (d + 1) L a i:=by
   intro d
   induction d with
   | zero=>
    intro k i a hi hk _ _
    obtain⟨k,rfl⟩:∃ m,k=m + 1:=⟨k - 1,(by omega)⟩
    simp only [zbd.l0]
    rw [if_neg (by omega),if_neg (by omega)]
   | succ d ih=>
    intro k i a hi hk h0 h1
    obtain⟨k,rfl⟩:∃ m,k=m + 1:=⟨k - 1,(by omega)⟩
    have hlt:i<L.length:=by omega
    rw [zbd.l0,zbd.l0,if_pos (show (i:Int)<(L.length:Int) by omega),if_pos (show 0≤(i:Int) by omega),zkg hlt,
     if_pos (show (i:Int)<(L.length:Int) by omega),if_pos (show 0≤(i:Int) by omega)]
    by_cases h:a<((L[i]).length:Int)
    ·
     rw [zgo h0 h1 (hg _ (List.getElem_mem hlt)) h]
     simp only [bS]
     rw [if_pos (by omega),if_pos (by omega)]
    ·
     rw [zgn h1 (by omega)]
     simp only [bS]
     rw [if_neg (by omega),if_neg (by omega),w64 (n:=(i:Int) + 1) (by omega) (by omega),show (i:Int) + 1=((i + 1:Nat):Int) by omega]
     exact ih k (i + 1) _ (by omega) (by omega) (by omega) (by omega)
  refine⟨r0,fun k hk=>?_,?_⟩
  ·
   unfold zbd.f
   rw [w64 (by omega) (by omega),if_neg (by omega)]
   have:=mono L.length k 0 (1048576 - L.length) (by omega) (by omega) (by omega) (by omega)
   rw [Int.natCast_zero] at this e0
   rw [this];exact e0
  ·
   rcases hr0 with h1|h1
   ·
    exact Or.inl h1
   ·
    exact Or.inr ⟨h,fun x hx=>by have:=h1 x (by rw [List.drop_zero];exact hx);omega⟩
 ·
  refine⟨-1,fun k hk=>?_,Or.inl (by omega)⟩
  unfold zbd.f
  rw [w64 (by omega) (by omega),if_pos (by omega)]
def zff (L:List (List LE)):List (List E):=L.map convL
theorem zfg (L:List (List LE)):(zff L).length=L.length:=by simp [zff]
theorem znk (L:List (List LE)) (i:Nat) (h:i<(zff L).length):(zff L)[i]=convL (L[i]'(by rw [zfg] at h;exact h)):=by simp [zff]
theorem toSS_l0 (L:List (List LE)) (hL:L.length≤1048576) (hx:∀ x∈L,x.length≤1048576) (d:Nat):∀ (k i:Nat),i + d=L.length→d + 1048576<k→
  zbt.l0 k L ((zff L).take i++List.replicate d []) i=some (zff L):=by
 induction d with
 | zero=>
  intro k i hi hk
  obtain⟨k,rfl⟩:∃ m,k=m + 1:=⟨k - 1,(by omega)⟩
  simp only [zbt.l0]
  rw [if_neg (by omega),List.take_of_length_le (by rw [zfg];omega)];simp
 | succ d ih=>
  intro k i hi hk
  obtain⟨k,rfl⟩:∃ m,k=m + 1:=⟨k - 1,(by omega)⟩
  have hlt:i<L.length:=by omega
  have hlt2:i<(zff L).length:=by rw [zfg];exact hlt
  have hxi:=hx _ (List.getElem_mem hlt)
  have hlen:((zff L).take i).length=i:=by rw [List.length_take];omega
  simp only [zbt.l0]
  rw [if_pos (show (i:Int)<(L.length:Int) by omega),if_pos (show 0≤(i:Int) by omega),zkg hlt,zlu hxi (by omega)]
  simp only [bS]
  rw [if_pos (by rw [List.length_append,hlen,List.length_replicate];omega),Int.toNat_natCast,List.replicate_succ]
  have hs:=set_mid ((zff L).take i) (List.replicate d []) [] (convL L[i])
  rw [hlen] at hs
  rw [hs,w64 (by omega) (by omega),show (i:Int) + 1=((i + 1:Nat):Int) by omega]
  have:=ih k (i + 1) (by omega) (by omega)
  rw [List.take_succ_eq_append_getElem hlt2,znk,List.append_assoc] at this
  exact this
theorem toSS_eq {L:List (List LE)} (hL:L.length≤1048576) (hx:∀ x∈L,x.length≤1048576) {k:Nat} (hk:3000000<k):zbt.f k L=some (zff L):=by
 unfold zbt.f
 rw [if_pos (by omega),if_pos (by omega)]
 have:=toSS_l0 L hL hx L.length k 0 (by omega) (by omega)
 rw [List.take_zero,List.nil_append,Int.natCast_zero] at this
 rw [Int.toNat_natCast]
 exact this
theorem eqSS_l0 (L:List (List E)) (hL:L.length≤1048576) (hx:∀ x∈L,x.length≤1048576) (d:Nat):∀ (k i:Nat),i + d=L.length→d + 1048576<k→zbe.l0 k L L i=some true:=by
 induction d with
 | zero=>
  intro k i hi hk
  obtain⟨k,rfl⟩:∃ m,k=m + 1:=⟨k - 1,(by omega)⟩
  simp only [zbe.l0]
  rw [if_neg (by omega)]
 | succ d ih=>
  intro k i hi hk
  obtain⟨k,rfl⟩:∃ m,k=m + 1:=⟨k - 1,(by omega)⟩
  have hlt:i<L.length:=by omega
  have hxi:=hx _ (List.getElem_mem hlt)
  simp only [zbe.l0]
  rw [if_pos (show (i:Int)<(L.length:Int) by omega),if_pos (show 0≤(i:Int) by omega),if_pos (show (i:Int)<(L.length:Int) by omega),zo6 hlt,zha (by omega) (by omega)]
  simp only [bS,if_true]
  rw [w64 (by omega) (by omega),show (i:Int) + 1=((i + 1:Nat):Int) by omega]
  exact ih k (i + 1) (by omega) (by omega)
theorem zpg {L:List (List E)} (hL:L.length≤1048576) (hx:∀ x∈L,x.length≤1048576) {k:Nat} (hk:3000000<k):zbe.f k L L=some true:=by
 unfold zbe.f
 rw [if_pos rfl]
 exact eqSS_l0 L hL hx L.length k 0 (by omega) (by omega)
theorem zll {L:List (List LE)} (hx:∀ x∈L,x.length≤1048576):∀ x∈zff L,x.length≤1048576:=by
 intro x h
 obtain⟨y,hy,rfl⟩:=List.mem_map.mp h
 rw [zge];exact hx y hy
end Go.Proofs.Ytgookagndlfehaa.PT
end
section
/- A sum-check's verification, alike on both sides. -/
namespace Go.Proofs.Ytgookagndlfehaa.PT
open Go.RowKit Go.Proofs.YtgookagndlfehaaW.PrintWords Go.Proofs.YtgookagndlfehaaW.PrintLast Go.Proofs.YtgookagndlfehaaW.PrintMore
set_option linter.unusedVariables false
set_option linter.unusedSimpArgs false
def okr (x:List E):Prop:=x.length≤8∧okL x
theorem p_ok:zam.p=okB:=by
 funext x
 have h:=zam.zn7 x
 rw [zdg] at h
 exact(Option.some.inj h).symm
theorem zkq (x:List E):okR x=true↔okr x:=by
 unfold okR okr
 rw [p_ok,Bool.and_eq_true,decide_eq_true_eq,show x.all okB=okLB x from rfl,zie]
 exact⟨fun h=>⟨(by have:=h.1;omega),h.2⟩,fun h=>⟨(by have:=h.1;omega),h.2⟩⟩
theorem zjd {kind:Int} (hk2:kind=1∨kind=2) {s0:List E} (hs0:okL s0) (hsl:s0.length≤64) {k:Nat} (hk:300<k):∀ (l:List (List E)),(∀ x∈l,okr x)→∀ (c0 c1 s1 s3:Int) (s2:ByteArray) (pt:List E),
  s2.size=32→0≤s1→s1 + l.length≤1500000→pt.length + l.length≤100000→
  ∃ (p:List E) (a b code x z:Int) (y:ByteArray),p.length≤pt.length + l.length∧vs_ k kind s0 l c0 c1 s1 s2 s3 pt=some (p,a,b,code,x,y,z)∧vsp_ k kind l c0 c1 s0 s1 s2 s3 pt=some (p,a,b,code,s0,x,y,z)
 | [],_,c0,c1,s1,s3,s2,pt,_,_,_,_=>⟨pt,c0,c1,0,s1,s3,s2,(by simp),rfl,rfl⟩
 | r::rs,hl,c0,c1,s1,s3,s2,pt,hs2,h0,h1,hpt=>by
  have hr:okr r:=hl r List.mem_cons_self
  rw [List.length_cons] at h1 hpt
  have hd:zbw.f kind=some (wrap64 (kind + 1)):=by
   unfold zbw.f
   rw [zem,decide_eq_true (by omega)]
   simp only [bS,if_true]
  have hw:wrap64 (wrap64 (kind + 1) + 1)=kind + 2:=by
   rw [w64 (n:=kind + 1) (by omega) (by omega),w64 (by omega) (by omega)]
   omega
  simp only [vs_,vsp_]
  unfold zds.f
  rw [hd]
  simp only [bS,hw]
  by_cases hn:(r.length:Int)=kind + 2
  ·
   rw [if_pos hn,if_pos hn,if_pos (by omega),if_pos (by omega),zh4 (zjq hr.2 (by omega) (by omega)) (zjq hr.2 (by omega) (by omega)),zgs (zjq hr.2 (by omega) (by omega)) (zjq hr.2 (by omega) (by omega))]
   simp only [bS]
   by_cases hc:(eadd (zan r 0) (zan r 1)).f0=c0∧(eadd (zan r 0) (zan r 1)).f1=c1
   ·
    rw [if_pos hc,if_pos hc]
    obtain⟨H,hH,ha⟩:=zml (s0:=s0) (s1:=s1) (s3:=s3) (s2:=s2) (r:=r) hs2 hr.1
    obtain⟨e,t1,t3,he,ht1,hdr⟩:=zpl (s0:=s0) (s1:=s1) (s3:=0) (s2:=H) hH hs0 hsl h0 (by omega)
    obtain⟨q,hq1,hq2⟩:=zpb (y:=r) hr.2 hr.1 (z:=e) he (k:=k) (by omega)
    obtain⟨a1,a2⟩:=ha k (by omega)
    obtain⟨d1,d2⟩:=hdr k (by omega)
    rw [a1,a2]
    simp only [bS]
    rw [d1,d2]
    simp only [bS]
    rw [hq1,hq2]
    simp only [bS]
    rw [if_pos (by omega),if_pos (by omega)]
    obtain⟨p,a,b,code,x,z,y,hp,e1,e2⟩:=zjd hk2 hs0 hsl hk rs (fun x hx=>hl x (List.mem_cons_of_mem _ hx)) q.1 q.2 t1 t3 H (pt++[⟨e.f0,e.f1⟩]) hH (by omega) (by omega) (by rw [List.length_append,List.length_singleton];omega)
    refine⟨p,a,b,code,x,z,y,?_,e1,e2⟩
    rw [List.length_append,List.length_singleton] at hp
    rw [List.length_cons]
    omega
   ·
    rw [if_neg hc,if_neg hc]
    exact⟨[],0,0,10,s1,s3,s2,(by simp),rfl,rfl⟩
  ·
   rw [if_neg hn,if_neg hn]
   exact⟨[],0,0,18,s1,s3,s2,(by simp),rfl,rfl⟩
theorem l08_l0 (l:List (List E)) (hl:l.length≤4096) (d:Nat):∀ (k i:Nat),i + d=l.length→d + 100<k→za8.l0 k l (i:Int)=some (if (l.drop i).all okR then 0 else 1):=by
 induction d with
 | zero=>
  intro k i hi hk
  obtain⟨k,rfl⟩:∃ m,k=m + 1:=⟨k - 1,(by omega)⟩
  rw [za8.l0,if_neg (by omega),List.drop_of_length_le (by omega)]
  rfl
 | succ d ih=>
  intro k i hi hk
  obtain⟨k,rfl⟩:∃ m,k=m + 1:=⟨k - 1,(by omega)⟩
  have hil:i<l.length:=by omega
  have hr:zd0 l (i:Int)=l[i]:=zo6 hil
  rw [za8.l0,if_pos (by omega),if_pos (by omega),hr,show l.drop i=l[i]::l.drop (i + 1) by rw [List.getElem_cons_drop],List.all_cons]
  generalize l[i]=x
  by_cases h8:(x.length:Int)>8
  ·
   rw [if_pos h8,show okR x=false by rw [Bool.eq_false_iff];exact fun h=>by have:=((zkq x).1 h).1;omega]
   rfl
  ·
   rw [if_neg h8,zgh (by omega) (by omega)]
   simp only [bS]
   by_cases ho:okLB x=true
   ·
    rw [if_pos ho,w64 (by omega) (by omega),show (i:Int) + 1=((i + 1:Nat):Int) by omega,ih k (i + 1) (by omega) (by omega),show okR x=true from(zkq x).2 ⟨(by omega),(zie x).1 ho⟩,Bool.true_and]
   ·
    rw [if_neg ho,show okR x=false by rw [Bool.eq_false_iff];exact fun h=>ho ((zie x).2 ((zkq x).1 h).2)]
    rfl
theorem l08_eq {l:List (List E)} (hl:l.length≤4096) {k:Nat} (hk:5000<k):za8.f k l=some (if l.all okR then 0 else 1):=by
 unfold za8.f
 rw [if_neg (by omega)]
 have h:=l08_l0 l hl l.length k 0 (by omega) (by omega)
 rw [List.drop_zero] at h
 exact h
def srcB (l:List E) (i:Int) (t:ByteArray) (c:Int):Bool:=decide (l.length≤64) && (okLB l && (decide (t.size=32) && (decide (0≤i∧i≤1000000) && decide (0≤c∧c≤1000000))))
theorem zhd (l:List E) (i:Int) (t:ByteArray) (c:Int):zcq.f l i t c=some (srcB l i t c):=by
 unfold zcq.f zd7.f srcB
 by_cases h1:l.length≤64
 ·
  rw [if_pos (by omega),zl3,decide_eq_true h1,Bool.true_and]
  simp only [bS]
  by_cases h2:okLB l=true
  ·
   rw [if_pos h2,h2,Bool.true_and]
   by_cases h3:t.size=32
   ·
    rw [decide_eq_true h3,Bool.true_and,show ((t.size:Int) == 32)=true by rw [h3];rfl,zem,zem]
    simp only [bS,if_true]
    by_cases h4:0≤i∧i≤1000000
    ·
     rw [decide_eq_true h4];simp only [bS,if_true,Bool.true_and]
    ·
     rw [decide_eq_false h4];rfl
   ·
    rw [decide_eq_false h3,Bool.false_and,show ((t.size:Int) == 32)=false by rw [beq_eq_false_iff_ne];omega]
    rfl
  ·
   rw [if_neg h2,show okLB l=false by simpa using h2]
   rfl
 ·
  rw [if_neg (by omega),decide_eq_false h1]
  rfl
theorem zht (l:List E) (i:Int) (t:ByteArray) (c:Int) {k:Nat} (hk:100<k):zdb.f k l i t c=some (srcB l i t c):=by
 unfold zdb.f srcB
 by_cases h1:l.length≤64
 ·
  rw [if_pos (by omega),zgh (by omega) (by omega),decide_eq_true h1,Bool.true_and]
  simp only [bS]
  by_cases h2:okLB l=true
  ·
   rw [if_pos h2,h2,Bool.true_and,zeg]
   simp only [bS]
   by_cases h4:0≤i∧i≤1000000
   ·
    rw [decide_eq_true h4]
    simp only [if_true,Bool.true_and]
    by_cases h3:t.size=32
    ·
     rw [if_pos (by omega),decide_eq_true h3,zeg];simp only [bS,Bool.true_and]
    ·
     rw [if_neg (by omega),decide_eq_false h3];rfl
   ·
    rw [decide_eq_false h4];simp
  ·
   rw [if_neg h2,show okLB l=false by simpa using h2]
   rfl
 ·
  rw [if_neg (by omega),decide_eq_false h1]
  rfl
theorem zoo (kind c0 c1 vars:Int) (l:List (List E)) (q0:List E) (q1 q3:Int) (q2:ByteArray) {k:Nat} (hk:6000<k) :
  ∃ (a:List E) (b c:Int) (d:List E) (e:Int) (f:ByteArray) (g h:Int),a.length≤4096∧d.length≤64∧zbq.f k kind c0 c1 l vars q0 q1 q2 q3=some (a,b,c,d,e,f,g,h)∧zbm.f k kind c0 c1 l vars q0 q1 q2 q3=some (a,b,c,d,e,f,g,h):=by
 have bad:∀ n:Int,zbq.f k kind c0 c1 l vars q0 q1 q2 q3=some ([],0,0,[],0,(⟨#[]⟩:ByteArray),0,n)→zbm.f k kind c0 c1 l vars q0 q1 q2 q3=some ([],0,0,[],0,(⟨#[]⟩:ByteArray),0,n)→
  ∃ (a:List E) (b c:Int) (d:List E) (e:Int) (f:ByteArray) (g h:Int),a.length≤4096∧d.length≤64∧zbq.f k kind c0 c1 l vars q0 q1 q2 q3=some (a,b,c,d,e,f,g,h)∧zbm.f k kind c0 c1 l vars q0 q1 q2 q3=some (a,b,c,d,e,f,g,h):=
  fun n h1 h2=>⟨[],0,0,[],0,_,0,n,(by simp),(by simp),h1,h2⟩
 by_cases h1:(l.length:Int)>4096
 ·
  refine bad 2 ?_ ?_
  ·
   unfold zbq.f;rw [if_pos h1]
  ·
   unfold zbm.f;rw [if_pos h1]
 by_cases hR:l.all okR=true
 rotate_left
 ·
  have hRf:l.all okR=false:=by simpa using hR
  refine bad 1 ?_ ?_
  ·
   unfold zbq.f;rw [if_neg h1,l08_eq (by omega) (by omega),hRf];rfl
  ·
   unfold zbm.f
   rw [if_neg h1,zdg,zhd]
   simp only [bS]
   by_cases e1:okB ⟨c0,c1⟩=false
   ·
    rw [if_pos e1]
   rw [if_neg e1]
   by_cases e2:srcB q0 q1 q2 q3=false
   ·
    rw [if_pos e2]
   rw [if_neg e2,if_pos hRf]
 have hRl:∀ x∈l,okr x:=fun x hx=>(zkq x).1 (List.all_eq_true.1 hR x hx)
 have hRn:¬(l.all okR=false):=by rw [hR];simp
 have e0:za8.f k l=some 0:=by rw [l08_eq (by omega) (by omega),hR];rfl
 by_cases e1:okB ⟨c0,c1⟩=false
 ·
  refine bad 1 ?_ ?_
  ·
   unfold zbq.f;rw [if_neg h1,e0,zd2];simp only [bS,if_true];rw [if_pos e1]
  ·
   unfold zbm.f;rw [if_neg h1,zdg];simp only [bS];rw [if_pos e1]
 by_cases e2:srcB q0 q1 q2 q3=false
 ·
  refine bad 1 ?_ ?_
  ·
   unfold zbq.f;rw [if_neg h1,e0,zd2,zht _ _ _ _ (by omega)];simp only [bS,if_true];rw [if_neg e1,if_pos e2]
  ·
   unfold zbm.f;rw [if_neg h1,zdg,zhd];simp only [bS];rw [if_neg e1,if_pos e2]
 have hsrc:srcB q0 q1 q2 q3=true:=by simpa using e2
 have hsrc2:=hsrc
 unfold srcB at hsrc2
 simp only [Bool.and_eq_true,decide_eq_true_eq] at hsrc2
 obtain⟨hq64,hqo,hq32,hq1,hq3⟩:=hsrc2
 by_cases hkd:kind=1∨kind=2
 rotate_left
 ·
  refine bad 4 ?_ ?_
  ·
   unfold zbq.f zdi.f;rw [if_neg h1,e0,zd2,zht _ _ _ _ (by omega)];simp only [bS,if_true];rw [if_neg e1,if_neg e2,if_neg (by omega)];simp only [bS];rw [if_pos (by rw [beq_eq_false_iff_ne];omega)]
  ·
   unfold zbm.f zbw.f;rw [if_neg h1,zdg,zhd];simp only [bS];rw [if_neg e1,if_neg e2,if_neg hRn,zem,decide_eq_false (by omega)];simp only [bS,Bool.false_eq_true,if_false,if_true]
 have eK:zdi.f kind=some true:=by
  unfold zdi.f
  rcases hkd with rfl|rfl
  ·
   rfl
  ·
   rfl
 have eD:zbw.f kind=some (kind + 1):=by
  unfold zbw.f
  rw [zem,decide_eq_true (by omega)]
  simp only [bS,if_true]
  rw [w64 (by omega) (by omega)]
 by_cases hv:0≤vars∧vars≤6
 rotate_left
 ·
  refine bad 4 ?_ ?_
  ·
   unfold zbq.f;rw [if_neg h1,e0,zd2,zht _ _ _ _ (by omega),eK,zeg,decide_eq_false hv];simp only [bS,if_true];rw [if_neg e1,if_neg e2,if_neg (by simp)]
  ·
   unfold zbm.f;rw [if_neg h1,zdg,zhd,eD,zem,decide_eq_false hv];simp only [bS,if_true];rw [if_neg e1,if_neg e2,if_neg hRn,if_neg (by omega)]
 have eL:zc0.f q0 q1 q2 q3=some (1000000 - mx q1 q3):=by
  unfold zc0.f
  rw [w64 (by unfold mx;split <;> omega) (by unfold mx;split <;> omega)]
 have eS:zdy.f q0 q1 q2 q3 6=some (decide (1000000 - mx q1 q3<6)):=by
  unfold zdy.f mx
  rw [show wrap64 (1000000 - 6)=999994 by decide +kernel]
  by_cases hg:q1>999994
  ·
   rw [if_pos hg,decide_eq_true (by split <;> omega)]
  ·
   rw [if_neg hg]
   congr 1
   rw [decide_eq_decide]
   split <;> omega
 by_cases hm:1000000 - mx q1 q3<6
 ·
  refine bad 6 ?_ ?_
  ·
   unfold zbq.f;rw [if_neg h1,e0,zd2,zht _ _ _ _ (by omega),eK,zeg,decide_eq_true hv,eS,decide_eq_true hm];simp only [bS,if_true];rw [if_neg e1,if_neg e2,if_neg (by simp),if_neg (by simp),if_neg (by simp)]
  ·
   unfold zbm.f;rw [if_neg h1,zdg,zhd,eD,zem,decide_eq_true hv,eL];simp only [bS,if_true];rw [if_neg e1,if_neg e2,if_neg hRn,if_neg (by omega),if_neg (by simp),if_pos hm]
 by_cases hn:(l.length:Int)=vars
 rotate_left
 ·
  refine bad 18 ?_ ?_
  ·
   unfold zbq.f zco.f;rw [if_neg h1,e0,zd2,zht _ _ _ _ (by omega),eK,zeg,decide_eq_true hv,eS,decide_eq_false hm];simp only [bS,if_true];rw [if_neg e1,if_neg e2,if_neg (by simp),if_neg (by simp),if_neg hn];simp only [bS];rw [if_neg (by omega)]
  ·
   unfold zbm.f;rw [if_neg h1,zdg,zhd,eD,zem,decide_eq_true hv,eL];simp only [bS,if_true];rw [if_neg e1,if_neg e2,if_neg hRn,if_neg (by omega),if_neg (by simp),if_neg hm,if_neg hn]
 obtain⟨p,a,b,code,x,z,y,hp,r1,r2⟩:=zjd hkd ((zie _).1 hqo) hq64 (k:=k) (by omega) l hRl c0 c1 q1 q3 q2 [] hq32 hq1.1 (by omega) (by simp;omega)
 have eC:zda.f q0 q1 q2 q3=some (q0,q1,q2,q3):=by
  unfold zda.f ze3.f
  rw [if_pos (by omega)]
  simp only [bS]
 have s1:zbq.f k kind c0 c1 l vars q0 q1 q2 q3=if code=0 then some (p,a,b,q0,x,y,z,0) else some ([],0,0,[],0,(⟨#[]⟩:ByteArray),0,code):=by
  unfold zbq.f zco.f ze9.f;rw [if_neg h1,e0,zd2,zht _ _ _ _ (by omega),eK,zeg,decide_eq_true hv,eS,decide_eq_false hm];simp only [bS,if_true];rw [if_neg e1,if_neg e2,if_neg (by simp),if_neg (by simp),if_pos hn,r2]
  simp only [bS]
  by_cases hc:code=0
  ·
   rw [if_pos hc,if_pos hc,if_pos (show ([]:List E).length + q0.length<8796093022208 by rw [List.length_nil];omega)]
   rfl
  ·
   rw [if_neg hc,if_neg hc]
 have s2:zbm.f k kind c0 c1 l vars q0 q1 q2 q3=if code=0 then some (p,a,b,q0,x,y,z,0) else some ([],0,0,[],0,(⟨#[]⟩:ByteArray),0,code):=by
  unfold zbm.f;rw [if_neg h1,zdg,zhd,eD,zem,decide_eq_true hv,eL,eC];simp only [bS,if_true];rw [if_neg e1,if_neg e2,if_neg hRn,if_neg (by omega),if_neg (by simp),if_neg hm,if_pos hn,r1]
  simp only [bS]
 by_cases hc:code=0
 ·
  rw [if_pos hc] at s1 s2
  exact⟨p,a,b,q0,x,y,z,0,(by simp at hp;omega),hq64,s1,s2⟩
 ·
  rw [if_neg hc] at s1 s2
  exact bad code s1 s2
end Go.Proofs.Ytgookagndlfehaa.PT
end
section
/- Tables bound at an element, and the sums of a round, alike on both sides. -/
namespace Go.Proofs.Ytgookagndlfehaa.PT
open Go.RowKit Go.Proofs.YtgookagndlfehaaW.PrintWords Go.Proofs.YtgookagndlfehaaW.PrintLast Go.Proofs.YtgookagndlfehaaW.PrintMore
set_option linter.unusedVariables false
set_option linter.unusedSimpArgs false
end Go.Proofs.Ytgookagndlfehaa.PT
end
section
/- A sum-check's verification: alike on both sides, its answers of their own, the arguments as they were. -/
namespace Go.Proofs.Ytgookagndlfehaa.fnExactSumVerify
open Go.Proofs.Ytgookagndlfehaa.PT Go.RowKit Go.Proofs.YtgookagndlfehaaO Go.Proofs.YtgookagndlfehaaW.PrintWords Go.Proofs.YtgookagndlfehaaW.PrintLast Go.Proofs.YtgookagndlfehaaW.PrintMore
set_option linter.unusedVariables false
set_option linter.unusedSimpArgs false
theorem zm6 (L:List (List LE)) (hg:∀ x∈L,x.length≤9223372036854775807) (hg2:L.length≤9223372036854775807):∀ (k i:Nat) (a r:Int),0≤a→a≤1048576→zbd.l0 k L a (i:Int)=some r→r≤1048576
 | 0,i,a,r,_,_,h=>by simp [zbd.l0] at h
 | k + 1,i,a,r,h0,h1,h=>by
  simp only [zbd.l0] at h
  by_cases hi:(i:Int)<(L.length:Int)
  ·
   have hlt:i<L.length:=by omega
   rw [if_pos hi,if_pos (by omega),zkg hlt] at h
   by_cases hb:a<((L[i]).length:Int)
   ·
    rw [zgo h0 h1 (hg _ (List.getElem_mem hlt)) hb] at h
    simp only [bS] at h
    rw [if_pos (by omega)] at h
    have:=Option.some.inj h
    omega
   ·
    rw [zgn h1 (by omega)] at h
    simp only [bS] at h
    rw [if_neg (by omega),w64 (by omega) (by omega),show (i:Int) + 1=((i + 1:Nat):Int) by omega] at h
    exact zm6 L hg hg2 k (i + 1) _ r (by omega) (by omega) h
  ·
   rw [if_neg hi] at h
   have:=Option.some.inj h
   omega
theorem szSS_le {L:List (List LE)} (hg:∀ x∈L,x.length≤9223372036854775807) (hg2:L.length≤9223372036854775807) {k:Nat} {r:Int} (h:zbd.f k L 1048576=some r):r≤1048576:=by
 unfold zbd.f at h
 rw [w64 (by omega) (by omega)] at h
 by_cases hn:(1048576:Int) - (L.length:Int)<0
 ·
  rw [if_pos hn] at h
  have:=Option.some.inj h
  omega
 ·
  rw [if_neg hn] at h
  exact zm6 L hg hg2 k 0 _ r (by omega) (by omega) h
theorem zlc:∀ (L:List (List E)),(∀ x∈L,x.length≤1048576)→∀ (a:Int),0≤a→a + 2097152 * L.length≤4000000000000→∃ r,0≤r∧r≤4000000000000∧∀ k,1048576<k→zcd.go k L a=some r
 | [],_,a,h0,h1=>⟨a,h0,(by simpa using h1),fun _ _=>rfl⟩
 | l::ls,hx,a,h0,h1=>by
  have hl:=hx l (List.mem_cons_self ..)
  have hlen:(l::ls).length=ls.length + 1:=rfl
  rw [hlen] at h1
  obtain⟨r,hr,hr2,h2⟩:=zlc ls (fun x hm=>hx x (List.mem_cons_of_mem _ hm)) (a + 2 * l.length) (by omega) (by push_cast at h1;omega)
  refine⟨r,hr,hr2,fun k hk=>?_⟩
  unfold zcd.go
  rw [zhc h0 (by push_cast at h1;omega) (by omega) (by omega)]
  exact h2 k hk
theorem szSrc {l:List LE} {i c a:Int} {t:ByteArray} (h0:0≤a) (h1:a≤1048576) (hl:l.length≤9223372036854775807):∃ r,zel.f l i t c a=some r∧(r<0∨l.length≤1048576):=by
 unfold zel.f
 by_cases hb:a<(l.length:Int)
 ·
  rw [zgo h0 h1 hl hb]
  simp only [bS]
  exact⟨-1,if_pos (by omega),.inl (by omega)⟩
 ·
  rw [zgn h1 (by omega)]
  simp only [bS]
  rw [if_neg (by omega)]
  by_cases hw:wrap64 ((a - (l.length:Int)) - (t.size:Int))<0
  ·
   exact⟨-1,if_pos hw,.inl (by omega)⟩
  ·
   exact⟨_,if_neg hw,.inr (by omega)⟩
theorem eqSrc {l:List E} {i c:Int} {t:ByteArray} (hl:l.length≤4000000) {k:Nat} (hk:l.length<k):zc1.f k l i t c l i t c=some true:=by
 unfold zc1.f
 rw [zha (by omega) hk]
 simp only [bS,if_true]
theorem eqE (a b:Int):zdn.f a b a b=some true:=by
 unfold zdn.f
 rw [if_pos rfl,if_pos rfl]
theorem toSrc {l:List LE} {i c:Int} {t:ByteArray} (hl:l.length≤1048576) {k:Nat} (hk:l.length<k):zdh.f k l i t c=some (convL l,i,t,c):=by
 unfold zdh.f
 rw [zlu hl hk]
 simp only [bS]
theorem zo5 {l:List E} {i c n:Int} {t:ByteArray} (h0:0≤n) (h1:n≤4611686018427387904) (hl:l.length≤4000000) {k:Nat} (hk:l.length<k):zcy.f k l i t c n=some (n + 2 * l.length,marked l.length n):=by
 unfold zcy.f
 rw [zhc h0 h1 (by omega) hk]
 simp only [bS]
theorem heldSrc {m:Nat} {i c n:Int} {t:ByteArray} (h0:0≤n) (h1:n≤4611686018427387904) (hl:m≤4000000) {k:Nat} (hk:m<k):zdm.f k (marked m n) i t c n=some (n + 2 * m):=by
 unfold zdm.f
 rw [zi9 h0 h1 (by omega) hk]
 simp only [bS]
 rw [if_neg (by omega)]
theorem zgq:Pure:=by
 intro kind d x vars m _ _ hx _ hm
 obtain⟨t1,hz,hz2⟩:=szSS_eq (L:=x) (fun y hy=>(hx.2 y hy).1) hx.1
 have htop:t1≤1048576:=szSS_le (fun y hy=>(hx.2 y hy).1) hx.1 (hz 1048577 (by omega))
 refine⟨4000000,?_⟩
 generalize hK:4000000=K
 unfold zao.f
 rw [hz K (by omega)]
 simp only [bS]
 by_cases h0:t1<0
 ·
  rw [if_pos h0]
 rw [if_neg h0]
 obtain⟨hL,hs⟩:x.length≤1048576∧∀ y∈x,y.length≤1048576:=by
  rcases hz2 with h|h
  ·
   exact absurd h h0
  ·
   exact h
 obtain⟨t2,e2,ht2⟩:=szSrc (l:=m.f0) (i:=m.f1) (c:=m.f3) (t:=m.f2) (a:=t1) (by omega) htop hm.1.1
 rw [e2]
 simp only [bS]
 by_cases h2:t2<0
 ·
  rw [if_pos h2]
 rw [if_neg h2]
 have hM:m.f0.length≤1048576:=by
  rcases ht2 with h|h
  ·
   exact absurd h h2
  ·
   exact h
 have hM2:(convL m.f0).length≤1048576:=by rw [zge];exact hM
 have hL2:(zff x).length≤1048576:=by rw [zfg];exact hL
 have hs2:=zll hs
 rw [show zea.f d.f0 d.f1=some (d.f0,d.f1) from rfl,toSS_eq hL hs (k:=K) (by omega),toSrc hM (k:=K) (by omega)]
 simp only [bS]
 obtain⟨a,b,c,q,e,f,g,h,ha,hq,s1,s2⟩:=zoo kind d.f0 d.f1 vars (zff x) (convL m.f0) m.f1 m.f3 m.f2 (k:=K) (by omega)
 rw [s1,s2]
 simp only [bS]
 rw [if_pos ⟨zha (by omega) (by omega),eqE _ _,eqSrc (by omega) (by omega),trivial,zpg hL2 hs2 (by omega),eqSrc (by omega) (by omega)⟩]
 obtain⟨n1,hn0,hn1,hn⟩:=zlc (zff x) hs2 1 (by omega) (by omega)
 rw [show zcd.f K (zff x) 1=some n1 from hn K (by omega)]
 simp only [bS]
 rw [zo5 hn0 (by omega) (by omega) (by omega)]
 simp only [bS]
 rw [if_neg (by omega),zhc (by omega) (by omega) (by omega) (by omega)]
 simp only [bS]
 rw [zo5 (by omega) (by omega) (by omega) (by omega)]
 simp only [bS]
 rw [zi9 (by omega) (by omega) (by omega) (by omega)]
 simp only [bS]
 rw [if_neg (by omega),heldSrc (by omega) (by omega) (by omega) (by omega)]
 simp only [bS]
 rw [if_neg (by omega),if_pos trivial]
end Go.Proofs.Ytgookagndlfehaa.fnExactSumVerify
end
