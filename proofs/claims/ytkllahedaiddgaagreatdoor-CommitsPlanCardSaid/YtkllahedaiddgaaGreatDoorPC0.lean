/- CommitsPlan: the law walked. No condition. -/
import Derived.Test.YtkllahedaiddgaaGreatDoorUG5
import Derived.Test.YtkllahedaiddgaaGreatDoorBY0
import Derived.Test.YtkllahedaiddgaaGreatDoorPA0
set_option linter.unusedSimpArgs false
set_option linter.unusedVariables false
set_option maxRecDepth 100000
namespace Go.K
open Go.Ab Go.RowKit Go.Y Go.Proofs
noncomputable section
attribute [local instance 10000] gO
noncomputable def inK (k:Nat) (f:Nat→Nat) (c:Bool):KV:=.ro true c .sc 0 k (.fa k fun i=>nI (f i))
noncomputable def l20:List Code:=fl (cOf 20)
noncomputable def b20:Code:=lpB (blB (l20.getD 4 .skip))
noncomputable def a20 (k:Nat) (f:Nat→Nat) (c:Bool):List KV:=[inK k f true,inK k f c]
noncomputable def zA8 (k:Nat) (f:Nat→Nat) (c:Bool) (Q:QT) (R:zl):Prop:=pc EO0 20 (l20.take 4) [0,1,5] [] (xd (mOf 20) 0 (a20 k f c),[],0) Q fun v _ _=>R v
noncomputable def u20 (k:Nat) (f:Nat→Nat) (c:Bool) (i:Nat):List KV:=[inK k f true,inK k f c,nI i]
noncomputable def s20 (k:Nat) (f:Nat→Nat) (c:Bool) (i:Nat):LS:=([(0,inK k f true),(1,inK k f c),(5,nI i)],[],0)
theorem zGS (k:Nat) (f:Nat→Nat) (c:Bool) (Q:QT) (R:zl):zA8 k f c Q R=alt (!(eqN k k)) (R (nI 0)) (alt (!(eqN k k)) (R (nI 0)) (Q .normal (u20 k f c 0) [] 0)):=by kernel_rfl
noncomputable def zA9 (k:Nat) (f:Nat→Nat) (c:Bool) (i:Nat) (Q:QT) (R:zl):Prop:=pc EO0 20 (fl b20) [0,1,5] [] (s20 k f c i) Q fun v _ _=>R v
theorem zGT (k:Nat) (f:Nat→Nat) (c:Bool) (i:Nat) (Q:QT) (R:zl):zA9 k f c i Q R=alt (ltN i k) (cnd (ixB (.ofNat i) k) (cnd (ixB (.ofNat i) k) (alt (!(eqN (f (Nat.add 0 i)) (f (Nat.add 0 i)))) (R (nI 0)) (cnd (b63 (Nat.add i 1)) (Q .normal (u20 k f c (Nat.add i 1)) [] 0))))) (Q (.exit 0) (u20 k f c i) [] 0):=by kernel_rfl
noncomputable def zBa (k:Nat) (f:Nat→Nat) (c:Bool) (i:Nat) (Q:QT) (R:zl):Prop:=pc EO0 20 (l20.drop 5) [] [] (s20 k f c i) Q fun v _ _=>R v
theorem zGU (k:Nat) (f:Nat→Nat) (c:Bool) (i:Nat) (Q:QT) (R:zl):zBa k f c i Q R=R (nI 1):=by kernel_rfl
attribute [local irreducible] kpre cOf mOf rOf JL zp l20 b20
theorem zHp:Tryz.f20.ntmps=33:=by kernel_rfl
theorem zHq:Tryz.f20.results.toList=rOf 20:=by kernel_rfl
theorem zHr:fl (cOf 20)=l20:=by kernel_rfl
theorem yo (k:Nat):eqN k k=true:=j1.2 rfl
section
variable {k:Nat}{f:Nat→Nat}{c:Bool}{B N:Nat}
noncomputable abbrev Q20:K4:=retJ EO0 Tryz.f20 false (nI 1)
theorem ziA (v:KV) (tr:KTm) (zm:KZ) (nx:Nat) (h:v=nI 1) (h1:MB (am zm) nx) (h2:INV (mOf 20) tr) (hr:RAll Tryz.prog (tv' (zn tr)) (am zm) (rOf 20) v.v):Q20 .ret tr zm nx:=by
 subst h
 exact retJ.mk rfl zHq (FzP.noref rfl) hr
theorem Yj (k:Nat) (f:Nat→Nat) (c:Bool):xw 0 (inK k f c)=true:=by kernel_rfl
theorem zwb {i:Nat}{tr:KTm}{zm:KZ}(ht:[0,1,5].map (zn tr)=u20 k f c i):atS (mOf 20) (s20 k f c i) tr zm :=
 atS.of (s:=s20 k f c i) [] id ht rfl (by kernel_rfl) ⟨zC _ (Yj _ _ _),zC _ (Yj _ _ _),zC _ rfl,trivial⟩ trivial
theorem j20 (hk:k < 1000):JFn Tryz.prog 20 false (a20 k f c) (nI 1):=by
 refine JFn.of (P:=Tryz.prog) zI rfl (c:=cOf 20) (mOf 20) Tryz.func20 (by kernel_rfl) fun B N hN=>?_
 rw[zHp] at hN
 rw[zHr]
 refine JL.stp (n:=60) (s:=(xd (mOf 20) 0 (a20 k f c),[],0)) zI rfl 4 (rOf 20) [0,1,5] [] hN (by kernel_rfl) (by kernel_rfl) (fun v=>v=nI 1) ziA ?_
 show zA8 k f c _ _
 rw[zGS,yo]
 intro tr zm ht hz hmb hi
 refine JL.loopT zI (fun i=>s20 k f c i) (fun i=>k - i) (fun i=>i≤k) (id:=0) (b:=b20) (l2:=l20.drop 5) (by kernel_rfl) (fun w=>by kernel_rfl) 0 (by omega) (zwb ht) hmb hi ?_
 intro i hik
 refine JL.all (n:=60) zI rfl (rOf 20) [0,1,5] [] hN (by kernel_rfl) (by kernel_rfl) (fun v=>v=nI 1) (fun v tr zm nx h1 h2 h3 h4=>ziA v tr zm nx h1 h2 h3 h4) ?_
 show zA9 k f c i _ _
 rw[zGT,yo]
 simp only[zo,xr,bf xr,zd,xb,xM,vb]
 refine⟨fun h=>⟨h,h,(fun q=>by cases q),fun _=>⟨by show i + 1 < _; omega,?_⟩⟩,fun _=>?_⟩
 ·intro tr zm ht hz hmb hi
  exact⟨i + 1,by omega,by omega,zwb ht⟩
 ·intro tr zm ht hz hmb hi
  show (if (0:Nat)=0 then JL EO0 B N (mOf 20) (l20.drop 5) tr zm 0 (Q20) else Q20 (.exit 0) tr zm 0)
  rw[if_pos rfl]
  refine JL.preS zI (zwb (k:=k) (f:=f) (c:=c) ht) (xL (by kernel_rfl)) ?_
  refine JL.all (n:=60) zI rfl (rOf 20) [] [] hN (by kernel_rfl) (by kernel_rfl) (fun v=>v=nI 1) ziA ?_
  show zBa k f c i _ _
  rw[zGU]
end
noncomputable def zCh:zf:=vp (fun x:Nat×(Nat→Nat)×Bool=>a20 x.1 x.2.1 x.2.2) (fun x=>x.1 < 1000) fun x=>nI 1
theorem zsN:KCS Tryz.prog 20 zCh:=vV ⟨Tryz.f20,Tryz.func20,by kernel_rfl,by kernel_rfl⟩ fun x h=>j20 h
end
end Go.K
set_option maxRecDepth 100000
namespace Go.K
open Go.Ab Go.RowKit Go.Y Go.Proofs
noncomputable section
attribute [local instance 10000] gO
structure Wd where
 sc:Nat
 ln:Nat
 bs:List Nat
noncomputable def Wd.k (w:Wd):KV:=.cons (nI w.sc) (.cons (zpb (Nat.succ w.ln) w.bs) .nl)
noncomputable def zbA (n:Nat) (l:List Nat):KV:=.str n (pkA (byK (.fa n fun i=>kU8 (nN l i)) 0) n)
noncomputable def Wd.r (w:Wd):KV:=.cons (nI w.sc) (.cons (zbA (Nat.succ w.ln) w.bs) .nl)
noncomputable def shW:Shape:=.cons .sc (.cons .sc .nl)
noncomputable def wrP (k:Nat) (w:Nat→Wd):KV:=.ro true true shW 0 k (.fa k fun i=>(w i).k)
noncomputable def wrR (k:Nat) (w:Nat→Wd):KV:=.ro true false shW 0 k (.fa k fun i=>(w i).r)
noncomputable def l23:List Code:=fl (cOf 23)
noncomputable def b23:Code:=lpB (blB (l23.getD 4 .skip))
noncomputable def a23 (k:Nat) (w:Nat→Wd):List KV:=[wrP k w,wrR k w]
noncomputable def u23 (k:Nat) (w:Nat→Wd) (i:Nat):List KV:=[wrP k w,wrR k w,nI i]
noncomputable def s23 (k:Nat) (w:Nat→Wd) (i:Nat):LS:=([(0,wrP k w),(1,wrR k w),(5,nI i)],[],0)
noncomputable def zEt (k:Nat) (w:Nat→Wd) (Q:QT) (R:zl):Prop:=pc EO0 23 (l23.take 4) [0,1,5] [] (xd (mOf 23) 0 (a23 k w),[],0) Q fun v _ _=>R v
theorem zIC (k:Nat) (w:Nat→Wd) (Q:QT) (R:zl):zEt k w Q R=alt (!(eqN k k)) (R (nI 0)) (alt (!(eqN k k)) (R (nI 0)) (Q .normal (u23 k w 0) [] 0)):=by kernel_rfl
noncomputable def zEu (k:Nat) (w:Nat→Wd) (i:Nat) (Q:QT) (R:zl):Prop:=pc EO0 23 (fl b23) [0,1,5] [] (s23 k w i) Q fun v _ _=>R v
noncomputable def zqD (y:Wd):Bool:=Jl (Nat.succ y.ln) fun j=>is8 (z7 (Nat.add 0 j) (KV.fa (Nat.succ y.ln) fun i=>kU8 (nN y.bs i)))
noncomputable def zEv (y:Wd):Nat:=pkx .u8 (pkA (byK (.fa (Nat.succ y.ln) fun i=>kU8 (nN y.bs i)) 0) (Nat.succ y.ln)) 0 (Nat.succ y.ln)
noncomputable def zye (y:Wd):Bool:=@Bool.rec (fun _=>Bool) false (Nat.beq (zEv y) (zEv y)) (Nat.beq (Nat.succ y.ln) (Nat.succ y.ln))
noncomputable def g23 (k:Nat) (w:Nat→Wd) (i:Nat) (y:Wd) (Q:QT) (R:zl):Prop:=cnd (ixB (.ofNat i) k) (cnd (ixB (.ofNat i) k) (alt (!(eqN y.sc y.sc)) (R (nI 0)) (cnd (ixB (.ofNat i) k) (cnd (zqD y) (cnd (ixB (.ofNat i) k) (alt (!(zye y)) (R (nI 0)) (cnd (ixB (.ofNat i) k) (cnd (ixB (.ofNat i) k) (alt (!(eqN (Nat.succ y.ln) (Nat.succ y.ln))) (R (nI 0)) (cnd (b63 (Nat.add i 1)) (Q .normal (u23 k w (Nat.add i 1)) [] 0)))))))))))
theorem zID (k:Nat) (w:Nat→Wd) (i:Nat) (Q:QT) (R:zl):zEu k w i Q R=alt (ltN i k) (g23 k w i (w (Nat.add 0 i)) Q R) (Q (.exit 0) (u23 k w i) [] 0):=by kernel_rfl
noncomputable def zEw (k:Nat) (w:Nat→Wd) (i:Nat) (Q:QT) (R:zl):Prop:=pc EO0 23 (l23.drop 5) [] [] (s23 k w i) Q fun v _ _=>R v
theorem zIE (k:Nat) (w:Nat→Wd) (i:Nat) (Q:QT) (R:zl):zEw k w i Q R=R (nI 1):=by kernel_rfl
noncomputable def E97:KEnv:=EO0.tab [(165,zhR),(166,Yk)]
noncomputable def l97:List Code:=fl (cOf 97)
noncomputable def a97 (n:Nat) (x:Nd) (s:Nat):List KV:=[nI n,x.k,nI s]
noncomputable def d97 (n:Nat) (x:Nd) (s:Nat) (Q:QT) (R:RT):Prop:=pc E97 97 l97 [] [] (xd (mOf 97) 0 (a97 n x s),[],0) Q R
noncomputable def w97 (n:Nat) (x y:Nd) (s:Nat):KV:=.cons (nI (qA n x.lv x.ix s)) (.cons (zpb (byN y) (byL y)) .nl)
theorem e97 (n:Nat) (x:Nd) (s:Nat) (Q:QT) (R:RT):d97 n x s Q R=cnd (b63 x.lv) (cnd (b63 x.ix) ((zD n=true∧isS n x.lv x.ix=true∧s≤1)∧∃ y:Nd,[x.k]=[y.k]∧(y.wl∧y.ok∧y.lv≤2)∧R (w97 n x y s) [] 2)):=by kernel_rfl
theorem zBw:KOk E97:=zI.tab (l:=[(165,zhR),(166,Yk)]) ⟨zA0,zpc,trivial⟩
attribute [local irreducible] kpre cOf mOf rOf JL zp l97 zh hS zi zx xh
theorem zG6:Tryz.f97.ntmps=31:=by kernel_rfl
theorem zG7:Tryz.f97.results.toList=rOf 97:=by kernel_rfl
theorem zG8:fl (cOf 97)=l97:=by kernel_rfl
noncomputable def byM (x:Nd):Nat:=@Nat.rec (fun _=>Nat) 184 (fun _ _=>136) x.lv
theorem zsA (x:Nd):byN x=Nat.succ (byM x):=by
 unfold byN byM
 cases x.lv<;>rfl
noncomputable def wdN (n:Nat) (x:Nd) (s:Nat):Wd:=⟨qA n x.lv x.ix s,byM x,byL x⟩
theorem zvF (n:Nat) (x:Nd) (s:Nat):w97 n x x s=(wdN n x s).k:=by
 unfold w97 wdN Wd.k
 rw[zsA]
theorem zBx (w:Wd):ubK w.k=true:=by
 show nd true (nd (nd true (ubK (.fa (Nat.succ w.ln) fun i=>kU8 (nN w.bs i)))) true)=true
 rw[znd fun i=>rfl]; rfl
theorem j97 {n:Nat}{x:Nd}{s:Nat}(hn:zD n=true) (hp:isS n x.lv x.ix=true) (hs:s≤1) (h1:x.wl) (h2:x.wb) (h3:YD x):JFn Tryz.prog 97 true (a97 n x s) (wdN n x s).k:=by
 refine JFn.of (P:=Tryz.prog) zBw rfl (c:=cOf 97) (mOf 97) Tryz.func97 (by kernel_rfl) fun B N hN=>?_
 rw[zG6] at hN
 rw[zG8]
 have:=JL.goR (B:=B) (N:=N) (mask:=mOf 97) (l1:=l97) (l2:=[]) (Q:=retJ E97 Tryz.f97 true (wdN n x s).k) (n:=60) zBw rfl (rOf 97) [] [] (lt0:=xd (mOf 97) 0 (a97 n x s)) (lz0:=[]) (n0:=0) hN (by kernel_rfl) (by kernel_rfl) ?_
 ·rwa [List.append_nil] at this
 ·have hlv:=(xg hn hp).1
  have hix:=(xg hn hp).2
  refine Eq.mpr (e97 n x s _ _) ?_
  refine zd.2 ⟨xb.2 (by omega),zd.2 ⟨xb.2 (by omega),⟨hn,hp,hs⟩,x,rfl,⟨h1,h3.1,h3.2⟩,?_⟩⟩
  rw[zvF]
  intro tr zm hz hmb hi hr
  exact retJ.mk rfl zG7 (FzP.ub (zBx _)) hr
end
end Go.K
set_option maxRecDepth 100000
namespace Go.K
open Go.Ab Go.RowKit Go.Y Go.Proofs
noncomputable section
attribute [local instance 10000] gO
attribute [local irreducible] kpre cOf mOf rOf JL zp l23 b23 pkA pkx
theorem zJ6:Tryz.f23.ntmps=64:=by kernel_rfl
theorem zJ7:Tryz.f23.results.toList=rOf 23:=by kernel_rfl
theorem zJ8:fl (cOf 23)=l23:=by kernel_rfl
theorem zzQ (y:Wd):zye y=true:=by
 unfold zye
 rw[Nat.beq_refl,Nat.beq_refl]
theorem znl {y:Wd}(h:∀ i,nN y.bs i < 256):zqD y=true:=by
 unfold zqD
 refine yk.2 fun i hi=>?_
 show Nat.blt (nN y.bs (Nat.add 0 i)) 256=true
 exact we.2 (h _)
section
variable {k:Nat}{w:Nat→Wd}{B N:Nat}
noncomputable abbrev Q23:K4:=retJ EO0 Tryz.f23 false (nI 1)
theorem znm (v:KV) (tr:KTm) (zm:KZ) (nx:Nat) (h:v=nI 1) (h1:MB (am zm) nx) (h2:INV (mOf 23) tr) (hr:RAll Tryz.prog (tv' (zn tr)) (am zm) (rOf 23) v.v):Q23 .ret tr zm nx:=by
 subst h
 exact retJ.mk rfl zJ7 (FzP.noref rfl) hr
theorem YJ (k:Nat) (w:Nat→Wd):xw 0 (wrP k w)=true:=by kernel_rfl
theorem zrQ (k:Nat) (w:Nat→Wd):xw 0 (wrR k w)=true:=by kernel_rfl
theorem zzR {i:Nat}{tr:KTm}{zm:KZ}(ht:[0,1,5].map (zn tr)=u23 k w i):atS (mOf 23) (s23 k w i) tr zm :=
 atS.of (s:=s23 k w i) [] id ht rfl (by kernel_rfl) ⟨zC _ (YJ _ _),zC _ (zrQ _ _),zC _ rfl,trivial⟩ trivial
theorem j23 (hk:k < 1000) (hw:∀ i,i < k→∀ j,nN (w i).bs j < 256):JFn Tryz.prog 23 false (a23 k w) (nI 1):=by
 refine JFn.of (P:=Tryz.prog) zI rfl (c:=cOf 23) (mOf 23) Tryz.func23 (by kernel_rfl) fun B N hN=>?_
 rw[zJ6] at hN
 rw[zJ8]
 refine JL.stp (n:=60) (s:=(xd (mOf 23) 0 (a23 k w),[],0)) zI rfl 4 (rOf 23) [0,1,5] [] hN (by kernel_rfl) (by kernel_rfl) (fun v=>v=nI 1) znm ?_
 show zEt k w _ _
 rw[zIC,yo]
 intro tr zm ht hz hmb hi
 refine JL.loopT zI (fun i=>s23 k w i) (fun i=>k - i) (fun i=>i≤k) (id:=0) (b:=b23) (l2:=l23.drop 5) (by kernel_rfl) (fun w=>by kernel_rfl) 0 (by omega) (zzR ht) hmb hi ?_
 intro i hik
 refine JL.all (n:=60) zI rfl (rOf 23) [0,1,5] [] hN (by kernel_rfl) (by kernel_rfl) (fun v=>v=nI 1) (fun v tr zm nx h1 h2 h3 h4=>znm v tr zm nx h1 h2 h3 h4) ?_
 show zEu k w i _ _
 rw[zID]
 refine zo.2 ⟨fun h=>?_,fun _=>?_⟩
 ·have h:=xr.1 h
  have hx:=xM.2 h
  unfold g23
  rw[vb,yo,yo,zzQ,znl (hw i h),hx]
  show cnd (b63 (Nat.add i 1)) _
  refine zd.2 ⟨xb.2 (by show i + 1 < _; omega),?_⟩
  intro tr zm ht hz hmb hi
  exact⟨i + 1,by omega,by omega,zzR ht⟩
 ·intro tr zm ht hz hmb hi
  show (if (0:Nat)=0 then JL EO0 B N (mOf 23) (l23.drop 5) tr zm 0 (Q23) else Q23 (.exit 0) tr zm 0)
  rw[if_pos rfl]
  refine JL.preS zI (zzR (k:=k) (w:=w) ht) (xL (by kernel_rfl)) ?_
  refine JL.all (n:=60) zI rfl (rOf 23) [] [] hN (by kernel_rfl) (by kernel_rfl) (fun v=>v=nI 1) znm ?_
  show zEw k w i _ _
  rw[zIE]
end
noncomputable def zF6:zf:=vp (fun x:Nat×(Nat→Wd)=>a23 x.1 x.2) (fun x=>x.1 < 1000∧∀ i,i < x.1→∀ j,nN (x.2 i).bs j < 256) fun x=>nI 1
theorem ztR:KCS Tryz.prog 23 zF6:=vV ⟨Tryz.f23,Tryz.func23,by kernel_rfl,by kernel_rfl⟩ fun x h=>j23 h.1 h.2
end
end Go.K
set_option maxRecDepth 100000
namespace Go.K
open Go.Ab Go.RowKit Go.Y Go.Proofs
noncomputable section
attribute [local instance 10000] gO
noncomputable def Jr (r:List Nat) (e mk:Nat):KV:=.cons (kBy 32 (nN r)) (.cons (Jt e) (.cons (Jt mk) .nl))
noncomputable def zG5 (a:Nat):KV:=.int .u16 (.ofNat a)
structure L3 where
 x:Sd
 n:Nat
 m:Nat
 u:Ud
 c:Nat→Un
 w:Nat→Wd
 l:Nat
 K:Nat
 f:Nat→Nat
 D:List Nat
 e:Nat
noncomputable def L3.uk (y:L3):KV:=uK y.n (Nat.succ y.m) y.u
noncomputable def L3.t (y:L3):KV:=trK y.n (Nat.succ y.m) y.c
noncomputable def L3.cel (y:L3):KV:=Jr (dsL 9) y.e 5
noncomputable def ct3 (y:L3) (s22:zf):List (Nat×zf):=[(16,va [y.uk] y.t),(17,va [kU8 9] (kBy 32 (nN (dsL 9)))),(19,va [y.t] (.tup (.cons (inK y.K y.f true) (.cons (nI 0) .nl)))),(20,va [inK y.K y.f true,inK y.K y.f false] (nI 1)),(21,va [y.uk] (inK y.K y.f false)),(22,s22),(23,va [wrP (Nat.succ y.l) y.w,wrR (Nat.succ y.l) y.w] (nI 1)),(24,va [y.uk] (wrR (Nat.succ y.l) y.w)),(25,va [xU y.n y.u.rc,jc y.n (Nat.succ y.m) y.u] (kBy 32 (nN y.D))),(26,va [y.uk] (jc y.n (Nat.succ y.m) y.u)),(28,va [nI y.n] (nI (hS y.n)))]
noncomputable def L3.e1 (y:L3):Nat:=Nat.mod (Nat.add y.e 1) 18446744073709551616
noncomputable def E3 (y:L3) (r18:KV) (z:Nat):KEnv:=(EO0.tab ((27,va [nI y.n,nI (hS y.n),nI 0,nI (y.e1 % 2)] (nI z))::ct3 y (xG [] (.bool true)))).tabB [(15,va [y.x.k] y.uk),(18,va [y.t,y.cel] r18)]
noncomputable def l3:List Code:=fl (cOf 3)
noncomputable def b3:Code:=lpB (blB (l3.getD 14 .skip))
noncomputable def X3:Code:=blB ((fl b3).getD 2 .skip)
noncomputable def b3c:Code:=lpB (blB ((fl X3).getD 1 .skip))
noncomputable def a3 (x:Sd) (e:Nat):List KV:=[x.k,zG5 e]
noncomputable def zC3:KV:=.cons (.ar 32 (kU8 0) .te) (.cons (Jt 0) (.cons (Jt 0) .nl))
noncomputable def w3b:KV:=.tup (.cons .nils (.cons zC3 (.cons (nI 1) .nl)))
noncomputable def L3.nx (y:L3):KV:=Jr y.D y.e1 5
noncomputable def w3a (y:L3):KV:=.tup (.cons (wrP (Nat.succ y.l) y.w) (.cons y.nx (.cons (nI 0) .nl)))
noncomputable def zcc:Shape:=.cons (.arr 32 .sc) (.cons .sc (.cons .sc .nl))
noncomputable def v3 (y:L3) (b i:Nat):List KV:=[nI y.n,wrP (Nat.succ y.l) y.w,.ptr b [] zcc,inK y.K y.f true,nI i]
noncomputable def v3j (y:L3) (i j:Nat):List KV:=[nI y.n,wrP (Nat.succ y.l) y.w,.ptr 0 [] zcc,inK y.K y.f true,nI i,nI j]
noncomputable def cb3 (y:L3):KBlk:=bx 44 zcc y.nx
noncomputable def st3 (y:L3) (i:Nat):LS:=([(6,nI y.n),(9,wrP (Nat.succ y.l) y.w),(10,.ptr 0 [] zcc),(12,inK y.K y.f true),(14,nI i)],[(0,cb3 y)],1)
noncomputable def s3j (y:L3) (i j:Nat):LS:=([(6,nI y.n),(9,wrP (Nat.succ y.l) y.w),(10,.ptr 0 [] zcc),(12,inK y.K y.f true),(14,nI i),(15,nI j)],[(0,cb3 y)],1)
noncomputable def c3A (y:L3) (z:Nat) (Q:QT) (R:zl):Prop:=pc (E3 y (w3a y) z) 3 (l3.take 14) [6,9,10,12,14] [4] (xd (mOf 3) 0 (a3 y.x y.e),[],0) Q fun v _ _=>R v
noncomputable def zvE (y:L3):Bool:=@Bool.rec (fun _=>Bool) false (nd (eqN y.e1 (Nat.mod (Nat.add (Nat.mod y.e (mdl .u64)) 1) (mdl .u64))) (nd (eqI (.ofNat 5) (.ofNat 5)) true)) (eqB 32 (nN y.D) (nN y.D))
noncomputable def L3.kk (y:L3):List KV:=[inK y.K y.f true,inK y.K y.f false]
noncomputable def L3.ww (y:L3):List KV:=[wrP (Nat.succ y.l) y.w,wrR (Nat.succ y.l) y.w]
noncomputable def L3.rn (y:L3):List KV:=[xU y.n y.u.rc,jc y.n (Nat.succ y.m) y.u]
noncomputable def L3.last (y:L3):Nat:=y.u.sl (Nat.add 0 (Nat.sub (Nat.succ y.m) 1))
noncomputable def g3 (y:L3) (p q:Prop):Prop:=[y.x.k]=[y.x.k]∧[y.uk]=[y.uk]∧[kU8 9]=[kU8 9]∧[y.t,Jr (dsL 9) (Nat.mod y.e 18446744073709551616) 5]=[y.t,y.cel]∧[y.t]=[y.t]∧[y.uk]=[y.uk]∧y.kk=y.kk∧cnd (b63 (y.e % 2)) (cnd (b63 (Nat.sub (Nat.succ y.m) 1)) (cnd (ixB (.ofNat (Nat.sub (Nat.succ y.m) 1)) (Nat.succ y.m)) (alt (!(eqN (y.e % 2) y.last)) p q)))
theorem e3A (y:L3) (z:Nat) (Q:QT) (R:zl):c3A y z Q R=g3 y (R (.bool false)) ([y.uk]=[y.uk]∧y.ww=y.ww∧[y.uk]=[y.uk]∧y.rn=y.rn∧alt (!(zvE y)) (R (.bool false)) (Q .normal (v3 y 4 0) [some (cb3 y)] 5)):=by kernel_rfl
noncomputable def c3M (y:L3) (z:Nat) (Q:QT) (R:zl):Prop:=pc (E3 y w3b z) 3 (l3.take 11) [] [] (xd (mOf 3) 0 (a3 y.x y.e),[],0) Q fun v _ _=>R v
theorem e3M (y:L3) (z:Nat) (Q:QT) (R:zl):c3M y z Q R=g3 y (R (.bool true)) (Q .normal [] [] 5):=by kernel_rfl
noncomputable def c3B (y:L3) (r:KV) (z i:Nat) (Q:QT) (R:zl):Prop:=pc (E3 y r z) 3 ((fl b3).take 2) [6,9,10,12,14] [0] (st3 y i) Q fun v _ _=>R v
theorem e3B (y:L3) (r:KV) (z i:Nat) (Q:QT) (R:zl):c3B y r z i Q R=alt (ltN i (Nat.succ y.l)) (Q .normal (v3 y 0 i) [some (cb3 y)] 1) (Q (.exit 0) (v3 y 0 i) [some (cb3 y)] 1):=by kernel_rfl
noncomputable def c3C (y:L3) (r:KV) (z i:Nat) (Q:QT) (R:zl):Prop:=pc (E3 y r z) 3 ((fl X3).take 1) [6,9,10,12,14,15] [0] (st3 y i) Q fun v _ _=>R v
theorem e3C (y:L3) (r:KV) (z i:Nat) (Q:QT) (R:zl):c3C y r z i Q R=Q .normal (v3j y i 0) [some (cb3 y)] 1:=by kernel_rfl
noncomputable def c3D (y:L3) (r:KV) (z i j:Nat) (Q:QT) (R:zl):Prop:=pc (E3 y r z) 3 (fl b3c) [6,9,10,12,14,15] [0] (s3j y i j) Q fun v _ _=>R v
theorem e3D (y:L3) (r:KV) (z i j:Nat) (Q:QT) (R:zl):c3D y r z i j Q R=alt (ltN j y.K) (cnd (ixB (.ofNat i) (Nat.succ y.l)) (cnd (ixB (.ofNat j) y.K) (alt (eqN (y.w (Nat.add 0 i)).sc (y.f (Nat.add 0 j))) (R (.bool false)) (cnd (b63 (Nat.add j 1)) (Q .normal (v3j y i (Nat.add j 1)) [some (cb3 y)] 1))))) (Q (.exit 2) (v3j y i j) [some (cb3 y)] 1):=by kernel_rfl
noncomputable def c3E (y:L3) (r:KV) (z i j:Nat) (Q:QT) (R:zl):Prop:=pc (E3 y r z) 3 ((fl b3).drop 3) [6,9,10,12,14] [0] (s3j y i j) Q fun v _ _=>R v
theorem e3E (y:L3) (r:KV) (z i j:Nat) (Q:QT) (R:zl):c3E y r z i j Q R=cnd (b63 (Nat.add i 1)) (Q .normal (v3 y 0 (Nat.add i 1)) [some (cb3 y)] 1):=by kernel_rfl
noncomputable def c3F (y:L3) (r:KV) (z i:Nat) (Q:QT) (R:zl):Prop:=pc (E3 y r z) 3 (l3.drop 15) [] [] (st3 y i) Q fun v _ _=>R v
theorem e3F (y:L3) (r:KV) (z i:Nat) (Q:QT) (R:zl):c3F y r z i Q R=cnd (b63 (Nat.sub (Nat.succ y.l) 1)) (cnd (ixB (.ofNat (Nat.sub (Nat.succ y.l) 1)) (Nat.succ y.l)) ([nI y.n]=[nI y.n]∧cnd (b63 (y.e1 % 2)) ([nI y.n,nI (hS y.n),nI 0,nI (y.e1 % 2)]=[nI y.n,nI (hS y.n),nI 0,nI (y.e1 % 2)]∧alt (eqN (y.w (Nat.add 0 (Nat.sub (Nat.succ y.l) 1))).sc z) (R (.bool true)) (R (.bool false))))):=by kernel_rfl
end
end Go.K
set_option maxRecDepth 100000
namespace Go.K
open Go.Ab Go.RowKit Go.Y Go.Proofs
noncomputable section
attribute [local instance 10000] gO
theorem zxQ {y:L3}(he:y.e < 65536):zvE y=true:=by
 unfold zvE
 rw[zbb,show Nat.mod y.e (mdl .u64)=y.e from Nat.mod_eq_of_lt (show y.e < 18446744073709551616 by omega)]
 show nd (eqN y.e1 (Nat.mod (Nat.add y.e 1) (mdl .u64))) (nd (eqI (.ofNat 5) (.ofNat 5)) true)=true
 rw[show eqN y.e1 (Nat.mod (Nat.add y.e 1) (mdl .u64))=true from yE.2 rfl]
 rfl
theorem zti {y:L3}{p q:Prop}(he:y.e < 65536) (hm:y.m < 1000) (h1:y.e % 2≠y.last→p) (h2:y.e % 2=y.last→q):g3 y p q:=by
 refine⟨rfl,rfl,rfl,?_,rfl,rfl,rfl,zd.2 ⟨xb.2 (by omega),zd.2 ⟨xb.2 (by show y.m < _; omega),zd.2 ⟨xM.2 (Nat.lt_succ_self y.m),zo.2 ⟨fun h=>h1 ?_,fun h=>h2 ?_⟩⟩⟩⟩⟩
 ·show [y.t,Jr (dsL 9) (y.e % 18446744073709551616) 5]=[y.t,Jr (dsL 9) y.e 5]
  rw[Nat.mod_eq_of_lt (by omega)]
 ·intro hq
  rw[show eqN (y.e % 2) y.last=true from yE.2 hq] at h
  cases h
 ·refine Classical.byContradiction fun hq=>?_
  rw[show eqN (y.e % 2) y.last=false from zse.2 hq] at h
  cases h
attribute [local irreducible] kpre cOf mOf rOf JL zp l3 b3 X3 b3c zh hS zi zx xh
theorem nm3:Tryz.f3.ntmps=136:=by kernel_rfl
theorem rs3:Tryz.f3.results.toList=rOf 3:=by kernel_rfl
theorem fl3:fl (cOf 3)=l3:=by kernel_rfl
section
variable {y:L3}{r:KV}{z B N:Nat}
noncomputable abbrev Q3 (y:L3) (r:KV) (z:Nat):K4:=retJ (E3 y r z) Tryz.f3 false (.bool true)
theorem zcz (v:KV) (tr:KTm) (zm:KZ) (nx:Nat) (h:v=.bool true) (h1:MB (am zm) nx) (h2:INV (mOf 3) tr) (hr:RAll Tryz.prog (tv' (zn tr)) (am zm) (rOf 3) v.v):Q3 y r z .ret tr zm nx:=by
 subst h
 exact retJ.mk rfl rs3 (FzP.noref rfl) hr
theorem zEd (y:L3):xw 0 (cb3 y).v=true:=by kernel_rfl
theorem at3 {b i:Nat}{tr:KTm}{zm:KZ}(ht:[6,9,10,12,14].map (zn tr)=v3 y b i) (hz:[b].map (kb zm)=[some (cb3 y)]):atS (mOf 3) (st3 y i) tr zm :=
 atS.of (s:=st3 y i) [] (fun _=>b) ht hz (by kernel_rfl) ⟨zC _ rfl,zC _ (YJ _ _),(show RnB (am zm) [] (fun _=>b) 1 (V.ptr b [] zcc) (V.ptr 0 [] zcc) from RnB.ptr rfl (ltk rfl)).v,zC _ (Yj _ _ _),zC _ rfl,trivial⟩ ⟨RnK.nf (zEd y),trivial⟩
theorem zxR {i j:Nat}{tr:KTm}{zm:KZ}(ht:[6,9,10,12,14,15].map (zn tr)=v3j y i j) (hz:[0].map (kb zm)=[some (cb3 y)]):atS (mOf 3) (s3j y i j) tr zm :=
 atS.of (s:=s3j y i j) [] id ht hz (by kernel_rfl) ⟨zC _ rfl,zC _ (YJ _ _),vg (ltk rfl),zC _ (Yj _ _ _),zC _ rfl,zC _ rfl,trivial⟩ ⟨RnK.nf (zEd y),trivial⟩
theorem w3L (hE:KOk (E3 y r z)) (hN:136≤N) (hl:y.l < 1000) (hK:y.K < 1000) (hd:∀ i j,i≤y.l→j < y.K→(y.w i).sc≠y.f j) (hz:(y.w y.l).sc=z) (tr:KTm) (zm:KZ) (nx:Nat) (h:atS (mOf 3) (st3 y 0) tr zm) (m1:MB (am zm) nx) (m2:INV (mOf 3) tr):JL (E3 y r z) B N (mOf 3) (l3.drop 14) tr zm nx (Q3 y r z):=by
 refine JL.loopT hE (fun i=>st3 y i) (fun i=>y.l + 1 - i) (fun i=>i≤y.l + 1) (id:=0) (b:=b3) (l2:=l3.drop 15) (by kernel_rfl) (fun w=>by kernel_rfl) 0 (by omega) h m1 m2 ?_
 intro i hi
 refine JL.stp (n:=60) hE rfl 2 (rOf 3) [6,9,10,12,14] [0] hN (by kernel_rfl) (by kernel_rfl) (fun v=>v=.bool true) (fun v tr zm nx h1 h2 h3 h4=>zcz v tr zm nx h1 h2 h3 h4) ?_
 show c3B y r z i _ _
 rw[e3B]
 refine zo.2 ⟨fun q=>?_,fun q=>?_⟩
 ·have q:=xr.1 q
  intro tr zm ht hz' hmb hi'
  show JL (E3 y r z) B N (mOf 3) ((fl b3).drop 2) tr zm 1 _
  refine JL.blk (id:=1) (X:=X3) (l2:=(fl b3).drop 3) (by kernel_rfl) hmb hi' ?_
  refine JL.preS hE (at3 ht hz') (xL (by kernel_rfl)) ?_
  refine JL.stp (n:=60) hE rfl 1 (rOf 3) [6,9,10,12,14,15] [0] hN (by kernel_rfl) (by kernel_rfl) (fun v=>v=.bool true) (fun v tr zm nx h1 h2 h3 h4=>zcz v tr zm nx h1 h2 h3 h4) ?_
  show c3C y r z i _ _
  rw[e3C]
  intro tr zm ht hz' hmb hi'
  show JL (E3 y r z) B N (mOf 3) ((fl X3).drop 1) tr zm 1 _
  refine JL.loopT hE (fun j=>s3j y i j) (fun j=>y.K - j) (fun j=>j≤y.K) (id:=2) (b:=b3c) (l2:=(fl X3).drop 2) (by kernel_rfl) (fun w=>by kernel_rfl) 0 (by omega) (zxR ht hz') hmb hi' ?_
  intro j hj
  refine JL.all (n:=60) hE rfl (rOf 3) [6,9,10,12,14,15] [0] hN (by kernel_rfl) (by kernel_rfl) (fun v=>v=.bool true) (fun v tr zm nx h1 h2 h3 h4=>zcz v tr zm nx h1 h2 h3 h4) ?_
  show c3D y r z i j _ _
  rw[e3D]
  refine zo.2 ⟨fun q2=>?_,fun q2=>?_⟩
  ·have q2:=xr.1 q2
   refine zd.2 ⟨xM.2 q,zd.2 ⟨xM.2 q2,zo.2 ⟨fun q3=>?_,fun q3=>zd.2 ⟨xb.2 (by show j + 1 < _; omega),?_⟩⟩⟩⟩
   ·have q3:=j1.1 q3
    rw[vb,vb] at q3
    exact absurd q3 (hd i j (by omega) q2)
   ·intro tr zm ht hz' hmb hi'
    exact⟨j + 1,by omega,by omega,zxR ht hz'⟩
  ·intro tr zm ht hz' hmb hi'
   refine zC8 2 ?_
   refine zjb (by kernel_rfl) ?_
   show JL (E3 y r z) B N (mOf 3) ((fl b3).drop 3) tr zm 1 _
   refine JL.preS hE (zxR (y:=y) ht hz') (xL (by kernel_rfl)) ?_
   refine JL.all (n:=60) hE rfl (rOf 3) [6,9,10,12,14] [0] hN (by kernel_rfl) (by kernel_rfl) (fun v=>v=.bool true) (fun v tr zm nx h1 h2 h3 h4=>zcz v tr zm nx h1 h2 h3 h4) ?_
   show c3E y r z i j _ _
   rw[e3E]
   refine zd.2 ⟨xb.2 (by show i + 1 < _; omega),?_⟩
   intro tr zm ht hz' hmb hi'
   exact⟨i + 1,by omega,by omega,at3 ht hz'⟩
 ·intro tr zm ht hz' hmb hi'
  show (if (0:Nat)=0 then JL (E3 y r z) B N (mOf 3) (l3.drop 15) tr zm 1 (Q3 y r z) else Q3 y r z (.exit 0) tr zm 1)
  rw[if_pos rfl]
  refine JL.preS hE (at3 (y:=y) ht hz') (xL (by kernel_rfl)) ?_
  refine JL.all (n:=60) hE rfl (rOf 3) [] [] hN (by kernel_rfl) (by kernel_rfl) (fun v=>v=.bool true) zcz ?_
  show c3F y r z i _ _
  rw[e3F]
  refine zd.2 ⟨xb.2 (by show y.l < _; omega),zd.2 ⟨xM.2 (Nat.lt_succ_self y.l),rfl,zd.2 ⟨xb.2 (by omega),rfl,?_⟩⟩⟩
  rw[vb]
  show alt (eqN (y.w y.l).sc z) _ _
  rw[hz,yo]
  rfl
theorem j3a (hE:KOk (E3 y (w3a y) z)) (he:y.e < 65536) (hm:y.m < 1000) (hp:y.e % 2=y.last) (hl:y.l < 1000) (hK:y.K < 1000) (hd:∀ i j,i≤y.l→j < y.K→(y.w i).sc≠y.f j) (hz:(y.w y.l).sc=z):JFn Tryz.prog 3 false (a3 y.x y.e) (.bool true):=by
 refine JFn.of (P:=Tryz.prog) hE rfl (c:=cOf 3) (mOf 3) Tryz.func3 (by kernel_rfl) fun B N hN=>?_
 rw[nm3] at hN
 rw[fl3]
 refine JL.stp (n:=60) (s:=(xd (mOf 3) 0 (a3 y.x y.e),[],0)) hE rfl 14 (rOf 3) [6,9,10,12,14] [4] hN (by kernel_rfl) (by kernel_rfl) (fun v=>v=.bool true) zcz ?_
 show c3A y z _ _
 rw[e3A]
 refine zti he hm (fun q=>absurd hp q) fun _=>⟨rfl,rfl,rfl,rfl,?_⟩
 rw[zxQ he]
 intro tr zm ht hz' hmb hi
 exact w3L hE hN hl hK hd hz tr zm 5 (at3 ht hz') hmb hi
theorem j3b (hE:KOk (E3 y w3b z)) (he:y.e < 65536) (hm:y.m < 1000) (hp:y.e % 2≠y.last):JFn Tryz.prog 3 false (a3 y.x y.e) (.bool true):=by
 refine JFn.of (P:=Tryz.prog) hE rfl (c:=cOf 3) (mOf 3) Tryz.func3 (by kernel_rfl) fun B N hN=>?_
 rw[nm3] at hN
 rw[fl3]
 refine JL.stp (n:=60) (s:=(xd (mOf 3) 0 (a3 y.x y.e),[],0)) hE rfl 11 (rOf 3) [] [] hN (by kernel_rfl) (by kernel_rfl) (fun v=>v=.bool true) zcz ?_
 show c3M y z _ _
 rw[e3M]
 exact zti he hm (fun _=>rfl) fun q=>absurd q hp
end
end
end Go.K
