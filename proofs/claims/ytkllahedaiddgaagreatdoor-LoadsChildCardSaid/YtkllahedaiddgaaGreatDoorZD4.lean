/- disks: New, Write. No condition. -/
import Derived.Test.YtkllahedaiddgaaGreatDoorZD3
set_option linter.unusedSimpArgs false
set_option linter.unusedVariables false
set_option maxRecDepth 100000
namespace Go.K
open Go.Ab Go.RowKit Go.Y Go.Proofs
noncomputable section
attribute [local instance 10000] gO
noncomputable def l70:List Code:=fl (cOf 70)
def d70 (n:Nat) (Q:QT) (R:RT):Prop:=pc EO0 70 l70 [] [1,3] (z7 (mOf 70) 0 [nI n],[],0) Q R
noncomputable def v70 (n:Nat):KV:=.tup (.cons (.cons (nI n) (.cons (nI 0) (.cons (.sl 3 [] .sc 0 1 (some 1)) .nl))) (.cons (nI 0) .nl))
noncomputable def o70:List (Option KBlk):=[some ⟨.box 271,shC,.ar 64 .nilp .te⟩,some ⟨.box 268,.arr 1 .sc,.ar 1 .nilp (.tn (.ptr 1 [] shC) .te .te .te .te)⟩]
theorem e70:xr (fun i=>∀ Q R,d70 (Nat.succ i) Q R=R (v70 (Nat.succ i)) o70 4) 64:=⟨⟨⟨⟨⟨⟨⟨⟨⟨⟨⟨⟨⟨⟨⟨⟨⟨⟨⟨⟨⟨⟨⟨⟨⟨⟨⟨⟨⟨⟨⟨⟨⟨⟨⟨⟨⟨⟨⟨⟨⟨⟨⟨⟨⟨⟨⟨⟨⟨⟨⟨⟨⟨⟨⟨⟨⟨⟨⟨⟨⟨⟨⟨⟨trivial,fun Q R=>by kernel_rfl⟩,fun Q R=>by kernel_rfl⟩,fun Q R=>by kernel_rfl⟩,fun Q R=>by kernel_rfl⟩,fun Q R=>by kernel_rfl⟩,fun Q R=>by kernel_rfl⟩,fun Q R=>by kernel_rfl⟩,fun Q R=>by kernel_rfl⟩,fun Q R=>by kernel_rfl⟩,fun Q R=>by kernel_rfl⟩,fun Q R=>by kernel_rfl⟩,fun Q R=>by kernel_rfl⟩,fun Q R=>by kernel_rfl⟩,fun Q R=>by kernel_rfl⟩,fun Q R=>by kernel_rfl⟩,fun Q R=>by kernel_rfl⟩,fun Q R=>by kernel_rfl⟩,fun Q R=>by kernel_rfl⟩,fun Q R=>by kernel_rfl⟩,fun Q R=>by kernel_rfl⟩,fun Q R=>by kernel_rfl⟩,fun Q R=>by kernel_rfl⟩,fun Q R=>by kernel_rfl⟩,fun Q R=>by kernel_rfl⟩,fun Q R=>by kernel_rfl⟩,fun Q R=>by kernel_rfl⟩,fun Q R=>by kernel_rfl⟩,fun Q R=>by kernel_rfl⟩,fun Q R=>by kernel_rfl⟩,fun Q R=>by kernel_rfl⟩,fun Q R=>by kernel_rfl⟩,fun Q R=>by kernel_rfl⟩,fun Q R=>by kernel_rfl⟩,fun Q R=>by kernel_rfl⟩,fun Q R=>by kernel_rfl⟩,fun Q R=>by kernel_rfl⟩,fun Q R=>by kernel_rfl⟩,fun Q R=>by kernel_rfl⟩,fun Q R=>by kernel_rfl⟩,fun Q R=>by kernel_rfl⟩,fun Q R=>by kernel_rfl⟩,fun Q R=>by kernel_rfl⟩,fun Q R=>by kernel_rfl⟩,fun Q R=>by kernel_rfl⟩,fun Q R=>by kernel_rfl⟩,fun Q R=>by kernel_rfl⟩,fun Q R=>by kernel_rfl⟩,fun Q R=>by kernel_rfl⟩,fun Q R=>by kernel_rfl⟩,fun Q R=>by kernel_rfl⟩,fun Q R=>by kernel_rfl⟩,fun Q R=>by kernel_rfl⟩,fun Q R=>by kernel_rfl⟩,fun Q R=>by kernel_rfl⟩,fun Q R=>by kernel_rfl⟩,fun Q R=>by kernel_rfl⟩,fun Q R=>by kernel_rfl⟩,fun Q R=>by kernel_rfl⟩,fun Q R=>by kernel_rfl⟩,fun Q R=>by kernel_rfl⟩,fun Q R=>by kernel_rfl⟩,fun Q R=>by kernel_rfl⟩,fun Q R=>by kernel_rfl⟩,fun Q R=>by kernel_rfl⟩
noncomputable def zuP (L c q:Nat) (f:Ck) (s:Nat) (n:Nat) (b:Nat→Nat) (r:KV):KEnv:=(EO0.tab [(183,zq [roN n b] (roN n b))]).tabB [(182,zq [dkK L c q f,nI s,.bool true,roN n b] r)]
noncomputable def zbv:List Code:=fl (cOf 111)
def zE7 (L c q:Nat) (f:Ck) (s:Nat) (n:Nat) (b:Nat→Nat) (L' c' q':Nat) (f':Ck) (Q:QT) (R:RT):Prop:=pc (zuP L c q f s n b (dkK L' c' q' f')) 111 zbv [] [] (z7 (mOf 111) 0 [dkK L c q f,nI s,roN n b],[],0) Q R
def zAC (L c q:Nat) (f:Ck) (s:Nat) (n:Nat) (b:Nat→Nat) (Q:QT) (R:RT):Prop:=pc EO0 111 zbv [] [] (z7 (mOf 111) 0 [dkK L c q f,.int .i64 (.negSucc s),roN n b],[],0) Q R
noncomputable def zgg (e:Nat):KV:=.tup (.cons (.cons (nI 0) (.cons (nI 0) (.cons .nils .nl))) (.cons (nI e) .nl))
theorem zAD (L c q:Nat) (f:Ck) (s:Nat) (n:Nat) (b:Nat→Nat) (Q:QT) (R:RT):zAC L c q f s n b Q R=R (zgg 1) [] 3:=by kernel_rfl
theorem zE8 (L c q:Nat) (f:Ck) (s:Nat) (n:Nat) (b:Nat→Nat) (L' c' q':Nat) (f':Ck) (Q:QT) (R:RT):zE7 L c q f s n b L' c' q' f' Q R=alt (leI (.ofNat L) (.ofNat s)) (R (zgg 1) [] 3) (cnd (b63 (Nat.div s 64)) (cnd (ixB (.ofNat (Nat.div s 64)) q) (cnd (ixB (.ofNat (s % 64)) 64) (alt (ltI (.ofNat 256) (.ofNat n)) (R (zgg 3) [] 3) ([roN n b]=[roN n b]∧[dkK L c q f,nI s,.bool true,roN n b]=[dkK L c q f,nI s,.bool true,roN n b]∧R (.tup (.cons (dkK L' c' q' f') (.cons (nI 0) .nl))) [] 3))))):=by kernel_rfl
noncomputable def zkN:KEnv:=(EO0.tab [(183,fun l K=>False)]).tabB [(182,fun l K=>False)]
def zAE (L c q:Nat) (f:Ck) (s:Nat) (n:Nat) (b:Nat→Nat) (Q:QT) (R:RT):Prop:=pc zkN 111 zbv [] [] (z7 (mOf 111) 0 [dkK L c q f,nI s,roN n b],[],0) Q R
theorem zAF (L c q:Nat) (f:Ck) (s:Nat) (n:Nat) (b:Nat→Nat) (Q:QT) (R:RT):zAE L c q f s n b Q R=alt (leI (.ofNat L) (.ofNat s)) (R (zgg 1) [] 3) (cnd (b63 (Nat.div s 64)) (cnd (ixB (.ofNat (Nat.div s 64)) q) (cnd (ixB (.ofNat (s % 64)) 64) (alt (ltI (.ofNat 256) (.ofNat n)) (R (zgg 3) [] 3) False)))):=by kernel_rfl
attribute [local irreducible] kpre cOf mOf rOf JL zj zi l70 zbv
noncomputable def zgh:Ck:=fun _ _=>none
noncomputable def zgi (n:Nat):KV:=.tup (.cons (dkK n 0 1 zgh) (.cons (nI 0) .nl))
theorem zE9:Tryz.f70.ntmps=21:=by kernel_rfl
theorem zFa:Tryz.f70.results.toList=rOf 70:=by kernel_rfl
theorem zFb:fl (cOf 70)=l70:=by kernel_rfl
theorem zFc {zm:KZ}{n:Nat}(h1:kb zm 1=some ⟨.box 271,shC,.ar 64 .nilp .te⟩) (h3:kb zm 3=some ⟨.box 268,.arr 1 .sc,.ar 1 .nilp (.tn (.ptr 1 [] shC) .te .te .te .te)⟩):FzP false zm (v70 n) (zgi n):=by
 refine FzP.tup (FzP.cons (FzP.cons (FzP.noref rfl) (FzP.cons (FzP.noref rfl) (FzP.cons ?_ (FzP.noref rfl)))) (FzP.noref rfl))
 refine FzP.sl (w:=.fa 1 (chK zgh)) (f:=fun j=>KV.atv (.tn (.ptr 1 [] shC) .te .te .te .te) (enc j) .nilp) h3 rfl rfl rfl fun j hj=>?_
 obtain rfl:j=0:=by omega
 show FzE false zm (V.ptr 1 [] shC) (.ref true shC (.arr 64 fun i=>(vm (zgh 0 i)).v))
 refine FzE.ptr h1 rfl ?_
 show FzE false zm (.arr 64 fun i=>V.nilp) (.arr 64 fun i=>(vm (zgh 0 i)).v)
 refine FzE.arr fun i hi=>?_
 rw[Zd]
 exact FzE.noref rfl
theorem j70 {n:Nat}(h0:0 < n) (h:n≤64):JFn Tryz.prog 70 false [nI n] (zgi n):=by
 refine JFn.of (P:=Tryz.prog) zr rfl (c:=cOf 70) (mOf 70) Tryz.func70 (by kernel_rfl) fun B N hN=>?_
 rw[zE9] at hN
 rw[zFb]
 have:=JL.goR (B:=B) (N:=N) (mask:=mOf 70) (l1:=l70) (l2:=[]) (Q:=retJ EO0 Tryz.f70 false (zgi n)) (n:=60) zr rfl (rOf 70) [] [1,3] (lt0:=z7 (mOf 70) 0 [nI n]) (lz0:=[]) (n0:=0) hN (by kernel_rfl) (by kernel_rfl) ?_
 ·rwa [List.append_nil] at this
 ·obtain⟨k,rfl⟩:∃ k,n=Nat.succ k:=⟨n - 1,by omega⟩
  refine Eq.mpr (zw e70 k (by omega) _ _) ?_
  intro tr zm hz hmb hi hr
  exact retJ.mk rfl zFa (zFc (congrArg (fun l=>l.getD 0 none) hz) (congrArg (fun l=>l.getD 1 none) hz)) hr
theorem zp4:KCS Tryz.prog 70 (xM (fun n:Nat=>[nI n]) (fun n=>0 < n∧n≤64) zgi):=Xn ⟨Tryz.f70,Tryz.func70,by kernel_rfl,by kernel_rfl⟩ fun n h=>j70 h.1 h.2
structure Dk where
 L:Nat
 c:Nat
 q:Nat
 f:Ck
noncomputable def Dk.k (d:Dk):KV:=dkK d.L d.c d.q d.f
noncomputable def zDk:Dk:=⟨0,0,0,zgh⟩
def Dk.ok (d:Dk):Prop:=okDk d.L d.c d.q d.f
open Classical in
noncomputable def erW (d:Dk) (z:Int) (n:Nat):Nat:=if z < 0∨(d.L:Int)≤z then 1 else if 256 < n then 3 else 0
open Classical in
noncomputable def wrD (d:Dk) (z:Int) (n:Nat) (b:Nat→Nat):Dk:=if erW d z n=0 then ⟨d.L,d.c + 1,d.q,vf d.f z.toNat (nxV (atK d.f z.toNat) true n b)⟩ else zDk
noncomputable def zbw (d:Dk) (e:Nat):KV:=.tup (.cons d.k (.cons (nI e) .nl))
theorem zkO:Tryz.f111.ntmps=29:=by kernel_rfl
theorem ze9:Tryz.f111.results.toList=rOf 111:=by kernel_rfl
theorem zkP:fl (cOf 111)=zbv:=by kernel_rfl
theorem zkQ {zm:KZ}{e:Nat}:FzP true zm (zgg e) (zbw zDk e):=FzP.tup (FzP.cons (FzP.cons (FzP.noref rfl) (FzP.cons (FzP.noref rfl) (FzP.cons zjq (FzP.noref rfl)))) (FzP.noref rfl))
theorem zuQ {zm:KZ}(d:Dk):FzP true zm d.k d.k:=by
 refine FzP.cons (FzP.noref rfl) (FzP.cons (FzP.noref rfl) (FzP.cons ?_ (FzP.noref rfl)))
 intro B C M h1 h2 m hr
 have e:(zta d.q d.f).v=(KV.ro true false .sc 0 d.q (.fa d.q (chR d.f))).v:=by
  show V.ro true false .sc d.q (fun i=>(chK d.f (0 + i)).v)=V.ro true false .sc d.q (fun i=>(chR d.f (0 + i)).v)
  simp only[zpP]
 rw[e] at hr ⊢
 refine R.allT_fr ?_ _ hr
 show nd true (ubK (.fa d.q (chR d.f)))=true
 rw[XG fun i=>zke _ _]; rfl
theorem zAG {d:Dk}(H:d.ok) {s n:Nat}{b:Nat→Nat}(hs:s < d.L) (hn:n≤1000):KOk (zuP d.L d.c d.q d.f s n b (dkK d.L (d.c + 1) d.q (vf d.f s (nxV (atK d.f s) true n b)))) :=
 KOk.tabB (zr.tab (l:=[(183,zq [roN n b] (roN n b))]) ⟨⟨YE.1,fun l K hs=>YE.2 l K (by
  obtain⟨rfl,hk⟩:=hs
  exact⟨(n,b),rfl,hn,hk⟩)⟩,trivial⟩) (l:=[(182,zq [dkK d.L d.c d.q d.f,nI s,.bool true,roN n b] (dkK d.L (d.c + 1) d.q (vf d.f s (nxV (atK d.f s) true n b))))]) ⟨⟨zz5.1,fun l K h=>zz5.2 l K (by
  obtain⟨rfl,hk⟩:=h
  exact⟨((d.L,d.c,d.q,d.f),s,true,n,b),rfl,⟨H,hs⟩,hk⟩)⟩,trivial⟩
theorem zFd {d:Dk}(H:d.ok) {z:Int}{n:Nat}{b:Nat→Nat}(hn:n≤1000):JFn Tryz.prog 111 true [d.k,.int .i64 z,roN n b] (zbw (wrD d z n b) (erW d z n)):=by
 cases z with
 | negSucc s =>
  have e1:erW d (.negSucc s) n=1:=if_pos (.inl (Int.negSucc_lt_zero s))
  have e2:wrD d (.negSucc s) n b=zDk:=if_neg (by rw[e1]; decide)
  rw[e1,e2]
  refine JFn.of (P:=Tryz.prog) zr rfl (c:=cOf 111) (mOf 111) Tryz.func111 (by kernel_rfl) fun B N hN=>?_
  rw[zkO] at hN
  rw[zkP]
  have:=JL.goR (B:=B) (N:=N) (mask:=mOf 111) (l1:=zbv) (l2:=[]) (Q:=retJ EO0 Tryz.f111 true (zbw zDk 1)) (n:=60) zr rfl (rOf 111) [] [] (lt0:=z7 (mOf 111) 0 [d.k,.int .i64 (.negSucc s),roN n b]) (lz0:=[]) (n0:=0) hN (by kernel_rfl) (by kernel_rfl) ?_
  ·rwa [List.append_nil] at this
  ·refine Eq.mpr (zAD d.L d.c d.q d.f s n b _ _) ?_
   intro tr zm hz hmb hi hr
   exact retJ.mk rfl ze9 zkQ hr
 | ofNat s =>
  have hq:=H.hq
  have hl:=H.hl
  by_cases hs:s < d.L
  ·have hE:=zAG (b:=b) H hs hn
   refine JFn.of (P:=Tryz.prog) hE rfl (c:=cOf 111) (mOf 111) Tryz.func111 (by kernel_rfl) fun B N hN=>?_
   rw[zkO] at hN
   rw[zkP]
   have:=JL.goR (B:=B) (N:=N) (mask:=mOf 111) (l1:=zbv) (l2:=[]) (Q:=retJ (zuP d.L d.c d.q d.f s n b (dkK d.L (d.c + 1) d.q (vf d.f s (nxV (atK d.f s) true n b)))) Tryz.f111 true (zbw (wrD d (.ofNat s) n b) (erW d (.ofNat s) n))) (n:=60) hE rfl (rOf 111) [] [] (lt0:=z7 (mOf 111) 0 [d.k,nI s,roN n b]) (lz0:=[]) (n0:=0) hN (by kernel_rfl) (by kernel_rfl) ?_
   ·rwa [List.append_nil] at this
   ·have hd:Nat.div s 64 < d.q:=by show s / 64 < d.q; omega
    have hz:¬ ((Int.ofNat s) < 0∨(d.L:Int)≤Int.ofNat s):=by
     rintro (h | h)
     ·exact absurd h (by simp)
     ·have:d.L≤s:=Int.ofNat_le.1 h
      omega
    refine Eq.mpr (zE8 d.L d.c d.q d.f s n b d.L (d.c + 1) d.q _ _ _) (zg.2 ⟨fun h=>absurd (j8.1 h) (by omega),fun _=>za.2 ⟨zH.2 (by show s / 64 < _; omega),za.2 ⟨xq.2 hd,za.2 ⟨xq.2 (Nat.mod_lt _ (by omega)),zg.2 ⟨fun h=>?_,fun h=>⟨rfl,rfl,?_⟩⟩⟩⟩⟩⟩)
    ·have h:=jS.1 h
     have e1:erW d (.ofNat s) n=3:=(if_neg hz).trans (if_pos h)
     have e2:wrD d (.ofNat s) n b=zDk:=if_neg (by rw[e1]; decide)
     rw[e1,e2]
     intro tr zm hz hmb hi hr
     exact retJ.mk rfl ze9 zkQ hr
    ·have h:=zog.1 h
     have e1:erW d (.ofNat s) n=0:=(if_neg hz).trans (if_neg (by omega))
     have e2:wrD d (.ofNat s) n b=⟨d.L,d.c + 1,d.q,vf d.f s (nxV (atK d.f s) true n b)⟩:=if_pos e1
     rw[e1,e2]
     intro tr zm hz hmb hi hr
     exact retJ.mk rfl ze9 (FzP.tup (FzP.cons (zuQ ⟨d.L,d.c + 1,d.q,vf d.f s (nxV (atK d.f s) true n b)⟩) (FzP.noref rfl))) hr
  ·have e1:erW d (.ofNat s) n=1:=if_pos (.inr (Int.ofNat_le.2 (by omega)))
   have e2:wrD d (.ofNat s) n b=zDk:=if_neg (by rw[e1]; decide)
   rw[e1,e2]
   have hE:KOk zkN:=KOk.tabB (zr.tab (l:=[(183,fun l K=>False)]) ⟨⟨⟨Tryz.f183,Tryz.func183,by kernel_rfl,by kernel_rfl⟩,fun l K h=>h.elim⟩,trivial⟩) (l:=[(182,fun l K=>False)]) ⟨⟨⟨Tryz.f182,Tryz.func182,by kernel_rfl,by kernel_rfl⟩,fun l K h=>h.elim⟩,trivial⟩
   refine JFn.of (P:=Tryz.prog) hE rfl (c:=cOf 111) (mOf 111) Tryz.func111 (by kernel_rfl) fun B N hN=>?_
   rw[zkO] at hN
   rw[zkP]
   have:=JL.goR (B:=B) (N:=N) (mask:=mOf 111) (l1:=zbv) (l2:=[]) (Q:=retJ zkN Tryz.f111 true (zbw zDk 1)) (n:=60) hE rfl (rOf 111) [] [] (lt0:=z7 (mOf 111) 0 [d.k,nI s,roN n b]) (lz0:=[]) (n0:=0) hN (by kernel_rfl) (by kernel_rfl) ?_
   ·rwa [List.append_nil] at this
   ·refine Eq.mpr (zAF d.L d.c d.q d.f s n b _ _) (zg.2 ⟨fun _=>?_,fun h=>absurd (zvm.1 h) (by omega)⟩)
    intro tr zm hz hmb hi hr
    exact retJ.mk rfl ze9 zkQ hr
abbrev zAH:=Dk×Int×Nat×(Nat→Nat)
theorem zkR:qo Tryz.prog 111 (xM (fun x:zAH=>[x.1.k,.int .i64 x.2.1,roN x.2.2.1 x.2.2.2]) (fun x=>x.1.ok∧x.2.2.1≤1000) fun x=>zbw (wrD x.1 x.2.1 x.2.2.1 x.2.2.2) (erW x.1 x.2.1 x.2.2.1)):=jC ⟨Tryz.f111,Tryz.func111,by kernel_rfl,by kernel_rfl⟩ fun x h=>zFd h.1 h.2
end
end Go.K
