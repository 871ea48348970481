/- The root's digest by the definition; the plan's law: its contracts. No condition. -/
import Derived.Test.YtkllahedaiddgaaGreatDoorPK1_0
import Derived.Test.YtkllahedaiddgaaGreatDoorPK2
import Derived.Test.YtkllahedaiddgaaGreatDoorPC0
set_option linter.unusedSimpArgs false
set_option linter.unusedVariables false
set_option maxRecDepth 100000
namespace Go.K
open Go.Ab Go.RowKit Go.Y Go.Proofs
noncomputable section
attribute [local instance 10000] gO
theorem p19 {n:Nat}(h:zD n=true):P19 n:=by
 obtain⟨n1,n2⟩:=zH h
 match n,n1,n2 with
 | 1,_,_=>exact zBy
 | 2,_,_=>exact zBz
 | 3,_,_=>exact zBA
 | 4,_,_=>exact zBB
 | 5,_,_=>exact zBC
 | 6,_,_=>exact zBD
 | 7,_,_=>exact zBE
 | 8,_,_=>exact zBF
 | 9,_,_=>exact zBG
 | 10,_,_=>exact zvG
 | 11,_,_=>exact zvH
 | 12,_,_=>exact zvI
 | 13,_,_=>exact zu7
 | 14,_,_=>exact zu8
 | 15,_,_=>exact zu9
 | 16,_,_=>exact zva
 | 17,_,_=>exact zvb
 | 18,_,_=>exact zvc
 | 19,_,_=>exact zuX
 | 20,_,_=>exact zuY
 | 21,_,_=>exact zuZ
 | 22,_,_=>exact zym
 | 23,_,_=>exact zyn
 | 24,_,_=>exact zyo
theorem p21 {n:Nat}(h:zD n=true):P21 n:=by
 obtain⟨n1,n2⟩:=zH h
 match n,n1,n2 with
 | 1,_,_=>exact zBH
 | 2,_,_=>exact zBI
 | 3,_,_=>exact zBJ
 | 4,_,_=>exact zBK
 | 5,_,_=>exact zBL
 | 6,_,_=>exact zBM
 | 7,_,_=>exact zBN
 | 8,_,_=>exact zBO
 | 9,_,_=>exact zBP
 | 10,_,_=>exact zvJ
 | 11,_,_=>exact zvK
 | 12,_,_=>exact zvL
 | 13,_,_=>exact zvd
 | 14,_,_=>exact zve
 | 15,_,_=>exact zvf
 | 16,_,_=>exact zvg
 | 17,_,_=>exact zvh
 | 18,_,_=>exact zvi
 | 19,_,_=>exact zu0
 | 20,_,_=>exact zu1
 | 21,_,_=>exact zu2
 | 22,_,_=>exact zyp
 | 23,_,_=>exact zyq
 | 24,_,_=>exact zyr
attribute [local irreducible] kpre cOf mOf rOf JL zp zk l19 l21 zh hS zi zx xh
theorem zIP:Tryz.f19.ntmps=64:=by kernel_rfl
theorem zIQ:Tryz.f19.results.toList=rOf 19:=by kernel_rfl
theorem zIR:fl (cOf 19)=l19:=by kernel_rfl
theorem zIS:Tryz.f21.ntmps=54:=by kernel_rfl
theorem zIT:Tryz.f21.results.toList=rOf 21:=by kernel_rfl
theorem zIU:fl (cOf 21)=l21:=by kernel_rfl
section
variable {n m:Nat}{u:Ud}
theorem zlq (H:UOk n m u) (t:KV) {i:Nat}(hi:i < n) {q:Prop}(hq:q):g19 t (tgS u) i q:=by
 have:=zsM H hi
 exact⟨rfl,zd.2 ⟨yF.2 this,zd.2 ⟨xb.2 (by show 1 - tgS u i < _; omega),zd.2 ⟨yF.2 (by show 1 - tgS u i≤1; omega),hq⟩⟩⟩⟩
theorem zES {i:Nat}(h:i < n):kpF n u i=Xy i (Nat.sub 1 (tgS u i)):=by
 unfold kpF
 rw[we.2 h]
theorem zET {i:Nat}(h:n≤i):kpF n u i=qA n (lvI n (Nat.sub i n)) (ixI n (Nat.sub i n)) (u.sl (Nat.sub i n)):=by
 unfold kpF
 have:Nat.blt i n=false:=by
  cases hb:Nat.blt i n with
  | false=>rfl
  | true=>exact absurd (we.1 hb) (by omega)
 rw[this]
noncomputable def zyz (n:Nat) (u:Ud) (i:Nat):Nat:=@Bool.rec (fun _=>Nat) (Wn n u u.sl (κn n (a19 n (xl n u) u.sl (Nat.sub i n)))).sc (Xy i (Nat.sub 1 (tgS u i))) (Nat.blt i n)
theorem zyA (H:UOk n m u) {i:Nat}(hi:i < n + m):zyz n u i=kpF n u i:=by
 unfold zyz kpF
 cases hb:Nat.blt i n with
 | true=>rfl
 | false =>
  have hn:¬ i < n:=fun h=>by rw[we.2 h] at hb; cases hb
  have hk:Nat.sub i n < m:=by show i - n < m; omega
  show (Wn n u u.sl (κn n (a19 n (xl n u) u.sl (Nat.sub i n)))).sc=_
  have e:κn n (a19 n (xl n u) u.sl (Nat.sub i n))=Nat.sub i n:=κn_eq H hk _ _
  rw[e]
  show qA n (xl n u (Nat.sub i n)).lv (xl n u (Nat.sub i n)).ix _=_
  rw[(jZ H hk).1,(jZ H hk).2]
noncomputable def zyB (n m:Nat) (u:Ud):KV:=.tup (.cons (inK (n + m) (kpF n u) true) (.cons (nI 0) .nl))
theorem j19 (H:UOk n m u) (V:UV n u):JFn Tryz.prog 19 false [trK n m (cU n u)] (zyB n m u):=by
 obtain rfl:m=zi n:=H.tot
 have hE:=zHl H V
 refine JFn.of (P:=Tryz.prog) hE rfl (c:=cOf 19) (mOf 19) Tryz.func19 (by kernel_rfl) fun B N hN=>?_
 rw[zIP] at hN
 rw[zIR]
 have:=JL.goR (B:=B) (N:=N) (mask:=mOf 19) (l1:=l19) (l2:=[]) (Q:=retJ (E19 (Pn n (zi n) u u.sl) (κn n) (Wn n u u.sl) (trK n (zi n) (cU n u)) n (tgS u)) Tryz.f19 false (zyB n (zi n) u)) (n:=60) hE rfl (rOf 19) [] [vZ n] (lt0:=xd (mOf 19) 0 [trK n (zi n) (cU n u)]) (lz0:=[]) (n0:=0) hN (by kernel_rfl) (by kernel_rfl) ?_
 ·rwa [List.append_nil] at this
 ·refine Eq.mpr (p19 H.n24 (Pn n (zi n) u u.sl) (κn n) (Wn n u u.sl) (tgS u) (xl n u) u.sl (fun k=>(cU n u k).di) (fun k=>(cU n u k).ch) _ _) ?_
  refine⟨rfl,y8 (y8 ?_ fun k hk q hq=>⟨⟨k,hk,rfl⟩,hq⟩) fun i hi q hq=>zlq H _ hi hq⟩
  intro tr zm hz hmb hi hr
  have h1:kb zm (vZ n)=some (QV (n + zi n) fun i=>nI (zyz n u i)):=congrArg (fun l=>l.getD 0 none) hz
  exact retJ.mk rfl zIQ (FzP.tup (FzP.cons (zB5 h1 fun i hi=>zyA H hi) (FzP.cons (FzP.noref rfl) (FzP.noref rfl)))) hr
theorem zIV (H:UOk n m u):KCS Tryz.prog 36 (zw1 (uK n m u) n (tgS u)):=⟨zxP.1,fun l K h=>zxP.2 l K (by
 obtain⟨a,b,rfl,h1⟩:=qt h
 obtain⟨i,rfl,h2,h3⟩:=zu h1
 obtain⟨h4,h5⟩:=zd.1 h3
 cases h2
 exact⟨(n,m,u,i),rfl,⟨we.1 h4,H.st i (we.1 h4)⟩,h5⟩)⟩
theorem zIW:KCS Tryz.prog 35 zw2:=⟨zsO.1,fun l K h=>zsO.2 l K (by
 obtain⟨b,c,rfl,h1⟩:=qt h
 obtain⟨i,rfl,k1⟩:=zu h1
 obtain⟨s,rfl,k2⟩:=zu k1
 obtain⟨h4,h5⟩:=zd.1 k2
 obtain⟨q1,q2⟩:=za.1 h4
 exact⟨⟨we.1 q1,yF.1 q2⟩,h5⟩)⟩
theorem zIX:KCS Tryz.prog 82 zw3:=⟨zcK.1,fun l K h=>zcK.2 l K (by
 obtain⟨a,b,c,rfl,h1⟩:=ZW h
 obtain⟨n,rfl,k1⟩:=zu h1
 obtain⟨i,rfl,k2⟩:=zu k1
 obtain⟨j,rfl,k3⟩:=zu k2
 obtain⟨h4,h5⟩:=zd.1 k3
 obtain⟨q1,q2⟩:=za.1 h4
 obtain⟨q2,q3⟩:=za.1 q2
 exact⟨⟨q1,yF.1 q2,we.1 q3⟩,h5⟩)⟩
theorem zIY:KCS Tryz.prog 27 zw4:=⟨Q7.1,fun l K h=>Q7.2 l K (by
 obtain⟨a,b,c,d,rfl,h1⟩:=QU h
 obtain⟨n,rfl,k1⟩:=zu h1
 obtain⟨i,rfl,k2⟩:=zu k1
 obtain⟨j,rfl,k3⟩:=zu k2
 obtain⟨s,rfl,k4⟩:=zu k3
 obtain⟨h4,h5⟩:=zd.1 k4
 obtain⟨q1,q2⟩:=za.1 h4
 obtain⟨q2,q3⟩:=za.1 q2
 exact⟨⟨q1,q2,yF.1 q3⟩,h5⟩)⟩
theorem zIZ (H:UOk n m u):KOk (E21 (uK n m u) n (tgS u)) :=
 zo2 (zI.tab (l:=[(28,ziR),(81,za2),(82,zw3),(36,zw1 (uK n m u) n (tgS u)),(35,zw2),(27,zw4)]) ⟨zCM,zsV,zIX,zIV H,zIW,zIY,trivial⟩)
theorem j21 (H:UOk n m u):JFn Tryz.prog 21 false [uK n m u] (inK (n + m) (kpF n u) false):=by
 obtain rfl:m=zi n:=H.tot
 have hE:=zIZ H
 refine JFn.of (P:=Tryz.prog) hE rfl (c:=cOf 21) (mOf 21) Tryz.func21 (by kernel_rfl) fun B N hN=>?_
 rw[zIS] at hN
 rw[zIU]
 have:=JL.goR (B:=B) (N:=N) (mask:=mOf 21) (l1:=l21) (l2:=[]) (Q:=retJ (E21 (uK n (zi n) u) n (tgS u)) Tryz.f21 false (inK (n + zi n) (kpF n u) false)) (n:=60) hE rfl (rOf 21) [] [v4 n] (lt0:=xd (mOf 21) 0 [uK n (zi n) u]) (lz0:=[]) (n0:=0) hN (by kernel_rfl) (by kernel_rfl) ?_
 ·rwa [List.append_nil] at this
 ·refine Eq.mpr (p21 H.n24 (tgS u) u _ _) ?_
  refine y8 (y8 ?_ fun k hk q hq=>zd.2 ⟨yF.2 (H.sl k hk),hq⟩) fun i hi q hq=>zlq H _ hi hq
  intro tr zm hz hmb hi hr
  have h1:kb zm (v4 n)=some (QV (n + zi n) fun i=>nI (kpF n u i)):=congrArg (fun l=>l.getD 0 none) hz
  exact retJ.mk rfl zIT (zB6 h1 fun i hi=>rfl) hr
theorem zI0 (H:UOk n m u) (V:UV n u):KCS Tryz.prog 19 (va [trK n m (cU n u)] (zyB n m u)):=zoh ⟨Tryz.f19,Tryz.func19,by kernel_rfl,by kernel_rfl⟩ fun l K h=>by
 obtain⟨rfl,h2⟩:=h
 exact⟨_,h2,j19 H V⟩
theorem zI1 (H:UOk n m u):KCS Tryz.prog 21 (va [uK n m u] (inK (n + m) (kpF n u) false)):=zoh ⟨Tryz.f21,Tryz.func21,by kernel_rfl,by kernel_rfl⟩ fun l K h=>by
 obtain⟨rfl,h2⟩:=h
 exact⟨_,h2,j21 H⟩
end
end
end Go.K
set_option maxRecDepth 100000
namespace Go.K
open Go.Ab Go.RowKit Go.Y Go.Proofs
noncomputable section
attribute [local instance 10000] gO
theorem Z7 {n:Nat}(hn:zD n=true):isS n (hS n) 0=true:=by
 obtain⟨n1,n2⟩:=zH hn
 obtain⟨m,rfl⟩:∃ m,n=Nat.succ m:=⟨n - 1,by omega⟩
 have hd:∀ m:Fin 24,isS (Nat.succ m.1) (hS (Nat.succ m.1)) 0=true:=by decide
 exact hd ⟨m,by omega⟩
noncomputable def sOt (u:Ud) (k:Nat):Nat:=Nat.sub 1 (u.sl k)
noncomputable def P66 (n m:Nat) (u:Ud) (l:List KV):Prop:=∃ k,k < m∧l=[(xl n u k).k]
noncomputable def κb (n:Nat) (l:List KV):Nat:=match l with
 | [b]=>zh n (lvK b) (ixK b)
 | _=>0
noncomputable def wPl (n m:Nat) (u:Ud) (i:Nat):Wd:=Wn n u (sOt u) (nN (wL m (xe n u)) i)
attribute [local irreducible] kpre cOf mOf rOf JL zp zk zkq l24 zh hS zi zx xh xe
theorem zJy:Tryz.f18.ntmps=46:=by kernel_rfl
theorem zFA:Tryz.f18.results.toList=rOf 18:=by kernel_rfl
theorem zJz:fl (cOf 18)=zkq:=by kernel_rfl
theorem zJA:Tryz.f24.ntmps=65:=by kernel_rfl
theorem zJB:Tryz.f24.results.toList=rOf 24:=by kernel_rfl
theorem zJC:fl (cOf 24)=l24:=by kernel_rfl
section
variable {n m:Nat}{u:Ud}
theorem zFB (u:Ud) (k:Nat):sOt u k≤1:=by show 1 - u.sl k≤1; omega
theorem zms (H:UOk n m u):cU n u=cPt m (xe n u) (xl n u) u.sl (fun k=>(cU n u k).di) (fun k=>(cU n u k).ch):=funext fun k=>by
 show Un.mk (xl n u k) (.ofNat (u.sl k)) (z8 n u (lvI n k) (ixI n k)) (cU n u k).ch=Un.mk (xl n u k) (.ofNat (u.sl k)) (Yt (Nat.blt k m) (dP m (xe n u) k) (z8 n u (lvI n k) (ixI n k))) (cU n u k).ch
 congr 1
 cases hb:Nat.blt k m with
 | false=>rfl
 | true=>exact ((Yw H).2 k (we.1 hb)).symm
theorem Wa {k:Nat}(H:UOk n (Nat.succ k) u):xl n u k=xD n u (hS n) 0:=by
 have h1:zh n (hS n) 0=k:=by
  have:=H.tot
  unfold zi at this
  exact (Nat.succ.inj this).symm
 have hp:isS n (hS n) 0=true:=Z7 H.n24
 obtain⟨e1,e2⟩:=zcv H.n24 hp
 rw[h1] at e1 e2
 unfold xl
 rw[e1,e2]
noncomputable def DgR (n m:Nat) (u:Ud):List Nat:=(xl n u (Nat.sub m 1)).dg
theorem zJD (H:UOk n m u) (V:UV n u):KOk (E18 (Pn n m u (sOt u)) (κn n) (Wn n u (sOt u)) (trK n m (cU n u)) (DgR n m u)):=by
 obtain⟨k,rfl⟩:∃ k,m=Nat.succ k:=⟨zh n (hS n) 0,by rw[H.tot]; unfold zi; rfl⟩
 exact zo2 (KOk.tabB (zI.tab (l:=[(89,va [trK n (Nat.succ k) (cU n u)] (zEp (DgR n (Nat.succ k) u)))]) ⟨zH3 H V,trivial⟩) ⟨zB4 H V fun k _=>zFB u k,trivial⟩)
theorem FzE.ub {zm:KZ}{v:KV}(h:ubK v=true):FzE true zm v.v v.v:=fun B C M _ _=>R.allT_fr h
theorem zzy (D:List Nat) (e mk:Nat):xi (Jr D e mk).v=true:=by kernel_rfl
noncomputable def zzz (n m:Nat) (u:Ud) (e mk:Nat):KV:=.tup (.cons (wrP (nW m (xe n u)) (wPl n m u)) (.cons (Jr (DgR n m u) (Nat.mod (Nat.add e 1) 18446744073709551616) mk) (.cons (nI 0) .nl)))
theorem zFC (H:UOk n m u) (V:UV n u) {r:List Nat}{e mk:Nat}(he:e < 65536) {w:KV}
  (h1:e % 2≠u.sl (m - 1)→w=zqC 1)
  (h2:e % 2=u.sl (m - 1)→w=zzz n m u e mk):JFn Tryz.prog 18 true [trK n m (cU n u),Jr r e mk] w:=by
 obtain⟨hp,hd⟩:=Yw H
 have hm:=H.tot
 have hE:=zJD H V
 refine JFn.of (P:=Tryz.prog) hE rfl (c:=cOf 18) (mOf 18) Tryz.func18 (by kernel_rfl) fun B N hN=>?_
 rw[zJy] at hN
 rw[zJz]
 have:=JL.goR (B:=B) (N:=N) (mask:=mOf 18) (l1:=zkq) (l2:=[]) (Q:=retJ (E18 (Pn n m u (sOt u)) (κn n) (Wn n u (sOt u)) (trK n m (cU n u)) (DgR n m u)) Tryz.f18 true w) (n:=60) hE rfl (rOf 18) [] [zcB m (xe n u)] (lt0:=xd (mOf 18) 0 [trK n m (cU n u),Jr r e mk]) (lz0:=[]) (n0:=0) hN (by kernel_rfl) (by kernel_rfl) ?_
 ·rwa [List.append_nil] at this
 ·have hP:P18 m (xe n u):=by
   rw[hm] at hp ⊢
   exact (zDR H.n24 hp).1
  have:=hP (Pn n m u (sOt u)) (κn n) (Wn n u (sOt u)) (DgR n m u) r n (xl n u) u.sl (fun k=>(cU n u k).di) (fun k=>(cU n u k).ch) e mk (goQ (mOf 18) [] [zcB m (xe n u)] (nxt (E18 (Pn n m u (sOt u)) (κn n) (Wn n u (sOt u)) (trK n m (cU n u)) (DgR n m u)) B N (mOf 18) [] (retJ (E18 (Pn n m u (sOt u)) (κn n) (Wn n u (sOt u)) (trK n m (cU n u)) (DgR n m u)) Tryz.f18 true w))) (goR Tryz.prog (rOf 18) (mOf 18) [zcB m (xe n u)] (retJ (E18 (Pn n m u (sOt u)) (κn n) (Wn n u (sOt u)) (trK n m (cU n u)) (DgR n m u)) Tryz.f18 true w))
  rw[←zms H] at this
  unfold d18 at this
  rw[←zms H] at this
  refine Eq.mpr this ?_
  refine⟨rfl,zd.2 ⟨xb.2 (by omega),zo.2 ⟨fun q=>?_,fun q=>zo.2 ⟨fun q2=>?_,fun q2=>?_⟩⟩⟩⟩
  ·have hne:e % 2≠u.sl (m - 1):=fun hq=>by
    rw[show eqN (u.sl (Nat.sub m 1)) (e % 2)=true from yE.2 hq.symm] at q
    cases q
   intro tr zm hz hmb hi hr
   rw[h1 hne]
   exact retJ.mk rfl zFA (FzP.noref rfl) hr
  ·have:e=18446744073709551615:=j1.1 q2
   omega
  ·have heq:e % 2=u.sl (m - 1):=Classical.byContradiction fun hq=>by
    rw[show eqN (u.sl (Nat.sub m 1)) (e % 2)=false from zse.2 fun h=>hq h.symm] at q
    cases q
   refine y8 ?_ fun k hk q hq=>?_
   ·intro tr zm hz hmb hi hr
    rw[h2 heq]
    have h3:kb zm (zcB m (xe n u))=some (ztk m (xe n u) (κn n) (Wn n u (sOt u)) n (xl n u) u.sl):=congrArg (fun l=>l.getD 0 none) hz
    refine retJ.mk rfl zFA (FzP.tup (FzP.cons (FzP.slC h3 rfl (by unfold qm; simp) rfl rfl fun i hi=>?_) (FzP.cons (FzP.noref (zzy _ _ _)) (FzP.noref rfl)))) hr
    have e2:KV.atv (@Nat.rec (fun _=>KV) .te (fun i t=>xk ((Wn n u (sOt u) (κn n (a18 n (xl n u) u.sl (nN (wL m (xe n u)) i)))).k) (enc i) t) (nW m (xe n u))) (enc (0 + i)) zW.v=(wPl n m u i).k.v:=by
     rw[Nat.zero_add]
     refine (vY (f:=fun i=>(Wn n u (sOt u) (κn n (a18 n (xl n u) u.sl (nN (wL m (xe n u)) i)))).k) (z:=zW.v) hi).trans ?_
     have e3:κn n (a18 n (xl n u) u.sl (nN (wL m (xe n u)) i))=nN (wL m (xe n u)) i:=κn_eq H (zeA hi) _ _
     show (Wn n u (sOt u) (κn n (a18 n (xl n u) u.sl (nN (wL m (xe n u)) i)))).k.v=_
     rw[e3]
     rfl
    show FzE true zm (KV.atv (@Nat.rec (fun _=>KV) .te (fun i t=>xk ((Wn n u (sOt u) (κn n (a18 n (xl n u) u.sl (nN (wL m (xe n u)) i)))).k) (enc i) t) (nW m (xe n u))) (enc (0 + i)) zW.v) (wPl n m u i).k.v
    rw[e2]
    exact FzE.ub (zBx _)
   ·show @Bool.rec (fun _=>Prop) q _ (wrB m (xe n u) k)
    cases wrB m (xe n u) k with
    | false=>exact hq
    | true =>
     have:=H.sl k hk
     exact zd.2 ⟨yF.2 this,zd.2 ⟨xb.2 (by show 1 - u.sl k < _; omega),⟨k,hk,rfl⟩,hq⟩⟩
end
end
end Go.K
set_option maxRecDepth 100000
namespace Go.K
open Go.Ab Go.RowKit Go.Y Go.Proofs
noncomputable section
attribute [local instance 10000] gO
attribute [local irreducible] kpre cOf mOf rOf JL zp zk zkq l24 zh hS zi zx xh xe
section
variable {n m:Nat}{u:Ud}
theorem κb_eq (H:UOk n m u) {k:Nat}(hk:k < m):κb n [(xl n u k).k]=k:=by
 show zh n (xl n u k).lv (xl n u k).ix=k
 rw[(jZ H hk).1,(jZ H hk).2]
 exact Ye H.n24 (by rw[←H.tot]; exact hk)
theorem isR (H:UOk n m u) {l j:Nat}(h:isS (nR m) l j=true):l≤2∧isS n l j=true∧zh (nR m) l j=zh n l j∧zh n l j < m∧lvI n (zh n l j)=l∧ixI n (zh n l j)=j:=by
 obtain rfl:m=zi n:=H.tot
 have hn:=H.n24
 obtain⟨_,_,_,_,_,_,hR,_⟩:=Zf hn
 have hl:=(xg hR h).1
 have h1:isS n l j=true:=by
  unfold isS
  rw[zld hn hl]
  exact h
 obtain⟨e1,e2⟩:=zcv hn h1
 exact⟨hl,h1,(Yv hn hl j).symm,qY hn h1,e1,e2⟩
theorem ziG (H:UOk n m u) {k:Nat}(hk:k < m):(xl n u k).wb:=by
 have hp:=QS H.n24 (by rw[←H.tot]; exact hk)
 exact (qd (now:=xf n u) H.n24 (fun i hi=>⟨H.wl i hi,H.wb i hi⟩) _ _ hp).2.1
theorem zsT {x:Nd}(h:x.wb) (i:Nat):nN (byL x) i < 256:=by
 refine wN (by omega) ?_ i
 unfold byL
 cases x.lv with
 | zero=>exact zeG h
 | succ l=>exact YB h
theorem zHB (H:UOk n m u):KCS Tryz.prog 28 (t28 n m):=⟨kHt.1,fun l K h=>kHt.2 l K (by
 obtain⟨rfl,h1⟩:=h
 rw[H.tot,←(Zf H.n24).2.2.1] at h1
 exact⟨H.n24,h1⟩)⟩
theorem zHC (H:UOk n m u):KCS Tryz.prog 81 (t81 n m):=⟨znc.1,fun l K h=>znc.2 l K (by
 obtain⟨a,b,rfl,h1⟩:=qt h
 obtain⟨l,rfl,h2⟩:=zu h1
 obtain⟨h3,rfl,h4⟩:=zd.1 h2
 have hl:=yF.1 h3
 rw[H.tot,←zld H.n24 hl] at h4
 exact⟨⟨H.n24,hl⟩,h4⟩)⟩
theorem zHD (H:UOk n m u):KCS Tryz.prog 82 (t82 n m):=⟨zcK.1,fun l K h=>zcK.2 l K (by
 obtain⟨a,b,c,rfl,h1⟩:=ZW h
 obtain⟨l,rfl,h2⟩:=zu h1
 obtain⟨j,rfl,h3⟩:=zu h2
 obtain⟨h4,rfl,h5⟩:=zd.1 h3
 obtain⟨q1,q2,q3,q4,_⟩:=isR H h4
 rw[q3] at h5
 have:=(xg H.n24 q2).2
 exact⟨⟨H.n24,q1,by omega⟩,h5⟩)⟩
theorem zHE (H:UOk n m u):KCS Tryz.prog 88 (t88 (uK n m u) m (xe n u)):=⟨znk.1,fun l K h=>znk.2 l K (by
 obtain⟨a,b,c,rfl,h1⟩:=ZW h
 obtain⟨l,rfl,h2⟩:=zu h1
 obtain⟨j,rfl,h3⟩:=zu h2
 obtain⟨h4,h6,h5⟩:=zd.1 h3
 cases h6
 obtain⟨q1,q2,q3,q4,q5,q6⟩:=isR H h4
 rw[q3,(Yw H).2 _ q4,q5,q6] at h5
 exact⟨(n,m,u,l,j),rfl,⟨(zH H.n24).2,q1⟩,h5⟩)⟩
theorem zHF (H:UOk n m u):KCS Tryz.prog 27 (t27 n m u.sl (Wn n u (sOt u))):=⟨Q7.1,fun l K h=>Q7.2 l K (by
 obtain⟨a,b,c,d,rfl,h1⟩:=QU h
 obtain⟨l,rfl,h2⟩:=zu h1
 obtain⟨j,rfl,h3⟩:=zu h2
 obtain⟨h4,h6,h5⟩:=zd.1 h3
 cases h6
 obtain⟨q1,q2,q3,q4,q5,q6⟩:=isR H h4
 rw[q3] at h5
 refine⟨⟨H.n24,q2,by show 1 - _≤1; omega⟩,?_⟩
 rw[q3]
 have e:(Wn n u (sOt u) (zh n l j)).sc=qA n l j (Nat.sub 1 (u.sl (zh n l j))):=by
  show qA n (xl n u (zh n l j)).lv (xl n u (zh n l j)).ix _=_
  rw[(jZ H q4).1,(jZ H q4).2,q5,q6]
  rfl
 rw[e] at h5
 exact h5)⟩
theorem zHG (H:UOk n m u):KCS Tryz.prog 44 (t44 (xU n u.rc) (jc n m u) m (xl n u)):=⟨zq7.1,fun l K h=>by
 obtain rfl:m=zi n:=H.tot
 exact (ziS H).2 l K (by
  obtain⟨a,b,c,d,rfl,h1⟩:=QU h
  obtain⟨l,rfl,h2⟩:=zu h1
  obtain⟨j,rfl,h3⟩:=zu h2
  obtain⟨h4,h6,h5⟩:=zd.1 h3
  cases h6
  obtain⟨q1,q2,q3,q4,q5,q6⟩:=isR H h4
  rw[q3] at h5
  have e:xl n u (zh n l j)=xD n u l j:=by unfold xl; rw[q5,q6]
  rw[e] at h5
  exact⟨rfl,zd.2 ⟨q2,h5⟩⟩)⟩
theorem zHH (H:UOk n m u):ZK Tryz.prog 66 (t66 (P66 n m u) (κb n) (Wn n u (sOt u))):=KCS.b ⟨zEl.1,fun l K h=>zEl.2 l K (by
 obtain⟨⟨k,hk,rfl⟩,h2⟩:=h
 rw[κb_eq H hk] at h2
 refine⟨xl n u k,rfl,trivial,?_⟩
 rw[zCW (ziG H hk),zsA]
 exact h2)⟩
theorem zCE (H:UOk n m u):KCS Tryz.prog 26 (va [uK n m u] (jc n m u)):=⟨zfz.1,fun l K hk=>zfz.2 l K (by
 obtain⟨rfl,hk⟩:=hk
 exact⟨(n,m,u),rfl,H,hk⟩)⟩
theorem zHI (H:UOk n m u):KOk (E24 (P66 n m u) (κb n) (Wn n u (sOt u)) (xl n u) n m (xe n u) u) :=
 zo2 (KOk.tabB (zI.tab (l:=[(28,t28 n m),(26,va [uK n m u] (jc n m u)),(81,t81 n m),(88,t88 (uK n m u) m (xe n u)),(82,t82 n m),(27,t27 n m u.sl (Wn n u (sOt u))),(44,t44 (xU n u.rc) (jc n m u) m (xl n u))]) ⟨zHB H,zCE H,zHC H,zHE H,zHD H,zHF H,zHG H,trivial⟩) ⟨zHH H,trivial⟩)
theorem zen (H:UOk n m u) {k:Nat}(hk:k < m):zbg (κb n) (Wn n u (sOt u)) (xl n u) k=Wn n u (sOt u) k:=by
 unfold zbg
 rw[κb_eq H hk]
theorem ziH (y:Wd):xi y.r.v=true:=by kernel_rfl
theorem j24 (H:UOk n m u):JFn Tryz.prog 24 false [uK n m u] (wrR (nW m (xe n u)) (wPl n m u)):=by
 obtain⟨hp,hd⟩:=Yw H
 have hm:=H.tot
 have hE:=zHI H
 have hP:P24 m (xe n u):=by
  rw[hm] at hp ⊢
  exact (zDR H.n24 hp).2
 obtain⟨_,_,_,_,_,_,hR,hRt⟩:=Zf H.n24
 rw[←hm] at hR hRt
 refine JFn.of (P:=Tryz.prog) hE rfl (c:=cOf 24) (mOf 24) Tryz.func24 (by kernel_rfl) fun B N hN=>?_
 rw[zJA] at hN
 rw[zJC]
 have:=JL.goR (B:=B) (N:=N) (mask:=mOf 24) (l1:=l24) (l2:=[]) (Q:=retJ (E24 (P66 n m u) (κb n) (Wn n u (sOt u)) (xl n u) n m (xe n u) u) Tryz.f24 false (wrR (nW m (xe n u)) (wPl n m u))) (n:=60) hE rfl (rOf 24) [] [zkr m (xe n u)] (lt0:=xd (mOf 24) 0 [uK n m u]) (lz0:=[]) (n0:=0) hN (by kernel_rfl) (by kernel_rfl) ?_
 ·rwa [List.append_nil] at this
 ·refine Eq.mpr (hP (P66 n m u) (κb n) (Wn n u (sOt u)) (xl n u) n u _ _) ?_
  refine⟨rfl,rfl,y8 ?_ fun l hl q hq=>y8 ⟨rfl,hq⟩ fun j hj q hq=>?_⟩
  ·intro tr zm hz hmb hi hr
   have h3:kb zm (zkr m (xe n u))=some (ztl m (xe n u) (κb n) (Wn n u (sOt u)) (xl n u)):=congrArg (fun l=>l.getD 0 none) hz
   refine retJ.mk rfl zJB (FzP.row h3 rfl rfl fun i hi B C M h4 h5 mm hr=>?_) hr
   have e2:KV.atv (@Nat.rec (fun _=>KV) .te (fun i t=>xk ((zbg (κb n) (Wn n u (sOt u)) (xl n u) (nN (wL m (xe n u)) i)).r) (enc i) t) (nW m (xe n u))) (enc i) zR'.v=(wPl n m u i).r.v:=by
    refine (vY (f:=fun i=>(zbg (κb n) (Wn n u (sOt u)) (xl n u) (nN (wL m (xe n u)) i)).r) (z:=zR'.v) hi).trans ?_
    show (zbg (κb n) (Wn n u (sOt u)) (xl n u) (nN (wL m (xe n u)) i)).r.v=_
    rw[zen H (zeA hi)]
    rfl
   have hr':R C (KV.atv (@Nat.rec (fun _=>KV) .te (fun i t=>xk ((zbg (κb n) (Wn n u (sOt u)) (xl n u) (nN (wL m (xe n u)) i)).r) (enc i) t) (nW m (xe n u))) (enc i) zR'.v) mm:=hr
   rw[e2] at hr'
   exact R.noref _ (ziH _) hr'
  ·have his:isS (nR m) l j=true:=qe.2 hj
   obtain⟨q1,q2,q3,q4,q5,q6⟩:=isR H his
   refine⟨rfl,rfl,?_⟩
   rw[q3]
   cases wrB m (xe n u) (zh n l j) with
   | false=>exact hq
   | true =>
    have:=H.sl _ q4
    refine⟨rfl,zd.2 ⟨yF.2 this,zd.2 ⟨xb.2 (by show 1 - u.sl (zh n l j) < _; omega),rfl,rfl,⟨zh n l j,q4,rfl⟩,zd.2 ⟨?_,hq⟩⟩⟩⟩
    rw[zen H q4]
    exact znl fun i=>zsT (ziG H q4) i
theorem zHJ (H:UOk n m u):KCS Tryz.prog 24 (va [uK n m u] (wrR (nW m (xe n u)) (wPl n m u))):=zoh ⟨Tryz.f24,Tryz.func24,by kernel_rfl,by kernel_rfl⟩ fun l K h=>by
 obtain⟨rfl,h2⟩:=h
 exact⟨_,h2,j24 H⟩
end
end
end Go.K
set_option maxRecDepth 100000
namespace Go.K
open Go.Ab Go.RowKit Go.Y Go.Proofs
noncomputable section
attribute [local instance 10000] gO
noncomputable def E25 (rs now:KV) (n h:Nat) (F:Nd):KEnv:=EO0.tab [(28,va [nI n] (nI h)),(44,va [rs,now,nI h,nI 0] F.k),(55,Q6)]
noncomputable def p25 (n m:Nat) (u:Ud) (h:Nat) (F:Nd) (K:KV→Prop):Prop:=zk (E25 (xU n u.rc) (jc n m u) n h F) (zp (E25 (xU n u.rc) (jc n m u) n h F) 60) 0 25 [xU n u.rc,jc n m u] .e 0 0 fun r _ _ _=>K r
theorem e25 (n m:Nat) (u:Ud) (h:Nat) (F:Nd) (K:KV→Prop):p25 n m u h F K=([nI n]=[nI n]∧[xU n u.rc,jc n m u,nI h,nI 0]=[xU n u.rc,jc n m u,nI h,nI 0]∧zlp F.nf∧K (kBy 32 (nN F.nf.dg))):=by kernel_rfl
attribute [local irreducible] kpre cOf mOf rOf JL zp zk zh hS zi zx xh xe qA Xy
section
variable {n m:Nat}{u:Ud}
theorem ztA (hn:zD n=true):KCS Tryz.prog 28 (va [nI n] (nI (hS n))):=⟨kHt.1,fun l K h=>kHt.2 l K (by
 obtain⟨rfl,h1⟩:=h
 exact⟨hn,h1⟩)⟩
theorem zFc (H:UOk n m u):KCS Tryz.prog 44 (va [xU n u.rc,jc n m u,nI (hS n),nI 0] (xD n u (hS n) 0).k):=⟨zq7.1,fun l K h=>by
 obtain rfl:m=zi n:=H.tot
 obtain⟨rfl,h1⟩:=h
 exact (ziS H).2 _ K ⟨rfl,zd.2 ⟨Z7 H.n24,h1⟩⟩⟩
theorem zFd (l:List Nat):xi (kBy 32 (nN l)).v=true:=by kernel_rfl
theorem zJj {k:Nat}(H:UOk n (Nat.succ k) u) (V:UV n u):KCS Tryz.prog 25 (va [xU n u.rc,jc n (Nat.succ k) u] (kBy 32 (nN (DgR n (Nat.succ k) u)))):=jV ⟨Tryz.f25,Tryz.func25,by kernel_rfl,by kernel_rfl⟩ fun l K hs=>by
 obtain⟨rfl,hk⟩:=hs
 have hd:DgR n (Nat.succ k) u=(xD n u (hS n) 0).dg:=by
  show (xl n u k).dg=_
  rw[Wa H]
 rw[hd] at hk
 obtain⟨w1,w2,w3,w4⟩:=Jy H V (Z7 H.n24)
 refine⟨E25 (xU n u.rc) (jc n (Nat.succ k) u) n (hS n) (xD n u (hS n) 0),zI.tab (l:=[(28,va [nI n] (nI (hS n))),(44,va [xU n u.rc,jc n (Nat.succ k) u,nI (hS n),nI 0] (xD n u (hS n) 0).k),(55,Q6)]) ⟨ztA H.n24,zFc H,zeK,trivial⟩,rfl,60,fun r=>r=kBy 32 (nN (xD n u (hS n) 0).dg),_,hk,zFd _,fun r hr=>by rw[hr]; exact Imp.refl _,Eq.mpr (e25 n (Nat.succ k) u (hS n) (xD n u (hS n) 0) _) ⟨rfl,rfl,⟨ziU w1 w2,w3.2⟩,?_⟩⟩
 rw[QW w1]
theorem zyT (H:UOk n m u) {i j:Nat}(hi:i < nW m (xe n u)) (hj:j < n + m):(wPl n m u i).sc≠kpF n u j:=by
 have hk:=zeA hi
 have hs:=H.sl _ hk
 obtain⟨e1,e2⟩:=jZ H hk
 have hm:=H.tot
 have es:(wPl n m u i).sc=2 * (n + nN (wL m (xe n u)) i) + (1 - u.sl (nN (wL m (xe n u)) i)):=by
  show qA n (xl n u (nN (wL m (xe n u)) i)).lv (xl n u (nN (wL m (xe n u)) i)).ix (1 - u.sl (nN (wL m (xe n u)) i))=_
  rw[e1,e2]
  unfold qA
  rw[Ye H.n24 (by rw[←hm]; exact hk)]
  rfl
 rw[es]
 by_cases h:j < n
 ·rw[zES h]
  have:=zsM H h
  unfold Xy
  show 2 * (n + nN (wL m (xe n u)) i) + _≠2 * j + (1 - tgS u j)
  omega
 ·rw[zET (by omega)]
  have hq:j - n < m:=by omega
  have hs2:=H.sl _ hq
  unfold qA
  show 2 * (n + nN (wL m (xe n u)) i) + _≠2 * (n + zh n (lvI n (j - n)) (ixI n (j - n))) + u.sl (j - n)
  rw[Ye H.n24 (by rw[←hm]; exact hq)]
  by_cases e:nN (wL m (xe n u)) i=j - n
  ·rw[e] at hs ⊢
   omega
  ·omega
noncomputable def yOf (x:Sd) (n k l:Nat) (u:Ud) (e:Nat):L3:=⟨x,n,k,u,cU n u,wPl n (Nat.succ k) u,l,n + Nat.succ k,kpF n u,DgR n (Nat.succ k) u,e⟩
theorem zFe {x:Sd}{k l e z:Nat}{r:KV}(h22:KCS Tryz.prog 22 (xG [] (.bool true))) (hx:preS x) (hn:nM x.t=n) (hu:zdd x=u) (H:UOk n (Nat.succ k) u) (V:UV n u) (hl:nW (Nat.succ k) (xe n u)=Nat.succ l)
  (hz:z=qA n (hS n) 0 ((yOf x n k l u e).e1 % 2)) (h18:ZK Tryz.prog 18 (va [(yOf x n k l u e).t,(yOf x n k l u e).cel] r)):KOk (E3 (yOf x n k l u e) r z):=by
 obtain⟨n1,n2⟩:=zH H.n24
 have h9:=jK H.n24
 have hm:=H.tot
 refine KOk.tabB (zI.tab (l:=(27,va [nI n,nI (hS n),nI 0,nI ((yOf x n k l u e).e1 % 2)] (nI z))::ct3 (yOf x n k l u e) (xG [] (.bool true))) ⟨?_,?_,?_,?_,?_,?_,h22,?_,?_,?_,?_,?_,trivial⟩) ⟨?_,h18,trivial⟩
 ·exact⟨Q7.1,fun l' K h=>Q7.2 l' K (by
   obtain⟨rfl,h1⟩:=h
   rw[hz] at h1
   exact⟨⟨H.n24,Z7 H.n24,by show _ % 2≤1; omega⟩,h1⟩)⟩
 ·exact⟨ztw.1,fun l' K h=>ztw.2 l' K (by
   obtain⟨rfl,h1⟩:=h
   exact⟨(n,Nat.succ k,u),rfl,H,h1⟩)⟩
 ·exact⟨zqv.1,fun l' K h=>zqv.2 l' K (by
   obtain⟨rfl,h1⟩:=h
   exact⟨9,rfl,trivial,h1⟩)⟩
 ·exact zI0 H V
 ·exact⟨zsN.1,fun l' K h=>zsN.2 l' K (by
   obtain⟨rfl,h1⟩:=h
   exact⟨(n + Nat.succ k,kpF n u,false),rfl,by show n + Nat.succ k < 1000; omega,h1⟩)⟩
 ·exact zI1 H
 ·exact⟨ztR.1,fun l' K h=>ztR.2 l' K (by
   obtain⟨rfl,h1⟩:=h
   refine⟨(Nat.succ l,wPl n (Nat.succ k) u),rfl,⟨?_,fun i hi j=>?_⟩,h1⟩
   ·show Nat.succ l < 1000
    have:=zte (Nat.succ k) (xe n u)
    omega
   ·have hi:i < Nat.succ l:=hi
    exact zsT (ziG H (zeA (by omega))) j)⟩
 ·have:=zHJ H
  rw[hl] at this
  exact this
 ·exact zJj H V
 ·exact zCE H
 ·exact ztA H.n24
 ·refine⟨zFO.1,fun l' K hk=>zFO.2 l' K ?_⟩
  obtain⟨rfl,hk⟩:=hk
  rw[show (yOf x n k l u e).uk=uK n (zi n) u by rw[←hm]; rfl] at hk
  subst hn hu
  exact⟨x,rfl,hx,hk⟩
theorem j3 {x:Sd}{e:Nat}(h22:KCS Tryz.prog 22 (xG [] (.bool true))) (hx:preS x) (he:e < 65536):JFn Tryz.prog 3 false (a3 x e) (.bool true):=by
 have H:=zrG hx
 have V:=zq8 hx
 generalize hn:nM x.t=n at H V
 generalize hu:zdd x=u at H V
 have h9:=jK H.n24
 obtain⟨n1,n2⟩:=zH H.n24
 obtain⟨k,hk⟩:∃ k,zi n=Nat.succ k:=⟨zh n (hS n) 0,by unfold zi; rfl⟩
 rw[hk] at H h9
 obtain⟨l,hl,hlast⟩:=zqs k (xe n u)
 have hll:l + 1≤k + 1:=by
  rw[←hl]; exact zte (k + 1) (xe n u)
 have b18:∀ {w:KV},(e % 2≠u.sl k→w=zqC 1)→(e % 2=u.sl k→w=zzz n (Nat.succ k) u e 5)→ZK Tryz.prog 18 (va [(yOf x n k l u e).t,(yOf x n k l u e).cel] w):=fun h1 h2=>zhh ⟨Tryz.f18,Tryz.func18,by kernel_rfl,by kernel_rfl⟩ fun l' K h=>by
  obtain⟨rfl,h3⟩:=h
  exact⟨_,h3,zFC H V he h1 h2⟩
 have e0:(yOf x n k l u e).last=u.sl k:=by
  show u.sl (Nat.add 0 (Nat.sub (Nat.succ k) 1))=_
  rw[vb]; rfl
 by_cases hp:e % 2=u.sl k
 ·have hE:=zFe (x:=x) (k:=k) (l:=l) (e:=e) (r:=w3a (yOf x n k l u e)) h22 hx hn hu H V hl rfl (b18 (fun h=>absurd hp h) fun _=>by
   unfold zzz w3a
   rw[show nW (Nat.succ k) (xe n u)=Nat.succ l from hl]
   rfl)
  refine j3a (y:=yOf x n k l u e) hE he (by show k < 1000; omega) (by rw[e0]; exact hp) (by show l < 1000; omega) (by show n + Nat.succ k < 1000; omega) (fun i j hi hj=>?_) ?_
  ·exact zyT H (by rw[hl]; exact Nat.lt_succ_of_le hi) hj
  ·show qA n (xl n u (nN (wL (Nat.succ k) (xe n u)) l)).lv (xl n u (nN (wL (Nat.succ k) (xe n u)) l)).ix (1 - u.sl (nN (wL (Nat.succ k) (xe n u)) l))=qA n (hS n) 0 (((e + 1) % 18446744073709551616) % 2)
   rw[show nN (wL (Nat.succ k) (xe n u)) l=k from hlast,Wa H]
   obtain⟨q1,q2⟩:=(qd (now:=xf n u) H.n24 (fun i hi=>⟨H.wl i hi,H.wb i hi⟩) _ _ (Z7 H.n24)).2.2
   rw[show (xD n u (hS n) 0).lv=hS n from q1,show (xD n u (hS n) 0).ix=0 from q2]
   have:=H.sl k (Nat.lt_succ_self k)
   congr 1
   omega
 ·have hE:=zFe (x:=x) (k:=k) (l:=l) (e:=e) (r:=w3b) h22 hx hn hu H V hl rfl (b18 (fun _=>rfl) fun h=>absurd h hp)
  exact j3b (y:=yOf x n k l u e) hE he (by show k < 1000; omega) (by rw[e0]; exact hp)
end
end
end Go.K
