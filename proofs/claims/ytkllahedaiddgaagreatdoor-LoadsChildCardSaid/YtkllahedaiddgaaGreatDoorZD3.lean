/- caissonlaw17.V: Of, its blocks and records walked. No condition. -/
import Derived.Test.YtkllahedaiddgaaGreatDoorQG4
import Derived.Test.YtkllahedaiddgaaGreatDoorRW
import Derived.Test.YtkllahedaiddgaaGreatDoorNF
import Derived.Test.YtkllahedaiddgaaGreatDoorQC0
import Derived.Test.YtkllahedaiddgaaGreatDoorQA1
set_option linter.unusedSimpArgs false
set_option linter.unusedVariables false
set_option maxRecDepth 100000
namespace Go.K
open Go.Ab Go.RowKit Go.Y Go.Proofs
noncomputable section
attribute [local instance 10000] gO
noncomputable def zud (o:Option Vr):KEnv:=EO0.tab [(238,zq [vm o] (nI (Ql o)))]
noncomputable def znn:List Code:=fl (cOf 182)
def zEb (L c q:Nat) (f:Ck) (o:Option Vr) (s:Nat) (th:Bool) (n:Nat) (b:Nat→Nat) (Q:QT) (R:RT):Prop:=pc (zud o) 182 znn [] [2,3,4] (z7 (mOf 182) 0 [dkK L c q f,nI s,.bool th,roN n b],[],0) Q R
noncomputable def zzW (L c q:Nat):KV:=.cons (nI L) (.cons (nI (Nat.add c 1)) (.cons (.sl 4 [] .sc 0 q (some q)) .nl))
noncomputable def o2K (f:Ck) (s:Nat):KBlk:=⟨.box 271,shC,.fa 64 fun j=>ifN j (s % 64) (.ptr 3 [] shV) (vm (f (Nat.add 0 (Nat.div s 64)) j))⟩
noncomputable def o3K (o o':Option Vr) (th:Bool) (n:Nat) (b:Nat→Nat):KBlk:=⟨.box 338,shV,.cons (.bool th) (.cons (roN n b) (.cons (nI (Nat.add (Ql o) 1)) (.cons (vm o') .nl)))⟩
noncomputable def o4K (q:Nat) (f:Ck) (s:Nat):KBlk:=⟨.box 268,.arr q .sc,.fa q fun j=>ifN j (Nat.add 0 (Nat.div s 64)) (.ptr 2 [] shC) (ZE 0 (Nat.add 0 (min q q)) j (chK f (Nat.add 0 (Nat.sub j 0))) .nilp)⟩
theorem zEc (L c q:Nat) (f:Ck) (o:Option Vr) (s:Nat) (th:Bool) (n:Nat) (b:Nat→Nat) (Q:QT) (R:RT):zEb L c q f o s th n b Q R=cnd (b63 (Nat.div s 64)) (cnd (ixB (.ofNat (Nat.div s 64)) q) (alt (qa 64 fun i=>v9 (vm (f (Nat.add 0 (Nat.div s 64)) i)) true .sc) (cnd (ixB (.ofNat (s % 64)) 64) ([vm (f (Nat.add 0 (Nat.div s 64)) (s % 64))]=[vm o] ∧
  cnd (b63 (Nat.add (Ql o) 1)) (cnd (ixB (.ofNat (s % 64)) 64) (cnd (mkB (.ofNat q) (.ofNat q)) (cnd (b63 (Nat.div s 64)) (cnd (ixB (.ofNat (Nat.div s 64)) q) (cnd (b63 (Nat.add c 1)) (R (zzW L c q) [some (o2K f s),some (o3K o (f (Nat.add 0 (Nat.div s 64)) (s % 64)) th n b),some (o4K q f s)] 5)))))))) (BadN 37))):=by kernel_rfl
attribute [local irreducible] kpre cOf mOf rOf JL zj zi znn l73
noncomputable def chR (f:Ck) (j:Nat):KV:=.ref true shC (.fa 64 fun i=>ZY (f j i))
theorem zpP (f:Ck) (j:Nat):(chK f j).v=(chR f j).v:=by
 show V.ref true shC (.arr 64 fun i=>(vm (f j i)).v)=V.ref true shC (.arr 64 fun i=>(ZY (f j i)).v)
 simp only[Zd]
theorem zeY (o:Option Vr):ubK (ZY o)=true:=by
 cases o with
 | none=>rfl
 | some v =>
  show nd true (nd true (nd (ubK (roN v.ln v.by')) (nd true (nd true true))))=true
  rw[zjr]; rfl
theorem zke (f:Ck) (j:Nat):ubK (chR f j)=true:=by
 show nd true (ubK (.fa 64 fun i=>ZY (f j i)))=true
 rw[XG fun i=>zeY _]; rfl
theorem zEd {zm:KZ}(f:Ck) (j:Nat):FzE true zm (chK f j).v (chK f j).v:=fun B C M _ _ m hr=>by
 rw[zpP] at hr ⊢
 exact R.allT_fr (zke f j) _ hr
theorem zzX {zm:KZ}(o:Option Vr):FzE true zm (vm o).v (vm o).v:=fun B C M _ _ m hr=>by
 rw[Zd] at hr ⊢
 exact R.allT_fr (zeY o) _ hr
theorem FzE.ptr {br:Bool}{zm:KZ}{id:Nat}{s:Shape}{b:KBlk}{c:V}(hb:kb zm id=some b) (ha:wg b.k=true) (hg:FzE br zm b.v.v c):FzE br zm (.ptr id [] s) (.ref true s c):=fun B C M h1 h2 m hr =>
 R.ptr_fr (p:=[]) h1 (h2 _ _ (zJ hb)) ((xk b.k b.sh b.v.v).trans ha) (fun md hm=>hg B C M h1 h2 md hm) hr
theorem FzE.arr {br:Bool}{zm:KZ}{n:Nat}{f g:Nat→V}(h:∀ i,i < n→FzE br zm (f i) (g i)):FzE br zm (.arr n f) (.arr n g):=fun B C M h1 h2 m hr=>R.arr_map (fun i hi md hm=>h i hi B C M h1 h2 md hm) hr
theorem FzE.cons {br:Bool}{zm:KZ}{a b a' b':V}(h:FzE br zm a a') (h':FzE br zm b b'):FzE br zm (.cons a b) (.cons a' b'):=fun B C M h1 h2 m hr=>R.cons_map (fun m=>h B C M h1 h2 m) (fun m=>h' B C M h1 h2 m) hr
theorem zzY {br:Bool}{zm:KZ}(o:Option Vr):FzE br zm (vm o).v .unk:=fun B C M _ _ m hr=>by
 rw[Zd] at hr
 cases o with
 | none=>exact XR (C:=C) (x:=.pointer none) hr rfl
 | some v =>
  obtain⟨b,o,h1,_⟩:=hr
  exact XR (C:=C) h1 rfl
noncomputable def vf (f:Ck) (s:Nat) (v:Vr):Ck:=fun j i=>@ite _ (j=Nat.div s 64∧i=s % 64) (Classical.propDecidable _) (some v) (f j i)
noncomputable def nxV (o:Option Vr) (th:Bool) (n:Nat) (b:Nat→Nat):Vr:=⟨th,n,b,Ql o + 1⟩
noncomputable def atK (f:Ck) (s:Nat):Option Vr:=f (Nat.div s 64) (s % 64)
theorem zzZ {zm:KZ}{L c q s n:Nat}{f:Ck}{th:Bool}{b:Nat→Nat}(h2:kb zm 2=some (o2K f s)) (h3:kb zm 3=some (o3K (atK f s) (f (Nat.add 0 (Nat.div s 64)) (s % 64)) th n b)) (h4:kb zm 4=some (o4K q f s)) :
  FzP true zm (zzW L c q) (dkK L (c + 1) q (vf f s (nxV (atK f s) th n b))):=by
 refine FzP.cons (FzP.noref rfl) (FzP.cons (FzP.noref rfl) (FzP.cons ?_ (FzP.noref rfl)))
 refine FzP.sl (w:=.fa q (chK (vf f s (nxV (atK f s) th n b)))) h4 rfl rfl rfl fun j hj=>?_
 show FzE true zm (ifN (0 + j) (Nat.add 0 (Nat.div s 64)) (.ptr 2 [] shC) (ZE 0 (Nat.add 0 (min q q)) (0 + j) (chK f (Nat.add 0 (Nat.sub (0 + j) 0))) .nilp)).v (chK (vf f s (nxV (atK f s) th n b)) j).v
 rw[Nat.zero_add,va,va,va,jp,ZF]
 by_cases hs:j=Nat.div s 64
 ·rw[if_pos hs]
  refine FzE.ptr (s:=shC) h2 rfl (FzE.arr fun i hi=>?_)
  show FzE true zm (ifN i (s % 64) (.ptr 3 [] shV) (vm (f (Nat.add 0 (Nat.div s 64)) i))).v (vm (vf f s (nxV (atK f s) th n b) j i)).v
  rw[jp,va]
  by_cases hi2:i=s % 64
  ·rw[if_pos hi2,show vf f s (nxV (atK f s) th n b) j i=some (nxV (atK f s) th n b) from if_pos ⟨hs,hi2⟩,Zd]
   refine FzE.ptr (s:=shV) h3 rfl (FzE.cons (FzE.noref rfl) (FzE.cons (fun B C M _ _ m hr=>R.allT_fr (zjr n b) _ hr) (FzE.cons (FzE.noref rfl) (FzE.cons (zzY _) (FzE.noref rfl)))))
  ·rw[if_neg hi2,show vf f s (nxV (atK f s) th n b) j i=f j i from if_neg fun h=>hi2 h.2,hs]
   exact zzX _
 ·rw[if_neg hs,if_pos ⟨Nat.zero_le _,by simpa using hj⟩]
  have e:chK (vf f s (nxV (atK f s) th n b)) j=chK f j:=by
   unfold chK
   rw[show (fun i=>vm (vf f s (nxV (atK f s) th n b) j i))=fun i=>vm (f j i) from funext fun i=>by rw[show vf f s (nxV (atK f s) th n b) j i=f j i from if_neg fun h=>hs h.1]]
  rw[e]
  exact zEd f j
theorem zz0:Tryz.f182.ntmps=54:=by kernel_rfl
theorem zz1:Tryz.f182.results.toList=rOf 182:=by kernel_rfl
theorem zz3:fl (cOf 182)=znn:=by kernel_rfl
theorem zpQ (o:Option Vr):KOk (zud o):=zr.tab (l:=[(238,zq [vm o] (nI (Ql o)))]) ⟨⟨zjs.1,fun l K hs=>zjs.2 l K (by
 obtain⟨rfl,hk⟩:=hs
 exact⟨o,rfl,trivial,hk⟩)⟩,trivial⟩
theorem zno (o:Option Vr):v9 (vm o) true .sc=true:=rfl
theorem zz4 {q:Nat}(h:q≤1000):mkB (.ofNat q) (.ofNat q)=true:=by
 unfold mkB
 rw[show leI 0 (.ofNat q)=true from j8.2 (Nat.zero_le q),show leI (.ofNat q) (.ofNat q)=true from j8.2 (Nat.le_refl q),show leI (.ofNat q) 16777216=true from (j8 (b:=16777216)).2 (by omega)]
 rfl
structure okDk (L c q:Nat) (f:Ck):Prop where
 hq:q≤1000
 hl:L≤64 * q
 hc:c≤1000000
 hn:∀ j i,Ql (f j i)≤c
 hb:∀ j i v,f j i=some v→v.ln≤1000
theorem zEe {L c q s n:Nat}{f:Ck}{th:Bool}{b:Nat→Nat}(H:okDk L c q f) (hs:s < L):JFn Tryz.prog 182 true [dkK L c q f,nI s,.bool th,roN n b] (dkK L (c + 1) q (vf f s (nxV (atK f s) th n b))):=by
 have hq:=H.hq
 have hl:=H.hl
 have hc:=H.hc
 have hn:=H.hn (Nat.div s 64) (s % 64)
 have hd:Nat.div s 64 < q:=by show s / 64 < q; omega
 refine JFn.of (P:=Tryz.prog) (zpQ (atK f s)) rfl (c:=cOf 182) (mOf 182) Tryz.func182 (by kernel_rfl) fun B N hN=>?_
 rw[zz0] at hN
 rw[zz3]
 have:=JL.goR (B:=B) (N:=N) (mask:=mOf 182) (l1:=znn) (l2:=[]) (Q:=retJ (zud (atK f s)) Tryz.f182 true (dkK L (c + 1) q (vf f s (nxV (atK f s) th n b)))) (n:=60) (zpQ (atK f s)) rfl (rOf 182) [] [2,3,4] (lt0:=z7 (mOf 182) 0 [dkK L c q f,nI s,.bool th,roN n b]) (lz0:=[]) (n0:=0) hN (by kernel_rfl) (by kernel_rfl) ?_
 ·rwa [List.append_nil] at this
 ·refine Eq.mpr (zEc L c q f (atK f s) s th n b _ _) (za.2 ⟨zH.2 (by show s / 64 < _; omega),za.2 ⟨xq.2 hd,zg.2 ⟨fun _=>za.2 ⟨xq.2 (Nat.mod_lt _ (by omega)),?_,za.2 ⟨zH.2 (by show Ql (f (Nat.div s 64) (s % 64)) + 1 < _; omega),za.2 ⟨xq.2 (Nat.mod_lt _ (by omega)),za.2 ⟨zz4 hq,za.2 ⟨zH.2 (by show s / 64 < _; omega),za.2 ⟨xq.2 hd,za.2 ⟨zH.2 (by show c + 1 < _; omega),?_⟩⟩⟩⟩⟩⟩⟩,fun h=>?_⟩⟩⟩)
  ·rw[va]; rfl
  ·intro tr zm hz hmb hi hr
   exact retJ.mk rfl zz1 (zzZ (congrArg (fun l=>l.getD 0 none) hz) (congrArg (fun l=>l.getD 1 none) hz) (congrArg (fun l=>l.getD 2 none) hz)) hr
  ·rw[xE.2 fun i hi=>zno _] at h
   cases h
abbrev zEf:=(Nat×Nat×Nat×Ck)×Nat×Bool×Nat×(Nat→Nat)
theorem zz5:qo Tryz.prog 182 (xM (fun x:zEf=>[dkK x.1.1 x.1.2.1 x.1.2.2.1 x.1.2.2.2,nI x.2.1,.bool x.2.2.1,roN x.2.2.2.1 x.2.2.2.2]) (fun x=>okDk x.1.1 x.1.2.1 x.1.2.2.1 x.1.2.2.2∧x.2.1 < x.1.1) fun x=>dkK x.1.1 (x.1.2.1 + 1) x.1.2.2.1 (vf x.1.2.2.2 x.2.1 (nxV (atK x.1.2.2.2 x.2.1) x.2.2.1 x.2.2.2.1 x.2.2.2.2))):=jC ⟨Tryz.f182,Tryz.func182,by kernel_rfl,by kernel_rfl⟩ fun x h=>zEe h.1 h.2
theorem znp (o:Option Vr):ubK (ql o)=true:=by
 show nd (ubK (y9 (lnO o) (byO o))) true=true
 rw[zeC]; rfl
theorem zEg:Tryz.f73.ntmps=21:=by kernel_rfl
theorem zEh:Tryz.f73.results.toList=rOf 73:=by kernel_rfl
theorem zEi:fl (cOf 73)=l73:=by kernel_rfl
theorem zEj {o:Option Vr}(h:∀ v,o=some v→v.ln≤1000):KOk (EO0.tabB [(146,zq [vm o] (ql o))]):=zr.tabB (l:=[(146,zq [vm o] (ql o))]) ⟨⟨zpn.1,fun l K hs=>zpn.2 l K (by
 obtain⟨rfl,hk⟩:=hs
 exact⟨o,rfl,h,hk⟩)⟩,trivial⟩
theorem j73 {L c q s:Nat}{f:Ck}(H:okDk L c q f) (hs:s < L):JFn Tryz.prog 73 true [dkK L c q f,nI s] (ql (atK f s)):=by
 have hq:=H.hq
 have hl:=H.hl
 have hd:Nat.div s 64 < q:=by show s / 64 < q; omega
 have ho:=zEj (o:=atK f s) (H.hb _ _)
 refine JFn.of (P:=Tryz.prog) ho rfl (c:=cOf 73) (mOf 73) Tryz.func73 (by kernel_rfl) fun B N hN=>?_
 rw[zEg] at hN
 rw[zEi]
 have:=JL.goR (B:=B) (N:=N) (mask:=mOf 73) (l1:=l73) (l2:=[]) (Q:=retJ (EO0.tabB [(146,zq [vm (atK f s)] (ql (atK f s)))]) Tryz.f73 true (ql (atK f s))) (n:=60) ho rfl (rOf 73) [] [] (lt0:=z7 (mOf 73) 0 [dkK L c q f,nI s]) (lz0:=[]) (n0:=0) hN (by kernel_rfl) (by kernel_rfl) ?_
 ·rwa [List.append_nil] at this
 ·refine Eq.mpr (e73 L c q f (atK f s) s _ _) (zg.2 ⟨fun h=>absurd (j8.1 h) (by omega),fun _=>za.2 ⟨zH.2 (by show s / 64 < _; omega),za.2 ⟨xq.2 hd,za.2 ⟨xq.2 (Nat.mod_lt _ (by omega)),?_,?_⟩⟩⟩⟩)
  ·rw[va]; rfl
  ·intro tr zm hz hmb hi hr
   exact retJ.mk rfl zEh (FzP.ub (znp _)) hr
theorem Q8:qo Tryz.prog 73 (xM (fun x:(Nat×Nat×Nat×Ck)×Nat=>[dkK x.1.1 x.1.2.1 x.1.2.2.1 x.1.2.2.2,nI x.2]) (fun x=>okDk x.1.1 x.1.2.1 x.1.2.2.1 x.1.2.2.2∧x.2 < x.1.1) fun x=>ql (atK x.1.2.2.2 x.2)):=jC ⟨Tryz.f73,Tryz.func73,by kernel_rfl,by kernel_rfl⟩ fun x h=>j73 h.1 h.2
end
end Go.K
set_option maxRecDepth 100000
namespace Go.K
open Go.Ab Go.RowKit Go.Y Go.Proofs
noncomputable section
attribute [local instance 10000] gO
noncomputable def lvI (n k:Nat):Nat:=@Bool.rec (fun _=>Nat) (@Bool.rec (fun _=>Nat) 2 1 (Nat.blt k (zo n 2 0))) 0 (Nat.blt k (zo n 1 0))
noncomputable def ixI (n k:Nat):Nat:=Nat.sub k (zo n (lvI n k) 0)
noncomputable def cU (n:Nat) (u:Ud) (k:Nat):Un:=⟨jg n u (lvI n k) (ixI n k),.ofNat (u.sl k),JH n u (lvI n k) (ixI n k),fun w=>nd (nd (Nat.beq (lvI n k) 0) (Nat.blt (Nat.add (Nat.mul 4 (ixI n k)) w) n)) (u.ch (Nat.add 0 (Nat.add (Nat.mul 4 (ixI n k)) w)))⟩
attribute [local irreducible] kpre cOf mOf rOf JL zj zo hS zY zE xj
end
end Go.K
set_option maxRecDepth 100000
namespace Go.K
open Go.Ab Go.RowKit Go.Y Go.Proofs
noncomputable section
attribute [local instance 10000] gO
structure UV (n:Nat) (u:Ud):Prop where
 ok:∀ i,i < n→(u.rc i).ok
 ch:∀ i,i < n→u.ch i=true→(u.rc i).st≠0
theorem ZW:zRc.zero:=⟨rfl,rfl,rfl,zb9⟩
theorem wM:zEn.zero:=⟨rfl,zb9⟩
theorem zji:zRc.ok:=⟨Nat.zero_le _,fun _=>ZW⟩
theorem zs6:zEn.ok:=⟨Nat.zero_le _,fun _=>wM⟩
theorem zjj {n l j:Nat}(hn:zC n=true) (h:isS n l j=true):lvI n (zo n l j)=l∧ixI n (zo n l j)=j:=by
 obtain⟨n1,n2⟩:=zR hn
 obtain⟨h1,h2⟩:=xc hn h
 obtain⟨m,rfl⟩:∃ m,n=Nat.succ m:=⟨n - 1,by omega⟩
 have hd:∀ m:Fin 24,∀ l:Fin 3,∀ j:Fin 6,isS (Nat.succ m.1) l.1 j.1=true→lvI (Nat.succ m.1) (zo (Nat.succ m.1) l.1 j.1)=l.1∧ixI (Nat.succ m.1) (zo (Nat.succ m.1) l.1 j.1)=j.1:=by decide
 exact hd ⟨m,by omega⟩ ⟨l,by omega⟩ ⟨j,h2⟩ h
theorem zjk {n j w:Nat}(hn:zC n=true) (h:isS n 0 j=true) (hw:w < 4):w < zx n 0 j↔4 * j + w < n:=by
 obtain⟨n1,n2⟩:=zR hn
 obtain⟨h1,h2⟩:=xc hn h
 obtain⟨m,rfl⟩:∃ m,n=Nat.succ m:=⟨n - 1,by omega⟩
 have hd:∀ m:Fin 24,∀ j:Fin 6,∀ w:Fin 4,isS (Nat.succ m.1) 0 j.1=true→(w.1 < zx (Nat.succ m.1) 0 j.1↔4 * j.1 + w.1 < Nat.succ m.1):=by decide
 exact hd ⟨m,by omega⟩ ⟨j,h2⟩ ⟨w,hw⟩ h
theorem zpi {n k j w:Nat}(hn:zC n=true) (h:isS n (k + 1) j=true) (hw:w < 4) (hk:isS n k (4 * j + w)=true):w < zx n (k + 1) j:=by
 obtain⟨n1,n2⟩:=zR hn
 obtain⟨h1,h2⟩:=xc hn h
 obtain⟨m,rfl⟩:∃ m,n=Nat.succ m:=⟨n - 1,by omega⟩
 have hd:∀ m:Fin 24,∀ k:Fin 2,∀ j:Fin 6,∀ w:Fin 4,isS (Nat.succ m.1) (k.1 + 1) j.1=true→isS (Nat.succ m.1) k.1 (4 * j.1 + w.1)=true→w.1 < zx (Nat.succ m.1) (k.1 + 1) j.1:=by decide
 exact hd ⟨m,by omega⟩ ⟨k,by omega⟩ ⟨j,h2⟩ ⟨w,hw⟩ h hk
theorem zjl {n i l:Nat}(hn:zC n=true) (hi:i < n) (hl:l≤hS n):isS n l (xj i l)=true:=by
 obtain⟨n1,n2⟩:=zR hn
 obtain⟨m,rfl⟩:∃ m,n=Nat.succ m:=⟨n - 1,by omega⟩
 have h2:hS (Nat.succ m)≤2:=by
  have hd:∀ m:Fin 24,hS (Nat.succ m.1)≤2:=by decide
  exact hd ⟨m,by omega⟩
 have hd:∀ m:Fin 24,∀ i:Fin 24,∀ l:Fin 3,i.1 < Nat.succ m.1→l.1≤hS (Nat.succ m.1)→isS (Nat.succ m.1) l.1 (xj i.1 l.1)=true:=by decide
 exact hd ⟨m,by omega⟩ ⟨i,by omega⟩ ⟨l,by omega⟩ hi hl
theorem zpj {n l j:Nat}(hn:zC n=true) (h:isS n l j=true):l≤hS n:=by
 obtain⟨n1,n2⟩:=zR hn
 obtain⟨h1,h2⟩:=xc hn h
 obtain⟨m,rfl⟩:∃ m,n=Nat.succ m:=⟨n - 1,by omega⟩
 have hd:∀ m:Fin 24,∀ l:Fin 3,∀ j:Fin 6,isS (Nat.succ m.1) l.1 j.1=true→l.1≤hS (Nat.succ m.1):=by decide
 exact hd ⟨m,by omega⟩ ⟨l,by omega⟩ ⟨j,h2⟩ h
theorem zex (i l:Nat):xj i (l + 1)=xj i l / 4:=rfl
theorem zey (i:Nat):xj i 0=i / 4:=rfl
theorem wN (j w:Nat):j4 j w=4 * j + w:=rfl
theorem zez {n l j:Nat}{u:Ud}:JH n u l j=true↔∃ i,i < n∧u.ch i=true∧xj i l=j:=@decide_eq_true_iff _ (Classical.propDecidable _)
theorem zs7 {n l j:Nat}{rc:Nat→Rc}:emS n rc l j=false↔∃ i,i < n∧xj i l=j∧(rc i).st≠0:=by
 have h:emS n rc l j=true↔¬ ∃ i,i < n∧xj i l=j∧(rc i).st≠0:=@decide_eq_true_iff _ (Classical.propDecidable _)
 rw[←Bool.not_eq_true,h]
 exact Classical.not_not
section
variable {n m:Nat}{u:Ud}
theorem zcB (hn:zC n=true) {l j:Nat}(h:isS n l j=true):cU n u (zo n l j)=⟨jg n u l j,.ofNat (u.sl (zo n l j)),JH n u l j,fun w=>nd (nd (Nat.beq l 0) (Nat.blt (Nat.add (Nat.mul 4 j) w) n)) (u.ch (Nat.add 0 (Nat.add (Nat.mul 4 j) w)))⟩:=by
 obtain⟨h1,h2⟩:=zjj hn h
 unfold cU
 rw[h1,h2]
theorem zcC (hn:zC n=true) {k j w:Nat}(h:isS n k (j4 j w)=true):zsD n (cU n u) k j w=⟨jg n u k (j4 j w),.ofNat (u.sl (zo n k (j4 j w))),JH n u k (j4 j w),fun x=>nd (nd (Nat.beq k 0) (Nat.blt (Nat.add (Nat.mul 4 (j4 j w)) x) n)) (u.ch (Nat.add 0 (Nat.add (Nat.mul 4 (j4 j w)) x)))⟩:=zcB hn h
theorem zcD (H:UOk n m u) {k:Nat}(hk:k < m):vI n u k=0∨vI n u k=1:=by
 have:=zk1 (n:=n) (H.sl k hk)
 omega
theorem zeA (H:UOk n m u) {k c:Nat}(h:isS n k c=true) (z:Un) (hz:z.nd=jg n u k c):zer z↔emS n u.rc k c=false:=by
 have hn:=H.n24
 rw[zs7]
 unfold zer
 rw[hz]
 cases k with
 | zero =>
  constructor
  ·rintro⟨i,hi,h1 | h1⟩
   ·have h2:0 < (if i < zx n 0 c then u.rc (Nat.add 0 (j4 c i)) else zRc).st:=h1
    split at h2
    ·rename_i q
     rw[va] at h2
     have h3:=(zjk hn h hi).1 q
     refine⟨j4 c i,by rw[wN]; exact h3,?_,by omega⟩
     rw[zey,wN]; omega
    ·exact absurd h2 (Nat.lt_irrefl 0)
   ·exact absurd (show 0 < zEn.st from h1) (Nat.lt_irrefl 0)
  ·rintro⟨i,hi,h1,h2⟩
   rw[zey] at h1
   refine⟨i % 4,by omega,.inl ?_⟩
   show 0 < (if i % 4 < zx n 0 c then u.rc (Nat.add 0 (j4 c (i % 4))) else zRc).st
   have h3:j4 c (i % 4)=i:=by rw[wN]; omega
   rw[if_pos ((zjk hn h (by omega)).2 (by omega)),va,h3]
   omega
 | succ k =>
  constructor
  ·rintro⟨i,hi,h1 | h1⟩
   ·exact absurd (show 0 < zRc.st from h1) (Nat.lt_irrefl 0)
   ·have h2:0 < (if i < zx n (k + 1) c∧emS n u.rc k (j4 c i)=false then (⟨Nat.mod (Nat.add (vI n u (Nat.add 0 (zo n k (j4 c i)))) 1) 256,(jE n u.rc (vI n u) k (j4 c i)).dg⟩:En) else zEn).st:=h1
    split at h2
    ·rename_i q
     obtain⟨x,h3,h4,h5⟩:=zs7.1 q.2
     refine⟨x,h3,?_,h5⟩
     rw[zex,h4,wN]; omega
    ·exact absurd h2 (Nat.lt_irrefl 0)
  ·rintro⟨x,h3,h4,h5⟩
   rw[zex] at h4
   have hle:=zpj hn h
   have hp:isS n k (xj x k)=true:=zjl hn h3 (by omega)
   have hc:xj x k=j4 c (xj x k % 4):=by rw[wN]; omega
   refine⟨xj x k % 4,by omega,.inr ?_⟩
   have hq:xj x k % 4 < zx n (k + 1) c:=zpi hn h (by omega) (by rw[←wN,←hc]; exact hp)
   show 0 < (if xj x k % 4 < zx n (k + 1) c∧emS n u.rc k (j4 c (xj x k % 4))=false then (⟨Nat.mod (Nat.add (vI n u (Nat.add 0 (zo n k (j4 c (xj x k % 4))))) 1) 256,_⟩:En) else zEn).st
   rw[if_pos ⟨hq,zs7.2 ⟨x,h3,hc,h5⟩⟩,va,←hc]
   show 0 < (vI n u (zo n k (xj x k)) + 1) % 256
   have hnum:=XC hn hp
   rcases zcD H (k:=zo n k (xj x k)) (by rw[H.tot]; exact hnum) with e | e<;>rw[e]<;>decide
theorem zjm (f:Nat→Nat):eqB 32 f f=true:=by
 have:∀ n,eqB n f f=true:=fun n=>by
  induction n with
  | zero=>rfl
  | succ n ih =>
   show nd (eqB n f f) (eqN (f n) (f n))=true
   rw[zd]; exact⟨ih,wB.2 rfl⟩
 exact this 32
theorem zfT (H:UOk n m u) (V:UV n u) {l j:Nat}(h:isS n l j=true):zes n (cU n u) l j=0:=by
 have hn:=H.n24
 have hr:∀ i,i < n→(u.rc i).tg.length=32∧(u.rc i).wb:=fun i hi=>⟨H.wl i hi,H.wb i hi⟩
 obtain⟨wl,wb,lv,ix⟩:=Vi hn hr (now:=vI n u) l j h
 unfold zes
 rw[zcB hn h]
 have hp:zcr n l j ⟨jg n u l j,.ofNat (u.sl (zo n l j)),JH n u l j,fun w=>nd (nd (Nat.beq l 0) (Nat.blt (Nat.add (Nat.mul 4 j) w) n)) (u.ch (Nat.add 0 (Nat.add (Nat.mul 4 j) w)))⟩:=by
  refine⟨lv,ix,zw0 ⟨⟨?_,?_,?_⟩,?_,?_⟩⟩
  ·show (jg n u l j).lv≤5
   have:(jg n u l j).lv=l:=lv
   have:=(xc hn h).1
   omega
  ·intro h0
   obtain rfl:l=0:=by rw[←lv]; exact h0
   refine⟨fun i hi=>wM,fun i hi=>?_⟩
   show (if i < zx n 0 j then u.rc (Nat.add 0 (j4 j i)) else zRc).ok
   split
   ·rename_i q
    rw[va]; exact V.ok _ (W8 hn h q)
   ·exact zji
  ·intro h0
   cases l with
   | zero=>exact absurd lv h0
   | succ k =>
    refine⟨fun i hi=>ZW,fun i hi=>?_⟩
    show (if i < zx n (k + 1) j∧emS n u.rc k (j4 j i)=false then (⟨Nat.mod (Nat.add (vI n u (Nat.add 0 (zo n k (j4 j i)))) 1) 256,(jE n u.rc (vI n u) k (j4 j i)).dg⟩:En) else zEn).ok
    split
    ·rename_i q
     have hnum:=XC hn (Yn hn h q.1)
     rw[va]
     have e:Nat.mod (Nat.add (vI n u (zo n k (j4 j i))) 1) 256=vI n u (zo n k (j4 j i)) + 1:=by
      show (vI n u (zo n k (j4 j i)) + 1) % 256=_
      rcases zcD H (k:=zo n k (j4 j i)) (by rw[H.tot]; exact hnum) with e | e<;>rw[e]
     refine⟨?_,fun h0=>?_⟩
     ·show Nat.mod (Nat.add (vI n u (zo n k (j4 j i))) 1) 256≤2
      rw[e]
      rcases zcD H (k:=zo n k (j4 j i)) (by rw[H.tot]; exact hnum) with e | e<;>rw[e]<;>decide
     ·have h1:Nat.mod (Nat.add (vI n u (zo n k (j4 j i))) 1) 256=0:=h0
      rw[e] at h1; cases h1
    ·exact zs6
  ·show isS n (jg n u l j).lv (jg n u l j).ix=true
   rw[show (jg n u l j).lv=l from lv,show (jg n u l j).ix=j from ix]; exact h
  ·intro i hi hq
   rw[show (jg n u l j).lv=l from lv,show (jg n u l j).ix=j from ix] at hq
   cases l with
   | zero =>
    refine⟨?_,wM⟩
    show (if i < zx n 0 j then u.rc (Nat.add 0 (j4 j i)) else zRc).zero
    rw[if_neg (by omega)]; exact ZW
   | succ k =>
    refine⟨ZW,?_⟩
    show (if i < zx n (k + 1) j∧emS n u.rc k (j4 j i)=false then (⟨_,_⟩:En) else zEn).zero
    rw[if_neg fun q=>by omega]; exact wM
 rw[if_pos hp]
 have hchw:∀ w,nd (nd (Nat.beq l 0) (Nat.blt (Nat.add (Nat.mul 4 j) w) n)) (u.ch (Nat.add 0 (Nat.add (Nat.mul 4 j) w)))=true↔l=0∧j4 j w < n∧u.ch (j4 j w)=true:=fun w=>by
  rw[zd,zd,va,xZ]
  constructor
  ·rintro⟨⟨q1,q2⟩,q3⟩; exact⟨Nat.eq_of_beq_eq_true q1,q2,q3⟩
  ·rintro⟨rfl,q2,q3⟩; exact⟨⟨rfl,q2⟩,q3⟩
 refine if_pos ⟨?_,?_,?_⟩
 ·intro w hw hc
  obtain⟨rfl,q1,q2⟩:=(hchw w).1 hc
  refine⟨rfl,?_⟩
  show (if w < zx n 0 j then u.rc (Nat.add 0 (j4 j w)) else zRc).st≠0
  rw[if_pos ((zjk hn h hw).2 q1),va]
  exact V.ch _ q1 q2
 ·show JH n u l j=true↔_
  rw[zez]
  unfold ziZ
  constructor
  ·rintro⟨i,hi,h1,h2⟩
   cases l with
   | zero =>
    rw[zey] at h2
    have h3:j4 j (i % 4)=i:=by rw[wN]; omega
    exact .inl ⟨i % 4,by omega,(hchw (i % 4)).2 ⟨rfl,by rw[h3]; exact hi,by rw[h3]; exact h1⟩⟩
   | succ k =>
    rw[zex] at h2
    have hle:=zpj hn h
    have hpl:isS n k (xj i k)=true:=zjl hn hi (by omega)
    have hc:xj i k=j4 j (xj i k % 4):=by rw[wN]; omega
    have hq:xj i k % 4 < zx n (k + 1) j:=zpi hn h (by omega) (by rw[←wN,←hc]; exact hpl)
    refine .inr ⟨k,rfl,xj i k % 4,hq,?_⟩
    rw[zcC hn (by rw[←hc]; exact hpl)]
    exact zez.2 ⟨i,hi,h1,hc⟩
  ·rintro (⟨w,hw,hc⟩ | ⟨k,rfl,w,hw,hc⟩)
   ·obtain⟨rfl,q1,q2⟩:=(hchw w).1 hc
    refine⟨j4 j w,q1,q2,?_⟩
    rw[zey,wN]; omega
   ·rw[zcC hn (Yn hn h hw)] at hc
    obtain⟨i,h1,h2,h3⟩:=zez.1 hc
    refine⟨i,h1,h2,?_⟩
    have h4:=(y7 hn h).2
    rw[zex,h3,wN]; omega
 ·rintro k rfl w hw
  have hkid:=Yn hn h hw
  rw[zcC hn hkid]
  have hen:(jg n u (Nat.succ k) j).en w=if w < zx n (k + 1) j∧emS n u.rc k (j4 j w)=false then ⟨Nat.mod (Nat.add (vI n u (Nat.add 0 (zo n k (j4 j w)))) 1) 256,(jg n u k (j4 j w)).dg⟩ else zEn:=rfl
  refine⟨fun hu=>?_,fun hu=>?_⟩
  ·have he:=(zeA H hkid _ rfl).1 hu
   show ((jg n u (Nat.succ k) j).en w).eqb _=true
   rw[hen,if_pos ⟨hw,he⟩,va]
   have hnum:=XC hn hkid
   have hsl:u.sl (zo n k (j4 j w))≤1:=H.sl _ (by rw[H.tot]; exact hnum)
   have hst:Nat.mod (Nat.add (vI n u (zo n k (j4 j w))) 1) 256=Un.stS ⟨jg n u k (j4 j w),.ofNat (u.sl (zo n k (j4 j w))),JH n u k (j4 j w),fun x=>nd (nd (Nat.beq k 0) (Nat.blt (Nat.add (Nat.mul 4 (j4 j w)) x) n)) (u.ch (Nat.add 0 (Nat.add (Nat.mul 4 (j4 j w)) x)))⟩:=by
    unfold Un.stS
    cases hd:JH n u k (j4 j w) with
    | false =>
     rw[zA1 hkid hd]
     rcases (show u.sl (zo n k (j4 j w))=0∨u.sl (zo n k (j4 j w))=1 by omega) with e | e<;>rw[e]<;>rfl
    | true =>
     rw[zA0 hkid hd]
     rcases (show u.sl (zo n k (j4 j w))=0∨u.sl (zo n k (j4 j w))=1 by omega) with e | e<;>rw[e]<;>rfl
   unfold En.eqb
   rw[zd,zd]
   exact⟨wB.2 hst,zjm _,rfl⟩
  ·have he:emS n u.rc k (j4 j w)≠false:=fun he=>hu ((zeA H hkid _ rfl).2 he)
   show ((jg n u (Nat.succ k) j).en w).zb=true
   rw[hen,if_neg fun q=>he q.2]
   exact En.zb_t.2 wM
end
end
end Go.K
set_option maxRecDepth 100000
namespace Go.K
open Go.Ab Go.RowKit Go.Y Go.Proofs
noncomputable section
attribute [local instance 10000] gO
noncomputable def l66:List Code:=fl (cOf 66)
noncomputable def zaX (n:Nat) (l:List Nat):KBlk:=⟨.row 5,.arr n .sc,kBy n (nN l)⟩
def zBM (x:Nd) (Q:QT) (R:RT):Prop:=pc EO0 66 l66 [] [37] (z7 (mOf 66) 0 [(z0 x).k],[],0) Q R
theorem zBN (x:Nd) (Q:QT) (R:RT):zBM x Q R=R (.row 37 .sc 185) [some (zaX 185 (qS S32 R32 R64 (z0 x)))] 38:=by kernel_rfl
def zDu (l:Nat) (x:Nd) (Q:QT) (R:RT):Prop:=pc EO0 66 l66 [] [17] (z7 (mOf 66) 0 [(s1 l x).k],[],0) Q R
theorem zDv (l:Nat) (x:Nd) (Q:QT) (R:RT):zDu l x Q R=R (.row 17 .sc 137) [some (zaX 137 (jX S32 (s1 l x)))] 18:=by kernel_rfl
noncomputable def zfX (n:Nat) (l:List Nat):KV:=.ro true false .sc 0 n (.fa n fun i=>kU8 (nN l i))
noncomputable def byR (x:Nd):KV:=@Nat.rec (fun _=>KV) (zfX 185 (qS S32 R32 R64 x)) (fun _ _=>zfX 137 (jX S32 x)) x.lv
attribute [local irreducible] kpre cOf mOf rOf JL zj l66
theorem zDw:Tryz.f66.ntmps=45:=by kernel_rfl
theorem zy3:Tryz.f66.results.toList=rOf 66:=by kernel_rfl
theorem zDx:fl (cOf 66)=l66:=by kernel_rfl
theorem zpu {zm:KZ}{id n:Nat}{l:List Nat}(h1:kb zm id=some (zaX n l)):FzP false zm (.row id .sc n) (zfX n l):=FzP.row h1 rfl rfl fun i hi B C M h3 h4 mm hm=>by
 have e:KV.atv (@Nat.rec (fun _=>KV) .te (fun i t=>xD (kU8 (nN l i)) (enc i) t) n) (enc i) (kU8 0).v=(kU8 (nN l i)).v:=qU (f:=fun i=>kU8 (nN l i)) (z:=(kU8 0).v) hi
 have hm':R C (KV.atv (@Nat.rec (fun _=>KV) .te (fun i t=>xD (kU8 (nN l i)) (enc i) t) n) (enc i) (kU8 0).v) mm:=hm
 rw[e] at hm'
 exact R.noref _ rfl hm'
theorem j66 (x:Nd):JFn Tryz.prog 66 false [x.k] (byR x):=by
 obtain⟨lv,ix,rc,en⟩:=x
 refine JFn.of (P:=Tryz.prog) zr rfl (c:=cOf 66) (mOf 66) Tryz.func66 (by kernel_rfl) fun B N hN=>?_
 rw[zDw] at hN
 rw[zDx]
 cases lv with
 | zero =>
  have:=JL.goR (B:=B) (N:=N) (mask:=mOf 66) (l1:=l66) (l2:=[]) (Q:=retJ EO0 Tryz.f66 false (byR ⟨0,ix,rc,en⟩)) (n:=60) zr rfl (rOf 66) [] [37] (lt0:=z7 (mOf 66) 0 [(⟨0,ix,rc,en⟩:Nd).k]) (lz0:=[]) (n0:=0) hN (by kernel_rfl) (by kernel_rfl) ?_
  ·rwa [List.append_nil] at this
  ·refine Eq.mpr (zBN ⟨0,ix,rc,en⟩ _ _) ?_
   intro tr zm hz hmb hi hr
   have h1:kb zm 37=some (zaX 185 (qS S32 R32 R64 ⟨0,ix,rc,en⟩)):=congrArg (fun l=>l.getD 0 none) hz
   exact retJ.mk rfl zy3 (zpu h1) hr
 | succ l =>
  have:=JL.goR (B:=B) (N:=N) (mask:=mOf 66) (l1:=l66) (l2:=[]) (Q:=retJ EO0 Tryz.f66 false (byR ⟨l + 1,ix,rc,en⟩)) (n:=60) zr rfl (rOf 66) [] [17] (lt0:=z7 (mOf 66) 0 [(⟨l + 1,ix,rc,en⟩:Nd).k]) (lz0:=[]) (n0:=0) hN (by kernel_rfl) (by kernel_rfl) ?_
  ·rwa [List.append_nil] at this
  ·refine Eq.mpr (zDv l ⟨l + 1,ix,rc,en⟩ _ _) ?_
   intro tr zm hz hmb hi hr
   have h1:kb zm 17=some (zaX 137 (jX S32 ⟨l + 1,ix,rc,en⟩)):=congrArg (fun l=>l.getD 0 none) hz
   exact retJ.mk rfl zy3 (zpu h1) hr
noncomputable def zDy:zh:=xM (fun x:Nd=>[x.k]) (fun _=>True) byR
theorem zy4:KCS Tryz.prog 66 zDy:=Xn ⟨Tryz.f66,Tryz.func66,by kernel_rfl,by kernel_rfl⟩ fun x _=>j66 x
end
end Go.K
set_option maxRecDepth 100000
namespace Go.K
open Go.Ab Go.RowKit Go.Y Go.Proofs
noncomputable section
attribute [local instance 10000] gO
noncomputable def byP (x:Nd):KV:=@Nat.rec (fun _=>KV) (zfX 185 (qS P32 P32 P64 x)) (fun _ _=>zfX 137 (jX P32 x)) x.lv
theorem zz6 {x:Nd}(h:x.wb):byR x=byP x:=by
 unfold byR byP
 rw[zeP h,Yz h]
attribute [local irreducible] kpre cOf mOf rOf JL zj
end
end Go.K
set_option maxRecDepth 100000
namespace Go.K
open Go.Ab Go.RowKit Go.Y Go.Proofs
noncomputable section
attribute [local instance 10000] gO
noncomputable def zt (n l j s:Nat):Nat:=Nat.add (Nat.mul 2 (Nat.add n (zo n l j))) s
def r27 (n l j s:Nat):Prop:=zi EO0 (zj EO0 200) 0 27 [nI n,nI l,nI j,nI s] .e 0 0 fun r _ _ _=>tK (kvb r (nI (zt n l j s)))
def ze4 (q:Bool):Prop:=xr (fun m=>xr (fun l=>xr (fun j=>xr (fun s=>whB (isS (Nat.succ m) l j) (@Bool.rec (fun _=>Prop) True (r27 (Nat.succ m) l j s) q)) 2) 6) 3) 24
theorem zET:ze4 true=ze4 false:=by kernel_rfl
theorem zc2 {b:Bool}{p:Prop}(h:p):whB b p:=by cases b; exact trivial; exact h
theorem zuD:ze4 false:=zF (fun m=>zF (fun l=>zF (fun j=>zF (fun s=>zc2 trivial) 2) 6) 3) 24
noncomputable def zAr:zh:=fun l K=>la4 l fun a b c d=>z6 a fun n=>z6 b fun l=>z6 c fun j=>z6 d fun s=>(zC n=true∧isS n l j=true∧s≤1)∧K (nI (zt n l j s))
theorem ze5:KCS Tryz.prog 27 zAr:=xm ⟨Tryz.f27,Tryz.func27,by kernel_rfl,by kernel_rfl⟩ fun l K hs=>by
 obtain⟨a,b,c,d,rfl,h1⟩:=za6 hs
 obtain⟨n,rfl,h2⟩:=zu h1
 obtain⟨l,rfl,h3⟩:=zu h2
 obtain⟨j,rfl,h4⟩:=zu h3
 obtain⟨s,rfl,⟨hn,hp,hs1⟩,hk⟩:=zu h4
 obtain⟨n1,n2⟩:=zR hn
 obtain⟨q1,q2⟩:=xc hn hp
 obtain⟨m,rfl⟩:∃ m,n=Nat.succ m:=⟨n - 1,by omega⟩
 exact⟨EO0,zr,rfl,200,_,_,hk,rfl,fun r hr=>by rw[vC (yg hr)]; exact Imp.refl _,zbd (zw (zw (zw (zw (Eq.mpr zET zuD:ze4 true) m (by omega)) l (by omega)) j q2) s (by omega)) hp⟩
noncomputable def zvV (a:Nat):KV:=.tup (.cons (nI a) (.cons (nI 0) .nl))
def zBy (n l j s:Nat):Prop:=zi EO0 (zj EO0 200) 0 165 [nI n,nI l,nI j,nI s] .e 0 0 fun r _ _ _=>tK (kvb r (zvV (zt n l j s)))
def W7 (q:Bool):Prop:=xr (fun m=>xr (fun l=>xr (fun j=>xr (fun s=>whB (isS (Nat.succ m) l j) (@Bool.rec (fun _=>Prop) True (zBy (Nat.succ m) l j s) q)) 2) 6) 3) 24
theorem zvW:W7 true=W7 false:=by kernel_rfl
theorem zl8:W7 false:=zF (fun m=>zF (fun l=>zF (fun j=>zF (fun s=>zc2 trivial) 2) 6) 3) 24
noncomputable def zvX:zh:=fun l K=>la4 l fun a b c d=>z6 a fun n=>z6 b fun l=>z6 c fun j=>z6 d fun s=>(zC n=true∧isS n l j=true∧s≤1)∧K (zvV (zt n l j s))
theorem zoB:KCS Tryz.prog 165 zvX:=xm ⟨Tryz.f165,Tryz.func165,by kernel_rfl,by kernel_rfl⟩ fun l K hs=>by
 obtain⟨a,b,c,d,rfl,h1⟩:=za6 hs
 obtain⟨n,rfl,h2⟩:=zu h1
 obtain⟨l,rfl,h3⟩:=zu h2
 obtain⟨j,rfl,h4⟩:=zu h3
 obtain⟨s,rfl,⟨hn,hp,hs1⟩,hk⟩:=zu h4
 obtain⟨n1,n2⟩:=zR hn
 obtain⟨q1,q2⟩:=xc hn hp
 obtain⟨m,rfl⟩:∃ m,n=Nat.succ m:=⟨n - 1,by omega⟩
 exact⟨EO0,zr,rfl,200,_,_,hk,rfl,fun r hr=>by rw[vC (yg hr)]; exact Imp.refl _,zbd (zw (zw (zw (zw (Eq.mpr zvW zl8:W7 true) m (by omega)) l (by omega)) j q2) s (by omega)) hp⟩
noncomputable def zy (b s:Nat):Nat:=Nat.add (Nat.mul 2 b) s
noncomputable def zwP (a:Nat):KV:=.tup (.cons (nI a) (.cons (nI 0) .nl))
def r35 (b s:Nat):Prop:=zi EO0 (zj EO0 200) 0 35 [nI b,nI s] .e 0 0 fun r _ _ _=>tK (kvb r (nI (zy b s)))
def zee (q:Bool):Prop:=xr (fun b=>xr (fun s=>@Bool.rec (fun _=>Prop) True (r35 b s) q) 2) 24
theorem zCc:zee true=zee false:=by kernel_rfl
theorem zr1:zee false:=zF (fun b=>zF (fun s=>trivial) 2) 24
noncomputable def zwQ:zh:=fun l K=>la2 l fun a b=>z6 a fun i=>z6 b fun s=>(i < 24∧s≤1)∧K (nI (zy i s))
theorem QW:KCS Tryz.prog 35 zwQ:=xm ⟨Tryz.f35,Tryz.func35,by kernel_rfl,by kernel_rfl⟩ fun l K hs=>by
 obtain⟨a,b,rfl,h1⟩:=ju hs
 obtain⟨i,rfl,h2⟩:=zu h1
 obtain⟨s,rfl,⟨hi,hs1⟩,hk⟩:=zu h2
 exact⟨EO0,zr,rfl,200,_,_,hk,rfl,fun r hr=>by rw[vC (yg hr)]; exact Imp.refl _,zw (zw (Eq.mpr zCc zr1:zee true) i hi) s (by omega)⟩
def r96 (n b s:Nat):Prop:=zi EO0 (zj EO0 200) 0 96 [nI n,nI b,nI s] .e 0 0 fun r _ _ _=>tK (kvb r (zwP (zy b s)))
def zef (q:Bool):Prop:=xr (fun m=>xr (fun b=>xr (fun s=>whB (Nat.ble b m) (@Bool.rec (fun _=>Prop) True (r96 (Nat.succ m) b s) q)) 2) 24) 24
theorem zCd:zef true=zef false:=by kernel_rfl
theorem zr2:zef false:=zF (fun m=>zF (fun b=>zF (fun s=>zc2 trivial) 2) 24) 24
noncomputable def zwR:zh:=fun l K=>la3 l fun a b c=>z6 a fun n=>z6 b fun i=>z6 c fun s=>(zC n=true∧i < n∧s≤1)∧K (zwP (zy i s))
theorem zeg:KCS Tryz.prog 96 zwR:=xm ⟨Tryz.f96,Tryz.func96,by kernel_rfl,by kernel_rfl⟩ fun l K hs=>by
 obtain⟨a,b,c,rfl,h1⟩:=ZU hs
 obtain⟨n,rfl,h2⟩:=zu h1
 obtain⟨i,rfl,h3⟩:=zu h2
 obtain⟨s,rfl,⟨hn,hi,hs1⟩,hk⟩:=zu h3
 obtain⟨n1,n2⟩:=zR hn
 obtain⟨m,rfl⟩:∃ m,n=Nat.succ m:=⟨n - 1,by omega⟩
 exact⟨EO0,zr,rfl,200,_,_,hk,rfl,fun r hr=>by rw[vC (yg hr)]; exact Imp.refl _,zbd (zw (zw (zw (Eq.mpr zCd zr2:zef true) m (by omega)) i (by omega)) s (by omega)) (Nat.ble_eq_true_of_le (by omega))⟩
structure Vx where
 nb:Nat
 p:Nat
 pp:Nat→Nat→Nat
 s:Nat
 ss:Nat→Nat
 ep:Nat
 ms:Nat
noncomputable def Vx.k (x:Vx):KV:=.cons (kU8 x.nb) (.cons (roK (.arr 2 .sc) x.p fun i=>.fa 2 fun j=>kU8 (x.pp i j)) (.cons (roK .sc x.s fun i=>kU8 (x.ss i)) (.cons (kU8 x.ep) (.cons (kU8 x.ms) .nl))))
noncomputable def Vx.n (x:Vx):Nat:=Nat.add 1 (x.nb % 20)
noncomputable def l30:List Code:=fl (cOf 30)
noncomputable def zze:Shape:=.cons (.arr 32 .sc) (.cons .sc (.cons .sc .nl))
noncomputable def vV:Shape:=.cons .sc (.cons .sc (.cons .sc (.cons .sc (.cons .sc .nl))))
noncomputable def zX:Shape:=.cons .sc (.cons (.arr 16 .sc) (.cons (.arr 32 .sc) (.cons (.cons .sc .nl) (.cons zze (.cons .sc (.cons .sc (.cons .sc .nl)))))))
noncomputable def xO:KV:=.cons (.ar 32 (kU8 0) .te) (.cons (XZ 0) (.cons (XZ 0) .nl))
noncomputable def zVl:KV:=.cons (nI 0) (.cons (.ar 16 (kU8 0) .te) (.cons (.ar 32 (kU8 0) .te) (.cons (.cons .nils .nl) (.cons xO (.cons .nils (.cons .nils (.cons .nils .nl)))))))
noncomputable def JA (n:Nat) (a b:List Nat) (L:Nat) (d:Dd) (c o r s:KV):KV:=.cons (nI n) (.cons (kBy 16 (nN a)) (.cons (kBy 32 (nN b)) (.cons (dK L d) (.cons c (.cons o (.cons r (.cons s .nl)))))))
noncomputable def v30 (i:Nat):List KV:=[.ptr 0 [] vV,.ptr 1 [] zX,.ptr 2 [] zX,nI i]
noncomputable def z30 (x:Vx) (v:KV):List (Option KBlk):=[some (bx 66 vV x.k),some (bx 80 zX zVl),some (bx 80 zX v)]
noncomputable def b30:Code:=lpB (blB (l30.getD 6 .skip))
noncomputable def ztF (i r:Nat) (sh:Shape):KV:=@Nat.rec (fun _=>KV) .nils (fun k _=>.row r sh (Nat.succ k)) i
noncomputable def qZ (i:Nat) (f:Nat→KV):KBlk:=⟨.row 70,.arr i (.arr 32 .sc),.fa i f⟩
noncomputable def vH (i:Nat) (f:Nat→KV):KBlk:=⟨.row 96,.arr i vT,.fa i f⟩
noncomputable def zzf (x:Vx) (v:KV) (f g:Nat→KV) (i:Nat):List (Nat×KBlk):=@Nat.rec (fun _=>List (Nat×KBlk)) [(0,bx 66 vV x.k),(1,bx 80 zX zVl),(2,bx 80 zX v)] (fun k _=>[(0,bx 66 vV x.k),(1,bx 80 zX zVl),(2,bx 80 zX v),(3,qZ (Nat.succ k) f),(4,vH (Nat.succ k) g)]) i
noncomputable def zDE (i:Nat):Nat:=@Nat.rec (fun _=>Nat) 3 (fun _ _=>5) i
noncomputable def zzg:zh:=fun l K=>la1 l fun v=>onN .u8 v fun a=>K (kBy 32 (nN (wj a)))
def la5 (l:List KV) (f:KV→KV→KV→KV→KV→Prop):Prop:=match l with
 | [a,b,c,d,e]=>f a b c d e
 | _=>False
noncomputable def ztG (a b:List Nat) (bl dl tl:Nat→List Nat):zh:=fun l K=>la5 l fun x y z w p=>z6 z fun i=>[x,y,p]=[kBy 16 (nN a),kBy 32 (nN b),kBy 32 (nN (bl i))]∧[w]=[noK (Nat.mod (i % 3) 4294967296) (Nat.mod i 18446744073709551616)]∧K (zio (dl i) (tl i))
noncomputable def ztH (L:Nat) (P:KV→Prop) (δ:KV→Dd):zh:=fun l K=>la3 l fun x y z=>z6 y fun s=>onC z fun t r=>onC r fun st r2=>onE r2 (P x∧zzo t fun th=>qp (fun n q=>K (dK L (vg (δ x) s ⟨th,n,q⟩))) (BadN 971) st)
noncomputable def s30 (x:Vx) (n:Nat) (a b:List Nat) (L:Nat) (d:Dd) (f g:Nat→KV) (i:Nat):LS:=([(1,.ptr 0 [] vV),(2,.ptr 1 [] zX),(3,.ptr 2 [] zX),(4,nI i)],zzf x (JA n a b L d xO (ztF i 3 (.arr 32 .sc)) (ztF i 4 vT) .nils) f g i,zDE i)
noncomputable def z70:KV:=.ar 32 (kU8 0) .te
noncomputable def rB1 (v:KV):KBlk:=⟨.row 70,.arr 1 (.arr 32 .sc),kAr 1 z70 fun _=>v⟩
noncomputable def rR1 (v:KV):KBlk:=⟨.row 96,.arr 1 vT,kAr 1 rcZ fun _=>v⟩
noncomputable def rBS (k:Nat) (v:KV) (f:Nat→KV):KBlk:=⟨.row 70,.arr (Nat.add (Nat.succ k) 1) (.arr 32 .sc),.fa (Nat.add (Nat.succ k) 1) fun i=>ifN i (Nat.add (Nat.succ k) 0) v (f i)⟩
noncomputable def rRS (k:Nat) (v:KV) (f:Nat→KV):KBlk:=⟨.row 96,.arr (Nat.add (Nat.succ k) 1) vT,.fa (Nat.add (Nat.succ k) 1) fun i=>ifN i (Nat.add (Nat.succ k) 0) v (f i)⟩
noncomputable def yl (x:Vx) (i:Nat):Nat:=x.pp (Nat.add 0 i) 0 % 3
noncomputable def cvW (l:List Nat):Cv:=⟨true,32,pkA (byK (kBy 32 (nN l)) 0) 32⟩
noncomputable def zeN (l:List Nat):Bool:=qa 32 fun i=>is8 (zQ (Nat.add 0 i) (kBy 32 (nN l)))
noncomputable def rcW (x:Vx) (i:Nat) (t:List Nat):KV:=.cons (kU8 (yl x i)) (.cons (noK (Nat.mod (i % 3) 4294967296) (Nat.mod i 18446744073709551616)) (.cons (kBy 32 (nN t)) .nl))
noncomputable def zf1 (x:Vx) (i:Nat):Nat:=Nat.add (Nat.mul 2 i) (Nat.sub (yl x i) 1)
def ztI (x:Vx) (a b:List Nat) (bl dl:Nat→List Nat) (L:Nat) (P:KV→Prop) (d:Dd) (i:Nat) (q:Prop):Prop:=cnd (ixB (.ofNat i) x.p) (cnd (ixB (.ofNat i) x.p) ([kBy 16 (nN a),kBy 32 (nN b),kBy 32 (nN (wj (x.pp (Nat.add 0 i) 1)))]=[kBy 16 (nN a),kBy 32 (nN b),kBy 32 (nN (bl i))]∧[noK (Nat.mod (i % 3) 4294967296) (Nat.mod i 18446744073709551616)]=[noK (Nat.mod (i % 3) 4294967296) (Nat.mod i 18446744073709551616)]∧cnd (b63 (yl x i)) (cnd (Nat.ble 1 (yl x i)) (cnd (b63 (Nat.sub (yl x i) 1)) (cnd (nd (Nat.blt i 24) (Nat.ble (Nat.sub (yl x i) 1) 1)) (cnd (zeN (dl i)) (P (dK L d)∧q)))))))
def zm8 (x:Vx) (i:Nat) (p q:Prop):Prop:=alt (ltN i x.p) (cnd (ixB (.ofNat i) x.p) (alt (ltN 0 (yl x i)) p q)) q
noncomputable def ym (n:Nat) (a b:List Nat) (L:Nat) (d:Dd) (r r' m:Nat):KV:=JA n a b L d xO (.row r (.arr 32 .sc) m) (.row r' vT m) .nils
noncomputable def byL (x:Nd):List Nat:=@Nat.rec (fun _=>List Nat) (qS P32 P32 P64 x) (fun _ _=>jX P32 x) x.lv
noncomputable def byN (x:Nd):Nat:=@Nat.rec (fun _=>Nat) 185 (fun _ _=>137) x.lv
theorem zxy {x:Nd}(h:x.wb):byR x=zfX (byN x) (byL x):=by
 rw[zz6 h]
 unfold byP byN byL
 cases x.lv<;>rfl
attribute [local irreducible] kpre cOf mOf rOf JL zj
end
end Go.K
set_option maxRecDepth 100000
namespace Go.K
open Go.Ab Go.RowKit Go.Y Go.Proofs
noncomputable section
attribute [local instance 10000] gO
attribute [local irreducible] zj zi zo hS zY zE xj
theorem Jy {n m l j:Nat}{u:Ud}(H:UOk n m u) (V:UV n u) (h:isS n l j=true):(jg n u l j).wl∧(jg n u l j).wb∧zf5 (jg n u l j)∧(jg n u l j).lv=l:=by
 have hw:=Vi (now:=vI n u) H.n24 (fun i hi=>⟨H.wl i hi,H.wb i hi⟩) l j h
 have e:=zbc (zfT H V h)
 rw[zcB H.n24 h] at e
 have hl:=(xc H.n24 h).1
 exact⟨hw.1,hw.2.1,⟨zrO e.2.2,by rw[show (jg n u l j).lv=l from e.1]; exact hl⟩,e.1⟩
section
variable {n m:Nat}{u:Ud}
end
end
end Go.K
set_option maxRecDepth 100000
namespace Go.K
open Go.Ab Go.RowKit Go.Y Go.Proofs
noncomputable section
attribute [local instance 10000] gO
noncomputable def zfk (n:Nat) (l:List Nat):KV:=.str n (pkA (byK (.fa n fun i=>kU8 (nN l i)) 0) n)
end
end Go.K
set_option maxRecDepth 100000
namespace Go.K
open Go.Ab Go.RowKit Go.Y Go.Proofs
noncomputable section
attribute [local instance 10000] gO
theorem ziD {E:KEnv}(h:KOk E):KOk { E with sc:=true }:=⟨h.fns,h.ct,h.gn,h.mixed,h.ex,h.cb,h.as⟩
noncomputable def lvK (b:KV):Nat:=match b with
 | .cons (.int _ (.ofNat a)) _=>a
 | _=>0
noncomputable def ixK (b:KV):Nat:=match b with
 | .cons _ (.cons (.int _ (.ofNat a)) _)=>a
 | _=>0
noncomputable def Yk (n:Nat) (u:Ud) (k:Nat):Nd:=jg n u (lvI n k) (ixI n k)
attribute [local irreducible] kpre cOf mOf rOf JL zj zi zo hS zY zE xj
section
variable {n m:Nat}{u:Ud}
end
end
end Go.K
set_option maxRecDepth 100000
namespace Go.K
open Go.Ab Go.RowKit Go.Y Go.Proofs
noncomputable section
attribute [local instance 10000] gO
theorem zuN {x y:Cv}(h:x.k=y.k):x=y:=by
 obtain⟨a,b,c⟩:=x
 obtain⟨a',b',c'⟩:=y
 unfold Cv.k at h
 simp only[KV.cons.injEq,KV.bool.injEq,KV.str.injEq] at h
 obtain⟨rfl,⟨rfl,rfl⟩,_⟩:=h
 rfl
theorem zuO {L:Nat}{d e:Dd}(h:dK L d=dK L e):d=e:=by
 unfold dK at h
 simp only[KV.cons.injEq,KV.ro.injEq,KV.fa.injEq,true_and,and_true] at h
 have h1:∀ i,d.el i=e.el i:=fun i=>congrFun h i
 obtain⟨cn,cv⟩:=d
 obtain⟨cn',cv'⟩:=e
 have h2:∀ i,cn i=cn' i∧∀ j,cv i j=cv' i j:=fun i=>by
  have:=h1 i
  unfold Dd.el at this
  simp only[KV.ro.injEq,KV.fa.injEq,true_and,Nat.succ.injEq] at this
  exact⟨this.1,fun j=>zuN (congrFun this.2.2 j)⟩
 obtain rfl:cn=cn':=funext fun i=>(h2 i).1
 obtain rfl:cv=cv':=funext fun i=>funext fun j=>(h2 i).2 j
 rfl
open Classical in
noncomputable def deD (L:Nat) (x:KV):Dd:=if h:∃ d,x=dK L d then Classical.choose h else X2
theorem zc9 (L:Nat) (d:Dd):deD L (dK L d)=d:=by
 have h:∃ e,dK L d=dK L e:=⟨d,rfl⟩
 unfold deD
 rw[dif_pos h]
 exact (zuO (Classical.choose_spec h)).symm
def zbu (L:Nat) (d:Dd):Prop:=∀ i,i < L→d.cn i < 1000
def P65 (L:Nat) (x:KV):Prop:=∃ d,x=dK L d∧zbu L d
theorem zE3 {L:Nat}(h1:0 < L) (h2:L < 1000):qo Tryz.prog 65 (ztH L (P65 L) (deD L)):=⟨zpR.1,fun l K h=>zpR.2 l K (by
 obtain⟨x,y,z,rfl,q1⟩:=ZU h
 obtain⟨s,rfl,q2⟩:=zu q1
 obtain⟨t,r,rfl,q3⟩:=jv q2
 obtain⟨st,r2,rfl,q3'⟩:=jv q3
 obtain⟨rfl,⟨d,rfl,hd⟩,q4⟩:=Jq q3'
 obtain⟨th,rfl,q5⟩:=ztS q4
 rcases vq q5 with ⟨n,q,rfl,q6⟩ | ⟨_,q6⟩
 ·rw[zc9] at q6
  exact⟨(L,d,s,⟨th,n,q⟩),rfl,⟨h1,h2,hd⟩,q6⟩
 ·exact q6.elim)⟩
def wrV (x:Vx) (i:Nat):Prop:=i < x.p∧0 < yl x i
noncomputable def blV (x:Vx) (i:Nat):List Nat:=@ite _ (wrV x i) (Classical.propDecidable _) (wj (x.pp i 1)) z32
noncomputable def arV (x:Vx) (a b:List Nat) (i:Nat):P6s:=(a,b,i,Nat.mod (i % 3) 4294967296,Nat.mod i 18446744073709551616,blV x i)
noncomputable def dlV (x:Vx) (a b:List Nat) (i:Nat):List Nat:=sdL (arV x a b i)
noncomputable def tlV (x:Vx) (a b:List Nat) (i:Nat):List Nat:=zcj (arV x a b i)
noncomputable def rcV (x:Vx) (a b:List Nat) (i:Nat):Rc:=@ite _ (wrV x i) (Classical.propDecidable _) ⟨yl x i,Nat.mod (i % 3) 4294967296,Nat.mod i 18446744073709551616,tlV x a b i⟩ zRc
noncomputable def dV (x:Vx) (a b:List Nat):Nat→Dd
 | 0=>X2
 | i + 1=>@ite _ (wrV x i) (Classical.propDecidable _) (vg (dV x a b i) (zf1 x i) (cvW (dlV x a b i))) (dV x a b i)
theorem ze8 (x:Vx) (a b:List Nat):∀ i j,(dV x a b i).cn j≤i
 | 0,j=>Nat.le_refl 0
 | i + 1,j=>by
  have ih:=ze8 x a b i j
  show (@ite Dd (wrV x i) (Classical.propDecidable _) (vg (dV x a b i) (zf1 x i) (cvW (dlV x a b i))) (dV x a b i)).cn j≤i + 1
  split
  ·show (if j=zf1 x i then Nat.succ ((dV x a b i).cn j) else (dV x a b i).cn j)≤i + 1
   split<;>omega
  ·omega
noncomputable def q9 (x:Vx) (i:Nat):KV:=kBy 32 (nN (blV x i))
noncomputable def wa (x:Vx) (a b:List Nat) (i:Nat):KV:=(rcV x a b i).k
theorem zE4 {x:Vx}{a b:List Nat}(ha:x6 a):KCS Tryz.prog 34 (ztG a b (blV x) (dlV x a b) (tlV x a b)):=⟨ziz.1,fun l K h=>by
 unfold ztG la5 at h
 split at h
 ·rename_i X Y Z W P
  obtain⟨i,rfl,h1,h2,h3⟩:=zu h
  simp only[List.cons.injEq,and_true] at h1 h2
  obtain⟨rfl,rfl,rfl⟩:=h1
  subst h2
  exact ziz.2 _ K ⟨arV x a b i,rfl,ha,h3⟩
 ·exact h.elim⟩
theorem zE5:KCS Tryz.prog 62 zzg:=⟨zyf.1,fun l K h=>by
 obtain⟨v,rfl,h1⟩:=j3 h
 obtain⟨a,rfl,h2⟩:=XT h1
 exact zyf.2 _ K ⟨a,rfl,trivial,h2⟩⟩
theorem zE6:KCS Tryz.prog 35 (fun l K=>la2 l fun b c=>z6 b fun i=>z6 c fun s=>cnd (nd (Nat.blt i 24) (Nat.ble s 1)) (K (nI (Nat.add (Nat.mul 2 i) s)))):=⟨QW.1,fun l K h=>by
 obtain⟨b,c,rfl,h1⟩:=ju h
 obtain⟨i,rfl,h2⟩:=zu h1
 obtain⟨s,rfl,h3⟩:=zu h2
 obtain⟨h4,h5⟩:=za.1 h3
 obtain⟨q1,q2⟩:=zd.1 h4
 exact QW.2 _ K ⟨⟨XP.1 q1,ja.1 q2⟩,h5⟩⟩
end
end Go.K
