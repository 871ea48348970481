/- A node's bytes: nodes.Put, without spare capacity. No condition. -/
import Derived.Test.YtkllahedaiddgaaGreatDoorCPS
set_option linter.unusedSimpArgs false
set_option linter.unusedVariables false
set_option maxRecDepth 100000
namespace Go.K
open Go.Ab Go.RowKit Go.Y Go.Proofs
noncomputable section
attribute [local instance 10000] gO
noncomputable def l66:List Code:=fl (cOf 66)
noncomputable def za0 (n:Nat) (l:List Nat):KBlk:=⟨.row 5,.arr n .sc,kBy n (nN l)⟩
noncomputable def zGZ (x:Nd) (Q:QT) (R:RT):Prop:=pc EO0 66 l66 [] [37] (xd (mOf 66) 0 [(z0 x).k],[],0) Q R
theorem zG0 (x:Nd) (Q:QT) (R:RT):zGZ x Q R=R (.row 37 .sc 185) [some (za0 185 (qs S32 R32 R64 (z0 x)))] 38:=by kernel_rfl
noncomputable def zIo (l:Nat) (x:Nd) (Q:QT) (R:RT):Prop:=pc EO0 66 l66 [] [17] (xd (mOf 66) 0 [(s1 l x).k],[],0) Q R
theorem zIp (l:Nat) (x:Nd) (Q:QT) (R:RT):zIo l x Q R=R (.row 17 .sc 137) [some (za0 137 (jx S32 (s1 l x)))] 18:=by kernel_rfl
noncomputable def zcA (n:Nat) (l:List Nat):KV:=.ro true false .sc 0 n (.fa n fun i=>kU8 (nN l i))
noncomputable def byR (x:Nd):KV:=@Nat.rec (fun _=>KV) (zcA 185 (qs S32 R32 R64 x)) (fun _ _=>zcA 137 (jx S32 x)) x.lv
attribute [local irreducible] kpre cOf mOf rOf JL zp l66
theorem zIq:Tryz.f66.ntmps=45:=by kernel_rfl
theorem zEk:Tryz.f66.results.toList=rOf 66:=by kernel_rfl
theorem zIr:fl (cOf 66)=l66:=by kernel_rfl
theorem ztj {zm:KZ}{id n:Nat}{l:List Nat}(h1:kb zm id=some (za0 n l)):FzP false zm (.row id .sc n) (zcA n l):=FzP.row h1 rfl rfl fun i hi B C M h3 h4 mm hm=>by
 have e:KV.atv (@Nat.rec (fun _=>KV) .te (fun i t=>xk (kU8 (nN l i)) (enc i) t) n) (enc i) (kU8 0).v=(kU8 (nN l i)).v:=vY (f:=fun i=>kU8 (nN l i)) (z:=(kU8 0).v) hi
 have hm':R C (KV.atv (@Nat.rec (fun _=>KV) .te (fun i t=>xk (kU8 (nN l i)) (enc i) t) n) (enc i) (kU8 0).v) mm:=hm
 rw[e] at hm'
 exact R.noref _ rfl hm'
theorem j66 (x:Nd):JFn Tryz.prog 66 false [x.k] (byR x):=by
 obtain⟨lv,ix,rc,en⟩:=x
 refine JFn.of (P:=Tryz.prog) zI rfl (c:=cOf 66) (mOf 66) Tryz.func66 (by kernel_rfl) fun B N hN=>?_
 rw[zIq] at hN
 rw[zIr]
 cases lv with
 | zero =>
  have:=JL.goR (B:=B) (N:=N) (mask:=mOf 66) (l1:=l66) (l2:=[]) (Q:=retJ EO0 Tryz.f66 false (byR ⟨0,ix,rc,en⟩)) (n:=60) zI rfl (rOf 66) [] [37] (lt0:=xd (mOf 66) 0 [(⟨0,ix,rc,en⟩:Nd).k]) (lz0:=[]) (n0:=0) hN (by kernel_rfl) (by kernel_rfl) ?_
  ·rwa [List.append_nil] at this
  ·refine Eq.mpr (zG0 ⟨0,ix,rc,en⟩ _ _) ?_
   intro tr zm hz hmb hi hr
   have h1:kb zm 37=some (za0 185 (qs S32 R32 R64 ⟨0,ix,rc,en⟩)):=congrArg (fun l=>l.getD 0 none) hz
   exact retJ.mk rfl zEk (ztj h1) hr
 | succ l =>
  have:=JL.goR (B:=B) (N:=N) (mask:=mOf 66) (l1:=l66) (l2:=[]) (Q:=retJ EO0 Tryz.f66 false (byR ⟨l + 1,ix,rc,en⟩)) (n:=60) zI rfl (rOf 66) [] [17] (lt0:=xd (mOf 66) 0 [(⟨l + 1,ix,rc,en⟩:Nd).k]) (lz0:=[]) (n0:=0) hN (by kernel_rfl) (by kernel_rfl) ?_
  ·rwa [List.append_nil] at this
  ·refine Eq.mpr (zIp l ⟨l + 1,ix,rc,en⟩ _ _) ?_
   intro tr zm hz hmb hi hr
   have h1:kb zm 17=some (za0 137 (jx S32 ⟨l + 1,ix,rc,en⟩)):=congrArg (fun l=>l.getD 0 none) hz
   exact retJ.mk rfl zEk (ztj h1) hr
noncomputable def zIs:zf:=vp (fun x:Nd=>[x.k]) (fun _=>True) byR
theorem zEl:KCS Tryz.prog 66 zIs:=vV ⟨Tryz.f66,Tryz.func66,by kernel_rfl,by kernel_rfl⟩ fun x _=>j66 x
end
end Go.K
set_option maxRecDepth 100000
namespace Go.K
open Go.Ab Go.RowKit Go.Y Go.Proofs
noncomputable section
attribute [local instance 10000] gO
noncomputable def zfH:KEnv:=EO0.tab [(192,zvr),(125,zvs),(247,zvt)]
noncomputable def zbj:List Code:=fl (cOf 166)
noncomputable def zeN (n:Nat) (l:List Nat):KBlk:=⟨.box 5,.arr n .sc,kBy n (nN l)⟩
noncomputable def zqT (n:Nat):KV:=.tup (.cons (.sl 1 [] .sc 0 n (some n)) (.cons (nI 0) .nl))
noncomputable def zE2 (x:Nd) (Q:QT) (R:RT):Prop:=pc zfH 166 zbj [] [1] (xd (mOf 166) 0 [(z0 x).k],[],0) Q R
theorem zE3 (x:Nd) (Q:QT) (R:RT):zE2 x Q R=((z0 x).nf.ok∧(x.rc 0).nf.ok∧(x.rc 1).nf.ok∧(x.rc 2).nf.ok∧(x.rc 3).nf.ok∧R (zqT 185) [some (zeN 185 (qs P32 P32 P64 (z0 x)))] 51):=by kernel_rfl
noncomputable def zty (l:Nat) (x:Nd) (Q:QT) (R:RT):Prop:=pc zfH 166 zbj [] [1] (xd (mOf 166) 0 [(s1 l x).k],[],0) Q R
theorem zyJ (x:Nd) (Q:QT) (R:RT):zty 0 x Q R=((s1 0 x).nf.ok∧(x.en 0).nf.ok∧(x.en 1).nf.ok∧(x.en 2).nf.ok∧(x.en 3).nf.ok∧R (zqT 137) [some (zeN 137 (jx P32 (s1 0 x)))] 31):=by kernel_rfl
theorem zyK (x:Nd) (Q:QT) (R:RT):zty 1 x Q R=((s1 1 x).nf.ok∧(x.en 0).nf.ok∧(x.en 1).nf.ok∧(x.en 2).nf.ok∧(x.en 3).nf.ok∧R (zqT 137) [some (zeN 137 (jx P32 (s1 1 x)))] 31):=by kernel_rfl
theorem zeO:KOk zfH:=zI.tab ⟨zEP,zEQ,zER,trivial⟩
noncomputable def byP (x:Nd):KV:=@Nat.rec (fun _=>KV) (zcA 185 (qs P32 P32 P64 x)) (fun _ _=>zcA 137 (jx P32 x)) x.lv
theorem zE4 {x:Nd}(h:x.wb):byR x=byP x:=by
 unfold byR byP
 rw[zeE h,Yy h]
attribute [local irreducible] kpre cOf mOf rOf JL zp zbj
theorem zE5:Tryz.f166.ntmps=44:=by kernel_rfl
theorem zlu:Tryz.f166.results.toList=rOf 166:=by kernel_rfl
theorem zE6:fl (cOf 166)=zbj:=by kernel_rfl
end
end Go.K
set_option maxRecDepth 100000
namespace Go.K
open Go.Ab Go.RowKit Go.Y Go.Proofs
noncomputable section
attribute [local instance 10000] gO
theorem FzP.slC {br:Bool}{zm:KZ}{id off k n1:Nat}{p:List Step}{cap:Option Nat}{e:Shape}{b:KBlk}{w:KV}{f:Nat→V}(hb:kb zm id=some b) (ha:qQ b.k=true) (hc:qm cap k=true) (hp:jX p b.v=true) (hv:(xV p b.v).v=.arr n1 f) (hg:∀ i,i < k→FzE br zm (f (off + i)) (w.v.step (.idx i))):FzP br zm (.sl id p e off k cap) (.ro true true e 0 k w):=fun B C M h1 h2 m hr=>by
 have q:=R.sl_fr (br:=br) (B:=B) (u:=true) (g:=fun i=>w.v.step (.idx i)) h1 (h2 _ _ (zL hb)) ((xp b.k b.sh b.v.v).trans ha) (by show V.path p b.v.v=_; rw[←vl p _ hp]; exact hv) (fun i hi md hm=>hg i hi B C M h1 h2 md hm) hr
 rw[hc] at q
 show R (frC br C B) (.ro true true e k fun i=>w.v.step (.idx (0 + i))) m
 simpa only [Nat.zero_add] using q
noncomputable def zpb (n:Nat) (l:List Nat):KV:=.ro true true .sc 0 n (.fa n fun i=>kU8 (nN l i))
noncomputable def byL (x:Nd):List Nat:=@Nat.rec (fun _=>List Nat) (qs P32 P32 P64 x) (fun _ _=>jx P32 x) x.lv
noncomputable def byN (x:Nd):Nat:=@Nat.rec (fun _=>Nat) 185 (fun _ _=>137) x.lv
theorem zCW {x:Nd}(h:x.wb):byR x=zcA (byN x) (byL x):=by
 rw[zE4 h]
 unfold byP byN byL
 cases x.lv<;>rfl
noncomputable def za3 (x:Nd):KV:=.tup (.cons (zpb (byN x) (byL x)) (.cons (nI 0) .nl))
attribute [local irreducible] kpre cOf mOf rOf JL zp zbj
theorem zcn {zm:KZ}{n:Nat}{l:List Nat}(h1:kb zm 1=some (zeN n l)):FzP false zm (zqT n) (.tup (.cons (zpb n l) (.cons (nI 0) .nl))):=FzP.tup (FzP.cons (FzP.slC h1 rfl (by unfold qm; simp) rfl rfl fun i hi=>by
 have e:KV.atv (@Nat.rec (fun _=>KV) .te (fun i t=>xk (kU8 (nN l i)) (enc i) t) n) (enc (0 + i)) (kU8 0).v=(kU8 (nN l i)).v:=by
  rw[Nat.zero_add]; exact vY (f:=fun i=>kU8 (nN l i)) (z:=(kU8 0).v) hi
 intro B C M h3 h4 mm hm
 have hm':R C (KV.atv (@Nat.rec (fun _=>KV) .te (fun i t=>xk (kU8 (nN l i)) (enc i) t) n) (enc (0 + i)) (kU8 0).v) mm:=hm
 rw[e] at hm'
 exact R.noref _ rfl hm') (FzP.cons (FzP.noref rfl) (FzP.noref rfl)))
theorem zCX {x:Nd}(w:x.wl) (hk:x.ok) (hl:x.lv≤2):JFn Tryz.prog 166 false [x.k] (za3 x):=by
 obtain⟨lv,ix,rc,en⟩:=x
 refine JFn.of (P:=Tryz.prog) zeO rfl (c:=cOf 166) (mOf 166) Tryz.func166 (by kernel_rfl) fun B N hN=>?_
 rw[zE5] at hN
 rw[zE6]
 match lv,hl with
 | 0,_ =>
  have:=JL.goR (B:=B) (N:=N) (mask:=mOf 166) (l1:=zbj) (l2:=[]) (Q:=retJ zfH Tryz.f166 false (za3 ⟨0,ix,rc,en⟩)) (n:=60) zeO rfl (rOf 166) [] [1] (lt0:=xd (mOf 166) 0 [(⟨0,ix,rc,en⟩:Nd).k]) (lz0:=[]) (n0:=0) hN (by kernel_rfl) (by kernel_rfl) ?_
  ·rwa [List.append_nil] at this
  ·refine Eq.mpr (zE3 ⟨0,ix,rc,en⟩ _ _) ⟨Z5 w hk,w0 w hk rfl (by omega),w0 w hk rfl (by omega),w0 w hk rfl (by omega),w0 w hk rfl (by omega),?_⟩
   intro tr zm hz hmb hi hr
   exact retJ.mk rfl zlu (zcn (congrArg (fun l=>l.getD 0 none) hz)) hr
 | 1,_ =>
  have:=JL.goR (B:=B) (N:=N) (mask:=mOf 166) (l1:=zbj) (l2:=[]) (Q:=retJ zfH Tryz.f166 false (za3 ⟨1,ix,rc,en⟩)) (n:=60) zeO rfl (rOf 166) [] [1] (lt0:=xd (mOf 166) 0 [(⟨1,ix,rc,en⟩:Nd).k]) (lz0:=[]) (n0:=0) hN (by kernel_rfl) (by kernel_rfl) ?_
  ·rwa [List.append_nil] at this
  ·refine Eq.mpr (zyJ ⟨1,ix,rc,en⟩ _ _) ⟨Z5 (x:=⟨1,ix,rc,en⟩) w hk,vv w hk (by simp) (by omega),vv w hk (by simp) (by omega),vv w hk (by simp) (by omega),vv w hk (by simp) (by omega),?_⟩
   intro tr zm hz hmb hi hr
   exact retJ.mk rfl zlu (zcn (congrArg (fun l=>l.getD 0 none) hz)) hr
 | 2,_ =>
  have:=JL.goR (B:=B) (N:=N) (mask:=mOf 166) (l1:=zbj) (l2:=[]) (Q:=retJ zfH Tryz.f166 false (za3 ⟨2,ix,rc,en⟩)) (n:=60) zeO rfl (rOf 166) [] [1] (lt0:=xd (mOf 166) 0 [(⟨2,ix,rc,en⟩:Nd).k]) (lz0:=[]) (n0:=0) hN (by kernel_rfl) (by kernel_rfl) ?_
  ·rwa [List.append_nil] at this
  ·refine Eq.mpr (zyK ⟨2,ix,rc,en⟩ _ _) ⟨Z5 (x:=⟨2,ix,rc,en⟩) w hk,vv w hk (by simp) (by omega),vv w hk (by simp) (by omega),vv w hk (by simp) (by omega),vv w hk (by simp) (by omega),?_⟩
   intro tr zm hz hmb hi hr
   exact retJ.mk rfl zlu (zcn (congrArg (fun l=>l.getD 0 none) hz)) hr
noncomputable def Yk:zf:=vp (fun x:Nd=>[x.k]) (fun x=>x.wl∧x.ok∧x.lv≤2) za3
theorem zpc:KCS Tryz.prog 166 Yk:=vV ⟨Tryz.f166,Tryz.func166,by kernel_rfl,by kernel_rfl⟩ fun x h=>zCX h.1 h.2.1 h.2.2
end
end Go.K
