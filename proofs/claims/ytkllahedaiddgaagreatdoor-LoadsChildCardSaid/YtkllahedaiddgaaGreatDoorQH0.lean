/- commits.Apply: walked. No condition. -/
import Derived.Test.YtkllahedaiddgaaGreatDoorQG4
import Derived.Test.YtkllahedaiddgaaGreatDoorZD4
import Derived.Test.YtkllahedaiddgaaGreatDoorZD3
import Derived.Test.YtkllahedaiddgaaGreatDoorQC0
set_option linter.unusedSimpArgs false
set_option linter.unusedVariables false
set_option maxRecDepth 100000
namespace Go.K
open Go.Ab Go.RowKit Go.Y Go.Proofs
noncomputable section
attribute [local instance 10000] gO
structure PE where
 n:Nat
 l:Nat
 j:Nat
 s:Nat
 sec:Nat
 x:Nd
 e:Nat
 D:List Nat
 w:List Nat
 P:Prop
noncomputable def E54 (y:PE) (L:Nat) (d:Dd) (c:Cv) (b:Bool):KEnv:=EO0.tab [(27,zq [nI y.n,nI y.l,nI y.j,nI y.s] (nI y.sec)),(74,zq [dK L d,nI y.sec] c.k),(120,zq [.str c.ln c.st] (tB2 y.x.k b)),(58,zq [nI y.n,y.x.k] (nI y.e)),(55,fun q K=>q=[y.x.k]∧y.P∧K (kBy 32 (nN y.D)))]
def p54 (y:PE) (L:Nat) (d:Dd) (c:Cv) (b:Bool) (K:KV→Prop):Prop:=zi (E54 y L d c b) (zj (E54 y L d c b) 60) 0 54 [nI y.n,dK L d,nI y.l,nI y.j,nI y.s,kBy 32 (nN y.w)] .e 0 0 fun r _ _ _=>K r
noncomputable def zrV (y:PE) (d:Dk) (o:Option Vr) (e1:Nat):KEnv:=(EO0.tab [(165,zq [nI y.n,nI y.l,nI y.j,nI y.s] (tE2 (nI y.sec) 0)),(242,zq [y9 (lnO o) (byO o)] (tE2 y.x.k e1)),(123,zq [nI y.n,y.x.k] (nI y.e)),(158,fun q K=>q=[y.x.k]∧y.P∧K (tE2 (kBy 32 (nN y.D)) 0))]).tabB [(73,zq [d.k,nI y.sec] (ql o))]
noncomputable def za3 (n:Nat) (d:Dk):KV:=.cons (nI n) (.cons d.k .nl)
noncomputable def plP (l j:Nat):KV:=.cons (nI l) (.cons (nI j) .nl)
def zwF (y:PE) (d:Dk) (o:Option Vr) (e1:Nat) (K:KV→Prop):Prop:=zi (zrV y d o e1) (zj (zrV y d o e1) 60) 0 187 [za3 y.n d,plP y.l y.j,nI y.s,kBy 32 (nN y.w)] .e 0 0 fun r _ _ _=>K r
noncomputable def prK (a b:Nat):KV:=.cons (nI a) (.cons (nI b) .nl)
noncomputable def F54 (y:PE) (k:Nat):KV:=.tup (.cons xv (.cons (prK y.sec k) .nl))
theorem e54 (y:PE) (L:Nat) (d:Dd) (c:Cv) (b:Bool) (K:KV→Prop):p54 y L d c b K=([nI y.n,nI y.l,nI y.j,nI y.s]=[nI y.n,nI y.l,nI y.j,nI y.s]∧[dK L d,nI y.sec]=[dK L d,nI y.sec]∧alt (!c.th) (K (F54 y 1)) ([KV.str c.ln c.st]=[KV.str c.ln c.st]∧alt (!b) (K (F54 y 2)) (cnd (b63 y.x.lv) (alt (!(eqN y.x.lv y.l)) (K (F54 y 3)) (cnd (b63 y.x.ix) (alt (!(eqN y.x.ix y.j)) (K (F54 y 3)) ([nI y.n,y.x.k]=[nI y.n,y.x.k]∧alt (!(eqN y.e 0)) (K (F54 y 3)) ([y.x.k]=[y.x.k]∧y.P∧alt (!(eqB 32 (nN y.D) (nN y.w))) (K (F54 y 4)) (K (.tup (.cons y.x.k (.cons (prK 0 0) .nl)))))))))))):=by kernel_rfl
noncomputable def pgK (a b:Nat):KV:=.cons (nI a) (.cons (kU8 b) .nl)
noncomputable def zci (y:PE) (k:Nat):KV:=.tup (.cons xv (.cons (pgK y.sec k) (.cons (nI 9) .nl)))
theorem zB9 (y:PE) (d:Dk) (o:Option Vr) (e1:Nat) (K:KV→Prop):zwF y d o e1 K=([nI y.n,nI y.l,nI y.j,nI y.s]=[nI y.n,nI y.l,nI y.j,nI y.s]∧[d.k,nI y.sec]=[d.k,nI y.sec]∧alt (!(eqN (erO o) 0)) (K (zci y 1)) ([y9 (lnO o) (byO o)]=[y9 (lnO o) (byO o)]∧alt (!(eqN e1 0)) (K (zci y 2)) (cnd (b63 y.x.lv) (alt (eqN y.x.lv y.l) (cnd (b63 y.x.ix) (alt (eqN y.x.ix y.j) ([nI y.n,y.x.k]=[nI y.n,y.x.k]∧alt (!(eqN y.e 0)) (K (zci y 3)) ([y.x.k]=[y.x.k]∧y.P∧alt (!(eqB 32 (nN y.D) (nN y.w))) (K (zci y 4)) (K (.tup (.cons y.x.k (.cons (pgK 0 0) (.cons (nI 0) .nl))))))) (K (zci y 3)))) (K (zci y 3)))))):=by kernel_rfl
end
end Go.K
set_option maxRecDepth 100000
namespace Go.K
open Go.Ab Go.RowKit Go.Y Go.Proofs
noncomputable section
attribute [local instance 10000] gO
theorem Yu (x:Nd) (f:Nd→Prop):qj x.k f=f x.nf:=by kernel_rfl
open Classical in
noncomputable def yk (y:PE) (a b:Bool):Nat:=if a=false then 1 else if b=false then 2 else if y.x.lv=y.l∧y.x.ix=y.j∧y.e=0 then (if eqB 32 (nN y.D) (nN y.w)=true then 0 else 4) else 3
noncomputable def yJ (y:PE) (k:Nat):Nd:=@ite _ (k=0) (Nat.decEq _ _) y.x qY
noncomputable def zf0 (y:PE) (k:Nat):Nat:=@ite _ (k=0) (Nat.decEq _ _) 0 y.sec
noncomputable def erN (k:Nat):Nat:=@ite _ (k=0) (Nat.decEq _ _) 0 9
noncomputable def w54 (y:PE) (k:Nat):KV:=.tup (.cons (yJ y k).k (.cons (prK (zf0 y k) k) .nl))
noncomputable def Qm (y:PE) (k:Nat):KV:=.tup (.cons (yJ y k).k (.cons (pgK (zf0 y k) k) (.cons (nI (erN k)) .nl)))
theorem ztA (y:PE) (k:Nat):zA (w54 y k).v=true:=by kernel_rfl
theorem zeJ (y:PE) (k:Nat):zA (Qm y k).v=true:=by kernel_rfl
attribute [local irreducible] zj zi zo hS zY zE zt
section
variable {y:PE}{a b:Bool}
theorem zeK (h:a=false):yk y a b=1:=if_pos h
theorem zeL (h:a=true) (h2:b=false):yk y a b=2:=(if_neg (by rw[h]; decide)).trans (if_pos h2)
theorem Q3 (h:a=true) (h2:b=true) (h3:¬ (y.x.lv=y.l∧y.x.ix=y.j∧y.e=0)):yk y a b=3:=(if_neg (by rw[h]; decide)).trans ((if_neg (by rw[h2]; decide)).trans (if_neg h3))
theorem zpv (h:a=true) (h2:b=true) (h3:y.x.lv=y.l∧y.x.ix=y.j∧y.e=0) (h4:eqB 32 (nN y.D) (nN y.w)=false):yk y a b=4:=(if_neg (by rw[h]; decide)).trans ((if_neg (by rw[h2]; decide)).trans ((if_pos h3).trans (if_neg (by rw[h4]; decide))))
theorem zpw (h:a=true) (h2:b=true) (h3:y.x.lv=y.l∧y.x.ix=y.j∧y.e=0) (h4:eqB 32 (nN y.D) (nN y.w)=true):yk y a b=0:=(if_neg (by rw[h]; decide)).trans ((if_neg (by rw[h2]; decide)).trans ((if_pos h3).trans (if_pos h4)))
theorem yd {k k':Nat}(e:k'=k) (h:k≠0):Imp (F54 y k).v (w54 y k').v:=by
 subst e
 unfold w54 yJ zf0
 rw[if_neg h,if_neg h]
 exact Imp.tup (Imp.cons Z6 (Imp.refl _))
theorem qw {k k':Nat}(e:k'=k) (h:k≠0):Imp (zci y k).v (Qm y k').v:=by
 subst e
 unfold Qm yJ zf0 erN
 rw[if_neg h,if_neg h,if_neg h]
 exact Imp.tup (Imp.cons Z6 (Imp.refl _))
theorem nbt {b:Bool}:(!b)=true↔b=false:=by cases b<;>decide
theorem nbf {b:Bool}:(!b)=false↔b=true:=by cases b<;>decide
theorem zzc {L:Nat}{d:Dd}{c:Cv}{b:Bool}(h1:y.x.lv < 4294967296) (h2:y.x.ix < 4294967296) (hP:y.x.lv=y.l∧y.x.ix=y.j∧y.e=0→y.P):p54 y L d c b fun r=>Imp r.v (w54 y (yk y c.th b)).v:=by
 rw[e54]
 refine⟨rfl,rfl,zg.2 ⟨fun q=>yd (zeK (nbt.1 q)) (by decide),fun q=>⟨rfl,zg.2 ⟨fun q2=>yd (zeL (nbf.1 q) (nbt.1 q2)) (by decide),fun q2=>za.2 ⟨zH.2 (by omega),?_⟩⟩⟩⟩⟩
 have ha:=nbf.1 q
 have hb:=nbf.1 q2
 refine zg.2 ⟨fun q3=>yd (Q3 ha hb fun h=>(bf z9).1 (nbt.1 q3) h.1) (by decide),fun q3=>za.2 ⟨zH.2 (by omega),zg.2 ⟨fun q4=>yd (Q3 ha hb fun h=>(bf z9).1 (nbt.1 q4) h.2.1) (by decide),fun q4=>⟨rfl,zg.2 ⟨fun q5=>yd (Q3 ha hb fun h=>(bf z9).1 (nbt.1 q5) h.2.2) (by decide),fun q5=>?_⟩⟩⟩⟩⟩
 have h3:y.x.lv=y.l∧y.x.ix=y.j∧y.e=0:=⟨z9.1 (nbf.1 q3),z9.1 (nbf.1 q4),z9.1 (nbf.1 q5)⟩
 refine⟨rfl,hP h3,zg.2 ⟨fun q6=>yd (zpv ha hb h3 (nbt.1 q6)) (by decide),fun q6=>?_⟩⟩
 rw[zpw ha hb h3 (nbf.1 q6)]
 exact Imp.refl _
theorem ztB {d:Dk}{o:Option Vr}{e1:Nat}(h1:y.x.lv < 4294967296) (h2:y.x.ix < 4294967296) (hP:y.x.lv=y.l∧y.x.ix=y.j∧y.e=0→y.P):zwF y d o e1 fun r=>Imp r.v (Qm y (yk y (eqN (erO o) 0) (eqN e1 0))).v:=by
 rw[zB9]
 refine⟨rfl,rfl,zg.2 ⟨fun q=>qw (zeK (nbt.1 q)) (by decide),fun q=>⟨rfl,zg.2 ⟨fun q2=>qw (zeL (nbf.1 q) (nbt.1 q2)) (by decide),fun q2=>za.2 ⟨zH.2 (by omega),?_⟩⟩⟩⟩⟩
 have ha:=nbf.1 q
 have hb:=nbf.1 q2
 refine zg.2 ⟨fun q3=>za.2 ⟨zH.2 (by omega),zg.2 ⟨fun q4=>⟨rfl,zg.2 ⟨fun q5=>qw (Q3 ha hb fun h=>(bf z9).1 (nbt.1 q5) h.2.2) (by decide),fun q5=>?_⟩⟩,fun q4=>qw (Q3 ha hb fun h=>(bf z9).1 q4 h.2.1) (by decide)⟩⟩,fun q3=>qw (Q3 ha hb fun h=>(bf z9).1 q3 h.1) (by decide)⟩
 have h3:y.x.lv=y.l∧y.x.ix=y.j∧y.e=0:=⟨z9.1 q3,z9.1 q4,z9.1 (nbf.1 q5)⟩
 refine⟨rfl,hP h3,zg.2 ⟨fun q6=>qw (zpv ha hb h3 (nbt.1 q6)) (by decide),fun q6=>?_⟩⟩
 rw[zpw ha hb h3 (nbf.1 q6)]
 exact Imp.refl _
end
end
end Go.K
set_option maxRecDepth 100000
namespace Go.K
open Go.Ab Go.RowKit Go.Y Go.Proofs
noncomputable section
attribute [local instance 10000] gO
abbrev P7s:=List Nat×List Nat×Nat×Nat×Nat×List Nat×List Nat
attribute [local irreducible] cfS cfR zca vD Jo hmR eqB ZO wK
noncomputable def eB9 (b:Bool):Nat:=@Bool.rec (fun _=>Nat) 9 0 b
noncomputable def opE (x:P7s):Nat:=eB9 (eqB 32 (nN (Jo hmR x.2.1 x.2.2.1 x.2.2.2.1 x.2.2.2.2.1 x.2.2.2.2.2.1)) (nN x.2.2.2.2.2.2))
noncomputable def opD (x:P7s):List Nat:=@ite _ (opE x=0) (Nat.decEq _ _) (ZO wK x.1 x.2.2.2.1 x.2.2.2.2.1 x.2.2.2.2.2.1) z32
noncomputable def opW (x:P7s):KV:=opK (kBy 32 (nN (opD x))) (opE x)
theorem zj2 (x:P7s):zA (opW x).v=true:=by kernel_rfl
structure opOk (x:P7s):Prop where
 en:x6 x.1
 i:x.2.2.1 < 4096
 no:noOk x.2.2.2.1 x.2.2.2.2.1
 dl:x.2.2.2.2.2.1.length=32
 db:∀ b∈x.2.2.2.2.2.1,b < 256
 tb:x6 x.2.2.2.2.2.2
theorem zpC {x:P7s}(h:eqB 32 (nN (Jo hmR x.2.1 x.2.2.1 x.2.2.2.1 x.2.2.2.2.1 x.2.2.2.2.2.1)) (nN x.2.2.2.2.2.2)=true):opE x=0:=(congrArg eB9 h).trans (show eB9 true=0 from rfl)
theorem zpD {x:P7s}(h:eqB 32 (nN (Jo hmR x.2.1 x.2.2.1 x.2.2.2.1 x.2.2.2.2.1 x.2.2.2.2.2.1)) (nN x.2.2.2.2.2.2)=false):opE x=9:=(congrArg eB9 h).trans (show eB9 false=9 from rfl)
theorem zpE {x:P7s}(h:opE x=0):opW x=opK (kBy 32 (nN (ZO wK x.1 x.2.2.2.1 x.2.2.2.2.1 x.2.2.2.2.2.1))) 0:=by
 unfold opW opD
 rw[if_pos h,h]
theorem zpF {x:P7s}(h:opE x=9):Imp (opK (.ar 32 (kU8 0) .te) 9).v (opW x).v:=by
 have e:opW x=opK (kBy 32 (nN z32)) 9:=by
  unfold opW opD
  rw[if_neg (by rw[h]; decide),h]
 rw[e]
 exact Imp.tup (Imp.cons qb (Imp.refl _))
theorem ztX (mc:List Nat) (i a b:Nat) (d:List Nat):x6 (zcM cfS mc i a b d):=fun j=>by
 unfold zcM hmL
 exact xV (by omega) (Vp _ _ _ _ _) j
theorem JE:KCS Tryz.prog 131 (xM (fun x:P7s=>[ksK x.1 x.2.1,nI x.2.2.1,noK x.2.2.2.1 x.2.2.2.2.1,kBy 32 (nN x.2.2.2.2.2.1),kBy 32 (nN x.2.2.2.2.2.2)]) opOk opW):=xm ⟨Tryz.f131,Tryz.func131,by kernel_rfl,by kernel_rfl⟩ fun l K hs=>by
 obtain⟨⟨en,mc,i,a,b,d,t⟩,rfl,H,hk⟩:=hs
 have he:x6 en:=H.en
 have hi:i < 4096:=H.i
 have hno:noOk a b:=H.no
 have ht:zcM cfS mc i a b d=Jo hmR mc i a b d:=zsx hno H.db H.dl
 have hv:zii (zcM cfS mc i a b d) t=eqB 32 (nN (Jo hmR mc i a b d)) (nN t):=by
  rw[zsz (ztX mc i a b d) H.tb,ht]
 refine⟨_,zsy (mc:=mc) (p:=d) he hno,rfl,300,fun r=>Imp r.v (opW (en,mc,i,a,b,d,t)).v,_,hk,zj2 _,fun r hr=>hr,Eq.mpr (zBF cfS en mc i a b d t (ZO wK en a b d) _) (zg.2 ⟨fun q=>(by rw[leB hi] at q; cases q),fun _=>zg.2 ⟨fun q=>?_,fun q=>⟨rfl,?_⟩⟩⟩)⟩
 ·rw[hv] at q
  exact zpF (zpD (nbt.1 q))
 ·rw[hv] at q
  rw[zpE (x:=(en,mc,i,a,b,d,t)) (zpC (nbf.1 q))]
  exact Imp.refl _
theorem YD:KCS Tryz.prog 122 (xM (fun x:P7s=>[kBy 16 (nN x.1),kBy 32 (nN x.2.1),nI x.2.2.1,noK x.2.2.2.1 x.2.2.2.2.1,kBy 32 (nN x.2.2.2.2.2.1),kBy 32 (nN x.2.2.2.2.2.2)]) (fun x=>x6 x.1) opW):=xm ⟨Tryz.f122,Tryz.func122,by kernel_rfl,by kernel_rfl⟩ fun l K hs=>by
 obtain⟨⟨en,mc,i,a,b,d,t⟩,rfl,he,hk⟩:=hs
 have he:x6 en:=he
 refine⟨E34 x6 wK hmR,zwI,rfl,300,fun r=>Imp r.v (opW (en,mc,i,a,b,d,t)).v,_,hk,zj2 _,fun r hr=>hr,Eq.mpr (zDj x6 wK hmR en mc i a b d t _) (zg.2 ⟨fun q=>zpF (zpD (nbt.1 q)),fun q=>⟨ZQ he,ZQ he,?_⟩⟩)⟩
 rw[zpE (x:=(en,mc,i,a,b,d,t)) (zpC (nbf.1 q))]
 exact Imp.refl _
end
end Go.K
set_option maxRecDepth 100000
namespace Go.K
open Go.Ab Go.RowKit Go.Y Go.Proofs
noncomputable section
attribute [local instance 10000] gO
theorem zcq {f:Nat→Nat}(h:∀ i,f i < 256) (o:Nat):be4 f o < 4294967296:=by
 have h0:=h o
 have h1:=h (o + 1)
 have h2:=h (o + 2)
 have h3:=h (o + 3)
 unfold be4
 omega
theorem zso {f:Nat→Nat}(h:∀ i,f i < 256) (o:Nat):be8 f o < 18446744073709551616:=by
 have h0:=h o
 have h1:=h (o + 1)
 have h2:=h (o + 2)
 have h3:=h (o + 3)
 have h4:=h (o + 4)
 have h5:=h (o + 5)
 have h6:=h (o + 6)
 have h7:=h (o + 7)
 unfold be8
 omega
theorem zsp {f:Nat→Nat}(h:∀ i,f i < 256) (w:Nat):(rcD f w).wb:=⟨h _,zcq h _,zso h _,xy (n:=32) (f:=fun i=>f (18 + 45 * w + i)) fun i _=>h _⟩
theorem zsq {f:Nat→Nat}(h:∀ i,f i < 256) (w:Nat):(enD f w).wb:=⟨h _,xy (n:=32) (f:=fun i=>f (6 + 33 * w + i)) fun i _=>h _⟩
attribute [local irreducible] qj
structure ndOk (x:Nd):Prop where
 wl:x.wl
 wb:x.wb
theorem zek:ndOk qY:=⟨⟨fun i _=>rfl,fun i _=>rfl⟩,by decide,by decide,fun i _=>Jn,fun i _=>W9⟩
theorem zel {f:Nat→Nat}(h:∀ i,f i < 256):ndOk (ndD f):=by
 refine⟨ziM f,?_⟩
 unfold ndD
 split
 ·exact⟨by show 0 < 256; omega,zcq h _,fun i _=>zsp h i,fun i _=>W9⟩
 ·exact⟨h _,zcq h _,fun i _=>Jn,fun i _=>zsq h i⟩
theorem zsr (n st:Nat):ndOk (pX n st):=by
 unfold pX
 split
 ·exact zek
 ·exact zel (vG st)
theorem zss {n:Nat}{f:Nat→Nat}(h:∀ i,f i < 256):ndOk (gX n f):=by
 unfold gX
 split
 ·exact zel h
 ·exact zek
theorem zxi {n:Nat}{x:Nd}(hn:zC n=true) (hx:ndOk x):KCS Tryz.prog 58 (zq [nI n,x.k] (nI (x.nf.fe n))):=⟨zo2.1,fun l K h=>zo2.2 l K (by
 obtain⟨rfl,h1⟩:=h
 show qj x.k fun x=>(zC n=true∧x.lv < 256∧x.ix < 4294967296)∧K (nI (x.fe n))
 rw[Yu]
 exact⟨⟨hn,hx.wb.1,hx.wb.2.1⟩,h1⟩)⟩
theorem zo6 {n:Nat}{x:Nd}(hn:zC n=true) (hx:ndOk x):KCS Tryz.prog 123 (zq [nI n,x.k] (nI (x.nf.fe n))):=⟨ziG.1,fun l K h=>ziG.2 l K (by
 obtain⟨rfl,h1⟩:=h
 show qj x.k fun x=>(zC n=true∧x.lv < 256∧x.ix < 4294967296)∧K (nI (x.fe n))
 rw[Yu]
 exact⟨⟨hn,hx.wb.1,hx.wb.2.1⟩,h1⟩)⟩
theorem zCy {x:Nd}:KCS Tryz.prog 55 (fun q K=>q=[x.k]∧zcP x.nf∧K (kBy 32 (nN x.nf.dg))):=⟨zbn.1,fun l K h=>zbn.2 l K (by
 obtain⟨rfl,h1,h2⟩:=h
 show qj x.k fun x=>zcP x∧K (kBy 32 (nN x.dg))
 rw[Yu]
 exact⟨h1,h2⟩)⟩
theorem zxj {x:Nd}:KCS Tryz.prog 158 (fun q K=>q=[x.k]∧zf5 x.nf∧K (tE2 (kBy 32 (nN x.nf.dg)) 0)):=⟨zj1.1,fun l K h=>zj1.2 l K (by
 obtain⟨rfl,h1,h2⟩:=h
 show qj x.k fun x=>zf5 x∧K (.tup (.cons (kBy 32 (nN x.dg)) (.cons (nI 0) .nl)))
 rw[Yu]
 exact⟨h1,h2⟩)⟩
theorem zo7 {n:Nat}{x:Nd}(h:x.fe n=0):x.ok∧x.fits n:=by
 unfold Nd.fe at h
 split at h
 ·rename_i h1
  split at h
  ·rename_i h2; exact⟨h1,h2⟩
  ·cases h
 ·cases h
noncomputable def y54 (n:Nat) (d:Dd) (l j s:Nat) (w:List Nat):PE:=⟨n,l,j,s,zt n l j s,pX (d.last (zt n l j s)).ln (d.last (zt n l j s)).st,(pX (d.last (zt n l j s)).ln (d.last (zt n l j s)).st).nf.fe n,(pX (d.last (zt n l j s)).ln (d.last (zt n l j s)).st).nf.dg,w,zcP (pX (d.last (zt n l j s)).ln (d.last (zt n l j s)).st).nf⟩
noncomputable def jf (n:Nat) (d:Dk) (l j s:Nat) (w:List Nat):PE:=⟨n,l,j,s,zt n l j s,gX (lnO (atK d.f (zt n l j s))) (byO (atK d.f (zt n l j s))),(gX (lnO (atK d.f (zt n l j s))) (byO (atK d.f (zt n l j s)))).nf.fe n,(gX (lnO (atK d.f (zt n l j s))) (byO (atK d.f (zt n l j s)))).nf.dg,w,zf5 (gX (lnO (atK d.f (zt n l j s))) (byO (atK d.f (zt n l j s)))).nf⟩
attribute [local irreducible] zj zi zo hS zY zE zt
structure plOk (n L l j s:Nat):Prop where
 n24:zC n=true
 pl:isS n l j=true
 s1:s≤1
 sec:zt n l j s < L
noncomputable def Qi (n:Nat) (d:Dd) (l j s:Nat) (w:List Nat):Nat:=yk (y54 n d l j s w) (d.last (zt n l j s)).th (pBr (d.last (zt n l j s)).ln (d.last (zt n l j s)).st)
noncomputable def jx (n:Nat) (d:Dk) (l j s:Nat) (w:List Nat):Nat:=yk (jf n d l j s w) (eqN (erO (atK d.f (zt n l j s))) 0) (eqN (gEr (lnO (atK d.f (zt n l j s))) (byO (atK d.f (zt n l j s)))) 0)
abbrev zCz:=Nat×Nat×Dd×Nat×Nat×Nat×List Nat
noncomputable def a54 (x:zCz):List KV:=[nI x.1,dK x.2.1 x.2.2.1,nI x.2.2.2.1,nI x.2.2.2.2.1,nI x.2.2.2.2.2.1,kBy 32 (nN x.2.2.2.2.2.2)]
theorem Ym:KCS Tryz.prog 54 (xM a54 (fun x=>plOk x.1 x.2.1 x.2.2.2.1 x.2.2.2.2.1 x.2.2.2.2.2.1∧x.2.2.1.cn (zt x.1 x.2.2.2.1 x.2.2.2.2.1 x.2.2.2.2.2.1) < 1000) fun x=>w54 (y54 x.1 x.2.2.1 x.2.2.2.1 x.2.2.2.2.1 x.2.2.2.2.2.1 x.2.2.2.2.2.2) (Qi x.1 x.2.2.1 x.2.2.2.1 x.2.2.2.2.1 x.2.2.2.2.2.1 x.2.2.2.2.2.2)):=xm ⟨Tryz.f54,Tryz.func54,by kernel_rfl,by kernel_rfl⟩ fun q K hs=>by
 obtain⟨⟨n,L,d,l,j,s,w⟩,rfl,⟨H,hc⟩,hk⟩:=hs
 have H:plOk n L l j s:=H
 have hc:d.cn (zt n l j s) < 1000:=hc
 have hx:=zsr (d.last (zt n l j s)).ln (d.last (zt n l j s)).st
 have hE:KOk (E54 (y54 n d l j s w) L d (d.last (zt n l j s)) (pBr (d.last (zt n l j s)).ln (d.last (zt n l j s)).st)):=zr.tab ⟨⟨ze5.1,fun q K h=>ze5.2 q K (by
   obtain⟨rfl,h1⟩:=h
   exact⟨⟨H.n24,H.pl,H.s1⟩,h1⟩)⟩,⟨XW.1,fun q K h=>XW.2 q K (by
   obtain⟨rfl,h1⟩:=h
   exact⟨(L,d,zt n l j s),rfl,⟨H.sec,by show d.cn (zt n l j s) < _; omega⟩,h1⟩)⟩,⟨zw6.1,fun q K h=>zw6.2 q K (by
   obtain⟨rfl,h1⟩:=h
   exact⟨((d.last (zt n l j s)).ln,(d.last (zt n l j s)).st),rfl,trivial,h1⟩)⟩,zxi H.n24 hx,zCy,trivial⟩
 refine⟨_,hE,rfl,60,fun r=>Imp r.v (w54 (y54 n d l j s w) (Qi n d l j s w)).v,_,hk,ztA _ _,fun r hr=>hr,?_⟩
 refine zzc (y:=y54 n d l j s w) (L:=L) (d:=d) (c:=d.last (zt n l j s)) (b:=pBr (d.last (zt n l j s)).ln (d.last (zt n l j s)).st) (Nat.lt_trans hx.wb.1 (by omega)) hx.wb.2.1 ?_
 rintro⟨h1,h2,h3⟩
 refine⟨zi0 hx.wl hx.wb,?_⟩
 have:=(xc H.n24 H.pl).1
 show (pX (d.last (zt n l j s)).ln (d.last (zt n l j s)).st).lv≤2
 rw[show (pX (d.last (zt n l j s)).ln (d.last (zt n l j s)).st).lv=l from h1]
 exact this
def zfR (d:Dk):Prop:=∀ j i v,d.f j i=some v→∀ k,v.by' k < 256
theorem ziT {d:Dk}(h:zfR d) (s:Nat):∀ k,byO (atK d.f s) k < 256:=fun k=>by
 unfold atK
 cases e:d.f (Nat.div s 64) (s % 64) with
 | none=>show 0 < 256; omega
 | some v=>exact h _ _ _ e k
theorem zst {d:Dk}(h:d.ok) (s:Nat):lnO (atK d.f s)≤1000:=by
 unfold atK
 cases e:d.f (Nat.div s 64) (s % 64) with
 | none=>show 0≤1000; omega
 | some v =>
  have:=h.hb _ _ _ e
  show (@Bool.rec (fun _=>Nat) 0 v.ln v.th)≤1000
  cases v.th
  ·show 0≤1000; omega
  ·exact this
abbrev zxk:=Nat×Dk×Nat×Nat×Nat×List Nat
noncomputable def zCA (x:zxk):List KV:=[za3 x.1 x.2.1,plP x.2.2.1 x.2.2.2.1,nI x.2.2.2.2.1,kBy 32 (nN x.2.2.2.2.2)]
theorem za5:KCS Tryz.prog 187 (xM zCA (fun x=>plOk x.1 x.2.1.L x.2.2.1 x.2.2.2.1 x.2.2.2.2.1∧x.2.1.ok∧zfR x.2.1) fun x=>Qm (jf x.1 x.2.1 x.2.2.1 x.2.2.2.1 x.2.2.2.2.1 x.2.2.2.2.2) (jx x.1 x.2.1 x.2.2.1 x.2.2.2.1 x.2.2.2.2.1 x.2.2.2.2.2)):=xm ⟨Tryz.f187,Tryz.func187,by kernel_rfl,by kernel_rfl⟩ fun q K hs=>by
 obtain⟨⟨n,d,l,j,s,w⟩,rfl,⟨H,hd,hb⟩,hk⟩:=hs
 have H:plOk n d.L l j s:=H
 have hd:d.ok:=hd
 have hb:zfR d:=hb
 have hx:ndOk (gX (lnO (atK d.f (zt n l j s))) (byO (atK d.f (zt n l j s)))):=zss (ziT hb _)
 have hE:KOk (zrV (jf n d l j s w) d (atK d.f (zt n l j s)) (gEr (lnO (atK d.f (zt n l j s))) (byO (atK d.f (zt n l j s))))):=KOk.tabB (zr.tab (l:=[(165,zq [nI n,nI l,nI j,nI s] (tE2 (nI (zt n l j s)) 0)),(242,zq [y9 (lnO (atK d.f (zt n l j s))) (byO (atK d.f (zt n l j s)))] (tE2 (jf n d l j s w).x.k (gEr (lnO (atK d.f (zt n l j s))) (byO (atK d.f (zt n l j s)))))),(123,zq [nI n,(jf n d l j s w).x.k] (nI (jf n d l j s w).e)),(158,fun q K=>q=[(jf n d l j s w).x.k]∧(jf n d l j s w).P∧K (tE2 (kBy 32 (nN (jf n d l j s w).D)) 0))]) ⟨⟨zoB.1,fun q K h=>zoB.2 q K (by
   obtain⟨rfl,h1⟩:=h
   exact⟨⟨H.n24,H.pl,H.s1⟩,h1⟩)⟩,⟨zzR.1,fun q K h=>zzR.2 q K (by
   obtain⟨rfl,h1⟩:=h
   exact⟨(lnO (atK d.f (zt n l j s)),byO (atK d.f (zt n l j s))),rfl,⟨by have:=zst hd (zt n l j s); show lnO (atK d.f (zt n l j s))≤100000; omega,ziT hb _⟩,h1⟩)⟩,zo6 H.n24 hx,zxj,trivial⟩) (l:=[(73,zq [d.k,nI (zt n l j s)] (ql (atK d.f (zt n l j s))))]) ⟨⟨Q8.1,fun q K h=>Q8.2 q K (by
   obtain⟨rfl,h1⟩:=h
   exact⟨((d.L,d.c,d.q,d.f),zt n l j s),rfl,⟨hd,H.sec⟩,h1⟩)⟩,trivial⟩
 refine⟨_,hE,rfl,60,fun r=>Imp r.v (Qm (jf n d l j s w) (jx n d l j s w)).v,_,hk,zeJ _ _,fun r hr=>hr,?_⟩
 refine ztB (y:=jf n d l j s w) (d:=d) (o:=atK d.f (zt n l j s)) (e1:=gEr (lnO (atK d.f (zt n l j s))) (byO (atK d.f (zt n l j s)))) (Nat.lt_trans hx.wb.1 (by omega)) hx.wb.2.1 ?_
 rintro⟨h1,h2,h3⟩
 refine⟨(zo7 h3).1,?_⟩
 have:=(xc H.n24 H.pl).1
 show (gX (lnO (atK d.f (zt n l j s))) (byO (atK d.f (zt n l j s)))).lv≤2
 rw[show (gX (lnO (atK d.f (zt n l j s))) (byO (atK d.f (zt n l j s)))).lv=l from h1]
 exact this
end
end Go.K
set_option maxRecDepth 100000
namespace Go.K
open Go.Ab Go.RowKit Go.Y Go.Proofs
noncomputable section
attribute [local instance 10000] gO
structure DE where
 n:Nat
 i:Nat
 en:List Nat
 mc:List Nat
 s:Nat
 sh:Nat
 ct:Nat
 tg:List Nat
 sec:Nat
 dt:List Nat
 pl:List Nat
 e:Nat
noncomputable def DE.r (y:DE):Rc:=⟨Nat.succ y.s,y.sh,y.ct,y.tg⟩
noncomputable def E56 (y:DE) (L:Nat) (d:Dd) (c:Cv):KEnv:={ EO0.tab [(35,zq [nI y.i,nI y.s] (nI y.sec)),(74,zq [dK L d,nI y.sec] c.k),(122,zq [kBy 16 (nN y.en),kBy 32 (nN y.mc),nI y.i,noK y.sh y.ct,kBy 32 (nN y.dt),kBy 32 (nN y.tg)] (opK (kBy 32 (nN y.pl)) y.e))] with sc:=true }
def p56 (y:DE) (L:Nat) (d:Dd) (c:Cv) (K:KV→Prop):Prop:=zi (E56 y L d c) (zj (E56 y L d c) 80) 0 56 [nI y.n,dK L d,kBy 16 (nN y.en),kBy 32 (nN y.mc),nI y.i,y.r.k] .e 0 0 fun r _ _ _=>K r
noncomputable def zRd (y:DE):Rc:=⟨0,y.sh,y.ct,y.tg⟩
def zDZ (y:DE) (L:Nat) (d:Dd) (c:Cv) (K:KV→Prop):Prop:=zi (E56 y L d c) (zj (E56 y L d c) 80) 0 56 [nI y.n,dK L d,kBy 16 (nN y.en),kBy 32 (nN y.mc),nI y.i,(zRd y).k] .e 0 0 fun r _ _ _=>K r
noncomputable def ztZ:KV:=.ar 32 (kU8 0) .te
noncomputable def F56 (sec k:Nat):KV:=.tup (.cons ztZ (.cons (prK sec k) .nl))
theorem zD0 (y:DE) (L:Nat) (d:Dd) (c:Cv) (K:KV→Prop):zDZ y L d c K=K (F56 0 0):=by kernel_rfl
def ixC (n:Nat) (q:Prop) (m:Nat):Prop:=@Nat.rec (fun _=>Nat→Prop) (fun _=>q) (fun _ ih i=>cnd (ixB (.ofNat i) n) (ih (Nat.succ i))) m 0
noncomputable def dS (y:DE) (st:Nat):DE:={ y with dt:=lsF 32 (bSr st) }
theorem e56 (y:DE) (L:Nat) (d:Dd) (th:Bool) (n st:Nat) (K:KV→Prop):p56 (dS y st) L d ⟨th,n,st⟩ K=cnd (b63 (Nat.succ y.s)) (cnd (b63 (Nat.sub (Nat.succ y.s) 1)) ([nI y.i,nI (Nat.sub (Nat.succ y.s) 1)]=[nI y.i,nI y.s]∧[dK L d,nI y.sec]=[dK L d,nI y.sec]∧alt (!th) (K (F56 y.sec 1)) (alt (!(eqI (.ofNat n) 32)) (K (F56 y.sec 5)) (ixC n ([kBy 16 (nN y.en),kBy 32 (nN y.mc),nI y.i,noK y.sh y.ct,kBy 32 (nN (lsF 32 (bSr st))),kBy 32 (nN y.tg)]=[kBy 16 (nN y.en),kBy 32 (nN y.mc),nI y.i,noK y.sh y.ct,kBy 32 (nN (lsF 32 (bSr st))),kBy 32 (nN y.tg)]∧alt (!(eqN y.e 0)) (K (F56 y.sec 6)) (K (.tup (.cons (kBy 32 (nN y.pl)) (.cons (prK 0 0) .nl))))) 32)))):=by kernel_rfl
noncomputable def ofK (n:Nat) (d:Dk):KV:=.tup (.cons (za3 n d) (.cons (nI 0) .nl))
noncomputable def zfL (y:DE):zh:=fun l K=>la5 l fun a b c d t=>[a,b,c,t]=[ksK y.en y.mc,nI y.i,noK y.sh y.ct,kBy 32 (nN y.tg)]∧chk (isA .u8 32 d) 980 (lsK d 32=y.dt∧K (opK (kBy 32 (nN y.pl)) y.e))
noncomputable def s96 (y:DE):zh:=fun l K=>la3 l fun a b c=>z6 c fun s=>[a,b]=[nI y.n,nI y.i]∧cnd (Nat.ble s 1) (K (tE2 (nI (zy y.i s)) 0))
noncomputable def E59 (y:DE) (S T:zh) (r:KV) (e2:Nat) (d:Dk) (o:Option Vr):KEnv:=(EO0.tab [(96,T),(125,zq [r] (nI e2)),(131,S)]).tabB [(112,zq [nI y.n,d.k] (ofK y.n d)),(73,zq [d.k,nI y.sec] (ql o))]
def p59 (y:DE) (S T:zh) (r:KV) (z:KV) (e2:Nat) (d:Dk) (o:Option Vr) (K:KV→Prop):Prop:=zi (E59 y S T r e2 d o) (zj (E59 y S T r e2 d o) 80) 0 59 [nI y.n,d.k,ksK y.en y.mc,z,r] .e 0 0 fun r _ _ _=>K r
noncomputable def C59 (e:Nat):KV:=.tup (.cons ztZ (.cons (pgK 0 0) (.cons (nI e) .nl)))
noncomputable def F59 (sec k:Nat):KV:=.tup (.cons ztZ (.cons (pgK sec k) (.cons (nI 9) .nl)))
def h59 (y:DE) (d:Dk) (q:Prop):Prop:=[nI y.n,d.k]=[nI y.n,d.k]∧q
theorem zBB (y:DE) (S:zh) (e2:Nat) (d:Dk) (o:Option Vr) (x:Rc) (K:KV→Prop):p59 y S (s96 y) x.k (nI y.i) (Nat.succ e2) d o K=h59 y d ([nI y.n,nI y.i]=[nI y.n,nI y.i]∧[x.k]=[x.k]∧K (C59 (Nat.succ e2))):=by kernel_rfl
theorem zBC (y:DE) (S:zh) (d:Dk) (o:Option Vr) (K:KV→Prop):p59 y S (s96 y) (zRd y).k (nI y.i) 0 d o K=h59 y d ([nI y.n,nI y.i]=[nI y.n,nI y.i]∧[(zRd y).k]=[(zRd y).k]∧K (C59 0)):=by kernel_rfl
noncomputable def yS (y:DE) (s:Nat):DE:={ y with s:=s }
def g59 (y:DE) (d:Dk) (q:Prop):Prop:=h59 y d ([nI y.n,nI y.i]=[nI y.n,nI y.i]∧[y.r.k]=[y.r.k]∧[nI y.n,nI y.i]=[nI y.n,nI y.i]∧[d.k,nI (zy y.i y.s)]=[d.k,nI y.sec]∧q)
noncomputable def dtV (n:Nat) (b:Nat→Nat):KV:=.fa 32 fun j=>ZE 0 (Nat.add 0 (min n 32)) j (kU8 (b (Nat.add 0 (Nat.sub j 0)))) (kU8 0)
def cB3 (k:Bool) (q:Prop):Prop:=@Bool.rec (fun _=>Prop) (@Bool.rec (fun _=>Prop) (@Bool.rec (fun _=>Prop) (BadN 223) q k) q k) q (nd k true)
theorem zv0 (y:DE) (S:zh) (d:Dk) (K:KV→Prop):p59 (yS y 0) S (s96 y) (yS y 0).r.k (nI y.i) 0 d none K=g59 (yS y 0) d (K (F59 (zy y.i 0) 1)):=by kernel_rfl
theorem zv1 (y:DE) (d:Dk) (n:Nat) (b:Nat→Nat) (nm:Nat) (K:KV→Prop):p59 (yS y 0) (fun _ _=>False) (s96 y) (yS y 0).r.k (nI y.i) 0 d (some ⟨true,n,b,nm⟩) K=g59 (yS y 0) d (alt (eqI (.ofNat n) (.ofNat (min n 32))) (alt (!(eqI (.ofNat n) 32)) (K (F59 (zy y.i 0) 5)) (cB3 (zS 0 (dtV n b)) False)) (K (F59 (zy y.i 0) 5))):=by kernel_rfl
theorem zv2 (y:DE) (d:Dk) (b:Nat→Nat) (nm:Nat) (K:KV→Prop):p59 (yS y 0) (zfL y) (s96 y) (yS y 0).r.k (nI y.i) 0 d (some ⟨true,32,b,nm⟩) K=g59 (yS y 0) d (cB3 (zS 0 (dtV 32 b)) ([ksK y.en y.mc,nI y.i,noK y.sh y.ct,kBy 32 (nN y.tg)]=[ksK y.en y.mc,nI y.i,noK y.sh y.ct,kBy 32 (nN y.tg)]∧lsF 32 (fun j=>b (Nat.add 0 (Nat.sub j 0)))=y.dt∧alt (!(eqN y.e 0)) (K (F59 (zy y.i 0) 6)) (K (.tup (.cons (kBy 32 (nN y.pl)) (.cons (pgK 0 0) (.cons (nI 0) .nl))))))):=by kernel_rfl
theorem zv3 (y:DE) (S:zh) (d:Dk) (K:KV→Prop):p59 (yS y 1) S (s96 y) (yS y 1).r.k (nI y.i) 0 d none K=g59 (yS y 1) d (K (F59 (zy y.i 1) 1)):=by kernel_rfl
theorem zv4 (y:DE) (d:Dk) (n:Nat) (b:Nat→Nat) (nm:Nat) (K:KV→Prop):p59 (yS y 1) (fun _ _=>False) (s96 y) (yS y 1).r.k (nI y.i) 0 d (some ⟨true,n,b,nm⟩) K=g59 (yS y 1) d (alt (eqI (.ofNat n) (.ofNat (min n 32))) (alt (!(eqI (.ofNat n) 32)) (K (F59 (zy y.i 1) 5)) (cB3 (zS 0 (dtV n b)) False)) (K (F59 (zy y.i 1) 5))):=by kernel_rfl
theorem zv5 (y:DE) (d:Dk) (b:Nat→Nat) (nm:Nat) (K:KV→Prop):p59 (yS y 1) (zfL y) (s96 y) (yS y 1).r.k (nI y.i) 0 d (some ⟨true,32,b,nm⟩) K=g59 (yS y 1) d (cB3 (zS 0 (dtV 32 b)) ([ksK y.en y.mc,nI y.i,noK y.sh y.ct,kBy 32 (nN y.tg)]=[ksK y.en y.mc,nI y.i,noK y.sh y.ct,kBy 32 (nN y.tg)]∧lsF 32 (fun j=>b (Nat.add 0 (Nat.sub j 0)))=y.dt∧alt (!(eqN y.e 0)) (K (F59 (zy y.i 1) 6)) (K (.tup (.cons (kBy 32 (nN y.pl)) (.cons (pgK 0 0) (.cons (nI 0) .nl))))))):=by kernel_rfl
noncomputable def scT (n:Nat):Nat:=Nat.mul 2 (Nat.add n (zY n))
def zti (n:Nat):Prop:=zi EO0 (zj EO0 200) 0 184 [nI n] .e 0 0 fun r _ _ _=>tK (kvb r (tE2 (nI (scT n)) 0))
def zcF (q:Bool):Prop:=xr (fun n=>@Bool.rec (fun _=>Prop) True (zti (Nat.succ n)) q) 24
theorem zyD:zcF true=zcF false:=by kernel_rfl
noncomputable def zjB (n L:Nat):KEnv:=EO0.tab [(184,zq [nI n] (tE2 (nI L) 0))]
def zpt (n L:Nat) (d:Dk) (Q:QT) (R:RT):Prop:=pc (zjB n L) 112 (fl (cOf 112)) [] [] (z7 (mOf 112) 0 [nI n,d.k],[],0) Q R
theorem zyE (n L:Nat) (d:Dk) (Q:QT) (R:RT):zpt n L d Q R=([nI n]=[nI n]∧alt (!(eqI (.ofNat d.L) (.ofNat L))) (R (.tup (.cons (za3 n d) (.cons (nI 1) .nl))) [] 2) (R (ofK n d) [] 2)):=by kernel_rfl
theorem zyF {n:Nat}(hn:zC n=true):KCS Tryz.prog 184 (zq [nI n] (tE2 (nI (scT n)) 0)):=xm ⟨Tryz.f184,Tryz.func184,by kernel_rfl,by kernel_rfl⟩ fun l K hs=>by
 obtain⟨rfl,hk⟩:=hs
 obtain⟨n1,n2⟩:=zR hn
 obtain⟨m,rfl⟩:∃ m,n=Nat.succ m:=⟨n - 1,by omega⟩
 exact⟨EO0,zr,rfl,200,_,_,hk,rfl,fun r hr=>by rw[vC (yg hr)]; exact Imp.refl _,zw (Eq.mpr zyD (zF (fun n=>trivial) 24):zcF true) m (by omega)⟩
attribute [local irreducible] kpre cOf mOf rOf JL zj zi zo hS zY zE
theorem zyG:Tryz.f112.ntmps=25:=by kernel_rfl
theorem zyH:Tryz.f112.results.toList=rOf 112:=by kernel_rfl
theorem zC9 {n:Nat}{d:Dk}(hn:zC n=true) (hd:d.L=scT n):JFn Tryz.prog 112 true [nI n,d.k] (ofK n d):=by
 have hE:KOk (zjB n (scT n)):=zr.tab (l:=[(184,zq [nI n] (tE2 (nI (scT n)) 0))]) ⟨zyF hn,trivial⟩
 refine JFn.of (P:=Tryz.prog) hE rfl (c:=cOf 112) (mOf 112) Tryz.func112 (by kernel_rfl) fun B N hN=>?_
 rw[zyG] at hN
 have:=JL.goR (B:=B) (N:=N) (mask:=mOf 112) (l1:=fl (cOf 112)) (l2:=[]) (Q:=retJ (zjB n (scT n)) Tryz.f112 true (ofK n d)) (n:=60) hE rfl (rOf 112) [] [] (lt0:=z7 (mOf 112) 0 [nI n,d.k]) (lz0:=[]) (n0:=0) hN (by kernel_rfl) (by kernel_rfl) ?_
 ·rwa [List.append_nil] at this
 ·show zpt n (scT n) d _ _
  rw[zyE]
  refine⟨rfl,zg.2 ⟨fun q=>?_,fun q=>?_⟩⟩
  ·rw[hd,show eqI (.ofNat (scT n)) (.ofNat (scT n))=true from wB.2 rfl] at q
   cases q
  ·intro tr zm hz hmb hi hr
   exact retJ.mk rfl zyH (FzP.tup (FzP.cons (FzP.cons (FzP.noref rfl) (FzP.cons (zuQ d) (FzP.noref rfl))) (FzP.noref rfl))) hr
theorem zfW:qo Tryz.prog 112 (xM (fun x:Nat×Dk=>[nI x.1,x.2.k]) (fun x=>zC x.1=true∧x.2.L=scT x.1) fun x=>ofK x.1 x.2):=jC ⟨Tryz.f112,Tryz.func112,by kernel_rfl,by kernel_rfl⟩ fun x h=>zC9 h.1 h.2
end
end Go.K
set_option maxRecDepth 100000
namespace Go.K
open Go.Ab Go.RowKit Go.Y Go.Proofs
noncomputable section
attribute [local instance 10000] gO
open Classical in
noncomputable def flD (th:Bool) (n e:Nat):Nat:=if th=false then 1 else if n≠32 then 5 else if e≠0 then 6 else 0
noncomputable def blD (k:Nat) (pl:List Nat):List Nat:=@ite _ (k=0) (Nat.decEq _ _) pl z32
noncomputable def scD (k sec:Nat):Nat:=@ite _ (k=0) (Nat.decEq _ _) 0 sec
noncomputable def w56 (pl:List Nat) (sec k:Nat):KV:=.tup (.cons (kBy 32 (nN (blD k pl))) (.cons (prK (scD k sec) k) .nl))
noncomputable def w59 (pl:List Nat) (sec k:Nat):KV:=.tup (.cons (kBy 32 (nN (blD k pl))) (.cons (pgK (scD k sec) k) (.cons (nI (erN k)) .nl)))
theorem zrs (pl:List Nat) (sec k:Nat):zA (w56 pl sec k).v=true:=by kernel_rfl
theorem zcb (pl:List Nat) (sec k:Nat):zA (w59 pl sec k).v=true:=by kernel_rfl
theorem Yb {pl:List Nat}{sec k k':Nat}(e:k'=k) (h:k≠0):Imp (F56 sec k).v (w56 pl sec k').v:=by
 subst e
 unfold w56 blD scD
 rw[if_neg h,if_neg h]
 exact Imp.tup (Imp.cons qb (Imp.refl _))
theorem Vj {pl:List Nat}{sec k k':Nat}(e:k'=k) (h:k≠0):Imp (F59 sec k).v (w59 pl sec k').v:=by
 subst e
 unfold w59 blD scD erN
 rw[if_neg h,if_neg h,if_neg h]
 exact Imp.tup (Imp.cons qb (Imp.refl _))
theorem zoG {th:Bool}{n e:Nat}(h:th=false):flD th n e=1:=if_pos h
theorem zoH {th:Bool}{n e:Nat}(h:th=true) (h2:n≠32):flD th n e=5:=(if_neg (by rw[h]; decide)).trans (if_pos h2)
theorem zoI {th:Bool}{n e:Nat}(h:th=true) (h2:n=32) (h3:e≠0):flD th n e=6:=(if_neg (by rw[h]; decide)).trans ((if_neg (fun q=>q h2)).trans (if_pos h3))
theorem zoJ {th:Bool}{n e:Nat}(h:th=true) (h2:n=32) (h3:e=0):flD th n e=0:=(if_neg (by rw[h]; decide)).trans ((if_neg (fun q=>q h2)).trans (if_neg (fun q=>q h3)))
attribute [local irreducible] zj zi
theorem zrt {n:Nat}{q:Prop}(hq:q):∀ m,m≤n→ixC n q m:=by
 have main:∀ m w,w + m≤n→(@Nat.rec (fun _=>Nat→Prop) (fun _=>q) (fun _ ih i=>cnd (ixB (.ofNat i) n) (ih (Nat.succ i))) m w:Prop):=by
  intro m
  induction m with
  | zero=>intro w _; exact hq
  | succ m ih=>intro w hw; exact za.2 ⟨xq.2 (by omega),ih (w + 1) (by omega)⟩
 exact fun m hm=>main m 0 (by omega)
theorem zwl {y:DE}{L:Nat}{d:Dd}{th:Bool}{n st:Nat}(hs:y.s≤1):p56 (dS y st) L d ⟨th,n,st⟩ fun r=>Imp r.v (w56 y.pl y.sec (flD th n y.e)).v:=by
 rw[e56]
 refine za.2 ⟨zH.2 (by show y.s + 1 < _; omega),za.2 ⟨zH.2 (by show y.s < _; omega),rfl,rfl,zg.2 ⟨fun q=>Yb (zoG (nbt.1 q)) (by decide),fun q=>zg.2 ⟨fun q2=>Yb (zoH (nbf.1 q) fun e=>by rw[e] at q2; cases q2) (by decide),fun q2=>?_⟩⟩⟩⟩
 have h32:n=32:=z9.1 (nbf.1 q2:eqN n 32=true)
 refine zrt ?_ 32 (by omega)
 refine⟨rfl,zg.2 ⟨fun q3=>Yb (zoI (nbf.1 q) h32 ((bf z9).1 (nbt.1 q3))) (by decide),fun q3=>?_⟩⟩
 rw[zoJ (nbf.1 q) h32 (z9.1 (nbf.1 q3))]
 exact Imp.refl _
structure DP where
 n:Nat
 i:Nat
 en:List Nat
 mc:List Nat
 s:Nat
 sh:Nat
 ct:Nat
 tg:List Nat
noncomputable def DP.x (p:DP) (st:Nat):P7s:=(p.en,p.mc,p.i,p.sh,p.ct,lsF 32 (bSr st),p.tg)
noncomputable def DP.y (p:DP) (st:Nat):DE:=⟨p.n,p.i,p.en,p.mc,p.s,p.sh,p.ct,p.tg,zy p.i p.s,lsF 32 (bSr st),opD (p.x st),opE (p.x st)⟩
noncomputable def DP.rc (p:DP):Rc:=⟨Nat.succ p.s,p.sh,p.ct,p.tg⟩
noncomputable def wi (p:DP) (d:Dd):Nat:=flD (d.last (zy p.i p.s)).th (d.last (zy p.i p.s)).ln (opE (p.x (d.last (zy p.i p.s)).st))
noncomputable def r56 (p:DP) (d:Dd):KV:=w56 (opD (p.x (d.last (zy p.i p.s)).st)) (zy p.i p.s) (wi p d)
structure dpOk (p:DP) (L:Nat):Prop where
 n24:zC p.n=true
 i:p.i < p.n
 s1:p.s≤1
 sec:zy p.i p.s < L
 en:x6 p.en
 no:noOk p.sh p.ct
 tb:x6 p.tg
noncomputable def a56 (x:DP×Nat×Dd):List KV:=[nI x.1.n,dK x.2.1 x.2.2,kBy 16 (nN x.1.en),kBy 32 (nN x.1.mc),nI x.1.i,x.1.rc.k]
theorem Yc:KCS Tryz.prog 56 (xM a56 (fun x=>dpOk x.1 x.2.1∧x.2.2.cn (zy x.1.i x.1.s) < 1000) fun x=>r56 x.1 x.2.2):=xm ⟨Tryz.f56,Tryz.func56,by kernel_rfl,by kernel_rfl⟩ fun q K hs=>by
 obtain⟨⟨p,L,d⟩,rfl,⟨H,hc⟩,hk⟩:=hs
 have H:dpOk p L:=H
 have hc:d.cn (zy p.i p.s) < 1000:=hc
 have hE:KOk (E56 (dS (p.y (d.last (zy p.i p.s)).st) (d.last (zy p.i p.s)).st) L d (d.last (zy p.i p.s))):=ziD (zr.tab ⟨⟨QW.1,fun q K h=>QW.2 q K (by
   obtain⟨rfl,h1⟩:=h
   exact⟨⟨by have:=H.i; have:=(zR H.n24).2; show p.i < 24; omega,H.s1⟩,h1⟩)⟩,⟨XW.1,fun q K h=>XW.2 q K (by
   obtain⟨rfl,h1⟩:=h
   exact⟨(L,d,zy p.i p.s),rfl,⟨H.sec,by show d.cn (zy p.i p.s) < _; omega⟩,h1⟩)⟩,⟨YD.1,fun q K h=>YD.2 q K (by
   obtain⟨rfl,h1⟩:=h
   exact⟨p.x (d.last (zy p.i p.s)).st,rfl,H.en,h1⟩)⟩,trivial⟩)
 exact⟨_,hE,rfl,80,fun r=>Imp r.v (r56 p d).v,_,hk,zrs _ _ _,fun r hr=>hr,zwl (y:=p.y (d.last (zy p.i p.s)).st) (L:=L) (d:=d) (th:=(d.last (zy p.i p.s)).th) (n:=(d.last (zy p.i p.s)).ln) (st:=(d.last (zy p.i p.s)).st) H.s1⟩
end
end Go.K
set_option maxRecDepth 100000
namespace Go.K
open Go.Ab Go.RowKit Go.Y Go.Proofs
noncomputable section
attribute [local instance 10000] gO
structure AE where
 P:List KV→Prop
 δ:List KV→Dk
 ε:List KV→Nat
noncomputable def zyl:KV:=.cons (nI 0) (.cons (nI 0) (.cons .nils .nl))
theorem znt {n n':Nat}{b b':Nat→Nat}(h:roN n b=roN n' b'):n=n'∧b=b':=by
 unfold roN at h
 simp only[KV.ro.injEq,KV.fa.injEq,true_and,and_true] at h
 refine⟨h.1,funext fun i=>?_⟩
 have:=congrFun h.2.2 i
 unfold kU8 at this
 simp only[KV.int.injEq,true_and] at this
 exact Int.ofNat.inj this
theorem zkl {o o':Option Vr}(h:ZY o=ZY o'):o=o':=by
 cases o with
 | none=>cases o' with
  | none=>rfl
  | some v=>cases h
 | some v=>cases o' with
  | none=>cases h
  | some v' =>
   have h:v.k=v'.k:=h
   unfold Vr.k Vr.c at h
   simp only[KV.ref.injEq,KV.cons.injEq,KV.bool.injEq,true_and,and_true] at h
   obtain⟨h1,h2,h3⟩:=h
   obtain⟨h4,h5⟩:=znt h2
   have h6:v.nm=v'.nm:=by
    unfold nI at h3
    simp only[KV.int.injEq,true_and] at h3
    exact Int.ofNat.inj h3
   obtain⟨a,b,c,d⟩:=v
   obtain⟨a',b',c',d'⟩:=v'
   subst h1 h4 h5 h6
   rfl
theorem zc0 {a b:Nat}(h:nI a=nI b):a=b:=by
 unfold nI at h
 simp only[KV.int.injEq,true_and] at h
 exact Int.ofNat.inj h
theorem zuq {d d':Dk}(h:d.k=d'.k):d=d':=by
 obtain⟨L,c,q,f⟩:=d
 obtain⟨L',c',q',f'⟩:=d'
 have h:dkK L c q f=dkK L' c' q' f':=h
 unfold dkK zta at h
 simp only[KV.cons.injEq,KV.ro.injEq,KV.fa.injEq,true_and,and_true] at h
 obtain⟨h1,h2,h3,h4⟩:=h
 obtain rfl:=zc0 h1
 obtain rfl:=zc0 h2
 obtain rfl:=h3
 have:f=f':=funext fun j=>funext fun i=>by
  have:=congrFun h4.2 j
  unfold chK at this
  simp only[KV.ref.injEq,KV.fa.injEq,true_and] at this
  have:=congrFun this i
  unfold vm at this
  simp only[KV.clo.injEq] at this
  exact zkl this
 subst this
 rfl
noncomputable def zAg (x:zAH):List KV:=[x.1.k,.int .i64 x.2.1,roN x.2.2.1 x.2.2.2]
section
variable (d:Dk) (W:Nat→Wr)
end
section
variable {d:Dk}{W:Nat→Wr}
theorem ze1 {d:Dk}{z:Int}{n:Nat}{b:Nat→Nat}(h:erW d z n=0):wrD d z n b=⟨d.L,d.c + 1,d.q,vf d.f z.toNat (nxV (atK d.f z.toNat) true n b)⟩:=if_pos h
theorem zAh {d:Dk}{z:Int}{n:Nat}(h:erW d z n=0):0≤z∧z < d.L∧n≤256:=by
 unfold erW at h
 split at h
 ·cases h
 ·rename_i h1
  split at h
  ·cases h
  ·exact⟨by omega,by omega,by omega⟩
end
attribute [local irreducible] kpre cOf mOf rOf JL zj zi
theorem zur (d:Dk):zS 0 (bx 112 Ys d.k).v=true:=by kernel_rfl
end
end Go.K
