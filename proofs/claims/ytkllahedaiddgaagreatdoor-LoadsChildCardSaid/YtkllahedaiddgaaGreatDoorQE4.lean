/- loads.node on a volume's disk is ref17.Node. No condition. -/
import Derived.Test.YtkllahedaiddgaaGreatDoorQE0
import Derived.Test.YtkllahedaiddgaaGreatDoorZD3
import Derived.Test.YtkllahedaiddgaaGreatDoorQH0
set_option linter.unusedSimpArgs false
set_option linter.unusedVariables false
set_option maxRecDepth 100000
namespace Go.K
open Go.Ab Go.RowKit Go.Y Go.Proofs
noncomputable section
attribute [local instance 10000] gO
theorem Jw {n:Nat}(hn:zC n=true):isS n (hS n) 0=true:=by
 obtain⟨n1,n2⟩:=zR hn
 obtain⟨m,rfl⟩:∃ m,n=Nat.succ m:=⟨n - 1,by omega⟩
 have hd:∀ m:Fin 24,isS (Nat.succ m.1) (hS (Nat.succ m.1)) 0=true:=by decide
 exact hd ⟨m,by omega⟩
section
variable (c:VC)
noncomputable def Jx (d:Dd) (l j:Nat):Dd:=if l=hS c.n∨c.em l j=false then vg d (zt c.n l j (c.sl (zo c.n l j))) (cvB c.y (c.κ [(c.F l j).k])) else d
noncomputable def dNj (d:Dd) (l:Nat):Nat→Dd
 | 0=>d
 | j + 1=>Jx c (dNj d l j) l j
noncomputable def dNl (d:Dd):Nat→Dd
 | 0=>d
 | l + 1=>dNj c (dNl d l) l (zE c.n l)
end
theorem zi8 (c:VC) (d:Dd) (l j s:Nat):(Jx c d l j).cn s≤d.cn s + 1:=by
 unfold Jx
 split
 ·show (if s=_ then Nat.succ (d.cn s) else d.cn s)≤d.cn s + 1
  split<;>omega
 ·omega
theorem zcz (c:VC) (d:Dd) (l s:Nat):∀ j,(dNj c d l j).cn s≤d.cn s + j
 | 0=>Nat.le_refl _
 | j + 1=>by
  have h1:=zi8 c (dNj c d l j) l j s
  have h2:=zcz c d l s j
  show (Jx c (dNj c d l j) l j).cn s≤_
  omega
theorem zx0 {n l:Nat}(hn:zC n=true):zE n l≤6:=by
 refine Classical.byContradiction fun h=>?_
 have:=(xc hn (l:=l) (j:=zE n l - 1) (xZ.2 (by omega))).2
 omega
theorem zcA (c:VC) (hn:zC c.n=true) (d:Dd) (s:Nat):∀ l,(dNl c d l).cn s≤d.cn s + 6 * l
 | 0=>Nat.le_refl _
 | l + 1=>by
  have h1:=zcz c (dNl c d l) l s (zE c.n l)
  have h2:=zcA c hn d s l
  have h3:=zx0 (l:=l) hn
  show (dNj c (dNl c d l) l (zE c.n l)).cn s≤_
  omega
attribute [local irreducible] kpre cOf mOf rOf JL zj l30 b30 b2s b3n x3n b3j wj sdL zcj zo hS zY zE zt
theorem zCO:Tryz.f30.results.toList=rOf 30:=by kernel_rfl
section
variable {c:VC}{B N:Nat}
theorem zev {F:List Nat}{ρ:Nat→Nat}{zm:KZ}{n m:Nat}{f:Nat→Nat}:RnB (am zm) F ρ n (Z1 m f).v.v (Z1 m f).v.v:=RnB.arr fun j hj=>nfB (v:=nI (f j)) rfl
theorem zx1 {zm:KZ}{n m L:Nat}{a b:List Nat}{d:Dd}:RnB (am zm) [] id 6 (JA n a b L d xO (.row 3 (.arr 32 .sc) n) (.row 4 vT n) (.row 5 .sc m)).v (JA n a b L d xO (.row 3 (.arr 32 .sc) n) (.row 4 vT n) (.row 5 .sc m)).v :=
 RnB.cons (nfB (v:=nI n) rfl) (RnB.cons (nfB (qv a)) (RnB.cons (nfB (vF b)) (RnB.cons (nfB (dKb L d)) (RnB.cons (nfB (v:=xO) rfl) (RnB.cons (show RnB (am zm) [] id 6 (V.row 3 (.arr 32 .sc) n) (V.row 3 (.arr 32 .sc) n) from RnB.row rfl (ltk rfl)) (RnB.cons (show RnB (am zm) [] id 6 (V.row 4 vT n) (V.row 4 vT n) from RnB.row rfl (ltk rfl)) (RnB.cons (show RnB (am zm) [] id 6 (V.row 5 .sc m) (V.row 5 .sc m) from RnB.row rfl (ltk rfl)) (nfB (v:=.nl) rfl))))))))
theorem zmO {d:Dd}{l:Nat}{b5:KBlk}{tr:KTm}{zm:KZ}(ht:[1,2,3,10,11].map (zn tr)=v3s c.y l) (hz:[0,1,2,3,4,5].map (kb zm)=apO (o30 c.y d xO (.row 5 .sc c.m)) [some b5]) (k1:b5.k=.row 3) (s1:b5.sh=.arr c.m .sc) (r1:RnB (am zm) [] id 6 b5.v.v (Z1 c.m c.sl).v.v):atS (mOf 30) (t3s c.y d l) tr zm :=
 atS.of (s:=t3s c.y d l) [] id ht hz (by kernel_rfl) ⟨xG (ltk rfl),xG (ltk rfl),xG (ltk rfl),jh _ rfl,jh _ rfl,trivial⟩ ⟨RnK.nf (Za c.x),RnK.nf Zb,RnK.mk' rfl rfl zx1,⟨_,rfl,rfl,rfl,RnB.arr fun j hj=>nfB (vF _)⟩,⟨_,rfl,rfl,rfl,RnB.arr fun j hj=>nfB (rcb _)⟩,⟨b5,rfl,k1,s1,r1⟩,trivial⟩
theorem zi9 {d:Dd}{l j:Nat}{tr:KTm}{zm:KZ}(ht:[1,2,3,10,11,12].map (zn tr)=zmV c.y l j) (hz:[0,1,2,3,4,5].map (kb zm)=o3 c.y d):atS (mOf 30) (t3j c.y d l j) tr zm :=
 atS.of (s:=t3j c.y d l j) [] id ht hz (by kernel_rfl) ⟨xG (ltk rfl),xG (ltk rfl),xG (ltk rfl),jh _ rfl,jh _ rfl,jh _ rfl,trivial⟩ ⟨RnK.nf (Za c.x),RnK.nf Zb,RnK.mk' rfl rfl zx1,⟨_,rfl,rfl,rfl,RnB.arr fun j hj=>nfB (vF _)⟩,⟨_,rfl,rfl,rfl,RnB.arr fun j hj=>nfB (rcb _)⟩,⟨_,rfl,rfl,rfl,zev⟩,trivial⟩
noncomputable def zx2 (c:VC) (d:Dd):KV:=JA c.n c.a c.b c.L d (zyT c.y) (roK (.arr 32 .sc) c.n (q9 c.x)) (roK vT c.n (wa c.x c.a c.b)) (roK .sc c.m fun j=>nI (c.sl j))
noncomputable abbrev Q30 (c:VC) (d:Dd):K4:=retJ (E30 c.y) Tryz.f30 true (zx2 c d)
theorem zja (hn:c.n≤1000):zmW c.y=true:=zd.2 ⟨xE.2 fun i _=>rcb _,ja.2 (Nat.le_refl _)⟩
theorem zpd:ztj c.y=true:=zd.2 ⟨xE.2 fun i _=>rfl,ja.2 (Nat.le_refl _)⟩
theorem ubB (i:Nat):ubK (q9 c.x i)=true:=by kernel_rfl
theorem ubR (i:Nat):ubK (wa c.x c.a c.b i)=true:=zuV _
theorem zx3 (L:Nat) (d:Dd):ubK (dK L d)=true:=by
 show nd (nd true (ubK (.fa L d.el))) true=true
 rw[XG fun i=>zkL d i]; rfl
theorem zCP (hE:KOk (E30 c.y)) (hN:217≤N) (hn:c.n≤1000) (d:Dd) (l:Nat) (tr:KTm) (zm:KZ) (nx:Nat) (h:atS (mOf 30) (t3s c.y d l) tr zm) (m1:MB (am zm) nx) (m2:INV (mOf 30) tr):JL (E30 c.y) B N (mOf 30) (l30.drop 13) tr zm nx (Q30 c d):=by
 refine JL.preS hE h (vp (by kernel_rfl)) ?_
 have:=JL.goR (B:=B) (N:=N) (mask:=mOf 30) (l1:=l30.drop 13) (l2:=[]) (Q:=Q30 c d) (n:=60) hE rfl (rOf 30) [] [3,4,5] (lt0:=(t3s c.y d l).1) (lz0:=(t3s c.y d l).2.1) (n0:=6) hN (by kernel_rfl) (by kernel_rfl) ?_
 ·rwa [List.append_nil] at this
 ·show zyS c.y d l _ _
  rw[zDg]
  refine zg.2 ⟨fun _=>zg.2 ⟨fun _=>⟨rfl,?_⟩,fun q=>by rw[zpd] at q; cases q⟩,fun q=>by rw[zja hn] at q; cases q⟩
  intro tr zm hz hmb hi hr
  have g3:kb zm 3=some (qZ c.n (q9 c.x)):=congrArg (fun l=>l.getD 0 none) hz
  have g4:kb zm 4=some (vH c.n (wa c.x c.a c.b)):=congrArg (fun l=>l.getD 1 none) hz
  have g5:kb zm 5=some (Z1 c.m c.sl):=congrArg (fun l=>l.getD 2 none) hz
  refine retJ.mk rfl zCO (FzP.cons (FzP.noref rfl) (FzP.cons (FzP.noref (by kernel_rfl)) (FzP.cons (FzP.noref (by kernel_rfl)) (FzP.cons (FzP.ub (zx3 _ _)) (FzP.cons (FzP.noref (by kernel_rfl)) (FzP.cons ?_ (FzP.cons ?_ (FzP.cons ?_ (FzP.noref rfl))))))))) hr
  ·exact FzP.row g3 rfl rfl fun i hi B C M h4 h5 mm hm=>R.allT_fr (ubB i) _ hm
  ·exact FzP.row g4 rfl rfl fun i hi B C M h4 h5 mm hm=>R.allT_fr (ubR i) _ hm
  ·exact FzP.row g5 rfl rfl fun i hi B C M h4 h5 mm hm=>R.allT_fr (v:=nI (c.sl i)) rfl _ hm
structure okN (c:VC):Prop where
 n24:zC c.n=true
 m:c.m=zY c.n
 sl:∀ k,c.sl k≤1
 slx:∀ j,c.sl j=XY c.x c.m j
 p6:∀ l j,isS c.n l j=true→c.P6 [(c.F l j).k]
 st:∀ l j,isS c.n l j=true→stB c.y (c.κ [(c.F l j).k])=true
theorem zjb (H:okN c) {d:Dd}{l j:Nat}{Q:QT}(hn:c.n≤1000) (hS:isS c.n l j=true) (hg:zbu c.L d) (h:nx3 c.y (vg d (zt c.n l j (c.sl (zo c.n l j))) (cvB c.y (c.κ [(c.F l j).k]))) l j Q):wr3 c.y d l j Q:=by
 have hδ:c.y.δ (dK c.y.L d)=d:=zc9 c.L d
 refine zg.2 ⟨fun _=>zg.2 ⟨fun _=>⟨rfl,za.2 ⟨hS,H.p6 l j hS,rfl,za.2 ⟨hS,za.2 ⟨xq.2 (by show _ < c.m; rw[H.m]; exact XC H.n24 hS),rfl,za.2 ⟨zd.2 ⟨hS,ja.2 (H.sl _)⟩,za.2 ⟨H.st l j hS,⟨d,rfl,hg⟩,?_⟩⟩⟩⟩⟩⟩,fun q=>by rw[zpd] at q; cases q⟩,fun q=>by rw[zja hn] at q; cases q⟩
 rw[hδ]
 exact h
theorem zCQ (hE:KOk (E30 c.y)) (hN:217≤N) (H:okN c) (d:Dd) (hd:∀ s,d.cn s≤100) (tr:KTm) (zm:KZ) (nx:Nat) (h:atS (mOf 30) (t3s c.y d 0) tr zm) (m1:MB (am zm) nx) (m2:INV (mOf 30) tr):JL (E30 c.y) B N (mOf 30) (l30.drop 12) tr zm nx (Q30 c (dNl c d (hS c.n + 1))):=by
 have hn:c.n≤1000:=by have:=(zR H.n24).2; omega
 have hh:hS c.n≤2:=(xc H.n24 (Jw H.n24)).1
 refine JL.loopT hE (fun l=>t3s c.y (dNl c d l) l) (fun l=>hS c.n + 1 - l) (fun l=>l≤hS c.n + 1) (id:=4) (b:=b3n) (l2:=l30.drop 13) (by kernel_rfl) (fun w=>by kernel_rfl) 0 (Nat.zero_le _) h m1 m2 ?_
 intro l hl
 refine JL.stp (n:=60) hE rfl 2 (rOf 30) [1,2,3,10,11] [0,1,2,3,4,5] hN (by kernel_rfl) (by kernel_rfl) (fun v=>False) (fun v tr zm nx h1 h2 h3 h4=>h1.elim) ?_
 show zyO c.y (dNl c d l) l _ _
 rw[zDd]
 refine zg.2 ⟨fun q=>?_,fun q=>?_⟩
 ·have q:l≤hS c.n:=j8.1 q
  intro tr zm ht hz hmb hi
  show JL (E30 c.y) B N (mOf 30) ((fl b3n).drop 2) tr zm 6 _
  refine JL.blk (id:=5) (X:=x3n) (l2:=(fl b3n).drop 3) (by kernel_rfl) hmb hi ?_
  refine JL.preS hE (zmO ht hz rfl rfl zev) (vp (by kernel_rfl)) ?_
  refine JL.stp (n:=60) hE rfl 1 (rOf 30) [1,2,3,10,11,12] [0,1,2,3,4,5] hN (by kernel_rfl) (by kernel_rfl) (fun v=>False) (fun v tr zm nx h1 h2 h3 h4=>h1.elim) ?_
  show zyP c.y (dNl c d l) l _ _
  rw[zDe]
  intro tr zm ht hz hmb hi
  show JL (E30 c.y) B N (mOf 30) ((fl x3n).drop 1) tr zm 6 _
  refine JL.loopT hE (fun j=>t3j c.y (dNj c (dNl c d l) l j) l j) (fun j=>zE c.n l - j) (fun j=>j≤zE c.n l) (id:=6) (b:=b3j) (l2:=(fl x3n).drop 2) (by kernel_rfl) (fun w=>by kernel_rfl) 0 (Nat.zero_le _) (zi9 ht hz) hmb hi ?_
  intro j hj
  refine JL.all (n:=60) hE rfl (rOf 30) [1,2,3,10,11,12] [0,1,2,3,4,5] hN (by kernel_rfl) (by kernel_rfl) (fun v=>False) (fun v tr zm nx h1 h2 h3 h4=>h1.elim) ?_
  show zyQ c.y (dNj c (dNl c d l) l j) l j _ _
  rw[zDh]
  refine⟨rfl,za.2 ⟨ja.2 (by omega),zg.2 ⟨fun q2=>?_,fun q2=>?_⟩⟩⟩
  ·have q2:j < zE c.n l:=xw.1 q2
   have hSS:isS c.n l j=true:=xZ.2 q2
   have h6:=zx0 (l:=l) H.n24
   have hg:zbu c.L (dNj c (dNl c d l) l j):=fun s _=>by
    have h1:=zcz c (dNl c d l) l s j
    have h2:=zcA c H.n24 d s l
    have h3:=hd s
    omega
   have es:dNj c (dNl c d l) l (j + 1)=Jx c (dNj c (dNl c d l) l j) l j:=rfl
   have e1:l=hS c.n∨c.em l j=false→dNj c (dNl c d l) l (j + 1)=vg (dNj c (dNl c d l) l j) (zt c.n l j (c.sl (zo c.n l j))) (cvB c.y (c.κ [(c.F l j).k])):=fun h=>by
    rw[es]; exact if_pos h
   have e2:¬ (l=hS c.n∨c.em l j=false)→dNj c (dNl c d l) l (j + 1)=dNj c (dNl c d l) l j:=fun h=>by
    rw[es]; exact if_neg h
   refine zg.2 ⟨fun q3=>zjb H hn hSS hg ?_,fun q3=>zg.2 ⟨fun _=>⟨rfl,za.2 ⟨ja.2 (by omega),zg.2 ⟨fun q4=>zjb H hn hSS hg ?_,fun q4=>?_⟩⟩⟩,fun q4=>by rw[zja hn] at q4; cases q4⟩⟩
   ·refine za.2 ⟨zH.2 (by show j + 1 < _; omega),?_⟩
    intro tr zm ht hz hmb hi
    refine⟨j + 1,by omega,by omega,?_⟩
    rw[e1 (.inl (z9.1 q3))]
    exact zi9 ht hz
   ·refine za.2 ⟨zH.2 (by show j + 1 < _; omega),?_⟩
    intro tr zm ht hz hmb hi
    refine⟨j + 1,by omega,by omega,?_⟩
    have q4:(!(c.em l j))=true:=q4
    rw[e1 (.inr (by cases h:c.em l j<;>simp [h] at q4 ⊢))]
    exact zi9 ht hz
   ·refine za.2 ⟨zH.2 (by show j + 1 < _; omega),?_⟩
    intro tr zm ht hz hmb hi
    refine⟨j + 1,by omega,by omega,?_⟩
    have q4:(!(c.em l j))=false:=q4
    rw[e2 fun h=>by
     rcases h with h | h
     ·rw[show eqN l (hS c.n)=true from wB.2 h] at q3; cases q3
     ·rw[h] at q4; cases q4]
    exact zi9 ht hz
  ·have q2:¬ j < zE c.n l:=(bf xw).1 q2
   have hj2:j=zE c.n l:=by omega
   intro tr zm ht hz hmb hi
   refine zeu 6 ?_
   refine zsN (by kernel_rfl) ?_
   show JL (E30 c.y) B N (mOf 30) ((fl b3n).drop 3) tr zm 6 _
   refine JL.preS hE (zi9 ht hz) (vp (by kernel_rfl)) ?_
   refine JL.all (n:=60) hE rfl (rOf 30) [1,2,3,10,11] [0,1,2,3,4,5] hN (by kernel_rfl) (by kernel_rfl) (fun v=>False) (fun v tr zm nx h1 h2 h3 h4=>h1.elim) ?_
   show zyR c.y (dNj c (dNl c d l) l j) l j _ _
   rw[zDf]
   refine za.2 ⟨zH.2 (by show l + 1 < _; omega),?_⟩
   intro tr zm ht hz hmb hi
   refine⟨l + 1,by omega,by omega,?_⟩
   rw[show dNl c d (l + 1)=dNj c (dNl c d l) l j by rw[hj2]; rfl]
   exact zmO ht hz rfl rfl zev
 ·have q:¬ l≤hS c.n:=fun h=>by
   rw[show leN l (hS c.n)=true from j8.2 h] at q
   cases q
  have hl2:l=hS c.n + 1:=by omega
  intro tr zm ht hz hmb hi
  show (if (4:Nat)=4 then JL (E30 c.y) B N (mOf 30) (l30.drop 13) tr zm 6 (Q30 c (dNl c d (hS c.n + 1))) else Q30 c (dNl c d (hS c.n + 1)) (.exit 4) tr zm 6)
  rw[if_pos rfl,←hl2]
  exact zCP hE hN hn _ l tr zm 6 (zmO ht hz rfl rfl zev) hmb hi
end
end
end Go.K
set_option maxRecDepth 100000
namespace Go.K
open Go.Ab Go.RowKit Go.Y Go.Proofs
noncomputable section
attribute [local instance 10000] gO
attribute [local irreducible] kpre cOf mOf rOf JL zj zo hS zY zE xj
theorem zuJ (C:Ctx):Keep C (X1 C):=⟨fun _ h=>h,fun _ _=>rfl,fun _ _=>rfl,fun u b h=>by
 cases u
 ·exact .inl h
 ·exact .inr h,fun _ _ _=>rfl⟩
theorem zAz (C:Ctx):Keep C.pur (X1 C).pur:=⟨fun _ h=>h,fun _ _=>rfl,fun _ _=>rfl,fun u b h=>by
 cases u
 ·exact .inl h
 ·exact .inr h,fun _ _ _=>rfl⟩
theorem JI {C:Ctx}{cl:Bool}{e:Shape}{n:Nat}{f:Nat→V}{m:Ab.M}(h:R C (.ro false cl e n f) m):R (X1 C) (.ro true cl e n f) m:=by
 obtain⟨a,c,h1,h2,h3,h4⟩:=h
 refine⟨a,c,h1,h2,h3,h4.imp (fun h=>h) ?_⟩
 rintro⟨b,o,q1,q2,q3⟩
 exact⟨b,o,q1,.inl q2,fun i hi=>R.keep (zAz C) _ _ (q3 i hi)⟩
section
variable {n m w:Nat}{c:Nat→Un}
variable {b:Nat}
end
section
variable {x:Sd}{a:Nat}{y:Un}{b o c:Int}
end
end
end Go.K
set_option maxRecDepth 100000
namespace Go.K
open Go.Ab Go.RowKit Go.Y Go.Proofs
noncomputable section
attribute [local instance 10000] gO
theorem zy6 (a:Nat):rr a < 256:=Nat.mod_lt _ (by omega)
theorem zm5 (a:Nat):∀ x∈R32 a,x < 256:=by
 intro x hx
 simp only[R32,List.mem_cons,List.not_mem_nil,or_false] at hx
 rcases hx with rfl | rfl | rfl | rfl<;>exact zy6 _
theorem zm6 (cp:CP) (p64:Nat→List Nat) (m:List Nat) (L nb:Nat):∀ b∈vD cp R32 p64 m L nb,b < 256:=xy fun i _=>xV (by omega) (zm5 _) _
theorem zjF (k:List Nat) (lk:Nat) (m:List Nat) (lm:Nat):∀ b∈hmR k lk m lm,b < 256:=zm6 _ _ _ _ _
theorem zm7 (k:List Nat) (lk:Nat) (m:List Nat) (lm:Nat):(hmR k lk m lm).length=32:=JC _ _ _ _ _ _
theorem zy7 (k:List Nat) (lk:Nat) (m:List Nat) (lm:Nat):x6 (hmR k lk m lm):=fun i=>xV (by omega) (zjF k lk m lm) i
noncomputable def enV (x:Vx):List Nat:=znb hmR (Qk x.ms)
noncomputable def mcV (x:Vx):List Nat:=znc hmR (Qk x.ms)
theorem zy8 (x:Vx):x6 (enV x):=zy7 _ _ _ _
theorem ztx (x:Vx) (a b:List Nat) (i:Nat):(tlV x a b i).length=32:=zm7 _ _ _ _
theorem zy9 (x:Vx) (a b:List Nat) (i:Nat):∀ y∈tlV x a b i,y < 256:=zjF _ _ _ _
noncomputable def mV (x:Vx):Nat:=zY x.n
noncomputable def LV (x:Vx):Nat:=Nat.mul 2 (Nat.add x.n (zY x.n))
noncomputable def uV (x:Vx):Ud:=⟨rcV x (enV x) (mcV x),fun _=>false,XY x (mV x)⟩
theorem zbj (x:Vx):0 < x.n∧x.n≤20:=by
 unfold Vx.n
 have:=Nat.mod_lt x.nb (show 0 < 20 by omega)
 show 0 < 1 + x.nb % 20∧1 + x.nb % 20≤20
 omega
theorem jZ (x:Vx):zC x.n=true:=by
 have h:=zbj x
 unfold zC
 exact zd.2 ⟨ja.2 h.1,ja.2 (by omega)⟩
attribute [local irreducible] kpre cOf mOf rOf JL zj zo hS zY zE zt
theorem zeH (x:Vx) (a b:List Nat) (i:Nat):(rcV x a b i).tg.length=32∧(rcV x a b i).wb∧(rcV x a b i).ok:=by
 have h3:yl x i < 3:=Nat.mod_lt _ (by omega)
 unfold rcV
 split
 ·rename_i h
  have h0:=h.2
  exact⟨ztx _ _ _ _,⟨by show yl x i < 256; omega,Nat.mod_lt _ (by omega),Nat.mod_lt _ (by omega),zy9 _ _ _ _⟩,by show yl x i≤2; omega,fun (e:yl x i=0)=>by omega⟩
 ·exact⟨rfl,Jn,zji⟩
theorem Q2 (x:Vx):UOk x.n (mV x) (uV x):=⟨jZ x,rfl,fun i _=>(zeH x _ _ i).1,fun i _=>(zeH x _ _ i).2.1,fun i _=>zd7 x _ i,fun i _=>(zeH x _ _ i).2.2.1⟩
theorem zty (x:Vx):UV x.n (uV x):=⟨fun i _=>(zeH x _ _ i).2.2,fun i _ h=>by cases h⟩
theorem zza (x:Vx):vI x.n (uV x)=XY x (mV x):=funext fun k=>by
 unfold vI
 rw[if_neg]
 ·rfl
 ·rintro⟨l,j,h1,h2,h3⟩
  obtain⟨i,_,h4,_⟩:=zez.1 h3
  cases h4
noncomputable abbrev FV (x:Vx):Nat→Nat→Nd:=jg x.n (uV x)
def P6V (x:Vx) (l:List KV):Prop:=∃ i j,isS x.n i j=true∧l=[(FV x i j).k]
noncomputable def κV (x:Vx) (l:List KV):Nat:=match l with
 | [b]=>zo x.n (lvK b) (ixK b)
 | _=>0
noncomputable def cV (x:Vx):VC:={ x:=x,n:=x.n,m:=mV x,L:=LV x,a:=enV x,b:=mcV x,sl:=XY x (mV x),em:=emS x.n (rcV x (enV x) (mcV x)),F:=FV x,P6:=P6V x,κ:=κV x,ln:=fun k=>Nat.pred (byN (Yk x.n (uV x) k)),bs:=fun k=>byL (Yk x.n (uV x) k),D:=(FV x (hS x.n) 0).nf.dg }
section
variable {x:Vx}
theorem κV_eq {l j:Nat}(h:isS x.n l j=true):κV x [(FV x l j).k]=zo x.n l j∧Yk x.n (uV x) (zo x.n l j)=FV x l j:=by
 have hw:=Vi (now:=vI x.n (uV x)) (jZ x) (fun i hi=>⟨(Q2 x).wl i hi,(Q2 x).wb i hi⟩) l j h
 obtain⟨e1,e2⟩:=zjj (jZ x) h
 refine⟨?_,?_⟩
 ·show zo x.n (FV x l j).lv (FV x l j).ix=_
  rw[show (FV x l j).lv=l from hw.2.2.1,show (FV x l j).ix=j from hw.2.2.2]
 ·unfold Yk
  rw[e1,e2]
theorem ztz {y:Nd}(h:y.wb):∀ b∈byL y,b < 256:=by
 obtain⟨h1,h2,h3,h4⟩:=h
 have hr:∀ i,i < 4→∀ b∈rcL P32 P64 (y.rc i),b < 256:=fun i hi b hb=>by
  rcases List.mem_cons.1 (show b∈(y.rc i).st::apL (P32 (y.rc i).sh) (apL (P64 (y.rc i).ct) (lsF 32 (nN (y.rc i).tg))) from hb) with rfl | hb
  ·exact (h3 i hi).1
  ·exact zT (jF _) (zT (Vo _) (xy fun k _=>xV (by omega) (h3 i hi).2.2.2 k)) b hb
 have he:∀ i,i < 4→∀ b∈enL (y.en i),b < 256:=fun i hi b hb=>by
  rcases List.mem_cons.1 (show b∈(y.en i).st::lsF 32 (nN (y.en i).dg) from hb) with rfl | hb
  ·exact (h4 i hi).1
  ·exact xy (fun k _=>xV (by omega) (h4 i hi).2 k) b hb
 unfold byL
 cases hl:y.lv with
 | zero =>
  intro b hb
  rcases List.mem_cons.1 (show b∈y.lv::apL (P32 y.ix) (apL (rcL P32 P64 (y.rc 0)) (apL (rcL P32 P64 (y.rc 1)) (apL (rcL P32 P64 (y.rc 2)) (rcL P32 P64 (y.rc 3))))) from hb) with rfl | hb
  ·exact h1
  ·exact zT (jF _) (zT (hr 0 (by omega)) (zT (hr 1 (by omega)) (zT (hr 2 (by omega)) (hr 3 (by omega))))) b hb
 | succ k =>
  intro b hb
  rcases List.mem_cons.1 (show b∈y.lv::apL (P32 y.ix) (apL (enL (y.en 0)) (apL (enL (y.en 1)) (apL (enL (y.en 2)) (enL (y.en 3))))) from hb) with rfl | hb
  ·exact h1
  ·exact zT (jF _) (zT (he 0 (by omega)) (zT (he 1 (by omega)) (zT (he 2 (by omega)) (he 3 (by omega))))) b hb
theorem zeI (y:Nd):Nat.succ (Nat.pred (byN y))=byN y:=by
 unfold byN
 cases y.lv<;>rfl
theorem zzb (x:Vx):okN (cV x) where
 n24:=jZ x
 m:=rfl
 sl:=fun k=>zd7 x _ k
 slx:=fun j=>rfl
 p6:=fun l j h=>⟨l,j,h,rfl⟩
 st:=fun l j h=>by
  obtain⟨e1,e2⟩:=κV_eq (x:=x) h
  obtain⟨w1,w2,w3,w4⟩:=Jy (Q2 x) (zty x) h
  show stB (cV x).y (κV x [(FV x l j).k])=true
  rw[e1]
  unfold stB
  refine xE.2 fun i hi=>?_
  rw[va]
  show is8 (kU8 (nN (byL (Yk x.n (uV x) (zo x.n l j))) i))=true
  rw[e2]
  exact XP.2 (xV (by omega) (ztz w2) i)
end
end
end Go.K
set_option maxRecDepth 100000
namespace Go.K
open Go.Ab Go.RowKit Go.Y Go.Proofs
noncomputable section
attribute [local instance 10000] gO
noncomputable def zts (rs now:KV) (n h:Nat) (F:Nd):KEnv:=EO0.tab [(28,zq [nI n] (nI h)),(44,zq [rs,now,nI h,nI 0] F.k),(55,zbm)]
def zDl (n m:Nat) (rc:Nat→Rc) (sl:Nat→Nat) (h:Nat) (F:Nd) (K:KV→Prop):Prop:=zi (zts (ji n rc) (vL m sl) n h F) (zj (zts (ji n rc) (vL m sl) n h F) 60) 0 25 [ji n rc,vL m sl] .e 0 0 fun r _ _ _=>K r
theorem zDm (n m:Nat) (rc:Nat→Rc) (sl:Nat→Nat) (h:Nat) (F:Nd) (K:KV→Prop):zDl n m rc sl h F K=([nI n]=[nI n]∧[ji n rc,vL m sl,nI h,nI 0]=[ji n rc,vL m sl,nI h,nI 0]∧zcP F.nf∧K (kBy 32 (nN F.nf.dg))):=by kernel_rfl
def ztt (n:Nat):Prop:=zi EO0 (zj EO0 200) 0 103 [nI n] .e 0 0 fun r _ _ _=>tK (kvb r (nI (Nat.mul 2 (Nat.add n (zY n)))))
def zcJ (q:Bool):Prop:=xr (fun n=>@Bool.rec (fun _=>Prop) True (ztt (Nat.succ n)) q) 24
theorem zyX:zcJ true=zcJ false:=by kernel_rfl
attribute [local irreducible] kpre cOf mOf rOf JL zj zi zo hS zY zE zt l30
theorem zDn {n:Nat}(hn:zC n=true):KCS Tryz.prog 103 (zq [nI n] (nI (Nat.mul 2 (Nat.add n (zY n))))):=xm ⟨Tryz.f103,Tryz.func103,by kernel_rfl,by kernel_rfl⟩ fun l K hs=>by
 obtain⟨rfl,hk⟩:=hs
 obtain⟨n1,n2⟩:=zR hn
 obtain⟨m,rfl⟩:∃ m,n=Nat.succ m:=⟨n - 1,by omega⟩
 exact⟨EO0,zr,rfl,200,_,_,hk,rfl,fun r hr=>by rw[vC (yg hr)]; exact Imp.refl _,zw (Eq.mpr zyX (zF (fun n=>trivial) 24):zcJ true) m (by omega)⟩
section
variable {x:Vx}
theorem zjE (l:List Nat):zA (kBy 32 (nN l)).v=true:=by kernel_rfl
theorem ztu (y:Nd):zA y.k.v=true:=by kernel_rfl
theorem zyY (x:Vx):KCS Tryz.prog 28 (zq [nI x.n] (nI (hS x.n))):=⟨kHt.1,fun l K h=>kHt.2 l K (by
 obtain⟨rfl,h1⟩:=h
 exact⟨jZ x,h1⟩)⟩
noncomputable abbrev rcs (x:Vx):Nat→Rc:=rcV x (enV x) (mcV x)
noncomputable abbrev sls (x:Vx):Nat→Nat:=XY x (mV x)
theorem zyZ (x:Vx):zrM x.n (mV x) (uV x)=vL (mV x) (sls x):=by
 unfold zrM vL
 rw[zza]
theorem zy0 (x:Vx) {l j:Nat}(h:isS x.n l j=true):KCS Tryz.prog 44 (zq [ji x.n (rcs x),vL (mV x) (sls x),nI l,nI j] (FV x l j).k):=⟨znw.1,fun q K hk=>(zxt (Q2 x)).2 q K (by
 obtain⟨rfl,hk⟩:=hk
 exact⟨by rw[show ji x.n (uV x).rc=ji x.n (rcs x) from rfl,show zY x.n=mV x from rfl,zyZ],za.2 ⟨h,hk⟩⟩)⟩
theorem zDo (x:Vx) {l j:Nat}(h:isS x.n l j=true):KCS Tryz.prog 44 (zq [(cV x).y.rcF,(cV x).y.slF,nI l,nI j] (FV x l j).k) :=
 za7 (zy0 x h) (l':=[ji x.n (rcs x),vL (mV x) (sls x),nI l,nI j]) (fun C md=>R.cons_map (fun md=>JI) (fun md=>R.cons_map (fun md=>JI) (fun md=>R.keep (zuJ C) _ md))) rfl (ztu _) fun K hK=>⟨rfl,hK⟩
theorem zDp (x:Vx) {l j:Nat}(h:l≤2):KCS Tryz.prog 46 (zq [(cV x).y.rcF,nI l,nI j] (.bool (emS x.n (rcs x) l j))) :=
 za7 znj (l':=[ji x.n (rcs x),nI l,nI j]) (fun C md=>R.cons_map (fun md=>JI) (fun md=>R.keep (zuJ C) _ md)) rfl rfl fun K hK=>⟨(x.n,rcs x,l,j),rfl,⟨(zR (jZ x)).2,h⟩,hK⟩
theorem zDq (x:Vx):KCS Tryz.prog 25 (zq [ji x.n (rcs x),vL (mV x) (sls x)] (kBy 32 (nN (FV x (hS x.n) 0).nf.dg))):=xm ⟨Tryz.f25,Tryz.func25,by kernel_rfl,by kernel_rfl⟩ fun l K hs=>by
 obtain⟨rfl,hk⟩:=hs
 obtain⟨w1,w2,w3,w4⟩:=Jy (Q2 x) (zty x) (Jw (jZ x))
 exact⟨zts (ji x.n (rcs x)) (vL (mV x) (sls x)) x.n (hS x.n) (FV x (hS x.n) 0),zr.tab (l:=[(28,zq [nI x.n] (nI (hS x.n))),(44,zq [ji x.n (rcs x),vL (mV x) (sls x),nI (hS x.n),nI 0] (FV x (hS x.n) 0).k),(55,zbm)]) ⟨zyY x,zy0 x (Jw (jZ x)),zbn,trivial⟩,rfl,60,fun r=>r=kBy 32 (nN (FV x (hS x.n) 0).nf.dg),_,hk,zjE _,fun r hr=>by rw[hr]; exact Imp.refl _,Eq.mpr (zDm x.n (mV x) (rcs x) (sls x) (hS x.n) (FV x (hS x.n) 0) _) ⟨rfl,rfl,⟨zi0 w1 w2,w3.2⟩,rfl⟩⟩
theorem zDr (x:Vx):KCS Tryz.prog 25 (zq [(cV x).y.rcF,(cV x).y.slF] (kBy 32 (nN (cV x).D))) :=
 za7 (zDq x) (l':=[ji x.n (rcs x),vL (mV x) (sls x)]) (fun C md=>R.cons_map (fun md=>JI) (fun md=>R.cons_map (fun md=>JI) (fun md=>R.keep (zuJ C) _ md))) rfl (zjE _) fun K hK=>⟨rfl,hK⟩
theorem zbh (x:Vx):0 < LV x∧LV x < 1000:=by
 have h1:=zbj x
 have h2:=YL (jZ x)
 show 0 < 2 * (x.n + zY x.n)∧2 * (x.n + zY x.n) < 1000
 omega
theorem c66 (x:Vx) {l j:Nat}(h:isS x.n l j=true):wL (Nat.succ ((cV x).ln (κV x [(FV x l j).k]))) ((cV x).bs (κV x [(FV x l j).k]))=byR (FV x l j):=by
 obtain⟨e1,e2⟩:=κV_eq (x:=x) h
 obtain⟨w1,w2,w3,w4⟩:=Jy (Q2 x) (zty x) h
 rw[e1,zxy w2]
 show wL (Nat.succ (Nat.pred (byN (Yk x.n (uV x) (zo x.n l j))))) (byL (Yk x.n (uV x) (zo x.n l j)))=_
 rw[e2,zeI]
 rfl
theorem zy1 (x:Vx):KOk (E30 (cV x).y):=by
 refine ziD (KOk.tabB (zr.tab (l:=zyI (cV x).y) ⟨?_,?_,?_,zE5,zE4 (zy8 x),zE6,?_,zyY x,?_,?_,?_,?_,?_,zDr x,?_,trivial⟩) (l:=[(71,zq [nI (cV x).y.L] (dK (cV x).y.L X2)),(65,ztH (cV x).y.L (cV x).y.P (cV x).y.δ)]) ⟨?_,zE3 (zbh x).1 (zbh x).2,trivial⟩)
 ·exact⟨zyg.1,fun l K h=>zyg.2 l K (by
   obtain⟨rfl,h1⟩:=h
   exact⟨x.ms,rfl,trivial,h1⟩)⟩
 ·exact⟨zpy.1,fun l K h=>zpy.2 l K (by
   obtain⟨rfl,h1⟩:=h
   exact⟨Qk x.ms,rfl,trivial,h1⟩)⟩
 ·exact zDn (jZ x)
 ·exact⟨zAQ.1,fun l K h=>zAQ.2 l K (by
   obtain⟨rfl,h1⟩:=h
   exact⟨jZ x,h1⟩)⟩
 ·exact⟨zAR.1,fun l K h=>zAR.2 l K (by
   obtain⟨a,b,rfl,h1⟩:=ju h
   obtain⟨i,rfl,h0,h2⟩:=zu h1
   cases h0
   obtain⟨h3,h4⟩:=za.1 h2
   exact⟨⟨jZ x,ja.1 h3⟩,h4⟩)⟩
 ·exact⟨znj.1,fun l K h=>by
   obtain⟨a,b,c,rfl,h1⟩:=ZU h
   obtain⟨i,rfl,h2⟩:=zu h1
   obtain⟨j,rfl,h0,h2'⟩:=zu h2
   cases h0
   obtain⟨h3,h4⟩:=za.1 h2'
   exact (zDp x (ja.1 h3)).2 _ K ⟨rfl,h4⟩⟩
 ·exact⟨znw.1,fun l K h=>by
   obtain⟨a,b,c,d,rfl,h1⟩:=za6 h
   obtain⟨i,rfl,h2⟩:=zu h1
   obtain⟨j,rfl,h0,h2'⟩:=zu h2
   cases h0
   obtain⟨h3,h4⟩:=za.1 h2'
   exact (zDo x h3).2 _ K ⟨rfl,h4⟩⟩
 ·exact⟨znv.1,fun l K h=>znv.2 l K (by
   obtain⟨a,b,c,rfl,h1⟩:=ZU h
   obtain⟨i,rfl,h2⟩:=zu h1
   obtain⟨j,rfl,h0,h2'⟩:=zu h2
   cases h0
   obtain⟨h3,h4⟩:=za.1 h2'
   have h5:=xc (jZ x) h3
   exact⟨⟨jZ x,h5.1,by omega⟩,h4⟩)⟩
 ·exact⟨ze5.1,fun l K h=>ze5.2 l K (by
   obtain⟨a,b,c,d,rfl,h1⟩:=za6 h
   obtain⟨i,rfl,h2⟩:=zu h1
   obtain⟨j,rfl,h2'⟩:=zu h2
   obtain⟨s,rfl,h0,h2''⟩:=zu h2'
   cases h0
   obtain⟨h3,h4⟩:=za.1 h2''
   obtain⟨h5,h6⟩:=zd.1 h3
   exact⟨⟨jZ x,h5,ja.1 h6⟩,h4⟩)⟩
 ·exact⟨zy4.1,fun l K h=>zy4.2 l K (by
   obtain⟨⟨i,j,h1,rfl⟩,h2⟩:=h
   have h2:K (wL (Nat.succ ((cV x).ln (κV x [(FV x i j).k]))) ((cV x).bs (κV x [(FV x i j).k]))):=h2
   rw[c66 x h1] at h2
   exact⟨FV x i j,rfl,trivial,h2⟩)⟩
 ·exact⟨zpU.1,fun l K h=>zpU.2 l K (by
   obtain⟨rfl,h1⟩:=h
   exact⟨LV x,rfl,zbh x,h1⟩)⟩
noncomputable def vn (x:Vx):Dd:=dNl (cV x) (dV x (enV x) (mcV x) x.n) (hS x.n + 1)
noncomputable def ztv (x:Vx):KV:=zx2 (cV x) (vn x)
theorem zDs:fl (cOf 30)=l30:=by kernel_rfl
theorem j30 (x:Vx) (hb:x.nb < 256):JFn Tryz.prog 30 true [x.k] (ztv x):=by
 have hE:=zy1 x
 obtain⟨n0,n1⟩:=zbj x
 have hm:=YL (jZ x)
 refine JFn.of (P:=Tryz.prog) hE rfl (c:=cOf 30) (mOf 30) Tryz.func30 (by kernel_rfl) fun B N hN=>?_
 rw[zC5] at hN
 rw[zDs]
 refine JL.stp (n:=60) (s:=(z7 (mOf 30) 0 [x.k],[],0)) hE rfl 6 (rOf 30) [1,2,3,4] [0,1,2] hN (by kernel_rfl) (by kernel_rfl) (fun v=>False) (fun v tr zm nx h1 h2 h3 h4=>h1.elim) ?_
 show zyJ (cV x).y _ _
 rw[zDa]
 refine za.2 ⟨zH.2 (by show x.nb < _; omega),za.2 ⟨zH.2 (by show x.n < _; omega),rfl,rfl,rfl,rfl,?_⟩⟩
 intro tr zm ht hz m1 m2
 refine zCi (c:=cV x) hE hN n0 n1 _ tr zm ht hz m1 m2 ?_
 intro tr zm ht m1 m2
 refine zBU (c:=cV x) hE hN (by show 0 < zY x.n; unfold zY; exact Nat.succ_pos _) (by show zY x.n≤1000; omega) _ tr zm ht m1 m2 ?_
 intro tr zm ht m1 m2
 obtain⟨k,hk⟩:∃ k,(cV x).m=Nat.succ k:=⟨zo x.n (hS x.n) 0,by show zY x.n=_; unfold zY; rfl⟩
 rw[hk] at ht
 refine JL.preS hE ht (vp (by kernel_rfl)) ?_
 refine JL.stp (n:=60) hE rfl 3 (rOf 30) [1,2,3,10,11] [0,1,2,3,4,5] hN (by kernel_rfl) (by kernel_rfl) (fun v=>False) (fun v tr zm nx h1 h2 h3 h4=>h1.elim) ?_
 show zyN (cV x).y (dV x (enV x) (mcV x) x.n) (slP x) k _ _
 rw[zDc]
 have hep:epV (cV x).y < 2:=Nat.mod_lt _ (by omega)
 have hk9:k < 9:=by
  have:zY x.n=Nat.succ k:=hk
  omega
 refine za.2 ⟨zH.2 (by show k < _; omega),za.2 ⟨zH.2 (by omega),za.2 ⟨xq.2 (by show k < k + 1; omega),rfl,?_⟩⟩⟩
 intro tr zm ht hz m1 m2
 show JL (E30 (cV x).y) B N (mOf 30) ((l30.drop 9).drop 3) tr zm 6 _
 rw[List.drop_drop]
 refine zCQ hE hN (zzb x) (dV x (enV x) (mcV x) x.n) (fun s=>?_) tr zm 6 ?_ m1 m2
 ·have:=ze8 x (enV x) (mcV x) x.n s
  omega
 have hz':[0,1,2,3,4,5].map (kb zm)=apO (o30 (cV x).y (dV x (enV x) (mcV x) x.n) xO (.row 5 .sc (cV x).m)) [some (rSE k (epV (cV x).y) (slP x))]:=by rw[hk]; exact hz
 refine zmO ht hz' rfl ?_ ?_
 ·rw[hk]; rfl
 ·rw[hk]
  refine RnB.arr fun j hj=>?_
  show RnB (am zm) [] id 6 (ifN j (Nat.sub (Nat.succ k) 1) (nI (epV (cV x).y)) (nI (slP x j))).v (nI (XY x (cV x).m j)).v
  have e:ifN j (Nat.sub (Nat.succ k) 1) (nI (epV (cV x).y)) (nI (slP x j))=nI (XY x (cV x).m j):=by
   rw[jp,hk]
   unfold XY
   show (if j=k then nI (x.ep % 2) else nI (slP x j))=nI (if j=k then x.ep % 2 else slP x j)
   split<;>rfl
  rw[e]
  exact nfB (v:=nI (XY x (cV x).m j)) rfl
noncomputable def zDt:zh:=xM (fun x:Vx=>[x.k]) (fun x=>x.nb < 256) ztv
theorem zy2:qo Tryz.prog 30 zDt:=jC ⟨Tryz.f30,Tryz.func30,by kernel_rfl,by kernel_rfl⟩ fun x h=>j30 x h
end
end
end Go.K
set_option maxRecDepth 100000
namespace Go.K
open Go.Ab Go.RowKit Go.Y Go.Proofs
noncomputable section
attribute [local instance 10000] gO
structure Vw where
 n:Nat
 a:List Nat
 b:List Nat
 L:Nat
 d:Dd
 D:List Nat
 ep:Nat
 m:Nat
 f:Nat→KV
 g:Nat→KV
 h:Nat→Nat
noncomputable def zCW (D:List Nat) (e:Nat):KV:=.cons (kBy 32 (nN D)) (.cons (XZ e) (.cons (XZ 1000) .nl))
noncomputable def Vw.k (v:Vw):KV:=JA v.n v.a v.b v.L v.d (zCW v.D v.ep) (roK (.arr 32 .sc) v.n v.f) (roK vT v.n v.g) (roK .sc v.m fun j=>nI (v.h j))
noncomputable def vwX (x:Vx):Vw:=⟨x.n,enV x,mcV x,LV x,vn x,(cV x).D,Nat.mod x.ep 18446744073709551616,mV x,q9 x,wa x (enV x) (mcV x),XY x (mV x)⟩
theorem zs4 (x:Vx):ztv x=(vwX x).k:=rfl
noncomputable def E40 (y:AE) (L:Nat) (d:Dd):KEnv:=(EO0.tab [(70,zq [nI L] (zgi L)),(74,fun l K=>la2 l fun x z=>z6 z fun s=>[x]=[dK L d]∧cnd (Nat.blt s L) (K (d.last s).k))]).tabB [(111,fun l K=>y.P l∧K (zbw (y.δ l) (y.ε l)))]
noncomputable def l40:List Code:=fl (cOf 40)
noncomputable def b40:Code:=lpB (blB (l40.getD 3 .skip))
def zyi (y:AE) (v:Vw) (Q:QT) (R:RT):Prop:=pc (E40 y v.L v.d) 40 (l40.take 3) [1,2,3,5] [0,1,2] (z7 (mOf 40) 0 [v.k],[],0) Q R
noncomputable def s40 (v:Vw) (e:Dk) (i:Nat):LS:=([(1,.ptr 0 [] zX),(2,.ptr 1 [] Ys),(3,.ptr 2 [] Ys),(5,nI i)],[(0,bx 80 zX v.k),(1,bx 112 Ys zyl),(2,bx 112 Ys e.k)],3)
def zyj (y:AE) (v:Vw) (e:Dk) (i:Nat) (Q:QT) (R:RT):Prop:=pc (E40 y v.L v.d) 40 (fl b40) [1,2,3,5] [0,1,2] (s40 v e i) Q R
def zyk (y:AE) (v:Vw) (e:Dk) (i:Nat) (Q:QT) (R:RT):Prop:=pc (E40 y v.L v.d) 40 (l40.drop 4) [] [] (s40 v e i) Q R
noncomputable def v40 (i:Nat):List KV:=[.ptr 0 [] zX,.ptr 1 [] Ys,.ptr 2 [] Ys,nI i]
noncomputable def o40 (v:Vw) (e:Dk):List (Option KBlk):=[some (bx 80 zX v.k),some (bx 112 Ys zyl),some (bx 112 Ys e.k)]
noncomputable def nwD (L:Nat):Dk:=⟨L,0,1,zgh⟩
theorem zCX (y:AE) (v:Vw) (Q:QT) (R:RT):zyi y v Q R=([nI v.L]=[nI v.L]∧Q .normal (v40 0) (o40 v (nwD v.L)) 3):=by kernel_rfl
noncomputable def aD (v:Vw) (e:Dk) (i:Nat):List KV:=[e.k,nI i,.ro true false .sc 0 (v.d.last i).ln (.pk .u8 (v.d.last i).ln (v.d.last i).st)]
def zs5 (v:Vw) (e:Dk) (i k:Nat) (Q:QT):Prop:=cnd (b63 (Nat.add i 1)) (Q .normal (v40 (Nat.add i 1)) (o40 v e) k)
theorem zCY (y:AE) (v:Vw) (e:Dk) (i:Nat) (Q:QT) (R:RT):zyj y v e i Q R=alt (ltN i v.L) ([dK v.L v.d]=[dK v.L v.d]∧cnd (Nat.blt i v.L) (alt (v.d.last i).th (y.P (aD v e i)∧alt (eqN (y.ε (aD v e i)) 0) (zs5 v (y.δ (aD v e i)) i 5 Q) (zs5 v e i 5 Q)) (zs5 v e i 4 Q))) (Q (.exit 0) (v40 i) (o40 v e) 3):=by kernel_rfl
theorem zCZ (y:AE) (v:Vw) (e:Dk) (i:Nat) (Q:QT) (R:RT):zyk y v e i Q R=R e.k [] 3:=by kernel_rfl
noncomputable def aP (x:Dk×Nat×Nat×Nat):List KV:=[x.1.k,nI x.2.1,.ro true false .sc 0 x.2.2.1 (.pk .u8 x.2.2.1 x.2.2.2)]
theorem zru {x y:Dk×Nat×Nat×Nat}(h:aP x=aP y):x=y:=by
 obtain⟨d,s,n,q⟩:=x
 obtain⟨d',s',n',q'⟩:=y
 unfold aP at h
 simp only[List.cons.injEq,KV.ro.injEq,KV.pk.injEq,true_and,and_true] at h
 obtain⟨h1,h2,h3,h4⟩:=h
 obtain rfl:=zuq h1
 obtain rfl:=zc0 h2
 obtain⟨rfl,rfl⟩:=h4
 rfl
open Classical in
noncomputable def deP (l:List KV):Dk×Nat×Nat×Nat:=if h:∃ x,l=aP x then Classical.choose h else (zDk,0,0,0)
theorem Yd (x:Dk×Nat×Nat×Nat):deP (aP x)=x:=by
 have h:∃ y,aP x=aP y:=⟨x,rfl⟩
 unfold deP
 rw[dif_pos h]
 exact (zru (Classical.choose_spec h)).symm
noncomputable def bSt (q:Nat) (i:Nat):Nat:=pkr .u8 q i
noncomputable def dP1 (x:Dk×Nat×Nat×Nat):Dk:=wrD x.1 (.ofNat x.2.1) x.2.2.1 (bSt x.2.2.2)
noncomputable def eP1 (x:Dk×Nat×Nat×Nat):Nat:=erW x.1 (.ofNat x.2.1) x.2.2.1
noncomputable def yD:AE:=⟨fun l=>∃ x,l=aP x∧x.1.ok∧x.2.2.1≤1000,fun l=>dP1 (deP l),fun l=>eP1 (deP l)⟩
theorem zBO (x:Dk×Nat×Nat×Nat):(aP x).map KV.v=(zAg (x.1,.ofNat x.2.1,x.2.2.1,bSt x.2.2.2)).map KV.v:=rfl
theorem zwm:qo Tryz.prog 111 (fun l K=>yD.P l∧K (zbw (yD.δ l) (yD.ε l))):=⟨zkR.1,fun l K h=>by
 obtain⟨⟨x,rfl,h1,h2⟩,hk⟩:=h
 have e1:yD.δ (aP x)=dP1 x:=by show dP1 (deP (aP x))=_; rw[Yd]
 have e2:yD.ε (aP x)=eP1 x:=by show eP1 (deP (aP x))=_; rw[Yd]
 rw[e1,e2] at hk
 obtain⟨v,hv,hc⟩:=zkR.2 (zAg (x.1,.ofNat x.2.1,x.2.2.1,bSt x.2.2.2)) K ⟨(x.1,.ofNat x.2.1,x.2.2.1,bSt x.2.2.2),rfl,⟨h1,h2⟩,hk⟩
 exact⟨v,hv,fun hb B μ nx mx=>by rw[zBO]; exact hc rfl B μ nx mx⟩⟩
section
variable (L:Nat) (d:Dd)
open Classical in
noncomputable def dkS:Nat→Dk
 | 0=>nwD L
 | i + 1=>if (d.last i).th=true∧erW (dkS i) (.ofNat i) (d.last i).ln=0 then wrD (dkS i) (.ofNat i) (d.last i).ln (bSt (d.last i).st) else dkS i
end
structure okVw (v:Vw):Prop where
 l0:0 < v.L
 l1:v.L≤64
 cn:∀ i,i < v.L→v.d.cn i < 1000
 ln:∀ i,i < v.L→(v.d.last i).ln≤1000
section
variable {L:Nat}{d:Dd}
theorem zaY {i:Nat}(h:(d.last i).th=true) (h2:erW (dkS L d i) (.ofNat i) (d.last i).ln=0):dkS L d (i + 1)=wrD (dkS L d i) (.ofNat i) (d.last i).ln (bSt (d.last i).st):=if_pos ⟨h,h2⟩
theorem QU {i:Nat}(h:¬ ((d.last i).th=true∧erW (dkS L d i) (.ofNat i) (d.last i).ln=0)):dkS L d (i + 1)=dkS L d i:=if_neg h
theorem zaZ (i:Nat):(dkS L d i).L=L∧(dkS L d i).q=1∧(dkS L d i).c≤i:=by
 induction i with
 | zero=>exact⟨rfl,rfl,Nat.le_refl _⟩
 | succ i ih =>
  obtain⟨h1,h2,h3⟩:=ih
  by_cases h:(d.last i).th=true∧erW (dkS L d i) (.ofNat i) (d.last i).ln=0
  ·rw[zaY h.1 h.2,ze1 h.2]
   exact⟨h1,h2,Nat.succ_le_succ h3⟩
  ·rw[QU h]
   exact⟨h1,h2,by omega⟩
theorem zrv (hL:L≤64):(nwD L).ok:=⟨by show 1≤_; omega,by show L≤64 * 1; omega,Nat.zero_le _,fun _ _=>Nat.le_refl _,fun _ _ v h=>by cases h⟩
theorem Ye (hL:L≤64) {i:Nat}(hi:i≤64):(dkS L d i).ok:=by
 induction i with
 | zero=>exact zrv hL
 | succ i ih =>
  have ih:=ih (by omega)
  obtain⟨h1,h2,h3⟩:=zaZ (L:=L) (d:=d) i
  by_cases h:(d.last i).th=true∧erW (dkS L d i) (.ofNat i) (d.last i).ln=0
  ·rw[zaY h.1 h.2,ze1 h.2]
   refine⟨ih.hq,ih.hl,by show (dkS L d i).c + 1≤_; omega,fun j k=>?_,fun j k v hv=>?_⟩
   ·show Ql (@ite _ _ (Classical.propDecidable _) (some (nxV _ _ _ _)) _)≤(dkS L d i).c + 1
    split
    ·exact Nat.succ_le_succ (ih.hn _ _)
    ·exact Nat.le_succ_of_le (ih.hn _ _)
   ·have hv:(@ite _ _ (Classical.propDecidable _) (some (nxV _ _ _ _)) ((dkS L d i).f j k))=some v:=hv
    split at hv
    ·cases hv
     have:=(zAh h.2).2.2
     show (d.last i).ln≤1000
     omega
    ·exact ih.hb _ _ _ hv
  ·rw[QU h]; exact ih
end
attribute [local irreducible] kpre cOf mOf rOf JL zj zi l40 b40
theorem zBP:Tryz.f40.ntmps=44:=by kernel_rfl
theorem zBQ:Tryz.f40.results.toList=rOf 40:=by kernel_rfl
theorem zBR:fl (cOf 40)=l40:=by kernel_rfl
theorem zBS {v:Vw}(H:okVw v):KOk (E40 yD v.L v.d):=KOk.tabB (zr.tab (l:=[(70,zq [nI v.L] (zgi v.L)),(74,fun l K=>la2 l fun x z=>z6 z fun s=>[x]=[dK v.L v.d]∧cnd (Nat.blt s v.L) (K (v.d.last s).k))]) ⟨⟨zp4.1,fun l K h=>zp4.2 l K (by
  obtain⟨rfl,h1⟩:=h
  exact⟨v.L,rfl,⟨H.l0,H.l1⟩,h1⟩)⟩,⟨XW.1,fun l K h=>XW.2 l K (by
  obtain⟨a,b,rfl,h1⟩:=ju h
  obtain⟨s,rfl,h0,h2⟩:=zu h1
  cases h0
  obtain⟨h3,h4⟩:=za.1 h2
  have h3:=XP.1 h3
  exact⟨(v.L,v.d,s),rfl,⟨h3,by have:=H.cn s h3; show v.d.cn s < _; omega⟩,h4⟩)⟩,trivial⟩) ⟨zwm,trivial⟩
theorem zrw (v:Vw):zS 0 (bx 80 zX v.k).v=true:=by kernel_rfl
theorem ziq {v:Vw}{e:Dk}{i:Nat}{tr:KTm}{zm:KZ}(ht:[1,2,3,5].map (zn tr)=v40 i) (hz:[0,1,2].map (kb zm)=o40 v e):atS (mOf 40) (s40 v e i) tr zm :=
 atS.of (s:=s40 v e i) [] id ht hz (by kernel_rfl) ⟨xG (ltk rfl),xG (ltk rfl),xG (ltk rfl),jh _ rfl,trivial⟩ ⟨RnK.nf (zrw v),RnK.nf rfl,RnK.nf (zur e),trivial⟩
theorem j40 {v:Vw}(H:okVw v):JFn Tryz.prog 40 true [v.k] (dkS v.L v.d v.L).k:=by
 have hE:=zBS H
 have h1:=H.l1
 refine JFn.of (P:=Tryz.prog) hE rfl (c:=cOf 40) (mOf 40) Tryz.func40 (by kernel_rfl) fun B N hN=>?_
 rw[zBP] at hN
 rw[zBR]
 refine JL.stp (n:=60) (s:=(z7 (mOf 40) 0 [v.k],[],0)) hE rfl 3 (rOf 40) [1,2,3,5] [0,1,2] hN (by kernel_rfl) (by kernel_rfl) (fun v=>False) (fun v tr zm nx h1 h2 h3 h4=>h1.elim) ?_
 show zyi yD v _ _
 rw[zCX]
 refine⟨rfl,?_⟩
 intro tr zm ht hz hmb hi
 refine JL.loopT hE (fun i=>s40 v (dkS v.L v.d i) i) (fun i=>v.L - i) (fun i=>i≤v.L) (id:=0) (b:=b40) (l2:=l40.drop 4) (by kernel_rfl) (fun w=>by kernel_rfl) 0 (Nat.zero_le _) (ziq (e:=dkS v.L v.d 0) ht hz) hmb hi ?_
 intro i hi
 refine JL.all (n:=60) hE rfl (rOf 40) [1,2,3,5] [0,1,2] hN (by kernel_rfl) (by kernel_rfl) (fun v=>False) (fun v tr zm nx h1 h2 h3 h4=>h1.elim) ?_
 show zyj yD v (dkS v.L v.d i) i _ _
 rw[zCY]
 have ha:aD v (dkS v.L v.d i) i=aP (dkS v.L v.d i,i,(v.d.last i).ln,(v.d.last i).st):=rfl
 have e1:yD.δ (aD v (dkS v.L v.d i) i)=wrD (dkS v.L v.d i) (.ofNat i) (v.d.last i).ln (bSt (v.d.last i).st):=by
  rw[ha]
  show dP1 (deP _)=_
  rw[Yd]; rfl
 have e2:yD.ε (aD v (dkS v.L v.d i) i)=erW (dkS v.L v.d i) (.ofNat i) (v.d.last i).ln:=by
  rw[ha]
  show eP1 (deP _)=_
  rw[Yd]; rfl
 rw[e1,e2,ha]
 refine zg.2 ⟨fun q=>?_,fun q=>?_⟩
 ·have q:=xw.1 q
  have hb:b63 (Nat.add i 1)=true:=zH.2 (by show i + 1 < _; omega)
  refine⟨rfl,za.2 ⟨XP.2 q,zg.2 ⟨fun q2=>⟨⟨_,rfl,Ye h1 (by omega),H.ln i q⟩,zg.2 ⟨fun q3=>za.2 ⟨hb,?_⟩,fun q3=>za.2 ⟨hb,?_⟩⟩⟩,fun q2=>za.2 ⟨hb,?_⟩⟩⟩⟩
  ·intro tr zm ht hz hmb hi
   refine⟨i + 1,by omega,by omega,ziq ht ?_⟩
   rw[zaY q2 (z9.1 q3)]
   exact hz
  ·intro tr zm ht hz hmb hi
   refine⟨i + 1,by omega,by omega,ziq ht ?_⟩
   rw[QU fun h=>(bf z9).1 q3 h.2]
   exact hz
  ·intro tr zm ht hz hmb hi
   refine⟨i + 1,by omega,by omega,ziq ht ?_⟩
   rw[QU fun h=>by rw[h.1] at q2; cases q2]
   exact hz
 ·have q:¬ (i < v.L):=(bf xw).1 q
  obtain rfl:i=v.L:=by omega
  intro tr zm ht hz hmb hi
  refine zeu 0 ?_
  refine JL.preS hE (ziq (e:=dkS v.L v.d v.L) ht hz) (vp (by kernel_rfl)) ?_
  refine JL.all (n:=60) hE rfl (rOf 40) [] [] hN (by kernel_rfl) (by kernel_rfl) (fun w=>w=(dkS v.L v.d v.L).k) (fun w tr zm nx h1 h2 h3 h4=>by
   subst h1
   exact retJ.mk rfl zBQ (zuQ _) h4) ?_
  show zyk yD v (dkS v.L v.d v.L) v.L _ _
  rw[zCZ]
noncomputable def zBT:zh:=xM (fun v:Vw=>[v.k]) okVw fun v=>(dkS v.L v.d v.L).k
theorem zoK:qo Tryz.prog 40 zBT:=jC ⟨Tryz.f40,Tryz.func40,by kernel_rfl,by kernel_rfl⟩ fun v h=>j40 h
end
end Go.K
set_option maxRecDepth 100000
namespace Go.K
open Go.Ab Go.RowKit Go.Y Go.Proofs
noncomputable section
attribute [local instance 10000] gO
theorem zjt (f:Ck) (s:Nat) (v:Vr):atK (vf f s v) s=some v:=if_pos ⟨rfl,rfl⟩
theorem zju {f:Ck}{s s':Nat}{v:Vr}(h:s'≠s):atK (vf f s v) s'=atK f s':=if_neg fun q=>h (by
 have h1:s' / 64=s / 64:=q.1
 have h2:s' % 64=s % 64:=q.2
 omega)
theorem zpo {d:Dk}{i n:Nat}:erW d (.ofNat i) n=0↔i < d.L∧n≤256:=by
 unfold erW
 constructor
 ·intro h
  split at h
  ·cases h
  ·rename_i h1
   split at h
   ·cases h
   ·rename_i h2
    refine⟨?_,by omega⟩
    have:¬ ((d.L:Int)≤Int.ofNat i):=fun q=>h1 (.inr q)
    have:¬ d.L≤i:=fun q=>this (Int.ofNat_le.2 q)
    omega
 ·rintro⟨h1,h2⟩
  rw[if_neg,if_neg (by omega)]
  rintro (q | q)
  ·exact absurd q (by simp)
  ·have:d.L≤i:=Int.ofNat_le.1 q
   omega
section
variable {L:Nat}{d:Dd}
def zfV (d:Dd) (s:Nat):Prop:=(d.last s).th=true∧(d.last s).ln≤256
theorem zpp (i:Nat):i≤L→∀ s,(s < i∧zfV d s→∃ nm,atK (dkS L d i).f s=some ⟨true,(d.last s).ln,bSt (d.last s).st,nm⟩)∧(¬ (s < i∧zfV d s)→atK (dkS L d i).f s=none):=by
 induction i with
 | zero=>exact fun _ s=>⟨fun h=>absurd h.1 (Nat.not_lt_zero s),fun _=>rfl⟩
 | succ i ih =>
  intro hi s
  obtain⟨q1,q2⟩:=ih (by omega) s
  have hL:=(zaZ (L:=L) (d:=d) i).1
  by_cases hw:(d.last i).th=true∧erW (dkS L d i) (.ofNat i) (d.last i).ln=0
  ·have hw2:zfV d i:=⟨hw.1,(zpo.1 hw.2).2⟩
   rw[zaY hw.1 hw.2,ze1 hw.2]
   by_cases e:s=i
   ·subst e
    refine⟨fun _=>⟨_,zjt _ _ _⟩,fun h=>absurd ⟨Nat.lt_succ_self _,hw2⟩ h⟩
   ·refine⟨fun h=>?_,fun h=>?_⟩
    ·obtain⟨nm,hn⟩:=q1 ⟨by have:=h.1; omega,h.2⟩
     exact⟨nm,(zju (s:=i) e).trans hn⟩
    ·exact (zju (s:=i) e).trans (q2 fun k=>h ⟨by have:=k.1; omega,k.2⟩)
  ·rw[QU hw]
   have hnot:¬ zfV d i:=fun k=>hw ⟨k.1,zpo.2 ⟨by rw[hL]; omega,k.2⟩⟩
   refine⟨fun h=>q1 ⟨?_,h.2⟩,fun h=>q2 fun k=>h ⟨by have:=k.1; omega,k.2⟩⟩
   have h1:=h.1
   have:s≠i:=fun e=>hnot (by rw[←e]; exact h.2)
   omega
theorem zeE {s:Nat}(hs:s < L) (h:zfV d s):∃ nm,atK (dkS L d L).f s=some ⟨true,(d.last s).ln,bSt (d.last s).st,nm⟩:=(zpp L (Nat.le_refl L) s).1 ⟨hs,h⟩
theorem zeF {s:Nat}(h:¬ zfV d s):atK (dkS L d L).f s=none:=(zpp L (Nat.le_refl L) s).2 fun k=>h k.2
end
end
end Go.K
set_option maxRecDepth 100000
namespace Go.K
open Go.Ab Go.RowKit Go.Y Go.Proofs
noncomputable section
attribute [local instance 10000] gO
attribute [local irreducible] zo hS zY zE zt
theorem zkU (L:Nat) (d:Dd):∀ i,zfR (dkS L d i)
 | 0=>fun _ _ v h=>by cases h
 | i + 1=>by
  have ih:=zkU L d i
  by_cases h:(d.last i).th=true∧erW (dkS L d i) (.ofNat i) (d.last i).ln=0
  ·rw[zaY h.1 h.2,ze1 h.2]
   intro j k v hv
   have hv:(@ite _ _ (Classical.propDecidable _) (some (nxV _ _ _ _)) ((dkS L d i).f j k))=some v:=hv
   split at hv
   ·cases hv
    exact fun q=>qi .u8 _ q
   ·exact ih _ _ _ hv
  ·rw[QU h]; exact ih
def znP (L:Nat) (d:Dd):Prop:=∀ s,s < L→(d.last s).th=true→(d.last s).ln≤256
theorem zp5 (a:Nat):eqN a 0=Nat.beq a 0:=zo4
theorem zAJ {n st:Nat}(h:gEr n (bSr st)=0):gX n (bSr st)=ndD (bSr st)∧pX n st=ndD (bSr st):=by
 refine⟨zt4 h,if_neg ?_⟩
 rintro (q | q | q)
 ·rw[Q7 q] at h; cases h
 ·by_cases hn:n=0
  ·rw[Q7 hn] at h; cases h
  ·rw[zeS hn q] at h; cases h
 ·by_cases hn:n=0
  ·rw[Q7 hn] at h; cases h
  ·by_cases h5:5 < bSr st 0
   ·rw[zeS hn h5] at h; cases h
   ·rcases Nat.lt_or_ge n (szD (bSr st)) with q2 | q2
    ·rw[zeT hn (by omega) q2] at h; cases h
    ·rw[zeU hn (by omega) (by omega)] at h; cases h
section
variable {n L l j s:Nat}{d:Dd}{w:List Nat}
theorem zAK (H:plOk n L l j s) (hs:znP L d):jx n (dkS L d L) l j s w=Qi n d l j s w∧yJ (jf n (dkS L d L) l j s w) (jx n (dkS L d L) l j s w)=yJ (y54 n d l j s w) (Qi n d l j s w):=by
 by_cases ht:(d.last (zt n l j s)).th=true
 ·obtain⟨nm,ho⟩:=zeE (d:=d) H.sec ⟨ht,hs _ H.sec ht⟩
  have e1:jx n (dkS L d L) l j s w=yk (jf n (dkS L d L) l j s w) true (Nat.beq (gEr (d.last (zt n l j s)).ln (bSr (d.last (zt n l j s)).st)) 0):=by
   unfold jx
   rw[ho,zp5,zp5]
   rfl
  have e2:Qi n d l j s w=yk (y54 n d l j s w) true (Nat.beq (gEr (d.last (zt n l j s)).ln (bSr (d.last (zt n l j s)).st)) 0):=by
   unfold Qi pBr
   rw[ht]
  have ex:(jf n (dkS L d L) l j s w).x=gX (d.last (zt n l j s)).ln (bSr (d.last (zt n l j s)).st):=by
   show gX (lnO (atK (dkS L d L).f (zt n l j s))) (byO (atK (dkS L d L).f (zt n l j s)))=_
   rw[ho]; rfl
  by_cases hg:gEr (d.last (zt n l j s)).ln (bSr (d.last (zt n l j s)).st)=0
  ·obtain⟨k1,k2⟩:=zAJ hg
   have e3:(jf n (dkS L d L) l j s w).x=(y54 n d l j s w).x:=by
    rw[ex,k1]
    exact k2.symm
   have e4:yk (jf n (dkS L d L) l j s w) true (Nat.beq (gEr (d.last (zt n l j s)).ln (bSr (d.last (zt n l j s)).st)) 0)=yk (y54 n d l j s w) true (Nat.beq (gEr (d.last (zt n l j s)).ln (bSr (d.last (zt n l j s)).st)) 0):=by
    unfold yk
    rw[e3]
    show _=_
    have e5:(jf n (dkS L d L) l j s w).e=(y54 n d l j s w).e:=by
     show (jf n (dkS L d L) l j s w).x.nf.fe n=(y54 n d l j s w).x.nf.fe n
     rw[e3]
    have e6:(jf n (dkS L d L) l j s w).D=(y54 n d l j s w).D:=by
     show (jf n (dkS L d L) l j s w).x.nf.dg=(y54 n d l j s w).x.nf.dg
     rw[e3]
    rw[e5,e6]
    rfl
   refine⟨by rw[e1,e2,e4],?_⟩
   rw[e1,e2,e4]
   unfold yJ
   rw[e3]
  ·have f1:=e1.trans (zeL rfl (za4 hg))
   have f2:=e2.trans (zeL rfl (za4 hg))
   rw[f1,f2]
   exact⟨rfl,rfl⟩
 ·have hn:=zeF (L:=L) (d:=d) (s:=zt n l j s) fun k=>ht k.1
  have f1:jx n (dkS L d L) l j s w=1:=by
   unfold jx
   rw[hn]
   exact zeK rfl
  have f2:Qi n d l j s w=1:=by
   unfold Qi
   exact zeK (by cases h:(d.last (zt n l j s)).th with
    | true=>exact absurd h ht
    | false=>rfl)
  rw[f1,f2]
  exact⟨rfl,rfl⟩
end
end
end Go.K
