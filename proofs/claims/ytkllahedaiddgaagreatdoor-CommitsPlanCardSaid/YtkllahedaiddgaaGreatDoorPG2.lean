/- updates.valid: its run, of up to 24 blocks. No condition. -/
import Derived.Test.YtkllahedaiddgaaGreatDoorPG1a
import Derived.Test.YtkllahedaiddgaaGreatDoorPL
set_option linter.unusedSimpArgs false
set_option linter.unusedVariables false
set_option maxRecDepth 100000
namespace Go.K
open Go.Ab Go.RowKit Go.Y Go.Proofs
noncomputable section
attribute [local instance 10000] gO
noncomputable def Js (x:P5):List KV:=[.ref false zlL (ckK x.1 x.2.1 x.2.2.1 x.2.2.2.1 x.2.2.2.2)]
noncomputable def yC (x:P5):Un:=x.2.2.1 (zh x.1 x.2.2.2.1 x.2.2.2.2)
noncomputable def bsC (x:P5):Prop:=zD x.1=true∧isS x.1 x.2.2.2.1 x.2.2.2.2=true∧x.2.1=zi x.1
theorem zvW {E:KEnv}{f n l j a:Nat}{c:Nat→Un}(h:rnC E f n c l j a):zk E (zp E 100) 0 f (Js (n,zi n,c,l,j)) .e 0 0 fun r _ _ _=>r=nI a:=by
 unfold rnC at h
 rw[Z6,zA,zA] at h
 exact h
theorem zvX {E:KEnv}(hE:KOk E) (hP:E.P=Tryz.prog) {f:Nat}(hf:JB f) {pre:P5→Prop}{res:P5→Nat}(h:∀ n c l j,pre (n,zi n,c,l,j)→bsC (n,zi n,c,l,j)→rnC E f n c l j (res (n,zi n,c,l,j))):KCS Tryz.prog f (vp Js (fun x=>bsC x∧pre x) fun x=>nI (res x)) :=
 jV hf fun l K hs=>by
  obtain⟨⟨n,m,c,l,j⟩,rfl,⟨hb,hp⟩,hk⟩:=hs
  obtain rfl:m=zi n:=hb.2.2
  exact⟨E,hE,hP,100,fun r=>r=nI (res (n,zi n,c,l,j)),_,hk,rfl,fun r hr=>by rw[hr]; exact Imp.refl _,zvW (h n c l j hp hb)⟩
open Classical in
noncomputable def QP (x:P5):Nat:=if y9 x.1 x.2.2.2.1 x.2.2.2.2 (yC x) then 0 else 17
noncomputable def zh9 (x:P5):Prop:=(yC x).nd.wl∧(yC x).nd.wb
theorem zBS:KOk zy5:=zI.tab ⟨zwo,trivial⟩
theorem Xw {k a:Nat}(h:a=k):r9 k a:=by unfold r9; rw[h]
theorem zoT {n l j a:Nat}{c:Nat→Un}(hn:zD n=true) (hs:isS n l j=true) (hw:(c (zh n l j)).nd.wl) (hb:(c (zh n l j)).nd.wb) (h0:y9 n l j (c (zh n l j))→a=0) (h1:¬ y9 n l j (c (zh n l j))→a=17):zeS n c l j a:=by
 unfold zeS
 rw[zA]
 generalize c (zh n l j)=y at *
 unfold zFw
 rw[zo9 hw]
 have b1:=hb.1
 have b2:=hb.2.1
 simp only[zd,zo,xb,Bool.not_eq_true',Bool.not_eq_false',bf j1,j1,bf jp,jp]
 exact⟨by omega,fun q=>Xw (h1 fun p=>q p.1),fun q1=>⟨by omega,fun q=>Xw (h1 fun p=>q p.2.1),fun q2=>⟨⟨hn,b1,b2⟩,fun q=>Xw (h1 fun p=>q p.2.2),fun q3=>Xw (h0 ⟨q1,q2,q3⟩)⟩⟩⟩
theorem zBT:KCS Tryz.prog 213 (vp Js (fun x=>bsC x∧zh9 x) fun x=>nI (QP x)):=zvX zBS rfl ⟨Tryz.f213,Tryz.func213,by kernel_rfl,by kernel_rfl⟩ fun n c l j hp hb =>
 YG (zGR _ c _) hb.1 hb.2.1 (zoT hb.1 hb.2.1 hp.1 hp.2 (fun h=>if_pos h) fun h=>if_neg h)
noncomputable def mkP (n:Nat) (c:Nat→Un) (l j:Nat) (y:Un):Prop:=chP l y 4∧(y.di=true↔vf n c l j y (zq n l j))
open Classical in
noncomputable def Xx (x:P5):Nat:=if mkP x.1 x.2.2.1 x.2.2.2.1 x.2.2.2.2 (yC x) then 0 else 9
theorem zvY {y:Un}{w:Nat}{ih:DS→Prop}{s:DS}(hs:s.val y=true↔∃ i,i < w∧y.ch i=true) (h:∀ s':DS,(s'.val y=true↔∃ i,i < w + 1∧y.ch i=true)→ih s'):mkU y w ih s:=by
 have hV:(¬ ∃ i,i < w∧y.ch i=true)→ih (.V w):=fun hn=>h (.V w) ⟨fun q=>⟨w,by omega,q⟩,fun⟨i,hi,q⟩=>by
  by_cases e:i=w
  ·rw[←e]; exact q
  ·exact absurd ⟨i,by omega,q⟩ hn⟩
 have hT:(∃ i,i < w∧y.ch i=true)→ih .T:=fun⟨i,hi,q⟩=>h .T ⟨fun _=>⟨i,by omega,q⟩,fun _=>rfl⟩
 cases s with
 | F=>exact hV fun q=>by have:=hs.2 q; cases this
 | T=>exact hT (hs.1 rfl)
 | V i =>
  show alt (y.ch i) _ _
  simp only[zo]
  exact⟨fun q=>hT (hs.1 q),fun q=>hV fun q2=>by have q3:=hs.2 q2; rw[show (DS.V i).val y=y.ch i from rfl,q] at q3; cases q3⟩
theorem zia {y:Un}{a:Nat}(h0:(∀ i,i < 4→y.ch i=true→(y.nd.rc i).st≠0)→(y.di=true↔∃ i,i < 4∧y.ch i=true)→a=0) (h9:¬ ((∀ i,i < 4→y.ch i=true→(y.nd.rc i).st≠0)∧(y.di=true↔∃ i,i < 4∧y.ch i=true))→a=9):∀(r:Nat) (s:DS),r≤4→(s.val y=true↔∃ i,i < 4 - r∧y.ch i=true)→(∀ i,i < 4 - r→y.ch i=true→(y.nd.rc i).st≠0)→mkF y a r s
 | 0,s,_,hs,hc=>by
  show alt (!ZN y.di (s.val y)) (r9 9 a) (r9 0 a)
  have e:(y.di=true↔∃ i,i < 4∧y.ch i=true)↔y.di=s.val y:=by
   rw[←show (s.val y=true↔∃ i,i < 4∧y.ch i=true) from hs]
   cases y.di<;>cases s.val y<;>simp
  simp only[zo,Bool.not_eq_true',Bool.not_eq_false',bf Zb,Zb]
  exact⟨fun q=>Xw (h9 fun p=>q (e.1 p.2)),fun q=>Xw (h0 hc (e.2 q))⟩
 | r + 1,s,hr,hs,hc=>by
  have ew:Nat.sub 3 r=3 - r:=rfl
  show alt (y.ch (Nat.sub 3 r)) (alt (eZ (y.nd.rc (Nat.sub 3 r)).st) (r9 9 a) (mkU y (Nat.sub 3 r) (mkF y a r) s)) (mkU y (Nat.sub 3 r) (mkF y a r) s)
  rw[ew]
  have hw:4 - (r + 1)=3 - r:=by omega
  have e4:4 - r=3 - r + 1:=by clear hs hc h0 h9; omega
  rw[hw] at hs hc
  have next:(y.ch (3 - r)=true→(y.nd.rc (3 - r)).st≠0)→mkU y (3 - r) (mkF y a r) s:=fun hg=>zvY hs fun s' hs'=>zia h0 h9 r s' (by omega) (by rw[e4]; exact hs') fun i hi q=>by
   by_cases e:i=3 - r
   ·rw[e] at q ⊢; exact hg q
   ·exact hc i (by omega) q
  simp only[zo,jp,bf jp]
  exact⟨fun q=>⟨fun q2=>Xw (h9 fun p=>p.1 (3 - r) (by omega) q q2),fun q2=>next fun _=>q2⟩,fun q=>next fun q2=>by rw[q] at q2; cases q2⟩
theorem zsH {y:Un}:chZ y=true↔∀ i,i < 4→y.ch i=false:=zHP (P:=fun i=>y.ch i=false) fun i=>Zb
theorem zef {y:Un}{a:Nat}{b:Bool}(h0:(∀ i,i < 4→y.ch i=false)→y.di=b→a=0) (h9:¬ ((∀ i,i < 4→y.ch i=false)∧y.di=b)→a=9):zlM y a b:=by
 unfold zlM
 simp only[zo,Bool.not_eq_true',Bool.not_eq_false',bf zsH,zsH,bf Zb,Zb]
 exact⟨fun q=>Xw (h9 fun p=>q p.1),fun q=>⟨fun q2=>Xw (h9 fun p=>q2 p.2),fun q2=>Xw (h0 q q2)⟩⟩
theorem zib {n l j a p:Nat}{c:Nat→Un}{y:Un}(h0:(∀ i,i < 4→y.ch i=false)→(y.di=true↔∃ w,w < p∧(vQ n c l j w).di=true)→a=0) (h9:¬ ((∀ i,i < 4→y.ch i=false)∧(y.di=true↔∃ w,w < p∧(vQ n c l j w).di=true))→a=9):∀ r,r≤p→(∀ w,w < p - r→(vQ n c l j w).di=false)→mkG n c l j a y p r
 | 0,_,hc=>by
  have hno:¬ ∃ w,w < p∧(vQ n c l j w).di=true:=fun⟨w,hw,q⟩=>by rw[hc w (by omega)] at q; cases q
  refine zef (fun q1 q2=>h0 q1 ⟨fun q=>(by rw[q2] at q; cases q),fun q=>absurd q hno⟩) fun q=>h9 fun p'=>q ⟨p'.1,?_⟩
  cases hd:y.di with
  | false=>rfl
  | true=>exact absurd (p'.2.1 hd) hno
 | r + 1,hr,hc=>by
  have ew:Nat.sub p (Nat.succ r)=p - (r + 1):=rfl
  show zz (zh n l (j4 j (Nat.sub p (Nat.succ r)))) (fun k=>alt (c k).di (zlM y a true) (mkG n c l j a y p r))
  rw[zA,ew]
  show alt (vQ n c l j (p - (r + 1))).di _ _
  simp only[zo]
  refine⟨fun q=>?_,fun q=>zib h0 h9 r (by omega) fun w hw=>?_⟩
  ·have hyes:∃ w,w < p∧(vQ n c l j w).di=true:=⟨p - (r + 1),by omega,q⟩
   refine zef (fun q1 q2=>h0 q1 ⟨fun _=>hyes,fun _=>q2⟩) fun q'=>h9 fun p'=>q' ⟨p'.1,p'.2.2 hyes⟩
  ·by_cases e:w=p - (r + 1)
   ·rw[e]; exact q
   ·exact hc w (by omega)
theorem zoU {n l j a:Nat}{c:Nat→Un}(h0:mkP n c l j (c (zh n l j))→a=0) (h9:¬ mkP n c l j (c (zh n l j))→a=9):zlN n c l j a:=by
 cases l with
 | zero =>
  show zz (zh n 0 j) (fun i=>mkF (c i) a 4 .F)
  rw[zA]
  generalize c (zh n 0 j)=y at *
  have e:mkP n c 0 j y↔((∀ i,i < 4→y.ch i=true→(y.nd.rc i).st≠0)∧(y.di=true↔∃ i,i < 4∧y.ch i=true)):=by
   have ed:vf n c 0 j y (zq n 0 j)↔∃ i,i < 4∧y.ch i=true:=⟨fun h=>h.elim id fun⟨_,hk,_⟩=>(by cases hk),.inl⟩
   unfold mkP
   rw[ed]
   exact⟨fun h=>⟨fun i hi q=>(h.1 i hi q).2,h.2⟩,fun h=>⟨fun i hi q=>⟨rfl,h.1 i hi q⟩,h.2⟩⟩
  exact zia (fun q1 q2=>h0 (e.2 ⟨q1,q2⟩)) (fun q=>h9 fun p=>q (e.1 p)) 4 .F (by omega) ⟨fun q=>(by cases q),fun⟨i,hi,_⟩=>absurd hi (Nat.not_lt_zero i)⟩ fun i hi=>absurd hi (Nat.not_lt_zero i)
 | succ k =>
  show zz (zh n (Nat.succ k) j) (fun i=>mkG n c k j a (c i) (zq n (Nat.succ k) j) (zq n (Nat.succ k) j))
  rw[zA]
  generalize c (zh n (Nat.succ k) j)=y at *
  generalize hp:zq n (Nat.succ k) j=p at *
  have e:mkP n c (Nat.succ k) j y↔((∀ i,i < 4→y.ch i=false)∧(y.di=true↔∃ w,w < p∧(vQ n c k j w).di=true)):=by
   unfold mkP
   rw[hp]
   constructor
   ·rintro⟨h1,h2⟩
    have hc:∀ i,i < 4→y.ch i=false:=fun i hi=>by
     cases hq:y.ch i with
     | false=>rfl
     | true=>have:=(h1 i hi hq).1; cases this
    refine⟨hc,?_⟩
    rw[h2]
    exact⟨fun h=>h.elim (fun⟨i,hi,q⟩=>(by rw[hc i hi] at q; cases q)) fun⟨k',hk,w,hw,q⟩=>(by cases hk; exact⟨w,hw,q⟩),fun⟨w,hw,q⟩=>.inr ⟨k,rfl,w,hw,q⟩⟩
   ·rintro⟨hc,h2⟩
    refine⟨fun i hi q=>(by rw[hc i hi] at q; cases q),?_⟩
    rw[h2]
    exact⟨fun⟨w,hw,q⟩=>.inr ⟨k,rfl,w,hw,q⟩,fun h=>h.elim (fun⟨i,hi,q⟩=>(by rw[hc i hi] at q; cases q)) fun⟨k',hk,w,hw,q⟩=>(by cases hk; exact⟨w,hw,q⟩)⟩
  exact zib (fun q1 q2=>h0 (e.2 ⟨q1,q2⟩)) (fun q=>h9 fun p=>q (e.1 p)) p (Nat.le_refl p) fun w hw=>absurd hw (by omega)
theorem zvZ:KCS Tryz.prog 214 (vp Js (fun x=>bsC x∧True) fun x=>nI (Xx x)):=zvX zI rfl ⟨Tryz.f214,Tryz.func214,by kernel_rfl,by kernel_rfl⟩ fun n c l j hp hb =>
 YG (zH4 _ c _) hb.1 hb.2.1 (zoU (fun h=>if_pos h) fun h=>if_neg h)
noncomputable def zic (x:P5):Prop:=∀ k w,x.2.2.2.1=Nat.succ k→w < zq x.1 x.2.2.2.1 x.2.2.2.2→(vQ x.1 x.2.2.1 k x.2.2.2.2 w).nd.wl∧Qk (vQ x.1 x.2.2.1 k x.2.2.2.2 w)
open Classical in
noncomputable def QQ (x:P5):Nat:=if jE x.1 x.2.2.1 x.2.2.2.1 x.2.2.2.2 (yC x) (zq x.1 x.2.2.2.1 x.2.2.2.2) then 0 else 9
theorem zBU:KOk zy6:=zI.tab ⟨zIO,trivial⟩
theorem zoV {z:Un}(hw:z.nd.wl) (h:Qk z):Qk z.nf:=⟨Z5 hw h.1,h.2.1,h.2.2⟩
theorem zv0 {z:Un}(hw:z.nd.wl):z.nf.ent=z.ent:=by
 unfold Un.ent
 rw[show z.nf.nd=z.nd.nf from rfl,ztq hw,QW hw]
 rfl
theorem zBV {f:Nat→Nat}:JC f=0↔∀ i,i < 4→f i=0:=by
 have hi:∀ i a,inc f i a=0↔f i=0∧a=0:=fun i a=>by
  unfold inc
  cases h:eZ (f i) with
  | true=>exact⟨fun q=>⟨jp.1 h,q⟩,fun q=>q.2⟩
  | false=>exact⟨fun q=>(by cases q),fun q=>absurd q.1 ((bf jp).1 h)⟩
 unfold JC
 rw[hi,hi,hi,hi]
 constructor
 ·rintro⟨h3,h2,h1,h0,_⟩ i hi
  match i,hi with
  | 0,_=>exact h0
  | 1,_=>exact h1
  | 2,_=>exact h2
  | 3,_=>exact h3
 ·intro h
  exact⟨h 3 (by omega),h 2 (by omega),h 1 (by omega),h 0 (by omega),rfl⟩
theorem zoW {z:Un}(hk:z.nd.ok):wT z↔¬ z.nd.us=0:=by
 unfold Nd.us
 rw[zBV]
 unfold wT stU
 by_cases h0:z.nd.lv=0
 ·obtain⟨hz,_⟩:=hk.2.1 h0
  rw[h0]
  constructor
  ·rintro⟨i,hi,h | h⟩ q
   ·have:=q i hi; have h2:(z.nd.rc i).st=0:=this; omega
   ·have:=(hz i hi).1; omega
  ·intro q
   refine Classical.byContradiction fun hn=>q fun i hi=>?_
   show (z.nd.rc i).st=0
   refine Classical.byContradiction fun h=>hn ⟨i,hi,.inl (by omega)⟩
 ·obtain⟨hz,_⟩:=hk.2.2 h0
  obtain⟨m,hm⟩:∃ m,z.nd.lv=m + 1:=⟨z.nd.lv - 1,by omega⟩
  rw[hm]
  constructor
  ·rintro⟨i,hi,h | h⟩ q
   ·have:=(hz i hi).1; omega
   ·have:=q i hi; have h2:(z.nd.en i).st=0:=this; omega
  ·intro q
   refine Classical.byContradiction fun hn=>q fun i hi=>?_
   show (z.nd.en i).st=0
   refine Classical.byContradiction fun h=>hn ⟨i,hi,.inr (by omega)⟩
theorem zsI {f g:Nat→Nat}:∀ {n:Nat},eqB n f g=true↔∀ i,i < n→f i=g i
 | 0=>⟨fun _ i h=>absurd h (Nat.not_lt_zero i),fun _=>rfl⟩
 | n + 1=>by
  show nd (eqB n f g) (eqN (f n) (g n))=true↔_
  rw[za,zsI,j1]
  constructor
  ·rintro⟨h1,h2⟩ i hi
   by_cases h:i=n
   ·rw[h]; exact h2
   ·exact h1 i (by omega)
  ·intro h
   exact⟨fun i hi=>h i (by omega),h n (by omega)⟩
theorem zid {e:En}:e.eqb ⟨0,[]⟩=true↔e.zb=true:=by
 rw[En.zb_t]
 unfold En.eqb En.zero
 simp only[za,j1,zsI,and_true]
 exact Iff.rfl
theorem zie {e:En}{z:Un}(hk:z.nd.ok):Qi e z↔e.eqb z.ent=true:=by
 have hu:=zoW hk
 unfold Qi Un.ent
 cases h:eZ z.nd.us with
 | true =>
  have hn:¬ wT z:=fun q=>hu.1 q (jp.1 h)
  show _↔e.eqb ⟨0,[]⟩=true
  rw[zid]
  exact⟨fun q=>q.2 hn,fun q=>⟨fun q2=>absurd q2 hn,fun _=>q⟩⟩
 | false =>
  have hy:wT z:=hu.2 ((bf jp).1 h)
  exact⟨fun q=>q.1 hy,fun q=>⟨fun _=>q,fun q2=>absurd hy q2⟩⟩
theorem zif {n l j a p:Nat}{c:Nat→Un}{y:Un}(hk:∀ w,w < p→(vQ n c l j w).nd.wl∧Qk (vQ n c l j w)) (h0:(∀ w,w < p→Qi (y.nd.en w) (vQ n c l j w))→a=0) (h9:¬ (∀ w,w < p→Qi (y.nd.en w) (vQ n c l j w))→a=9):∀ r,r≤p→(∀ w,w < p - r→Qi (y.nd.en w) (vQ n c l j w))→enG n c l j a y p r
 | 0,_,hc=>Xw (h0 hc)
 | r + 1,hr,hc=>by
  have ew:Nat.sub p (Nat.succ r)=p - (r + 1):=rfl
  show zz (zh n l (j4 j (Nat.sub p (Nat.succ r)))) (fun k=>Qk (c k).nf∧alt (!(y.nd.en (Nat.sub p (Nat.succ r))).eqb (c k).nf.ent) (r9 9 a) (enG n c l j a y p r))
  rw[zA,ew]
  have hwp:p - (r + 1) < p:=by omega
  obtain⟨k1,k2⟩:=hk _ hwp
  have k1':(c (zh n l (j4 j (p - (r + 1))))).nd.wl:=k1
  refine⟨zoV k1' k2,?_⟩
  rw[zv0 k1']
  have he:Qi (y.nd.en (p - (r + 1))) (vQ n c l j (p - (r + 1)))↔(y.nd.en (p - (r + 1))).eqb (vQ n c l j (p - (r + 1))).ent=true:=zie k2.1
  simp only[zo,Bool.not_eq_true',Bool.not_eq_false']
  refine⟨fun q=>Xw (h9 fun h=>?_),fun q=>zif hk h0 h9 r (by omega) fun w hw=>?_⟩
  ·have:=he.1 (h _ hwp)
   rw[show (vQ n c l j (p - (r + 1)))=c (zh n l (j4 j (p - (r + 1)))) from rfl,q] at this
   cases this
  ·by_cases e:w=p - (r + 1)
   ·rw[e]; exact he.2 q
   ·exact hc w (by omega)
theorem zoX {n l j a:Nat}{c:Nat→Un}(hk:∀ k w,l=Nat.succ k→w < zq n l j→(vQ n c k j w).nd.wl∧Qk (vQ n c k j w)) (h0:jE n c l j (c (zh n l j)) (zq n l j)→a=0) (h9:¬ jE n c l j (c (zh n l j)) (zq n l j)→a=9):zlO n c l j a:=by
 cases l with
 | zero=>exact Xw (h0 fun k hk=>by cases hk)
 | succ k =>
  show zz (zh n (Nat.succ k) j) (fun i=>enG n c k j a (c i) (zq n (Nat.succ k) j) (zq n (Nat.succ k) j))
  rw[zA]
  have e:jE n c (Nat.succ k) j (c (zh n (Nat.succ k) j)) (zq n (Nat.succ k) j)↔∀ w,w < zq n (Nat.succ k) j→Qi ((c (zh n (Nat.succ k) j)).nd.en w) (vQ n c k j w):=⟨fun h w hw=>h k rfl w hw,fun h k' hk' w hw=>by cases hk'; exact h w hw⟩
  exact zif (fun w hw=>hk k w rfl hw) (fun q=>h0 (e.2 q)) (fun q=>h9 fun p=>q (e.1 p)) _ (Nat.le_refl _) fun w hw=>(by rw[Nat.sub_self] at hw; exact absurd hw (Nat.not_lt_zero w))
theorem zBW:KCS Tryz.prog 215 (vp Js (fun x=>bsC x∧zic x) fun x=>nI (QQ x)):=zvX zBU rfl ⟨Tryz.f215,Tryz.func215,by kernel_rfl,by kernel_rfl⟩ fun n c l j hp hb =>
 YG (zJb _ c _) hb.1 hb.2.1 (zoX hp (fun h=>if_pos h) fun h=>if_neg h)
noncomputable def zfx (z:Int):Bool:=nd (!zrF z) (!zzF z)
noncomputable def zBn:zf:=fun l K=>la1 l fun v=>zyj v fun z=>K (.bool (zfx z.sl))
noncomputable def zBo (z:Un) (K:KV→Prop):Prop:=zk EO0 (zp EO0 60) 0 211 [z.k] .e 0 0 fun r _ _ _=>K r
theorem zG1 (z:Un) (K:KV→Prop):zBo z K=alt (!zrF z.sl) (K (.bool (!zzF z.sl))) (K (.bool false)):=by kernel_rfl
theorem zG2:KCS Tryz.prog 211 zBn:=XV zI rfl ⟨Tryz.f211,Tryz.func211,by kernel_rfl,by kernel_rfl⟩ 60 (fun v f h=>zla h) (fun z=>rfl) fun z w=>by
 show zBo z (Is _)
 rw[zG1]
 unfold zfx
 cases zrF z.sl with
 | true=>exact Is.rfl' _
 | false=>exact Is.rfl' _
noncomputable def zBp:zf:=vp Js (fun x=>bsC x∧zh9 x) fun x=>nI (QP x)
noncomputable def zvD:zf:=vp Js (fun x=>bsC x∧True) fun x=>nI (Xx x)
noncomputable def zBq:zf:=vp Js (fun x=>bsC x∧zic x) fun x=>nI (QQ x)
noncomputable def zoK:KEnv:=EO0.tab [(208,zBg),(211,zBn),(213,zBp),(214,zvD),(215,zBq)]
theorem zBr:KOk zoK:=zI.tab ⟨zGX,zG2,zBT,zvZ,zBW,trivial⟩
noncomputable def zoL (lay:KV) (e:Nat):KV:=.tup (.cons lay (.cons (nI e) .nl))
noncomputable def rV (lay:KV) (a e:Nat):Prop:=tK (nd (kvb (nI e) (nI a)) true)
noncomputable def zfy (n l:Nat):List (Nat×Nat):=@Nat.rec (fun _=>Nat→List (Nat×Nat)) (fun _=>[]) (fun _ ih i=>(l,i)::ih (Nat.succ i)) (zx n l) 0
noncomputable def apP (l m:List (Nat×Nat)):List (Nat×Nat):=@List.rec (Nat×Nat) (fun _=>List (Nat×Nat)) m (fun x _ ih=>x::ih) l
noncomputable def plL (n:Nat):List (Nat×Nat):=apP (zfy n 0) (apP (zfy n 1) (zfy n 2))
noncomputable def stV (lay:KV) (n m:Nat) (c:Nat→Un) (a l j:Nat) (q:Prop):Prop :=
 ∃ x:P5,[KV.ref false zlL (ckL lay n m c l (zh n l j))]=Js x∧(bsC x∧zh9 x)∧alt (!eZ (QP x)) (rV lay a (QP x))
  (∃ x:P5,[KV.ref false zlL (ckL lay n m c l (zh n l j))]=Js x∧(bsC x∧True)∧alt (!eZ (Xx x)) (rV lay a (Xx x))
   (∃ x:P5,[KV.ref false zlL (ckL lay n m c l (zh n l j))]=Js x∧(bsC x∧zic x)∧alt (!eZ (QQ x)) (rV lay a (QQ x)) q))
noncomputable def chV (lay:KV) (n m:Nat) (c:Nat→Un) (a:Nat) (l:List (Nat×Nat)):Prop:=@List.rec (Nat×Nat) (fun _=>Prop) (rV lay a 0) (fun p _ ih=>@Prod.rec Nat Nat (fun _=>Prop) (fun l j=>stV lay n m c a l j ih) p) l
noncomputable def slV (lay:KV) (a m:Nat) (c:Nat→Un) (q:Prop) (r:Nat):Prop:=@Nat.rec (fun _=>Prop) q (fun r ih=>alt (zfx (c (Nat.sub m (Nat.succ r))).sl) (rV lay a 1) ih) r
noncomputable def QN (n:Nat) (c:Nat→Un) (a:Nat):Prop:=zcM n fun lay=>zz (zi n) fun m=>zD n=true∧slV lay a m c (chV lay n m c a (plL n)) m
noncomputable def zea (n:Nat) (c:Nat→Un) (a:Nat):Prop:=zcM n fun lay=>zz (zi n) fun m=>zk zoK (zp zoK 200) 0 161 [trK n m c] .e 0 0 fun r zm _ _=>tK (fzG true zm 30 r (zoL lay a))
noncomputable def jY (S:Nat→Prop) (base:Nat) (c:Nat→Un) (a:Nat) (b:Bool):Prop:=xT (fun i=>zz (Nat.succ (Nat.add base i)) fun n=>S n→@Bool.rec (fun _=>Prop) (QN n c a) (zea n c a) b) 6
theorem yl {base n a:Nat}{c:Nat→Un}(h:jY (fun n'=>n'=n) base c a true=jY (fun n'=>n'=n) base c a false) (h1:base < n) (h2:n≤base + 6) (hf:QN n c a):zea n c a:=by
 have hF:jY (fun n'=>n'=n) base c a false:=Zg fun i _=>by
  rw[zA]
  intro e
  show QN _ c a
  rw[e]; exact hf
 have:=zQ (Eq.mpr h hF) (n - base - 1) (by omega)
 rw[zA] at this
 have e:Nat.succ (Nat.add base (n - base - 1))=n:=by
  show base + (n - base - 1) + 1=n
  omega
 have h3:=this e
 rw[e] at h3
 exact h3
end
end Go.K
