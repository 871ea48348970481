/- updates.valid: its run, of up to 24 blocks. No condition. -/
import Derived.Test.YtkllahedaiddgaaGreatDoorPG1a
import Derived.Test.YtkllahedaiddgaaGreatDoorPL
set_option linter.unusedSimpArgs false
set_option linter.unusedVariables false
set_option maxRecDepth 100000
namespace Go.K
open Go.Ab Go.RowKit Go.Y Go.Proofs
noncomputable section
attribute [local instance 10000] gO
noncomputable def JK (x:P5):List KV:=[.ref false znS (ckK x.1 x.2.1 x.2.2.1 x.2.2.2.1 x.2.2.2.2)]
noncomputable def yC (x:P5):Un:=x.2.2.1 (zi x.1 x.2.2.2.1 x.2.2.2.2)
noncomputable def bsC (x:P5):Prop:=zT x.1=true∧isS x.1 x.2.2.2.1 x.2.2.2.2=true∧x.2.1=zq x.1
theorem zvm {E:KEnv}{f n l j a:Nat}{c:Nat→Un}(h:rnC E f n c l j a):zn E (zu E 100) 0 f (JK (n,zq n,c,l,j)) .e 0 0 fun r _ _ _=>r=nI a:=by
 unfold rnC at h
 rw[Xg,zy,zy] at h
 exact h
theorem zvn {E:KEnv}(hE:KOk E) (hP:E.P=Tryz.prog) {f:Nat}(hf:JU f) {pre:P5→Prop}{res:P5→Nat}(h:∀ n c l j,pre (n,zq n,c,l,j)→bsC (n,zq n,c,l,j)→rnC E f n c l j (res (n,zq n,c,l,j))):KCS Tryz.prog f (v3 JK (fun x=>bsC x∧pre x) fun x=>nI (res x)) :=
 ZV hf fun l K hs=>by
  obtain⟨⟨n,m,c,l,j⟩,rfl,⟨hb,hp⟩,hk⟩:=hs
  obtain rfl:m=zq n:=hb.2.2
  exact⟨E,hE,hP,100,fun r=>r=nI (res (n,zq n,c,l,j)),_,hk,rfl,fun r hr=>by rw[hr]; exact Imp.refl _,zvm (h n c l j hp hb)⟩
open Classical in
noncomputable def Wo (x:P5):Nat:=if yd x.1 x.2.2.2.1 x.2.2.2.2 (yC x) then 0 else 17
noncomputable def ziF (x:P5):Prop:=(yC x).nd.wl∧(yC x).nd.wb
theorem zAt:KOk zx4:=xA.tab ⟨zv7,trivial⟩
theorem XL {k a:Nat}(h:a=k):r9 k a:=by unfold r9; rw[h]
theorem zpP {n l j a:Nat}{c:Nat→Un}(hn:zT n=true) (hs:isS n l j=true) (hw:(c (zi n l j)).nd.wl) (hb:(c (zi n l j)).nd.wb) (h0:yd n l j (c (zi n l j))→a=0) (h1:¬ yd n l j (c (zi n l j))→a=17):ze0 n c l j a:=by
 unfold ze0
 rw[zy]
 generalize c (zi n l j)=y at *
 unfold zC7
 rw[zeG hw]
 have b1:=hb.1
 have b2:=hb.2.1
 simp only[ze,zo,xB,Bool.not_eq_true',Bool.not_eq_false',bf jI,jI,bf vV,vV]
 exact⟨by omega,fun q=>XL (h1 fun p=>q p.1),fun q1=>⟨by omega,fun q=>XL (h1 fun p=>q p.2.1),fun q2=>⟨⟨hn,b1,b2⟩,fun q=>XL (h1 fun p=>q p.2.2),fun q3=>XL (h0 ⟨q1,q2,q3⟩)⟩⟩⟩
theorem zAu:KCS Tryz.prog 213 (v3 JK (fun x=>bsC x∧ziF x) fun x=>nI (Wo x)):=zvn zAt rfl ⟨Tryz.f213,Tryz.func213,by kernel_rfl,by kernel_rfl⟩ fun n c l j hp hb =>
 YZ (zEf _ c _) hb.1 hb.2.1 (zpP hb.1 hb.2.1 hp.1 hp.2 (fun h=>if_pos h) fun h=>if_neg h)
noncomputable def mkP (n:Nat) (c:Nat→Un) (l j:Nat) (y:Un):Prop:=chP l y 4∧(y.di=true↔vA n c l j y (zw n l j))
open Classical in
noncomputable def XM (x:P5):Nat:=if mkP x.1 x.2.2.1 x.2.2.2.1 x.2.2.2.2 (yC x) then 0 else 9
theorem zvo {y:Un}{w:Nat}{ih:DS→Prop}{s:DS}(hs:s.val y=true↔∃ i,i < w∧y.ch i=true) (h:∀ s':DS,(s'.val y=true↔∃ i,i < w + 1∧y.ch i=true)→ih s'):mkU y w ih s:=by
 have hV:(¬ ∃ i,i < w∧y.ch i=true)→ih (.V w):=fun hn=>h (.V w) ⟨fun q=>⟨w,by omega,q⟩,fun⟨i,hi,q⟩=>by
  by_cases e:i=w
  ·rw[←e]; exact q
  ·exact absurd ⟨i,by omega,q⟩ hn⟩
 have hT:(∃ i,i < w∧y.ch i=true)→ih .T:=fun⟨i,hi,q⟩=>h .T ⟨fun _=>⟨i,by omega,q⟩,fun _=>rfl⟩
 cases s with
 | F=>exact hV fun q=>by have:=hs.2 q; cases this
 | T=>exact hT (hs.1 rfl)
 | V i =>
  show alt (y.ch i) _ _
  simp only[zo]
  exact⟨fun q=>hT (hs.1 q),fun q=>hV fun q2=>by have q3:=hs.2 q2; rw[show (DS.V i).val y=y.ch i from rfl,q] at q3; cases q3⟩
theorem ziG {y:Un}{a:Nat}(h0:(∀ i,i < 4→y.ch i=true→(y.nd.rc i).st≠0)→(y.di=true↔∃ i,i < 4∧y.ch i=true)→a=0) (h9:¬ ((∀ i,i < 4→y.ch i=true→(y.nd.rc i).st≠0)∧(y.di=true↔∃ i,i < 4∧y.ch i=true))→a=9):∀(r:Nat) (s:DS),r≤4→(s.val y=true↔∃ i,i < 4 - r∧y.ch i=true)→(∀ i,i < 4 - r→y.ch i=true→(y.nd.rc i).st≠0)→mkF y a r s
 | 0,s,_,hs,hc=>by
  show alt (!ZU y.di (s.val y)) (r9 9 a) (r9 0 a)
  have e:(y.di=true↔∃ i,i < 4∧y.ch i=true)↔y.di=s.val y:=by
   rw[←show (s.val y=true↔∃ i,i < 4∧y.ch i=true) from hs]
   cases y.di<;>cases s.val y<;>simp
  simp only[zo,Bool.not_eq_true',Bool.not_eq_false',bf Zl,Zl]
  exact⟨fun q=>XL (h9 fun p=>q (e.1 p.2)),fun q=>XL (h0 hc (e.2 q))⟩
 | r + 1,s,hr,hs,hc=>by
  have ew:Nat.sub 3 r=3 - r:=rfl
  show alt (y.ch (Nat.sub 3 r)) (alt (eZ (y.nd.rc (Nat.sub 3 r)).st) (r9 9 a) (mkU y (Nat.sub 3 r) (mkF y a r) s)) (mkU y (Nat.sub 3 r) (mkF y a r) s)
  rw[ew]
  have hw:4 - (r + 1)=3 - r:=by omega
  have e4:4 - r=3 - r + 1:=by clear hs hc h0 h9; omega
  rw[hw] at hs hc
  have next:(y.ch (3 - r)=true→(y.nd.rc (3 - r)).st≠0)→mkU y (3 - r) (mkF y a r) s:=fun hg=>zvo hs fun s' hs'=>ziG h0 h9 r s' (by omega) (by rw[e4]; exact hs') fun i hi q=>by
   by_cases e:i=3 - r
   ·rw[e] at q ⊢; exact hg q
   ·exact hc i (by omega) q
  simp only[zo,vV,bf vV]
  exact⟨fun q=>⟨fun q2=>XL (h9 fun p=>p.1 (3 - r) (by omega) q q2),fun q2=>next fun _=>q2⟩,fun q=>next fun q2=>by rw[q] at q2; cases q2⟩
theorem zsM {y:Un}:chZ y=true↔∀ i,i < 4→y.ch i=false:=zEU (P:=fun i=>y.ch i=false) fun i=>Zl
theorem zey {y:Un}{a:Nat}{b:Bool}(h0:(∀ i,i < 4→y.ch i=false)→y.di=b→a=0) (h9:¬ ((∀ i,i < 4→y.ch i=false)∧y.di=b)→a=9):znT y a b:=by
 unfold znT
 simp only[zo,Bool.not_eq_true',Bool.not_eq_false',bf zsM,zsM,bf Zl,Zl]
 exact⟨fun q=>XL (h9 fun p=>q p.1),fun q=>⟨fun q2=>XL (h9 fun p=>q2 p.2),fun q2=>XL (h0 q q2)⟩⟩
theorem ziH {n l j a p:Nat}{c:Nat→Un}{y:Un}(h0:(∀ i,i < 4→y.ch i=false)→(y.di=true↔∃ w,w < p∧(vP n c l j w).di=true)→a=0) (h9:¬ ((∀ i,i < 4→y.ch i=false)∧(y.di=true↔∃ w,w < p∧(vP n c l j w).di=true))→a=9):∀ r,r≤p→(∀ w,w < p - r→(vP n c l j w).di=false)→mkG n c l j a y p r
 | 0,_,hc=>by
  have hno:¬ ∃ w,w < p∧(vP n c l j w).di=true:=fun⟨w,hw,q⟩=>by rw[hc w (by omega)] at q; cases q
  refine zey (fun q1 q2=>h0 q1 ⟨fun q=>(by rw[q2] at q; cases q),fun q=>absurd q hno⟩) fun q=>h9 fun p'=>q ⟨p'.1,?_⟩
  cases hd:y.di with
  | false=>rfl
  | true=>exact absurd (p'.2.1 hd) hno
 | r + 1,hr,hc=>by
  have ew:Nat.sub p (Nat.succ r)=p - (r + 1):=rfl
  show zx (zi n l (j4 j (Nat.sub p (Nat.succ r)))) (fun k=>alt (c k).di (znT y a true) (mkG n c l j a y p r))
  rw[zy,ew]
  show alt (vP n c l j (p - (r + 1))).di _ _
  simp only[zo]
  refine⟨fun q=>?_,fun q=>ziH h0 h9 r (by omega) fun w hw=>?_⟩
  ·have hyes:∃ w,w < p∧(vP n c l j w).di=true:=⟨p - (r + 1),by omega,q⟩
   refine zey (fun q1 q2=>h0 q1 ⟨fun _=>hyes,fun _=>q2⟩) fun q'=>h9 fun p'=>q' ⟨p'.1,p'.2.2 hyes⟩
  ·by_cases e:w=p - (r + 1)
   ·rw[e]; exact q
   ·exact hc w (by omega)
theorem zpQ {n l j a:Nat}{c:Nat→Un}(h0:mkP n c l j (c (zi n l j))→a=0) (h9:¬ mkP n c l j (c (zi n l j))→a=9):znU n c l j a:=by
 cases l with
 | zero =>
  show zx (zi n 0 j) (fun i=>mkF (c i) a 4 .F)
  rw[zy]
  generalize c (zi n 0 j)=y at *
  have e:mkP n c 0 j y↔((∀ i,i < 4→y.ch i=true→(y.nd.rc i).st≠0)∧(y.di=true↔∃ i,i < 4∧y.ch i=true)):=by
   have ed:vA n c 0 j y (zw n 0 j)↔∃ i,i < 4∧y.ch i=true:=⟨fun h=>h.elim id fun⟨_,hk,_⟩=>(by cases hk),.inl⟩
   unfold mkP
   rw[ed]
   exact⟨fun h=>⟨fun i hi q=>(h.1 i hi q).2,h.2⟩,fun h=>⟨fun i hi q=>⟨rfl,h.1 i hi q⟩,h.2⟩⟩
  exact ziG (fun q1 q2=>h0 (e.2 ⟨q1,q2⟩)) (fun q=>h9 fun p=>q (e.1 p)) 4 .F (by omega) ⟨fun q=>(by cases q),fun⟨i,hi,_⟩=>absurd hi (Nat.not_lt_zero i)⟩ fun i hi=>absurd hi (Nat.not_lt_zero i)
 | succ k =>
  show zx (zi n (Nat.succ k) j) (fun i=>mkG n c k j a (c i) (zw n (Nat.succ k) j) (zw n (Nat.succ k) j))
  rw[zy]
  generalize c (zi n (Nat.succ k) j)=y at *
  generalize hp:zw n (Nat.succ k) j=p at *
  have e:mkP n c (Nat.succ k) j y↔((∀ i,i < 4→y.ch i=false)∧(y.di=true↔∃ w,w < p∧(vP n c k j w).di=true)):=by
   unfold mkP
   rw[hp]
   constructor
   ·rintro⟨h1,h2⟩
    have hc:∀ i,i < 4→y.ch i=false:=fun i hi=>by
     cases hq:y.ch i with
     | false=>rfl
     | true=>have:=(h1 i hi hq).1; cases this
    refine⟨hc,?_⟩
    rw[h2]
    exact⟨fun h=>h.elim (fun⟨i,hi,q⟩=>(by rw[hc i hi] at q; cases q)) fun⟨k',hk,w,hw,q⟩=>(by cases hk; exact⟨w,hw,q⟩),fun⟨w,hw,q⟩=>.inr ⟨k,rfl,w,hw,q⟩⟩
   ·rintro⟨hc,h2⟩
    refine⟨fun i hi q=>(by rw[hc i hi] at q; cases q),?_⟩
    rw[h2]
    exact⟨fun⟨w,hw,q⟩=>.inr ⟨k,rfl,w,hw,q⟩,fun h=>h.elim (fun⟨i,hi,q⟩=>(by rw[hc i hi] at q; cases q)) fun⟨k',hk,w,hw,q⟩=>(by cases hk; exact⟨w,hw,q⟩)⟩
  exact ziH (fun q1 q2=>h0 (e.2 ⟨q1,q2⟩)) (fun q=>h9 fun p=>q (e.1 p)) p (Nat.le_refl p) fun w hw=>absurd hw (by omega)
theorem zvp:KCS Tryz.prog 214 (v3 JK (fun x=>bsC x∧True) fun x=>nI (XM x)):=zvn xA rfl ⟨Tryz.f214,Tryz.func214,by kernel_rfl,by kernel_rfl⟩ fun n c l j hp hb =>
 YZ (zE9 _ c _) hb.1 hb.2.1 (zpQ (fun h=>if_pos h) fun h=>if_neg h)
noncomputable def ziI (x:P5):Prop:=∀ k w,x.2.2.2.1=Nat.succ k→w < zw x.1 x.2.2.2.1 x.2.2.2.2→(vP x.1 x.2.2.1 k x.2.2.2.2 w).nd.wl∧QH (vP x.1 x.2.2.1 k x.2.2.2.2 w)
open Classical in
noncomputable def Wp (x:P5):Nat:=if jH x.1 x.2.2.1 x.2.2.2.1 x.2.2.2.2 (yC x) (zw x.1 x.2.2.2.1 x.2.2.2.2) then 0 else 9
theorem zAv:KOk zx5:=xA.tab ⟨zFH,trivial⟩
theorem zpR {z:Un}(hw:z.nd.wl) (h:QH z):QH z.nf:=⟨zbv hw h.1,h.2.1,h.2.2⟩
theorem zvq {z:Un}(hw:z.nd.wl):z.nf.ent=z.ent:=by
 unfold Un.ent
 rw[show z.nf.nd=z.nd.nf from rfl,ztn hw,zeF hw]
 rfl
theorem zAw {f:Nat→Nat}:JV f=0↔∀ i,i < 4→f i=0:=by
 have hi:∀ i a,inc f i a=0↔f i=0∧a=0:=fun i a=>by
  unfold inc
  cases h:eZ (f i) with
  | true=>exact⟨fun q=>⟨vV.1 h,q⟩,fun q=>q.2⟩
  | false=>exact⟨fun q=>(by cases q),fun q=>absurd q.1 ((bf vV).1 h)⟩
 unfold JV
 rw[hi,hi,hi,hi]
 constructor
 ·rintro⟨h3,h2,h1,h0,_⟩ i hi
  match i,hi with
  | 0,_=>exact h0
  | 1,_=>exact h1
  | 2,_=>exact h2
  | 3,_=>exact h3
 ·intro h
  exact⟨h 3 (by omega),h 2 (by omega),h 1 (by omega),h 0 (by omega),rfl⟩
theorem zpS {z:Un}(hk:z.nd.ok):Z8 z↔¬ z.nd.us=0:=by
 unfold Nd.us
 rw[zAw]
 unfold Z8 stU
 by_cases h0:z.nd.lv=0
 ·obtain⟨hz,_⟩:=hk.2.1 h0
  rw[h0]
  constructor
  ·rintro⟨i,hi,h | h⟩ q
   ·have:=q i hi; have h2:(z.nd.rc i).st=0:=this; omega
   ·have:=(hz i hi).1; omega
  ·intro q
   refine Classical.byContradiction fun hn=>q fun i hi=>?_
   show (z.nd.rc i).st=0
   refine Classical.byContradiction fun h=>hn ⟨i,hi,.inl (by omega)⟩
 ·obtain⟨hz,_⟩:=hk.2.2 h0
  obtain⟨m,hm⟩:∃ m,z.nd.lv=m + 1:=⟨z.nd.lv - 1,by omega⟩
  rw[hm]
  constructor
  ·rintro⟨i,hi,h | h⟩ q
   ·have:=(hz i hi).1; omega
   ·have:=q i hi; have h2:(z.nd.en i).st=0:=this; omega
  ·intro q
   refine Classical.byContradiction fun hn=>q fun i hi=>?_
   show (z.nd.en i).st=0
   refine Classical.byContradiction fun h=>hn ⟨i,hi,.inr (by omega)⟩
theorem zsN {f g:Nat→Nat}:∀ {n:Nat},eqB n f g=true↔∀ i,i < n→f i=g i
 | 0=>⟨fun _ i h=>absurd h (Nat.not_lt_zero i),fun _=>rfl⟩
 | n + 1=>by
  show nd (eqB n f g) (eqN (f n) (g n))=true↔_
  rw[za,zsN,jI]
  constructor
  ·rintro⟨h1,h2⟩ i hi
   by_cases h:i=n
   ·rw[h]; exact h2
   ·exact h1 i (by omega)
  ·intro h
   exact⟨fun i hi=>h i (by omega),h n (by omega)⟩
theorem ziJ {e:En}:e.eqb ⟨0,[]⟩=true↔e.zb=true:=by
 rw[En.zb_t]
 unfold En.eqb En.zero
 simp only[za,jI,zsN,and_true]
 exact Iff.rfl
theorem ziK {e:En}{z:Un}(hk:z.nd.ok):QE e z↔e.eqb z.ent=true:=by
 have hu:=zpS hk
 unfold QE Un.ent
 cases h:eZ z.nd.us with
 | true =>
  have hn:¬ Z8 z:=fun q=>hu.1 q (vV.1 h)
  show _↔e.eqb ⟨0,[]⟩=true
  rw[ziJ]
  exact⟨fun q=>q.2 hn,fun q=>⟨fun q2=>absurd q2 hn,fun _=>q⟩⟩
 | false =>
  have hy:Z8 z:=hu.2 ((bf vV).1 h)
  exact⟨fun q=>q.1 hy,fun q=>⟨fun _=>q,fun q2=>absurd hy q2⟩⟩
theorem ziL {n l j a p:Nat}{c:Nat→Un}{y:Un}(hk:∀ w,w < p→(vP n c l j w).nd.wl∧QH (vP n c l j w)) (h0:(∀ w,w < p→QE (y.nd.en w) (vP n c l j w))→a=0) (h9:¬ (∀ w,w < p→QE (y.nd.en w) (vP n c l j w))→a=9):∀ r,r≤p→(∀ w,w < p - r→QE (y.nd.en w) (vP n c l j w))→enG n c l j a y p r
 | 0,_,hc=>XL (h0 hc)
 | r + 1,hr,hc=>by
  have ew:Nat.sub p (Nat.succ r)=p - (r + 1):=rfl
  show zx (zi n l (j4 j (Nat.sub p (Nat.succ r)))) (fun k=>QH (c k).nf∧alt (!(y.nd.en (Nat.sub p (Nat.succ r))).eqb (c k).nf.ent) (r9 9 a) (enG n c l j a y p r))
  rw[zy,ew]
  have hwp:p - (r + 1) < p:=by omega
  obtain⟨k1,k2⟩:=hk _ hwp
  have k1':(c (zi n l (j4 j (p - (r + 1))))).nd.wl:=k1
  refine⟨zpR k1' k2,?_⟩
  rw[zvq k1']
  have he:QE (y.nd.en (p - (r + 1))) (vP n c l j (p - (r + 1)))↔(y.nd.en (p - (r + 1))).eqb (vP n c l j (p - (r + 1))).ent=true:=ziK k2.1
  simp only[zo,Bool.not_eq_true',Bool.not_eq_false']
  refine⟨fun q=>XL (h9 fun h=>?_),fun q=>ziL hk h0 h9 r (by omega) fun w hw=>?_⟩
  ·have:=he.1 (h _ hwp)
   rw[show (vP n c l j (p - (r + 1)))=c (zi n l (j4 j (p - (r + 1)))) from rfl,q] at this
   cases this
  ·by_cases e:w=p - (r + 1)
   ·rw[e]; exact he.2 q
   ·exact hc w (by omega)
theorem zpT {n l j a:Nat}{c:Nat→Un}(hk:∀ k w,l=Nat.succ k→w < zw n l j→(vP n c k j w).nd.wl∧QH (vP n c k j w)) (h0:jH n c l j (c (zi n l j)) (zw n l j)→a=0) (h9:¬ jH n c l j (c (zi n l j)) (zw n l j)→a=9):znV n c l j a:=by
 cases l with
 | zero=>exact XL (h0 fun k hk=>by cases hk)
 | succ k =>
  show zx (zi n (Nat.succ k) j) (fun i=>enG n c k j a (c i) (zw n (Nat.succ k) j) (zw n (Nat.succ k) j))
  rw[zy]
  have e:jH n c (Nat.succ k) j (c (zi n (Nat.succ k) j)) (zw n (Nat.succ k) j)↔∀ w,w < zw n (Nat.succ k) j→QE ((c (zi n (Nat.succ k) j)).nd.en w) (vP n c k j w):=⟨fun h w hw=>h k rfl w hw,fun h k' hk' w hw=>by cases hk'; exact h w hw⟩
  exact ziL (fun w hw=>hk k w rfl hw) (fun q=>h0 (e.2 q)) (fun q=>h9 fun p=>q (e.1 p)) _ (Nat.le_refl _) fun w hw=>(by rw[Nat.sub_self] at hw; exact absurd hw (Nat.not_lt_zero w))
theorem zAx:KCS Tryz.prog 215 (v3 JK (fun x=>bsC x∧ziI x) fun x=>nI (Wp x)):=zvn zAv rfl ⟨Tryz.f215,Tryz.func215,by kernel_rfl,by kernel_rfl⟩ fun n c l j hp hb =>
 YZ (zFR _ c _) hb.1 hb.2.1 (zpT hp (fun h=>if_pos h) fun h=>if_neg h)
noncomputable def zfK (z:Int):Bool:=nd (!zdp z) (!zgf z)
noncomputable def zAh:zg:=fun l K=>la1 l fun v=>zxp v fun z=>K (.bool (zfK z.sl))
noncomputable def zAi (z:Un) (K:KV→Prop):Prop:=zn EO0 (zu EO0 60) 0 211 [z.k] .e 0 0 fun r _ _ _=>K r
theorem zEk (z:Un) (K:KV→Prop):zAi z K=alt (!zdp z.sl) (K (.bool (!zgf z.sl))) (K (.bool false)):=by kernel_rfl
theorem zEl:KCS Tryz.prog 211 zAh:=Va xA rfl ⟨Tryz.f211,Tryz.func211,by kernel_rfl,by kernel_rfl⟩ 60 (fun v f h=>zlC h) (fun z=>rfl) fun z w=>by
 show zAi z (Is _)
 rw[zEk]
 unfold zfK
 cases zdp z.sl with
 | true=>exact Is.rfl' _
 | false=>exact Is.rfl' _
noncomputable def zAj:zg:=v3 JK (fun x=>bsC x∧ziF x) fun x=>nI (Wo x)
noncomputable def zu9:zg:=v3 JK (fun x=>bsC x∧True) fun x=>nI (XM x)
noncomputable def zAk:zg:=v3 JK (fun x=>bsC x∧ziI x) fun x=>nI (Wp x)
noncomputable def zpF:KEnv:=EO0.tab [(208,zAb),(211,zAh),(213,zAj),(214,zu9),(215,zAk)]
theorem zAl:KOk zpF:=xA.tab ⟨zEi,zEl,zAu,zvp,zAx,trivial⟩
noncomputable def zva (lay:KV) (e:Nat):KV:=.tup (.cons lay (.cons (nI e) .nl))
noncomputable def rV (lay:KV) (a e:Nat):Prop:=tK (nd (kvb (nI e) (nI a)) true)
noncomputable def zfL (n l:Nat):List (Nat×Nat):=@Nat.rec (fun _=>Nat→List (Nat×Nat)) (fun _=>[]) (fun _ ih i=>(l,i)::ih (Nat.succ i)) (zQ n l) 0
noncomputable def apP (l m:List (Nat×Nat)):List (Nat×Nat):=@List.rec (Nat×Nat) (fun _=>List (Nat×Nat)) m (fun x _ ih=>x::ih) l
noncomputable def plL (n:Nat):List (Nat×Nat):=apP (zfL n 0) (apP (zfL n 1) (zfL n 2))
noncomputable def stV (lay:KV) (n m:Nat) (c:Nat→Un) (a l j:Nat) (q:Prop):Prop :=
 ∃ x:P5,[KV.ref false znS (ckL lay n m c l (zi n l j))]=JK x∧(bsC x∧ziF x)∧alt (!eZ (Wo x)) (rV lay a (Wo x))
  (∃ x:P5,[KV.ref false znS (ckL lay n m c l (zi n l j))]=JK x∧(bsC x∧True)∧alt (!eZ (XM x)) (rV lay a (XM x))
   (∃ x:P5,[KV.ref false znS (ckL lay n m c l (zi n l j))]=JK x∧(bsC x∧ziI x)∧alt (!eZ (Wp x)) (rV lay a (Wp x)) q))
noncomputable def chV (lay:KV) (n m:Nat) (c:Nat→Un) (a:Nat) (l:List (Nat×Nat)):Prop:=@List.rec (Nat×Nat) (fun _=>Prop) (rV lay a 0) (fun p _ ih=>@Prod.rec Nat Nat (fun _=>Prop) (fun l j=>stV lay n m c a l j ih) p) l
noncomputable def slV (lay:KV) (a m:Nat) (c:Nat→Un) (q:Prop) (r:Nat):Prop:=@Nat.rec (fun _=>Prop) q (fun r ih=>alt (zfK (c (Nat.sub m (Nat.succ r))).sl) (rV lay a 1) ih) r
noncomputable def Wm (n:Nat) (c:Nat→Un) (a:Nat):Prop:=zc1 n fun lay=>zx (zq n) fun m=>zT n=true∧slV lay a m c (chV lay n m c a (plL n)) m
noncomputable def zet (n:Nat) (c:Nat→Un) (a:Nat):Prop:=zc1 n fun lay=>zx (zq n) fun m=>zn zpF (zu zpF 200) 0 161 [trK n m c] .e 0 0 fun r zm _ _=>tK (fzG true zm 30 r (zva lay a))
noncomputable def j6 (S:Nat→Prop) (base:Nat) (c:Nat→Un) (a:Nat) (b:Bool):Prop:=jL (fun i=>zx (Nat.succ (Nat.add base i)) fun n=>S n→@Bool.rec (fun _=>Prop) (Wm n c a) (zet n c a) b) 6
theorem yz {base n a:Nat}{c:Nat→Un}(h:j6 (fun n'=>n'=n) base c a true=j6 (fun n'=>n'=n) base c a false) (h1:base < n) (h2:n≤base + 6) (hf:Wm n c a):zet n c a:=by
 have hF:j6 (fun n'=>n'=n) base c a false:=Zp fun i _=>by
  rw[zy]
  intro e
  show Wm _ c a
  rw[e]; exact hf
 have:=xC (Eq.mpr h hF) (n - base - 1) (by omega)
 rw[zy] at this
 have e:Nat.succ (Nat.add base (n - base - 1))=n:=by
  show base + (n - base - 1) + 1=n
  omega
 have h3:=this e
 rw[e] at h3
 exact h3
end
end Go.K
