/- disks: content, count, Read. No condition. -/
import Derived.Test.YtkllahedaiddgaaGreatDoorQA1
import Derived.Lib.LazyBuf
set_option linter.unusedSimpArgs false
set_option linter.unusedVariables false
set_option maxRecDepth 100000
namespace Go.K
open Go.Ab Go.RowKit Go.Y Go.Proofs
noncomputable section
attribute [local instance 10000] gO
noncomputable def be4 (f:Nat→Nat) (o:Nat):Nat:=((f o * 256 + f (o + 1)) * 256 + f (o + 2)) * 256 + f (o + 3)
noncomputable def be8 (f:Nat→Nat) (o:Nat):Nat:=(((((((f o * 256 + f (o + 1)) * 256 + f (o + 2)) * 256 + f (o + 3)) * 256 + f (o + 4)) * 256 + f (o + 5)) * 256 + f (o + 6)) * 256) + f (o + 7)
theorem jq {v x:Nat}(hv:v < 72057594037927936) (hx:x < 256):gst v x=v * 256 + x:=by
 have e1:Nat.mod v 18446744073709551616=v:=Nat.mod_eq_of_lt (by omega)
 have e2:Nat.mod (Nat.mul v 256) 18446744073709551616=v * 256:=Nat.mod_eq_of_lt (by show v * 256 < _; omega)
 have e3:Nat.mod x 18446744073709551616=x:=Nat.mod_eq_of_lt (by omega)
 unfold gst
 rw[e1,e2,e3]
 have h:=Nat.two_pow_add_eq_or_of_lt (i:=8) (b:=x) (by omega) v
 rw[show v * 256=2 ^ 8 * v by omega]
 exact h.symm
theorem zcG {l:List Nat}(h:∀ i,nN l i < 256) (k:Nat):X3 l k=be4 (nN l) k:=by
 have h0:=h k
 have h1:=h (k + 1)
 have h2:=h (k + 2)
 have h3:=h (k + 3)
 unfold X3 be4
 rw[show Nat.add k 1=k + 1 from rfl,show Nat.add k 2=k + 2 from rfl,show Nat.add k 3=k + 3 from rfl]
 rw[jq (v:=0) (by omega) h0,jq (by omega) h1,jq (by omega) h2,jq (by omega) h3]
 generalize nN l k=a at *
 generalize nN l (k + 1)=b at *
 generalize nN l (k + 2)=c at *
 generalize nN l (k + 3)=d at *
 have e:(((0 * 256 + a) * 256 + b) * 256 + c) * 256 + d=((a * 256 + b) * 256 + c) * 256 + d:=by omega
 rw[e]
 have e1:Nat.mod (((a * 256 + b) * 256 + c) * 256 + d) 18446744073709551616=((a * 256 + b) * 256 + c) * 256 + d:=Nat.mod_eq_of_lt (by omega)
 rw[e1]
 exact Nat.mod_eq_of_lt (by omega)
theorem ztk {l:List Nat}(h:∀ i,nN l i < 256) (k:Nat):znN l k=be8 (nN l) k:=by
 have h0:=h k
 have h1:=h (k + 1)
 have h2:=h (k + 2)
 have h3:=h (k + 3)
 have h4:=h (k + 4)
 have h5:=h (k + 5)
 have h6:=h (k + 6)
 have h7:=h (k + 7)
 unfold znN be8
 rw[show Nat.add k 1=k + 1 from rfl,show Nat.add k 2=k + 2 from rfl,show Nat.add k 3=k + 3 from rfl,show Nat.add k 4=k + 4 from rfl,show Nat.add k 5=k + 5 from rfl,show Nat.add k 6=k + 6 from rfl,show Nat.add k 7=k + 7 from rfl]
 rw[jq (v:=0) (by omega) h0,jq (by omega) h1,jq (by omega) h2,jq (by omega) h3,jq (by omega) h4,jq (by omega) h5,jq (by omega) h6,jq (by omega) h7]
 generalize nN l k=a at *
 generalize nN l (k + 1)=b at *
 generalize nN l (k + 2)=c at *
 generalize nN l (k + 3)=d at *
 generalize nN l (k + 4)=e at *
 generalize nN l (k + 5)=f at *
 generalize nN l (k + 6)=g at *
 generalize nN l (k + 7)=i at *
 rw[show 0 * 256 + a=a by omega]
 exact Nat.mod_eq_of_lt (by omega)
theorem vG (st i:Nat):bSr st i < 256:=qi .u8 st i
theorem Vn {v b:Nat}(hv:v < 16777216) (hb:b < 256):zf9 v b=v * 256 + b:=by
 have e1:Nat.mod (Nat.mul v 256) 4294967296=v * 256:=Nat.mod_eq_of_lt (by show v * 256 < _; omega)
 have e2:Nat.mod b 4294967296=b:=Nat.mod_eq_of_lt (by omega)
 unfold zf9
 rw[e1,e2]
 exact Nat.mod_eq_of_lt (by show v * 256 + b < _; omega)
theorem qc {v b:Nat}(hv:v < 72057594037927936) (hb:b < 256):Qn v b=v * 256 + b:=by
 have e1:Nat.mod (Nat.mul v 256) 18446744073709551616=v * 256:=Nat.mod_eq_of_lt (by show v * 256 < _; omega)
 have e2:Nat.mod b 18446744073709551616=b:=Nat.mod_eq_of_lt (by omega)
 unfold Qn
 rw[e1,e2]
 exact Nat.mod_eq_of_lt (by show v * 256 + b < _; omega)
theorem zcH (st o:Nat):zcV st o=be4 (bSr st) o:=by
 have h0:=vG st o
 have h1:=vG st (o + 1)
 have h2:=vG st (o + 2)
 have h3:=vG st (o + 3)
 unfold zcV be4
 rw[show Nat.add o 1=o + 1 from rfl,show Nat.add o 2=o + 2 from rfl,show Nat.add o 3=o + 3 from rfl]
 rw[Vn (v:=0) (by omega) h0,Vn (by omega) h1,Vn (by omega) h2,Vn (by omega) h3]
 omega
theorem ztl (st o:Nat):zua st o=be8 (bSr st) o:=by
 have h0:=vG st o
 have h1:=vG st (o + 1)
 have h2:=vG st (o + 2)
 have h3:=vG st (o + 3)
 have h4:=vG st (o + 4)
 have h5:=vG st (o + 5)
 have h6:=vG st (o + 6)
 have h7:=vG st (o + 7)
 unfold zua be8
 rw[show Nat.add o 1=o + 1 from rfl,show Nat.add o 2=o + 2 from rfl,show Nat.add o 3=o + 3 from rfl,show Nat.add o 4=o + 4 from rfl,show Nat.add o 5=o + 5 from rfl,show Nat.add o 6=o + 6 from rfl,show Nat.add o 7=o + 7 from rfl]
 rw[qc (v:=0) (by omega) h0,qc (by omega) h1,qc (by omega) h2,qc (by omega) h3,qc (by omega) h4,qc (by omega) h5,qc (by omega) h6,qc (by omega) h7]
 omega
noncomputable def rcD (f:Nat→Nat) (w:Nat):Rc:=⟨f (5 + 45 * w),be4 f (6 + 45 * w),be8 f (10 + 45 * w),lsF 32 fun i=>f (18 + 45 * w + i)⟩
noncomputable def enD (f:Nat→Nat) (w:Nat):En:=⟨f (5 + 33 * w),lsF 32 fun i=>f (6 + 33 * w + i)⟩
noncomputable def ndD (f:Nat→Nat):Nd:=@ite _ (f 0=0) (Nat.decEq _ _) ⟨0,be4 f 1,rcD f,fun _=>zEn⟩ ⟨f 0,be4 f 1,fun _=>zRc,enD f⟩
noncomputable def szD (f:Nat→Nat):Nat:=@ite _ (f 0=0) (Nat.decEq _ _) 185 137
noncomputable def pEr (f:Nat→Nat) (w:Nat):Nat:=@ite _ (f 0=0) (Nat.decEq _ _) (rcD f w).e (enD f w).e
open Classical in
noncomputable def gEr (n:Nat) (f:Nat→Nat):Nat:=if n=0 then 6 else if 5 < f 0 then 1 else if n < szD f then 6 else if szD f < n then 5 else if pEr f 0≠0 then pEr f 0 else if pEr f 1≠0 then pEr f 1 else if pEr f 2≠0 then pEr f 2 else pEr f 3
noncomputable def qY:Nd:=⟨0,0,fun _=>zRc,fun _=>zEn⟩
noncomputable def gX (n:Nat) (f:Nat→Nat):Nd:=@ite _ (gEr n f=0) (Nat.decEq _ _) (ndD f) qY
theorem zmX {f:Nat→Nat}(h:∀ i,f i < 256) (o n:Nat):∀ i,nN (bsL f o n) i < 256:=fun i=>xV (by omega) (xy fun j _=>h _) i
theorem jy {f:Nat→Nat}{o n i:Nat}(hi:i < n):nN (bsL f o n) i=f (o + i):=vR hi
theorem zcI {f:Nat→Nat}{o n k:Nat}(hk:k + 3 < n):be4 (nN (bsL f o n)) k=be4 f (o + k):=by
 unfold be4
 rw[jy (by omega),jy (by omega),jy (by omega),jy (by omega)]
 rw[show o + (k + 1)=o + k + 1 by omega,show o + (k + 2)=o + k + 2 by omega,show o + (k + 3)=o + k + 3 by omega]
theorem ztm {f:Nat→Nat}{o n k:Nat}(hk:k + 7 < n):be8 (nN (bsL f o n)) k=be8 f (o + k):=by
 unfold be8
 rw[jy (by omega),jy (by omega),jy (by omega),jy (by omega),jy (by omega),jy (by omega),jy (by omega),jy (by omega)]
 rw[show o + (k + 1)=o + k + 1 by omega,show o + (k + 2)=o + k + 2 by omega,show o + (k + 3)=o + k + 3 by omega,show o + (k + 4)=o + k + 4 by omega,show o + (k + 5)=o + k + 5 by omega,show o + (k + 6)=o + k + 6 by omega,show o + (k + 7)=o + k + 7 by omega]
theorem ztn {f:Nat→Nat}(h:∀ i,f i < 256) (w:Nat):rcG (bsL f (Nat.add 5 (Nat.mul 45 w)) 45)=rcD f w:=by
 have ho:Nat.add 5 (Nat.mul 45 w)=5 + 45 * w:=rfl
 rw[ho]
 unfold rcG rcD
 rw[zcG (zmX h _ _),ztk (zmX h _ _),zcI (by omega),ztm (by omega),jy (by omega)]
 rw[show 5 + 45 * w + 0=5 + 45 * w by omega,show 5 + 45 * w + 1=6 + 45 * w by omega,show 5 + 45 * w + 5=10 + 45 * w by omega]
 congr 1
 refine qT fun i hi=>?_
 rw[show Nat.add 13 i=13 + i from rfl,jy (by omega)]
 congr 1
 omega
theorem zto {f:Nat→Nat}(w:Nat):yo (bsL f (Nat.add 5 (Nat.mul 33 w)) 33)=enD f w:=by
 have ho:Nat.add 5 (Nat.mul 33 w)=5 + 33 * w:=rfl
 rw[ho]
 unfold yo enD
 rw[jy (by omega),show 5 + 33 * w + 0=5 + 33 * w by omega]
 congr 1
 refine qT fun i hi=>?_
 rw[show Nat.add 1 i=1 + i from rfl,jy (by omega)]
 congr 1
 omega
theorem zyU (st w:Nat):rcR st w=rcD (bSr st) w:=by
 unfold rcR rcD
 rw[zcH,ztl]
 have ho:atR w=5 + 45 * w:=rfl
 rw[ho,show Nat.add (5 + 45 * w) 1=6 + 45 * w by show 5 + 45 * w + 1=_; omega,show Nat.add (5 + 45 * w) 5=10 + 45 * w by show 5 + 45 * w + 5=_; omega,show Nat.add (5 + 45 * w) 13=18 + 45 * w by show 5 + 45 * w + 13=_; omega]
 rfl
def zD7 (a:Nat):Prop:=zi EO0 (zj EO0 60) 0 217 [kU8 a] .e 0 0 fun r _ _ _=>tK (kvb r (nI (kdS a)))
def zcS (q:Bool):Prop:=xr (fun n=>@Bool.rec (fun _=>Prop) True (zD7 n) q) 6
theorem zzO:zcS true=zcS false:=by kernel_rfl
theorem zD8:KCS Tryz.prog 217 zrI:=xm ⟨Tryz.f217,Tryz.func217,by kernel_rfl,by kernel_rfl⟩ fun l K hs=>by
 obtain⟨v,rfl,h1⟩:=j3 hs
 obtain⟨a,rfl,h2⟩:=XT h1
 obtain⟨h3,hk⟩:=za.1 h2
 exact⟨EO0,zr,rfl,60,_,_,hk,rfl,fun r hr=>by rw[vC (yg hr)]; exact Imp.refl _,zw (Eq.mpr zzO (zF (fun n=>trivial) 6):zcS true) a (Nat.lt_succ_of_le (ja.1 h3))⟩
noncomputable def yG:GE:=⟨fun q=>X3 q 0,rcX,fun q=>(rcG q).e,enX,fun q=>(yo q).e⟩
theorem zzP:KOk (za1 yG):=zr.tab (l:=[(281,fun l K=>la1 l fun v=>Zf 4 v fun q=>K (tE2 (je (yG.I q)) 0)),(282,fun l K=>la1 l fun v=>Zf 45 v fun q=>K (tE2 (yG.R q).k (yG.E q))),(283,fun l K=>la1 l fun v=>Zf 33 v fun q=>K (tE2 (yG.S q).k (yG.F q))),(217,zrI)]) ⟨zEK,zEM,zEL,zD8,trivial⟩
theorem zj7 {a b n:Nat}(h1:a≤b) (h2:b≤n):slB (.ofNat a) (.ofNat b) n none=true:=by
 have q0:leI (.ofNat 0) (.ofNat a)=true:=j8.2 (Nat.zero_le a)
 have q1:leI (.ofNat a) (.ofNat b)=true:=j8.2 h1
 have q2:leI (.ofNat b) (.ofNat n)=true:=j8.2 h2
 unfold slB
 simp only[q1,q2,Bool.and_true,Bool.true_and]
 first | exact q0 | rfl
theorem zj8 {E:List Nat→Nat}{sz n:Nat}{f:Nat→Nat}{K:KV→Prop}{q:Prop}(hn:5 + 4 * sz≤n)
  (hE:∀ w,w < 4→(∀ v,v < w→E (bsL f (Nat.add 5 (Nat.mul sz v)) sz)=0)→E (bsL f (Nat.add 5 (Nat.mul sz w)) sz)≠0→K (tE2 xv (E (bsL f (Nat.add 5 (Nat.mul sz w)) sz))))
  (hq:(∀ v,v < 4→E (bsL f (Nat.add 5 (Nat.mul sz v)) sz)=0)→q):ptG E sz n f K q 4 0:=by
 have main:∀ m w,w + m=4→(∀ v,v < w→E (bsL f (Nat.add 5 (Nat.mul sz v)) sz)=0)→(@Nat.rec (fun _=>Nat→Prop) (fun _=>q) (fun _ ih w=>cnd (slB (.ofNat (Nat.add 5 (Nat.mul w sz))) (.ofNat (Nat.add 5 (Nat.mul (Nat.add w 1) sz))) n none) (alt (!(eqI (.ofNat (E (bsL f (Nat.add 5 (Nat.mul sz w)) sz))) 0)) (K (tE2 xv (E (bsL f (Nat.add 5 (Nat.mul sz w)) sz)))) (ih (Nat.succ w)))) m w:Prop):=by
  intro m
  induction m with
  | zero =>
   intro w hw h
   exact hq fun v hv=>h v (by omega)
  | succ m ih =>
   intro w hw h
   have hm:(w + 1) * sz≤4 * sz:=Nat.mul_le_mul_right sz (by omega)
   have hm2:w * sz≤(w + 1) * sz:=Nat.mul_le_mul_right sz (by omega)
   refine za.2 ⟨zj7 (by show 5 + w * sz≤5 + (w + 1) * sz; omega) (by show 5 + (w + 1) * sz≤n; omega),zg.2 ⟨fun e=>hE w (by omega) h (Wc.1 e),fun e=>ih (w + 1) (by omega) fun v hv=>?_⟩⟩
   by_cases e2:v=w
   ·rw[e2]
    exact Classical.byContradiction fun hn=>by rw[Wc.2 hn] at e; cases e
   ·exact h v (by omega)
 exact main 4 0 rfl fun v hv=>absurd hv (Nat.not_lt_zero v)
theorem zzQ (f:Nat→Nat):f=c0B (f 0) f:=funext fun i=>by cases i<;>rfl
theorem Z6:Imp xv.v qY.k.v:=Imp.cons (Imp.refl _) (Imp.cons (Imp.refl _) (Imp.cons (v5 (d:=rcZ) (T:=.te) fun i hi=>qR) (Imp.cons (v5 (d:=enZ) (T:=.te) fun i hi=>yb) (Imp.refl _))))
section
variable {n:Nat}{f:Nat→Nat}
theorem Q7 (h:n=0):gEr n f=6:=if_pos h
theorem zeS (h:n≠0) (h2:5 < f 0):gEr n f=1:=(if_neg h).trans (if_pos h2)
theorem zeT (h:n≠0) (h2:f 0≤5) (h3:n < szD f):gEr n f=6:=(if_neg h).trans ((if_neg (by omega)).trans (if_pos h3))
theorem zeU (h:n≠0) (h2:f 0≤5) (h3:szD f < n):gEr n f=5:=(if_neg h).trans ((if_neg (by omega)).trans ((if_neg (by omega)).trans (if_pos h3)))
theorem zpI (h:n≠0) (h2:f 0≤5) (h3:n=szD f):gEr n f=if pEr f 0≠0 then pEr f 0 else if pEr f 1≠0 then pEr f 1 else if pEr f 2≠0 then pEr f 2 else pEr f 3:=by
 unfold gEr
 rw[if_neg h,if_neg (by omega),if_neg (by omega),if_neg (by omega)]
theorem zj9 (h:n≠0) (h2:f 0≤5) (h3:n=szD f) {w:Nat}(hw:w < 4) (hv:∀ v,v < w→pEr f v=0) (he:pEr f w≠0):gEr n f=pEr f w:=by
 rw[zpI h h2 h3]
 match w,hw with
 | 0,_=>rw[if_pos he]
 | 1,_=>rw[if_neg (fun e=>e (hv 0 (by omega))),if_pos he]
 | 2,_=>rw[if_neg (fun e=>e (hv 0 (by omega))),if_neg (fun e=>e (hv 1 (by omega))),if_pos he]
 | 3,_=>rw[if_neg (fun e=>e (hv 0 (by omega))),if_neg (fun e=>e (hv 1 (by omega))),if_neg (fun e=>e (hv 2 (by omega)))]
theorem zcT (h:n≠0) (h2:f 0≤5) (h3:n=szD f) (hv:∀ v,v < 4→pEr f v=0):gEr n f=0:=by
 rw[zpI h h2 h3,if_neg (fun e=>e (hv 0 (by omega))),if_neg (fun e=>e (hv 1 (by omega))),if_neg (fun e=>e (hv 2 (by omega)))]
 exact hv 3 (by omega)
theorem zt4 (h:gEr n f=0):gX n f=ndD f:=if_pos h
theorem zD9 {e:Nat}(h:gEr n f=e) (he:e≠0):gX n f=qY:=if_neg (by rw[h]; exact he)
theorem jG {e:Nat}(h:gEr n f=e) (he:e≠0):Imp (tE2 xv e).v (tE2 (gX n f).k (gEr n f)).v:=by
 rw[zD9 h he,h]
 exact Zh _ Z6
theorem zka {sz:Nat}{K:KV→Prop}{q:Prop}(h1:n < 5 + 4 * sz→K (tE2 xv 6)) (h2:5 + 4 * sz < n→K (tE2 xv 5)) (h3:n=5 + 4 * sz→q):bdG sz n K q:=by
 refine zg.2 ⟨fun h=>h1 (jS.1 h),fun h=>zg.2 ⟨fun h'=>h2 (jS.1 h'),fun h'=>?_⟩⟩
 have a1:¬ n < 5 + 4 * sz:=fun q=>by rw[show ltI (.ofNat n) (.ofNat (Nat.add 5 (Nat.mul 4 sz)))=true from jS.2 q] at h; cases h
 have a2:¬ 5 + 4 * sz < n:=fun q=>by rw[show ltI (.ofNat (Nat.add 5 (Nat.mul 4 sz))) (.ofNat n)=true from jS.2 q] at h'; cases h'
 have e:n=5 + 4 * sz:=by omega
 exact za.2 ⟨(xq (k:=0)).2 (by show 0 < n; omega),za.2 ⟨zj7 (by omega) (by omega),h3 e⟩⟩
theorem zt5 (hn:n≤100000) (hf:∀ i,f i < 256):zi (za1 yG) (zj (za1 yG) 300) 0 242 [y9 n f] .e 0 0 (fun r _ _ _=>Imp r.v (tE2 (gX n f).k (gEr n f)).v):=by
 have hc:=zzQ f
 cases h0:f 0 with
 | zero =>
  rw[h0] at hc
  have hz:szD f=185:=if_pos h0
  have hp:∀ w,pEr f w=(rcD f w).e:=fun w=>if_pos h0
  have hR:∀ w,rcG (bsL (c0B 0 f) (Nat.add 5 (Nat.mul 45 w)) 45)=rcD f w:=fun w=>by rw[←hc]; exact ztn hf w
  have key:zit yG n f fun r=>Imp r.v (tE2 (gX n f).k (gEr n f)).v:=by
   rw[zwp]
   refine zg.2 ⟨fun h=>jG (Q7 (z9.1 h)) (by decide),fun h=>?_⟩
   have hn0:n≠0:=fun e=>by rw[e] at h; cases h
   refine za.2 ⟨(xq (k:=0)).2 (by show 0 < n; omega),za.2 ⟨(xq (k:=0)).2 (by show 0 < n; omega),zka (fun h=>jG (zeT hn0 (by omega) (by omega)) (by decide)) (fun h=>jG (zeU hn0 (by omega) (by omega)) (by decide)) fun h3=>zj8 (by omega) (fun w hw hv he=>?_) fun hv=>?_⟩⟩
   ·have he:(rcG (bsL (c0B 0 f) (Nat.add 5 (Nat.mul 45 w)) 45)).e≠0:=he
    show Imp (tE2 xv (rcG (bsL (c0B 0 f) (Nat.add 5 (Nat.mul 45 w)) 45)).e).v _
    rw[hR w] at he ⊢
    refine jG ((zj9 hn0 (by omega) (by omega) hw (fun v hv'=>?_) (by rw[hp]; exact he)).trans (hp w)) he
    rw[hp,←hR]; exact hv v hv'
   ·have hg:gEr n f=0:=zcT hn0 (by omega) (by omega) fun v hv'=>by rw[hp,←hR]; exact hv v hv'
    rw[zt4 hg,hg]
    refine Zh _ ?_
    rw[show ndD f=⟨0,be4 f 1,rcD f,fun _=>zEn⟩ from if_pos h0]
    have hI:X3 (bsL (c0B 0 f) 1 4) 0=be4 f 1:=by
     rw[←hc,zcG (zmX hf _ _),zcI (by omega)]
    show Imp (KV.cons (kU8 0) (.cons (je (X3 (bsL (c0B 0 f) 1 4) 0)) (.cons (.ar 4 zc6 (arT (fun w=>(rcX (bsL (c0B 0 f) (Nat.add 5 (Nat.mul 45 w)) 45)).k) 4)) (.cons (.ar 4 zc5 .te) .nl)))).v _
    rw[hI]
    refine Imp.cons (Imp.refl _) (Imp.cons (Imp.refl _) (Imp.cons (v5 (d:=rcZ) fun i hi=>?_) (Imp.cons (v5 (d:=enZ) (T:=.te) fun i hi=>yb) (Imp.refl _))))
    rw[y5 _ _ 4 i hi,show rcX (bsL (c0B 0 f) (Nat.add 5 (Nat.mul 45 i)) 45)=rcG (bsL (c0B 0 f) (Nat.add 5 (Nat.mul 45 i)) 45) from if_pos (hv i hi),hR i]
    exact Imp.refl _
  unfold zit at key
  rw[←hc] at key
  exact key
 | succ l =>
  rw[h0] at hc
  have hz:szD f=137:=if_neg (by omega)
  have hp:∀ w,pEr f w=(enD f w).e:=fun w=>if_neg (by omega)
  have hR:∀ w,yo (bsL (c0B (Nat.succ l) f) (Nat.add 5 (Nat.mul 33 w)) 33)=enD f w:=fun w=>by
   rw[show c0B (Nat.succ l) f=f from hc.symm]; exact zto w
  have key:ziu yG n l f fun r=>Imp r.v (tE2 (gX n f).k (gEr n f)).v:=by
   rw[zwq]
   refine zg.2 ⟨fun h=>jG (Q7 (z9.1 h)) (by decide),fun h=>?_⟩
   have hn0:n≠0:=fun e=>by rw[e] at h; cases h
   refine za.2 ⟨(xq (k:=0)).2 (by show 0 < n; omega),zg.2 ⟨fun h=>jG (zeS hn0 (by have:=jS.1 h; omega)) (by decide),fun h=>?_⟩⟩
   have h5:l + 1≤5:=by have:=zog.1 h; omega
   refine za.2 ⟨(xq (k:=0)).2 (by show 0 < n; omega),za.2 ⟨ja.2 h5,zka (fun h=>jG (zeT hn0 (by omega) (by omega)) (by decide)) (fun h=>jG (zeU hn0 (by omega) (by omega)) (by decide)) fun h3=>zj8 (by omega) (fun w hw hv he=>?_) fun hv=>?_⟩⟩
   ·have he:(yo (bsL (c0B (Nat.succ l) f) (Nat.add 5 (Nat.mul 33 w)) 33)).e≠0:=he
    show Imp (tE2 xv (yo (bsL (c0B (Nat.succ l) f) (Nat.add 5 (Nat.mul 33 w)) 33)).e).v _
    rw[hR w] at he ⊢
    refine jG ((zj9 hn0 (by omega) (by omega) hw (fun v hv'=>?_) (by rw[hp]; exact he)).trans (hp w)) he
    rw[hp,←hR]; exact hv v hv'
   ·have hg:gEr n f=0:=zcT hn0 (by omega) (by omega) fun v hv'=>by rw[hp,←hR]; exact hv v hv'
    rw[zt4 hg,hg]
    refine Zh _ ?_
    rw[show ndD f=⟨f 0,be4 f 1,fun _=>zRc,enD f⟩ from if_neg (by omega),h0]
    have hI:X3 (bsL (c0B (Nat.succ l) f) 1 4) 0=be4 f 1:=by
     rw[show c0B (Nat.succ l) f=f from hc.symm,zcG (zmX hf _ _),zcI (by omega)]
    show Imp (KV.cons (kU8 (Nat.succ l)) (.cons (je (X3 (bsL (c0B (Nat.succ l) f) 1 4) 0)) (.cons (.ar 4 zc6 .te) (.cons (.ar 4 zc5 (arT (fun w=>(enX (bsL (c0B (Nat.succ l) f) (Nat.add 5 (Nat.mul 33 w)) 33)).k) 4)) .nl)))).v _
    rw[hI]
    refine Imp.cons (Imp.refl _) (Imp.cons (Imp.refl _) (Imp.cons (v5 (d:=rcZ) (T:=.te) fun i hi=>qR) (Imp.cons (v5 (d:=enZ) fun i hi=>?_) (Imp.refl _))))
    rw[y5 _ _ 4 i hi,show enX (bsL (c0B (Nat.succ l) f) (Nat.add 5 (Nat.mul 33 i)) 33)=yo (bsL (c0B (Nat.succ l) f) (Nat.add 5 (Nat.mul 33 i)) 33) from if_pos (hv i hi),hR i]
    exact Imp.refl _
  unfold ziu at key
  rw[show c0B (Nat.succ l) f=f from hc.symm] at key
  exact key
end
noncomputable def zEa:zh:=xM (fun x:Nat×(Nat→Nat)=>[y9 x.1 x.2]) (fun x=>x.1≤100000∧∀ i,x.2 i < 256) fun x=>tE2 (gX x.1 x.2).k (gEr x.1 x.2)
theorem zzR:KCS Tryz.prog 242 zEa:=xm ⟨Tryz.f242,Tryz.func242,by kernel_rfl,by kernel_rfl⟩ fun l K hs=>by
 obtain⟨⟨n,f⟩,rfl,⟨h1,h2⟩,hk⟩:=hs
 exact⟨za1 yG,zzP,rfl,300,fun r=>Imp r.v (tE2 (gX n f).k (gEr n f)).v,_,hk,zuw _ _,fun r hr=>hr,zt5 h1 h2⟩
theorem Jt (st:Nat):zkd st=bSr st 0:=rfl
theorem FzP.ofImp {br:Bool}{zm:KZ}{v w:KV}(h:Imp v.v w.v) (hn:zA w.v=true):FzP br zm v w:=fun B C M h1 h2 m hr=>R.noref _ hn (h C m hr)
attribute [local irreducible] kpre cOf mOf rOf JL zj zi zf7
theorem zw4:Tryz.f120.ntmps=164:=by kernel_rfl
theorem ziH:Tryz.f120.results.toList=rOf 120:=by kernel_rfl
theorem zw5:fl (cOf 120)=zf7:=by kernel_rfl
theorem QX:KOk zf8:=zr.tab (l:=[(60,zba)]) ⟨zbb,trivial⟩
theorem ziI:zS 0 (bx 102 Qh xv).v=true:=by kernel_rfl
theorem zmw (a:Nat):zS 0 (bx 102 Qh (znk a)).v=true:=by kernel_rfl
theorem zo3 {n st a:Nat}{tr:KTm}{zm:KZ}(ht:[0,2,4].map (zn tr)=zzU n st) (hz:[0,1].map (kb zm)=zt9 (znk a)):atS (mOf 120) (zcU n st a) tr zm :=
 atS.of (s:=zcU n st a) [] id ht hz (by kernel_rfl) ⟨jh _ rfl,xG (ltk rfl),xG (ltk rfl),trivial⟩ ⟨RnK.nf ziI,RnK.nf (zmw a),trivial⟩
open Classical in
noncomputable def pX (n st:Nat):Nd:=if n=0∨5 < bSr st 0∨n≠szD (bSr st) then qY else ndD (bSr st)
noncomputable def pBr (n st:Nat):Bool:=Nat.beq (gEr n (bSr st)) 0
theorem ziJ (x:Nd) (b:Bool):zA (tB2 x.k b).v=true:=by kernel_rfl
theorem za4 {a:Nat}(h:a≠0):Nat.beq a 0=false:=by cases a with
 | zero=>exact absurd rfl h
 | succ a=>rfl
theorem zo4 {a:Nat}:eqI (.ofNat a) 0=Nat.beq a 0:=by
 cases a with
 | zero=>rfl
 | succ a=>rfl
theorem ziK {st:Nat}(h:bSr st 0=0):znm st=ndD (bSr st):=by
 rw[show ndD (bSr st)=⟨0,be4 (bSr st) 1,rcD (bSr st),fun _=>zEn⟩ from if_pos h]
 unfold znm
 rw[zcH,show rcR st=rcD (bSr st) from funext fun w=>zyU st w]
theorem ziL {st l:Nat}(h:bSr st 0=Nat.succ l):znl l st=ndD (bSr st):=by
 rw[show ndD (bSr st)=⟨bSr st 0,be4 (bSr st) 1,fun _=>zRc,enD (bSr st)⟩ from if_neg (by omega),h]
 unfold znl
 rw[zcH]; rfl
theorem zsb:zRc.zero:=⟨rfl,rfl,rfl,zb9⟩
theorem zsc:zEn.zero:=⟨rfl,zb9⟩
theorem zmx (f:Nat→Nat) (w:Nat):(rcD f w).tg.length=32:=by
 exact vE (f:=fun i=>f (18 + 45 * w + i)) 32
theorem zmy (f:Nat→Nat) (w:Nat):(enD f w).dg.length=32:=by
 exact vE (f:=fun i=>f (6 + 33 * w + i)) 32
theorem ziM (f:Nat→Nat):(ndD f).wl:=by
 unfold ndD
 split
 ·exact⟨fun i _=>zmx f i,fun i _=>rfl⟩
 ·exact⟨fun i _=>rfl,fun i _=>zmy f i⟩
theorem ziN {x:Nd}(w:x.wl):x.nf.ok↔x.ok:=Nd.ok_congr (x:=x.nf) (y:=x) rfl (Nd.nf_rc' w) (Nd.nf_en' w)
theorem Nd.e_0 {x:Nd}:x.e=0↔x.ok:=by
 unfold Nd.e
 split
 ·rename_i h; exact⟨fun _=>h,fun _=>rfl⟩
 ·rename_i h; exact⟨fun q=>(by cases q),fun q=>absurd q h⟩
theorem Rc.e_0 {x:Rc}:x.e=0↔x.ok:=⟨fun h=>Classical.byContradiction fun hn=>(by rw[Rc.e_f hn] at h; cases h),Rc.e_t⟩
theorem En.e_0 {x:En}:x.e=0↔x.ok:=⟨fun h=>Classical.byContradiction fun hn=>(by rw[En.e_f hn] at h; cases h),En.e_t⟩
theorem zmz {n:Nat}{f:Nat→Nat}(h:n≠0) (h2:f 0≤5) (h3:n=szD f):gEr n f=0↔∀ w,w < 4→pEr f w=0:=by
 refine⟨fun hg=>?_,zcT h h2 h3⟩
 have step:∀ w,w < 4→(∀ v,v < w→pEr f v=0)→pEr f w=0:=fun w hw hv=>Classical.byContradiction fun hn=>by
  rw[zj9 h h2 h3 hw hv hn] at hg
  exact hn hg
 have all:∀ w,w≤4→∀ v,v < w→pEr f v=0:=fun w=>by
  induction w with
  | zero=>intro _ v hv; exact absurd hv (Nat.not_lt_zero v)
  | succ w ih =>
   intro hw v hv
   by_cases e:v=w
   ·rw[e]; exact step w (by omega) (ih (by omega))
   ·exact ih (by omega) v (by omega)
 exact fun w hw=>all 4 (Nat.le_refl 4) w hw
theorem zsd {f:Nat→Nat}(h2:f 0≤5):(ndD f).ok↔∀ w,w < 4→pEr f w=0:=by
 by_cases h0:f 0=0
 ·rw[show ndD f=⟨0,be4 f 1,rcD f,fun _=>zEn⟩ from if_pos h0]
  have hp:∀ w,pEr f w=(rcD f w).e:=fun w=>if_pos h0
  constructor
  ·intro h w hw
   rw[hp,Rc.e_0]
   exact (h.2.1 rfl).2 w hw
  ·intro h
   exact⟨Nat.zero_le _,fun _=>⟨fun i _=>zsc,fun i hi=>Rc.e_0.1 (by rw[←hp]; exact h i hi)⟩,fun q=>absurd rfl q⟩
 ·rw[show ndD f=⟨f 0,be4 f 1,fun _=>zRc,enD f⟩ from if_neg h0]
  have hp:∀ w,pEr f w=(enD f w).e:=fun w=>if_neg h0
  constructor
  ·intro h w hw
   rw[hp,En.e_0]
   exact (h.2.2 h0).2 w hw
  ·intro h
   exact⟨h2,fun q=>absurd q h0,fun _=>⟨fun i _=>zsb,fun i hi=>En.e_0.1 (by rw[←hp]; exact h i hi)⟩⟩
theorem zo5 {n:Nat}{f:Nat→Nat}{x:Nd}(h:n≠0) (h2:f 0≤5) (h3:n=szD f) (hx:x=ndD f):eqI (.ofNat x.nf.e) 0=Nat.beq (gEr n f) 0:=by
 rw[zo4]
 have k:x.nf.e=0↔gEr n f=0:=by
  rw[zmz h h2 h3,←zsd h2,Nd.e_0,hx]
  exact ziN (ziM f)
 by_cases e:gEr n f=0
 ·rw[k.2 e,e]
 ·rw[za4 e,za4 fun q=>e (k.1 q)]
theorem zse {st:Nat}:Imp (zpO st).v (znm st).k.v:=Imp.cons (Imp.refl _) (Imp.cons (Imp.refl _) (Imp.cons (Imp.refl _) (Imp.cons (v5 (d:=enZ) (T:=.te) fun i hi=>yb) (Imp.refl _))))
theorem zsf {st l:Nat}:Imp (zpN l st).v (znl l st).k.v:=Imp.cons (Imp.refl _) (Imp.cons (Imp.refl _) (Imp.cons (v5 (d:=rcZ) (T:=.te) fun i hi=>qR) (Imp.refl _)))
theorem zcl {a b:KV}(e:Bool) (h:Imp a.v b.v):Imp (tB2 a e).v (tB2 b e).v:=Imp.tup (Imp.cons h (Imp.refl _))
section
variable {n st:Nat}
theorem zCj:JFn Tryz.prog 120 false [.str n st] (tB2 (pX n st).k (pBr n st)):=by
 refine JFn.of (P:=Tryz.prog) QX rfl (c:=cOf 120) (mOf 120) Tryz.func120 (by kernel_rfl) fun B N hN=>?_
 rw[zw4] at hN
 rw[zw5]
 have fin:∀(v:KV) (tr:KTm) (zm:KZ) (nx:Nat),(v=tB2 xv false∧pX n st=qY∧pBr n st=false)→RAll Tryz.prog (tv' (zn tr)) (am zm) (rOf 120) v.v→retJ zf8 Tryz.f120 false (tB2 (pX n st).k (pBr n st)) .ret tr zm nx:=fun v tr zm nx h hr=>by
  obtain⟨rfl,h1,h2⟩:=h
  rw[h1,h2]
  exact retJ.mk rfl ziH (FzP.ofImp (zcl _ Z6) (ziJ _ _)) hr
 refine JL.stp (n:=60) (s:=(z7 (mOf 120) 0 [.str n st],[],0)) QX rfl 5 (rOf 120) [0,2,4] [0,1] hN (by kernel_rfl) (by kernel_rfl) (fun v=>v=tB2 xv false∧pX n st=qY∧pBr n st=false) (fun v tr zm nx h1 h2 h3 h4=>fin v tr zm nx h1 h4) ?_
 show zpK n st _ _
 rw[zzV,Jt]
 have no:(n=0∨5 < bSr st 0∨n≠szD (bSr st))→gEr n (bSr st)≠0→(tB2 xv false=tB2 xv false∧pX n st=qY∧pBr n st=false):=fun h hg=>⟨rfl,if_pos h,za4 hg⟩
 refine zg.2 ⟨fun h=>?_,fun h=>?_⟩
 ·have h:=z9.1 h
  exact no (.inl h) (by rw[Q7 h]; decide)
 have hn0:n≠0:=fun e=>by rw[e] at h; cases h
 have hix:ixB (.ofNat 0) n=true:=xq.2 (by omega)
 refine za.2 ⟨hix,zg.2 ⟨fun h=>?_,fun h=>za.2 ⟨hix,?_⟩⟩⟩
 ·have h:=xw.1 h
  exact no (.inr (.inl h)) (by rw[zeS hn0 h]; decide)
 have h5:bSr st 0≤5:=by
  have:¬ 5 < bSr st 0:=(bf xw).1 h
  omega
 have wrong:n≠szD (bSr st)→(tB2 xv false=tB2 xv false∧pX n st=qY∧pBr n st=false):=fun hs=>no (.inr (.inr hs)) (by
  rcases Nat.lt_or_ge n (szD (bSr st)) with q | q
  ·rw[zeT hn0 h5 q]; decide
  ·rw[zeU hn0 h5 (by omega)]; decide)
 have hX:n=szD (bSr st)→pX n st=ndD (bSr st):=fun hs=>if_neg (by rintro (q | q | q)<;>omega)
 by_cases hb:bSr st 0=0
 ·have hz:szD (bSr st)=185:=if_pos hb
  refine zg.2 ⟨fun _=>zg.2 ⟨fun h=>wrong (by rw[hz]; intro e; rw[e] at h; cases h),fun h=>?_⟩,fun h=>by rw[hb] at h; cases h⟩
  have hn:n=185:=by
   refine Classical.byContradiction fun hn=>?_
   rw[show eqI (.ofNat n) 185=false from (bf (z9 (b:=185))).2 hn] at h
   cases h
  refine za.2 ⟨hix,zg.2 ⟨fun h=>(by rw[Jt,hb] at h; cases h),fun _=>za.2 ⟨hix,?_⟩⟩⟩
  intro tr zm ht hzz hmb hi
  rw[Jt,hb] at hzz
  refine JL.preS QX (zo3 ht hzz) (vp (by kernel_rfl)) ?_
  subst hn
  have:=JL.goR (B:=B) (N:=N) (mask:=mOf 120) (l1:=zf7.drop 5) (l2:=[]) (Q:=retJ zf8 Tryz.f120 false (tB2 (pX 185 st).k (pBr 185 st))) (n:=60) QX rfl (rOf 120) [] [] (lt0:=(zcU 185 st 0).1) (lz0:=(zcU 185 st 0).2.1) (n0:=2) hN (by kernel_rfl) (by kernel_rfl) ?_
  ·rwa [List.append_nil] at this
  ·show zeX 185 st 0 _ _
   rw[zuc]
   intro tr zm hz' hmb hi hr
   refine retJ.mk rfl ziH (FzP.ofImp ?_ (ziJ _ _)) hr
   rw[hX hz.symm,zo5 (n:=185) (f:=bSr st) hn0 h5 hz.symm (ziK hb),←ziK hb]
   exact zcl _ zse
 ·obtain⟨l,hl⟩:∃ l,bSr st 0=Nat.succ l:=⟨bSr st 0 - 1,by omega⟩
  have hz:szD (bSr st)=137:=if_neg hb
  refine zg.2 ⟨fun h=>absurd (z9.1 h) hb,fun _=>za.2 ⟨hix,zg.2 ⟨fun _=>zg.2 ⟨fun h=>wrong (by rw[hz]; intro e; rw[e] at h; cases h),fun h=>za.2 ⟨hix,?_⟩⟩,fun h=>by rw[Jt,hl] at h; cases h⟩⟩⟩
  have hn:n=137:=by
   refine Classical.byContradiction fun hn=>?_
   rw[show eqI (.ofNat n) 137=false from (bf (z9 (b:=137))).2 hn] at h
   cases h
  intro tr zm ht hzz hmb hi
  rw[Jt,hl] at hzz
  refine JL.preS QX (zo3 ht hzz) (vp (by kernel_rfl)) ?_
  subst hn
  have:=JL.goR (B:=B) (N:=N) (mask:=mOf 120) (l1:=zf7.drop 5) (l2:=[]) (Q:=retJ zf8 Tryz.f120 false (tB2 (pX 137 st).k (pBr 137 st))) (n:=60) QX rfl (rOf 120) [] [] (lt0:=(zcU 137 st (Nat.succ l)).1) (lz0:=(zcU 137 st (Nat.succ l)).2.1) (n0:=2) hN (by kernel_rfl) (by kernel_rfl) ?_
  ·rwa [List.append_nil] at this
  ·show zeX 137 st (Nat.succ l) _ _
   rw[zub]
   intro tr zm hz' hmb hi hr
   refine retJ.mk rfl ziH (FzP.ofImp ?_ (ziJ _ _)) hr
   rw[hX hz.symm,zo5 (n:=137) (f:=bSr st) hn0 h5 hz.symm (ziL hl),←ziL hl]
   exact zcl _ zsf
end
noncomputable def zCk:zh:=xM (fun x:Nat×Nat=>[.str x.1 x.2]) (fun _=>True) fun x=>tB2 (pX x.1 x.2).k (pBr x.1 x.2)
theorem zw6:KCS Tryz.prog 120 zCk:=Xn ⟨Tryz.f120,Tryz.func120,by kernel_rfl,by kernel_rfl⟩ fun x _=>zCj
end
end Go.K
set_option maxRecDepth 100000
namespace Go.Proofs
open Go.RowKit
theorem Tryz.info5':(Tryz.prog.info? 5).map (fun i=>(i.zero,i.size,i.bytes))=some (some (.int .u8 0),1,1):=by kernel_rfl
theorem zcQ (a:Option Addr) (cap:Nat) (w:World) :
  Calls Tryz.prog 183 #[.slice a 0 cap] w fun e w'=>∃ a' c',e=.returned (.slice a' 0 c')∧Below w.heap.size w w':=by
 obtain⟨i0,hi,hz0,hz1,hz2⟩:=info_parts Tryz.info5'
 have he:∀(w:World) (a:Option Addr) (c:Nat),(binOp .eql 23 (.slice a 0 c) (.slice none 0 0)).run Tryz.prog w=.ok (.bool a.isNone) w:=fun w a c=>run_eql_slice_nil w 23 5 a 0 c Tryz.underlying23
 go_enter Tryz.func183,Tryz.ntmps183
 cases a with
 | none =>
  go_wp2
  go_ret
  exact⟨none,0,rfl,Below.refl _ _⟩
 | some a =>
  go_wp2_with (first
   | (at_builtin; refine wpList_append_own _ rfl _ _ 23 rfl w.heap.size 5 i0 (.int .u8 0) 1 1 Tryz.underlying23 hi hz0 hz1 hz2 rfl (by decide) _ 0 [] rfl (World.ownsRow_made _ _ _ (Nat.le_refl _) (Nat.zero_le _) (by simp)) a 0 cap [] rfl rfl (by simp) (by simp) (by simp) (by simp) (by simp) ?_; intro v' w2 hown' hg3 hnil3)
   | go_in)
  go_ret
  have hb:Below w.heap.size w w2:=((Below.refl _ _).alloc (Nat.le_refl _) _).grown hg3 (by simp) (fun j hj=>by cases hj; exact Nat.le_refl _)
  rcases hown'.2 with ⟨rfl,_⟩ | ⟨g,cp,cur,rfl,_⟩
  ·exact⟨⟨_,_,rfl⟩,hb⟩
  ·exact⟨⟨_,_,rfl⟩,hb⟩
end Go.Proofs
namespace Go.K
open Go.Ab Go.RowKit Go.Y Go.Proofs
noncomputable section
attribute [local instance 10000] gO
noncomputable def zni:List Code:=fl (cOf 183)
def zDV (n:Nat) (b:Nat→Nat) (Q:QT) (R:RT):Prop:=pc EO0 183 zni [] [0,1,2] (z7 (mOf 183) 0 [roN (Nat.succ n) b],[],0) Q R
theorem zDW (n:Nat) (b:Nat→Nat) (Q:QT) (R:RT):zDV n b Q R=cnd (apB 0 (Nat.succ n)) (R (.row 1 .sc (Nat.add 0 (Nat.succ n))) [some ⟨.dead,.arr 0 .sc,.unk⟩,some ⟨.row 5,.arr (Nat.add 0 (Nat.succ n)) .sc,.fa (Nat.succ n) fun j=>kU8 (b j)⟩,none] 2):=by kernel_rfl
noncomputable def zcR:List Code:=fl (cOf 146)
noncomputable def zj4 (n:Nat) (b:Nat→Nat):KEnv:=EO0.tab [(183,zq [roN n b] (roN n b))]
def zzz (n:Nat) (b:Nat→Nat) (Q:QT) (R:RT):Prop:=pc (zj4 n b) 146 zcR [] [] (z7 (mOf 146) 0 [.nilp],[],0) Q R
def zzA (v:Vr) (Q:QT) (R:RT):Prop:=pc (zj4 v.ln v.by') 146 zcR [] [] (z7 (mOf 146) 0 [v.k],[],0) Q R
noncomputable def ztY:KV:=.tup (.cons .nils (.cons (nI 11) .nl))
theorem zzB (n:Nat) (b:Nat→Nat) (Q:QT) (R:RT):zzz n b Q R=R ztY [] 0:=by kernel_rfl
theorem zzC (v:Vr) (Q:QT) (R:RT):zzA v Q R=alt (!v.th) (R ztY [] 0) ([roN v.ln v.by']=[roN v.ln v.by']∧cnd (slB (.ofNat 0) (.ofNat v.ln) v.ln (some (.ofNat v.ln))) (R (.tup (.cons (.ro true (decide (Int.ofNat v.ln=Int.ofNat v.ln)) .sc 0 (Nat.sub v.ln 0) (.fa v.ln fun i=>kU8 (v.by' i))) (.cons (nI 0) .nl))) [] 0)):=by kernel_rfl
def zzD (K:KV→Prop):Prop:=zi EO0 (zj EO0 60) 0 238 [.nilp] .e 0 0 fun r _ _ _=>K r
def zzE (v:Vr) (K:KV→Prop):Prop:=zi EO0 (zj EO0 60) 0 238 [v.k] .e 0 0 fun r _ _ _=>K r
theorem zzF (K:KV→Prop):zzD K=K (nI 0):=by kernel_rfl
theorem zzG (v:Vr) (K:KV→Prop):zzE v K=K (nI v.nm):=by kernel_rfl
attribute [local irreducible] kpre cOf mOf rOf JL zj zi zni zcR
theorem zDX {P:Program}{f:Nat}{s s':zh}(h:KCS P f s) (hs:∀ l K,s' l K→∃ l',l'.map KV.v=l.map KV.v∧s l' K):KCS P f s':=⟨h.1,fun l K hk=>by
 obtain⟨l',e,h2⟩:=hs l K hk
 obtain⟨v,h3,h4⟩:=h.2 l' K h2
 exact⟨v,h3,fun B μ nx mx l0 hl=>h4 B μ nx mx l0 (by rw[e]; exact hl)⟩⟩
theorem Zd (o:Option Vr):(vm o).v=(ZY o).v:=by
 cases o with
 | none=>exact zdT (by trivial) rfl rfl
 | some v=>exact zdT (by trivial) rfl rfl
theorem zzH:Tryz.f183.ntmps=8:=by kernel_rfl
theorem zzI:Tryz.f183.results.toList=rOf 183:=by kernel_rfl
theorem zzJ:fl (cOf 183)=zni:=by kernel_rfl
theorem zpG:Tryz.f146.ntmps=19:=by kernel_rfl
theorem zj5:Tryz.f146.results.toList=rOf 146:=by kernel_rfl
theorem zpH:fl (cOf 146)=zcR:=by kernel_rfl
theorem zDY {n:Nat}{b:Nat→Nat}(h:n < 1000):JFn Tryz.prog 183 false [roN (Nat.succ n) b] (roN (Nat.succ n) b):=by
 refine JFn.of (P:=Tryz.prog) zr rfl (c:=cOf 183) (mOf 183) Tryz.func183 (by kernel_rfl) fun B N hN=>?_
 rw[zzH] at hN
 rw[zzJ]
 have:=JL.goR (B:=B) (N:=N) (mask:=mOf 183) (l1:=zni) (l2:=[]) (Q:=retJ EO0 Tryz.f183 false (roN (Nat.succ n) b)) (n:=60) zr rfl (rOf 183) [] [0,1,2] (lt0:=z7 (mOf 183) 0 [roN (Nat.succ n) b]) (lz0:=[]) (n0:=0) hN (by kernel_rfl) (by kernel_rfl) ?_
 ·rwa [List.append_nil] at this
 ·refine Eq.mpr (zDW n b _ _) (za.2 ⟨qd (by omega),?_⟩)
  intro tr zm hz hmb hi hr
  have g1:kb zm 1=some ⟨.row 5,.arr (Nat.add 0 (Nat.succ n)) .sc,.fa (Nat.succ n) fun j=>kU8 (b j)⟩:=congrArg (fun l=>l.getD 1 none) hz
  refine retJ.mk rfl zzI (v:=.row 1 .sc (Nat.add 0 (Nat.succ n))) ?_ hr
  rw[va] at g1 ⊢
  exact FzP.row g1 rfl rfl fun i hi B C M h4 h5 mm hm=>R.noref _ rfl hm
theorem YE:KCS Tryz.prog 183 (xM (fun x:Nat×(Nat→Nat)=>[roN x.1 x.2]) (fun x=>x.1≤1000) fun x=>roN x.1 x.2):=by
 refine⟨⟨Tryz.f183,Tryz.func183,by kernel_rfl,by kernel_rfl⟩,fun l K hs=>?_⟩
 obtain⟨⟨n,b⟩,rfl,h1,hk⟩:=hs
 have h1:n≤1000:=h1
 cases n with
 | succ n=>exact (Xn (args:=fun _:Unit=>[roN (Nat.succ n) b]) (pre:=fun _=>True) (res:=fun _=>roN (Nat.succ n) b) ⟨Tryz.f183,Tryz.func183,by kernel_rfl,by kernel_rfl⟩ fun x _=>zDY (by omega)).2 _ K ⟨(),rfl,trivial,hk⟩
 | zero =>
  refine⟨roN 0 b,hk,fun B μ nx mx l0 hl0=>?_⟩
  have hc:xX Tryz.prog 183 { pre:=fun l''=>@decide (l''=[roN 0 b].map KV.v) (Classical.propDecidable _),res:=fun _=>(roN 0 b).v,fresh:=true }:=by
   refine⟨⟨Tryz.f183,Tryz.func183,by kernel_rfl,by kernel_rfl⟩,fun C l'' vals hok hg hargs hpre=>?_⟩
   obtain rfl:l''=[roN 0 b].map KV.v:=@of_decide_eq_true _ (Classical.propDecidable _) hpre
   obtain⟨v,vs,rfl,⟨a,c,ha,hmc,-,hr⟩,hn⟩:=hargs
   obtain rfl:vs=[]:=hn
   obtain rfl:v=.slice a 0 c:=ha
   refine (zcQ a c C.w).mono ?_
   rintro e w' ⟨a',c',rfl,hb⟩
   exact⟨hb,_,rfl,a',c',rfl,Nat.zero_le _,(fun h=>by cases h),.inl rfl⟩
  exact vd (B:=B) (μ:=μ) (nx:=nx) (mx:=mx) zr.gn hc rfl hl0 (by rw[wF]; exact @decide_eq_true _ (Classical.propDecidable _) rfl)
end
end Go.K
set_option maxRecDepth 100000
namespace Go.K
open Go.Ab Go.RowKit Go.Y Go.Proofs
noncomputable section
attribute [local instance 10000] gO
noncomputable def l73:List Code:=fl (cOf 73)
def zC1 (L c q:Nat) (f:Ck) (o:Option Vr) (s:Nat) (Q:QT) (R:RT):Prop:=pc ((EO0.tabB [(146,zq [vm o] (ql o))])) 73 l73 [] [] (z7 (mOf 73) 0 [dkK L c q f,nI s],[],0) Q R
theorem e73 (L c q:Nat) (f:Ck) (o:Option Vr) (s:Nat) (Q:QT) (R:RT):zC1 L c q f o s Q R=alt (leI (.ofNat L) (.ofNat s)) (R (.tup (.cons .nils (.cons (nI 1) .nl))) [] 2) (cnd (b63 (Nat.div s 64)) (cnd (ixB (.ofNat (Nat.div s 64)) q) (cnd (ixB (.ofNat (s % 64)) 64) ([vm (f (Nat.add 0 (Nat.div s 64)) (s % 64))]=[vm o]∧R (ql o) [] 2)))):=by kernel_rfl
attribute [local irreducible] kpre cOf mOf rOf JL zj zi l73 zcR
theorem zyr {P:Program}{f:Nat}{s s':zh}(h:qo P f s) (hs:∀ l K,s' l K→∃ l',l'.map KV.v=l.map KV.v∧xt l'=true∧s l' K):qo P f s':=⟨h.1,fun l K hk=>by
 obtain⟨l',e,hb,h2⟩:=hs l K hk
 obtain⟨v,h3,h4⟩:=h.2 l' K h2
 exact⟨v,h3,fun _ B μ nx mx=>by rw[←e]; exact h4 hb B μ nx mx⟩⟩
theorem zjq {br:Bool}{zm:KZ}{u cl:Bool}{e:Shape}{c:KV}:FzP br zm .nils (.ro u cl e 0 0 c):=fun B C M h1 h2 m hr=>⟨none,0,hr,Nat.le_refl _,fun _=>rfl,.inl rfl⟩
theorem fzZ {zm:KZ}{b:Nat→Nat}{k:Nat}:FzP true zm (.tup (.cons .nils (.cons (nI k) .nl))) (.tup (.cons (y9 0 b) (.cons (nI k) .nl))):=FzP.tup (FzP.cons zjq (FzP.cons (FzP.noref rfl) (FzP.noref rfl)))
theorem zys (n:Nat):slB (.ofNat 0) (.ofNat n) n (some (.ofNat n))=true:=by
 have h1:leI (.ofNat 0) (.ofNat n)=true:=j8.2 (Nat.zero_le n)
 have h2:leI (.ofNat n) (.ofNat n)=true:=j8.2 (Nat.le_refl n)
 unfold slB
 simp only[h2,Bool.and_true,Bool.true_and]
 first | (simp only[Bool.and_eq_true]; exact⟨rfl,h1⟩) | (rw[h1]; rfl)
theorem zjr (n:Nat) (b:Nat→Nat):ubK (roN n b)=true:=by
 show nd true (ubK (.fa n fun i=>kU8 (b i)))=true
 rw[XG fun i=>rfl]; rfl
theorem zeC (n:Nat) (b:Nat→Nat):ubK (y9 n b)=true:=by
 show nd true (ubK (.fa n fun i=>kU8 (b i)))=true
 rw[XG fun i=>rfl]; rfl
theorem zeD {n:Nat}{b:Nat→Nat}(h:n≤1000):KOk (zj4 n b):=zr.tab (l:=[(183,zq [roN n b] (roN n b))]) ⟨⟨YE.1,fun l K hs=>YE.2 l K (by
 obtain⟨rfl,hk⟩:=hs
 exact⟨(n,b),rfl,h,hk⟩)⟩,trivial⟩
theorem zyt:JFn Tryz.prog 146 true [.nilp] (ql none):=by
 refine JFn.of (P:=Tryz.prog) (zeD (n:=0) (b:=fun _=>0) (by omega)) rfl (c:=cOf 146) (mOf 146) Tryz.func146 (by kernel_rfl) fun B N hN=>?_
 rw[zpG] at hN
 rw[zpH]
 have:=JL.goR (B:=B) (N:=N) (mask:=mOf 146) (l1:=zcR) (l2:=[]) (Q:=retJ (zj4 0 fun _=>0) Tryz.f146 true (ql none)) (n:=60) (zeD (n:=0) (b:=fun _=>0) (by omega)) rfl (rOf 146) [] [] (lt0:=z7 (mOf 146) 0 [.nilp]) (lz0:=[]) (n0:=0) hN (by kernel_rfl) (by kernel_rfl) ?_
 ·rwa [List.append_nil] at this
 ·refine Eq.mpr (zzB 0 (fun _=>0) _ _) ?_
  intro tr zm hz hmb hi hr
  exact retJ.mk rfl zj5 fzZ hr
theorem zyu {v:Vr}(h:v.ln≤1000):JFn Tryz.prog 146 true [v.k] (ql (some v)):=by
 refine JFn.of (P:=Tryz.prog) (zeD (b:=v.by') h) rfl (c:=cOf 146) (mOf 146) Tryz.func146 (by kernel_rfl) fun B N hN=>?_
 rw[zpG] at hN
 rw[zpH]
 have:=JL.goR (B:=B) (N:=N) (mask:=mOf 146) (l1:=zcR) (l2:=[]) (Q:=retJ (zj4 v.ln v.by') Tryz.f146 true (ql (some v))) (n:=60) (zeD (b:=v.by') h) rfl (rOf 146) [] [] (lt0:=z7 (mOf 146) 0 [v.k]) (lz0:=[]) (n0:=0) hN (by kernel_rfl) (by kernel_rfl) ?_
 ·rwa [List.append_nil] at this
 ·refine Eq.mpr (zzC v _ _) (zg.2 ⟨fun e=>?_,fun e=>⟨rfl,za.2 ⟨?_,?_⟩⟩⟩)
  ·have e:v.th=false:=by cases ht:v.th<;>simp [ht] at e ⊢
   intro tr zm hz hmb hi hr
   refine retJ.mk rfl zj5 ?_ hr
   show FzP true zm ztY (.tup (.cons (y9 (@Bool.rec (fun _=>Nat) 0 v.ln v.th) v.by') (.cons (nI (@Bool.rec (fun _=>Nat) 11 0 v.th)) .nl)))
   rw[e]
   exact fzZ
  ·exact zys v.ln
  ·have e:v.th=true:=by cases ht:v.th<;>simp [ht] at e ⊢
   intro tr zm hz hmb hi hr
   refine retJ.mk rfl zj5 ?_ hr
   show FzP true zm _ (.tup (.cons (y9 (@Bool.rec (fun _=>Nat) 0 v.ln v.th) v.by') (.cons (nI (@Bool.rec (fun _=>Nat) 11 0 v.th)) .nl)))
   rw[e,decide_eq_true rfl]
   exact FzP.ub (show nd (ubK (y9 v.ln v.by')) true=true from zd.2 ⟨zeC _ _,rfl⟩)
theorem zpn:qo Tryz.prog 146 (xM (fun o:Option Vr=>[vm o]) (fun o=>∀ v,o=some v→v.ln≤1000) ql):=by
 refine zyr (s:=xM (fun o:Option Vr=>[ZY o]) (fun o=>∀ v,o=some v→v.ln≤1000) ql) (jC ⟨Tryz.f146,Tryz.func146,by kernel_rfl,by kernel_rfl⟩ fun o h=>?_) fun l K hs=>?_
 ·cases o with
  | none=>exact zyt
  | some v=>exact zyu (h v rfl)
 ·obtain⟨o,rfl,h1,h2⟩:=hs
  refine⟨[ZY o],?_,?_,o,rfl,h1,h2⟩
  ·show [(ZY o).v]=[(vm o).v]
   rw[Zd]
  ·cases o<;>rfl
theorem zjs:KCS Tryz.prog 238 (xM (fun o:Option Vr=>[vm o]) (fun _=>True) fun o=>nI (Ql o)):=by
 refine zDX (s:=xM (fun o:Option Vr=>[ZY o]) (fun _=>True) fun o=>nI (Ql o)) (xm ⟨Tryz.f238,Tryz.func238,by kernel_rfl,by kernel_rfl⟩ fun l K hs=>?_) fun l K hs=>?_
 ·obtain⟨o,rfl,_,hk⟩:=hs
  cases o with
  | none=>exact⟨EO0,zr,rfl,60,fun r=>r=nI 0,_,hk,by kernel_rfl,fun r hr=>by rw[hr]; exact Imp.refl _,Eq.mpr (zzF _) rfl⟩
  | some v=>exact⟨EO0,zr,rfl,60,fun r=>r=nI v.nm,_,hk,by kernel_rfl,fun r hr=>by rw[hr]; exact Imp.refl _,Eq.mpr (zzG v _) rfl⟩
 ·obtain⟨o,rfl,h1,h2⟩:=hs
  refine⟨[ZY o],?_,o,rfl,h1,h2⟩
  show [(ZY o).v]=[(vm o).v]
  rw[Zd]
end
end Go.K
