/- CommitsErrors: the law walked. No condition. -/
import Derived.Test.YtkllahedaiddgaaGreatDoorUG5
set_option linter.unusedSimpArgs false
set_option linter.unusedVariables false
set_option maxRecDepth 100000
namespace Go.K
open Go.Ab Go.RowKit Go.Y Go.Proofs
noncomputable section
attribute [local instance 10000] gO
theorem zzR:P5A 1:=fun x u F s39 s18 s19 s32 a y b o c Q R=>show d5A x 1 u F s39 s18 s19 s32 a y b o c Q R=r5A x 1 u F a y b o c Q by kernel_rfl
theorem zzS:P5A 2:=fun x u F s39 s18 s19 s32 a y b o c Q R=>show d5A x 2 u F s39 s18 s19 s32 a y b o c Q R=r5A x 2 u F a y b o c Q by kernel_rfl
theorem zzT:P5A 3:=fun x u F s39 s18 s19 s32 a y b o c Q R=>show d5A x 3 u F s39 s18 s19 s32 a y b o c Q R=r5A x 3 u F a y b o c Q by kernel_rfl
theorem zzU:P5A 4:=fun x u F s39 s18 s19 s32 a y b o c Q R=>show d5A x 4 u F s39 s18 s19 s32 a y b o c Q R=r5A x 4 u F a y b o c Q by kernel_rfl
theorem zzV:P5A 5:=fun x u F s39 s18 s19 s32 a y b o c Q R=>show d5A x 5 u F s39 s18 s19 s32 a y b o c Q R=r5A x 5 u F a y b o c Q by kernel_rfl
theorem zzW:P5A 6:=fun x u F s39 s18 s19 s32 a y b o c Q R=>show d5A x 6 u F s39 s18 s19 s32 a y b o c Q R=r5A x 6 u F a y b o c Q by kernel_rfl
theorem zCw:P5A 7:=fun x u F s39 s18 s19 s32 a y b o c Q R=>show d5A x 7 u F s39 s18 s19 s32 a y b o c Q R=r5A x 7 u F a y b o c Q by kernel_rfl
theorem zCx:P5A 8:=fun x u F s39 s18 s19 s32 a y b o c Q R=>show d5A x 8 u F s39 s18 s19 s32 a y b o c Q R=r5A x 8 u F a y b o c Q by kernel_rfl
theorem zCy:P5A 9:=fun x u F s39 s18 s19 s32 a y b o c Q R=>show d5A x 9 u F s39 s18 s19 s32 a y b o c Q R=r5A x 9 u F a y b o c Q by kernel_rfl
theorem zxs:P5A 10:=fun x u F s39 s18 s19 s32 a y b o c Q R=>show d5A x 10 u F s39 s18 s19 s32 a y b o c Q R=r5A x 10 u F a y b o c Q by kernel_rfl
theorem zxt:P5A 11:=fun x u F s39 s18 s19 s32 a y b o c Q R=>show d5A x 11 u F s39 s18 s19 s32 a y b o c Q R=r5A x 11 u F a y b o c Q by kernel_rfl
theorem zxu:P5A 12:=fun x u F s39 s18 s19 s32 a y b o c Q R=>show d5A x 12 u F s39 s18 s19 s32 a y b o c Q R=r5A x 12 u F a y b o c Q by kernel_rfl
theorem zvF:P5A 13:=fun x u F s39 s18 s19 s32 a y b o c Q R=>show d5A x 13 u F s39 s18 s19 s32 a y b o c Q R=r5A x 13 u F a y b o c Q by kernel_rfl
theorem zvG:P5A 14:=fun x u F s39 s18 s19 s32 a y b o c Q R=>show d5A x 14 u F s39 s18 s19 s32 a y b o c Q R=r5A x 14 u F a y b o c Q by kernel_rfl
theorem zvH:P5A 15:=fun x u F s39 s18 s19 s32 a y b o c Q R=>show d5A x 15 u F s39 s18 s19 s32 a y b o c Q R=r5A x 15 u F a y b o c Q by kernel_rfl
theorem zvI:P5A 16:=fun x u F s39 s18 s19 s32 a y b o c Q R=>show d5A x 16 u F s39 s18 s19 s32 a y b o c Q R=r5A x 16 u F a y b o c Q by kernel_rfl
theorem zvJ:P5A 17:=fun x u F s39 s18 s19 s32 a y b o c Q R=>show d5A x 17 u F s39 s18 s19 s32 a y b o c Q R=r5A x 17 u F a y b o c Q by kernel_rfl
theorem zvK:P5A 18:=fun x u F s39 s18 s19 s32 a y b o c Q R=>show d5A x 18 u F s39 s18 s19 s32 a y b o c Q R=r5A x 18 u F a y b o c Q by kernel_rfl
theorem zvL:P5A 19:=fun x u F s39 s18 s19 s32 a y b o c Q R=>show d5A x 19 u F s39 s18 s19 s32 a y b o c Q R=r5A x 19 u F a y b o c Q by kernel_rfl
theorem zvM:P5A 20:=fun x u F s39 s18 s19 s32 a y b o c Q R=>show d5A x 20 u F s39 s18 s19 s32 a y b o c Q R=r5A x 20 u F a y b o c Q by kernel_rfl
theorem zvN:P5A 21:=fun x u F s39 s18 s19 s32 a y b o c Q R=>show d5A x 21 u F s39 s18 s19 s32 a y b o c Q R=r5A x 21 u F a y b o c Q by kernel_rfl
theorem zvO:P5A 22:=fun x u F s39 s18 s19 s32 a y b o c Q R=>show d5A x 22 u F s39 s18 s19 s32 a y b o c Q R=r5A x 22 u F a y b o c Q by kernel_rfl
theorem zvP:P5A 23:=fun x u F s39 s18 s19 s32 a y b o c Q R=>show d5A x 23 u F s39 s18 s19 s32 a y b o c Q R=r5A x 23 u F a y b o c Q by kernel_rfl
theorem zvQ:P5A 24:=fun x u F s39 s18 s19 s32 a y b o c Q R=>show d5A x 24 u F s39 s18 s19 s32 a y b o c Q R=r5A x 24 u F a y b o c Q by kernel_rfl
theorem p5A {n:Nat}(h:zT n=true):P5A n:=by
 obtain⟨n1,n2⟩:=xc h
 match n,n1,n2 with
 | 1,_,_=>exact zzR
 | 2,_,_=>exact zzS
 | 3,_,_=>exact zzT
 | 4,_,_=>exact zzU
 | 5,_,_=>exact zzV
 | 6,_,_=>exact zzW
 | 7,_,_=>exact zCw
 | 8,_,_=>exact zCx
 | 9,_,_=>exact zCy
 | 10,_,_=>exact zxs
 | 11,_,_=>exact zxt
 | 12,_,_=>exact zxu
 | 13,_,_=>exact zvF
 | 14,_,_=>exact zvG
 | 15,_,_=>exact zvH
 | 16,_,_=>exact zvI
 | 17,_,_=>exact zvJ
 | 18,_,_=>exact zvK
 | 19,_,_=>exact zvL
 | 20,_,_=>exact zvM
 | 21,_,_=>exact zvN
 | 22,_,_=>exact zvO
 | 23,_,_=>exact zvP
 | 24,_,_=>exact zvQ
theorem zsT {n k:Nat}(hn:zT n=true) (hk:k < zq n):isS n (lvI n k) (ixI n k)=true:=by
 obtain⟨n1,n2⟩:=xc hn
 have h9:=yD hn
 obtain⟨m,rfl⟩:∃ m,n=Nat.succ m:=⟨n - 1,by omega⟩
 have hd:∀ m:Fin 24,∀ k:Fin 9,k.1 < zq (Nat.succ m.1)→isS (Nat.succ m.1) (lvI (Nat.succ m.1) k.1) (ixI (Nat.succ m.1) k.1)=true:=by decide
 exact hd ⟨m,by omega⟩ ⟨k,by omega⟩ hk
noncomputable def cU (n:Nat) (u:Ud) (k:Nat):Un:=⟨Z7 n u (lvI n k) (ixI n k),.ofNat (u.sl k),Vi n u (lvI n k) (ixI n k),fun w=>nd (nd (Nat.beq (lvI n k) 0) (Nat.blt (Nat.add (Nat.mul 4 (ixI n k)) w) n)) (u.ch (Nat.add 0 (Nat.add (Nat.mul 4 (ixI n k)) w)))⟩
noncomputable def hs0 (n:Nat) (u:Ud) (l j:Nat) (w:Nat):Bool:=nd (Nat.beq l 0) (Nat.blt (Nat.add (Nat.mul 4 j) w) n)
theorem zjO (n:Nat) (u:Ud) (l j:Nat):∀(k i:Nat),(@Nat.rec (fun _=>KV) .te (fun w t=>@Bool.rec (fun _=>KV) t (x6 (.bool (u.ch (Nat.add 0 (Nat.add (Nat.mul 4 j) w)))) (enc w) t) (nd (Nat.beq l 0) (Nat.blt (Nat.add (Nat.mul 4 j) w) n))) k:KV).atv (enc i) (KV.bool false).v=if i < k then (KV.bool (nd (hs0 n u l j i) (u.ch (Nat.add 0 (Nat.add (Nat.mul 4 j) i))))).v else (KV.bool false).v
 | 0,i=>rfl
 | k + 1,i=>by
  have ih:=zjO n u l j k i
  show KV.atv (@Bool.rec (fun _=>KV) _ (x6 _ (enc k) _) (nd (Nat.beq l 0) (Nat.blt (Nat.add (Nat.mul 4 j) k) n))) (enc i) _=_
  cases hb:nd (Nat.beq l 0) (Nat.blt (Nat.add (Nat.mul 4 j) k) n) with
  | false =>
   show KV.atv _ (enc i) _=_
   refine ih.trans ?_
   by_cases h:i < k
   ·rw[if_pos h,if_pos (by omega)]
   ·rw[if_neg h]
    by_cases h2:i < k + 1
    ·rw[if_pos h2]
     obtain rfl:i=k:=by omega
     unfold hs0
     rw[hb]; rfl
    ·rw[if_neg h2]
  | true =>
   show KV.atv (x6 _ (enc k) _) (enc i) _=_
   rw[jm]
   by_cases h:i=k
   ·subst h
    rw[if_pos rfl,if_pos (by omega)]
    unfold hs0
    rw[hb]; rfl
   ·rw[if_neg h]
    refine ih.trans ?_
    by_cases h3:i < k
    ·rw[if_pos h3,if_pos (by omega)]
    ·rw[if_neg h3,if_neg (by omega)]
theorem zjP (n:Nat) (u:Ud) (k:Nat):Imp (zkt n u (Z7 n u) (lvI n k) (ixI n k) k).v (cU n u k).k.v:=by
 refine Imp.cons (Imp.refl _) (Imp.cons ?_ (Imp.cons (Imp.refl _) (Imp.cons ?_ (Imp.refl _))))
 ·show Imp (nI (u.sl (Nat.add 0 k))).v (nI (u.sl k)).v
  rw[qv]; exact Imp.refl _
 ·exact yA fun i hi=>(zjO n u (lvI n k) (ixI n k) 4 i).trans (if_pos hi)
theorem zqj (n:Nat) (u:Ud):Imp (zs9 n u (Z7 n u)).v.v (zfM (zq n) (unK (cU n u))).v.v:=Imp.arr fun i hi=>by
 refine Eq.mpr (congrArg (fun a=>Imp a _) (wu (f:=fun k=>zkt n u (Z7 n u) (lvI n k) (ixI n k) k) (z:=zBT.v) hi)) (zjP n u i)
theorem zcB (y:Un):xQ 0 y.k=true:=by kernel_rfl
theorem zEy {p q:Nat}(h1:p≠1) (h2:q≠1) (h3:p≠q) {b0 b1 b2:KBlk}(e0:lpK b0.k=false) (e1:lpK b1.k=false) (e2:lpK b2.k=false):zo1 [] (qd 1 p q) 3 [(0,b0),(1,b1),(2,b2)]=true:=by
 have q1:Nat.beq 1 p=false:=by
  cases h:Nat.beq 1 p with
  | false=>rfl
  | true=>exact absurd (Nat.eq_of_beq_eq_true h).symm h1
 have q2:Nat.beq 1 q=false:=by
  cases h:Nat.beq 1 q with
  | false=>rfl
  | true=>exact absurd (Nat.eq_of_beq_eq_true h).symm h2
 have q3:Nat.beq p q=false:=by
  cases h:Nat.beq p q with
  | false=>rfl
  | true=>exact absurd (Nat.eq_of_beq_eq_true h) h3
 show nd true (nd (!lpK b0.k) (nd true (nd ((!(Nat.beq 1 p))&&((!(Nat.beq 1 q))&&true)) (nd true (nd (!lpK b1.k) (nd true (nd ((!(Nat.beq p q))&&true) (nd true (nd (!lpK b2.k) (nd true (nd true true)))))))))))=true
 rw[e0,e1,e2,q1,q2,q3]; rfl
attribute [local irreducible] kpre cOf mOf rOf JL zu l5 zi hS zq zQ jP
theorem nm5:Tryz.f5.ntmps=102:=by kernel_rfl
theorem rs5:Tryz.f5.results.toList=rOf 5:=by kernel_rfl
theorem fl5:fl (cOf 5)=l5:=by kernel_rfl
theorem kbZ (y:Un) (b o c:Int):xQ 0 (bx 107 shZ (zK y b o c)).v=true:=by kernel_rfl
theorem zEz {n m p q a:Nat}{c:Nat→Un}{y:Un}{b o z:Int}{w:KBlk}{tr:KTm}{zm:KZ}(h1:p≠1) (h2:q≠1) (h3:p≠q) (hw1:w.k=.row 105) (hw2:w.sh=.arr m Z4) (hi:Imp w.v.v (zfM m (unK c)).v.v)
  (ht:[1,5,7].map (zp tr)=[kU8 a,.ptr 1 [] shZ,.ptr p [] Z5]) (hz:[1,p,q].map (kb zm)=[some (bx 107 shZ (zK y b o z)),some (Wr n m q),some w]):atS (mOf 5) (s5B n m c a y b o z) tr zm :=
 atS.of (s:=s5B n m c a y b o z) [] (qd 1 p q) ht hz (zEy h1 h2 h3 rfl rfl rfl)
  ⟨zC _ rfl,(show RnB (am zm) [] (qd 1 p q) 3 (V.ptr 1 [] shZ) (V.ptr 0 [] shZ) from RnB.ptr rfl (ltk rfl)).v,(show RnB (am zm) [] (qd 1 p q) 3 (V.ptr p [] Z5) (V.ptr 1 [] Z5) from RnB.ptr rfl (ltk rfl)).v,trivial⟩
  ⟨RnK.nf (kbZ y b o z),RnK.mk' rfl rfl (RnB.cons (nfB (v:=nI n) rfl) (RnB.cons (show RnB (am zm) [] (qd 1 p q) 3 (V.row q Z4 m) (V.row 2 Z4 m) from RnB.row rfl (ltk rfl)) (nfB (v:=.nl) rfl))),
   ZY hw1 hw2 hi (RnB.arr fun i hi=>nfB (zcB _)),trivial⟩
theorem zEA {n m w:Nat}{c:Nat→Un}{tr:KTm}{zm:KZ}(ht:[7,8].map (zp tr)=[.ptr 1 [] Z5,nI w]) (hz:[1,2].map (kb zm)=[some (Wr n m 2),some (zfM m (unK c))]):atS (mOf 5) (s5C n m c w) tr zm :=
 atS.of (s:=s5C n m c w) [] (qd 1 2 0) ht hz (by kernel_rfl)
  ⟨(show RnB (am zm) [] (qd 1 2 0) 2 (V.ptr 1 [] Z5) (V.ptr 0 [] Z5) from RnB.ptr rfl (ltk rfl)).v,zC _ rfl,trivial⟩
  ⟨RnK.mk' rfl rfl (RnB.cons (nfB (v:=nI n) rfl) (RnB.cons (show RnB (am zm) [] (qd 1 2 0) 2 (V.row 2 Z4 m) (V.row 1 Z4 m) from RnB.row rfl (ltk rfl)) (nfB (v:=.nl) rfl))),
   RnK.mk' rfl rfl (RnB.arr fun i hi=>nfB (zcB _)),trivial⟩
end
end Go.K
set_option maxRecDepth 100000
namespace Go.K
open Go.Ab Go.RowKit Go.Y Go.Proofs
noncomputable section
attribute [local instance 10000] gO
attribute [local irreducible] kpre cOf mOf rOf JL zu l5 zi hS zq zQ jP
theorem zga (C:Ctx):Keep C (YM C):=⟨fun _ h=>h,fun _ _=>rfl,fun _ _=>rfl,fun u b h=>by
 cases u
 ·exact .inl h
 ·exact .inr h,fun _ _ _=>rfl⟩
theorem zDg (C:Ctx):Keep C.pur (YM C).pur:=⟨fun _ h=>h,fun _ _=>rfl,fun _ _=>rfl,fun u b h=>by
 cases u
 ·exact .inl h
 ·exact .inr h,fun _ _ _=>rfl⟩
theorem zya {C:Ctx}{cl:Bool}{e:Shape}{n:Nat}{f:Nat→V}{m:Ab.M}(h:R C (.ro false cl e n f) m):R (YM C) (.ro true cl e n f) m:=by
 obtain⟨a,c,h1,h2,h3,h4⟩:=h
 refine⟨a,c,h1,h2,h3,h4.imp (fun h=>h) ?_⟩
 rintro⟨b,o,q1,q2,q3⟩
 exact⟨b,o,q1,.inl q2,fun i hi=>R.keep (zDg C) _ _ (q3 i hi)⟩
theorem Y0 {C:Ctx}{n m:Nat}{c:Nat→Un}{md:Ab.M}(h:R C (Zi n m (unK c)).v md):R (YM C) (trK n m c).v md :=
 R.cons_map (fun md=>R.keep (zga C) _ md) (fun md=>R.cons_map (fun md=>zya) (fun md=>R.keep (zga C) _ md)) h
theorem zn5 {f:Nat}(hf:∃ fn,Tryz.prog.funcs[f]?=some fn∧(fn.name == "runtime.NumGoroutine")=false∧fn.body.isNone=false):KCS Tryz.prog f (fun _ _=>False):=⟨hf,fun l K h=>h.elim⟩
section
variable {n m w:Nat}{c:Nat→Un}
theorem VG (l:List KV) (h:xP (mkL (l.map KV.v))=true):xP (mkL ((trK n m c::l).map KV.v))=true:=h
theorem k39 (hT:TrOk0 n m c) (hw:IsChk n m c w):KCS Tryz.prog 39 (XO [Zi n m (unK c)] (nI w)) :=
 zeE zF7 (l':=[trK n m c]) (fun C md=>R.cons_map (fun md=>Y0) (fun md=>R.keep (zga C) _ md)) (VG [] rfl) rfl fun K hK=>⟨(n,m,c,w),rfl,⟨hT,hw⟩,hK⟩
variable {b:Nat}
theorem zF3 (hT:TrOk0 n m c) (hw:IsChk n m c (Nat.succ b)):KCS Tryz.prog 18 (XO [Zi n m (unK c),Xi] (w5a b)) :=
 zeE k18 (l':=[trK n m c,Xi]) (fun C md=>R.cons_map (fun md=>Y0) (fun md=>R.keep (zga C) _ md)) (VG [Xi] rfl) rfl fun K hK=>⟨(n,m,c,b),rfl,⟨hT,hw⟩,hK⟩
theorem zF4 (hT:TrOk0 n m c) (hw:IsChk n m c (Nat.succ b)):KCS Tryz.prog 19 (XO [Zi n m (unK c)] (w5b b)) :=
 zeE k19 (l':=[trK n m c]) (fun C md=>R.cons_map (fun md=>Y0) (fun md=>R.keep (zga C) _ md)) (VG [] rfl) rfl fun K hK=>⟨(n,m,c,b),rfl,⟨hT,hw⟩,hK⟩
theorem zF5 (hT:TrOk0 n m c) (hw:IsChk n m c (Nat.succ b)):KCS Tryz.prog 32 (XO [Zi n m (unK c),J2,nI 0,Zr,zfN] (w5c b)) :=
 zeE k32 (l':=[trK n m c,J2,nI 0,Zr,zfN]) (fun C md=>R.cons_map (fun md=>Y0) (fun md=>R.keep (zga C) _ md)) (VG [J2,nI 0,Zr,zfN] rfl) rfl fun K hK=>⟨(n,m,c,b),rfl,⟨hT,hw⟩,hK⟩
theorem zn6 (m:Nat) (c:Nat→Un):Ws m (unK c)=true:=by
 unfold Ws
 rw[za]
 exact⟨XK.2 fun i _=>zcB (c i),Nat.ble_eq_true_of_le (Nat.le_refl m)⟩
theorem zn7 {u:Ud}{p:Prop}(h:p):∀ k,chn n u p k
 | 0=>h
 | k + 1=>⟨rfl,rfl,zn7 h k⟩
end
section
variable {x:Sd}{a:Nat}{y:Un}{b o c:Int}
theorem j5 (h22:KCS Tryz.prog 22 (xL [] (.bool true))) (hx:preS x) (ha:a < 256) (hy1:y.nd.wl) (hy2:y.nd.wb):JFn Tryz.prog 5 false (a5 x a y b o c) (.bool true):=by
 have H:=zrR hx
 generalize hn:nM x.t=n at H
 generalize hu:zgg x=u at H
 have hn24:=H.n24
 obtain⟨n1,n2⟩:=xc hn24
 have h9:=yD hn24
 have ht1:0 < zq n:=by unfold zq; exact Nat.succ_pos _
 let c':Nat→Un:=fun j=>if j=a % zq n then y else cU n u j
 have hc':unK c'=zpX (zq n) (cU n u) a y:=funext fun j=>by
  show (if j=a % zq n then y else cU n u j).k=ifN j (a % zq n) y.k (cU n u j).k
  rw[w3]
  split<;>rfl
 have hr:∀ i,i < n→(u.rc i).tg.length=32∧(u.rc i).wb:=fun i hi=>⟨H.wl i hi,H.wb i hi⟩
 have hT:TrOk0 n (zq n) c':=⟨hn24,rfl,fun i hi=>by
  show (if i=a % zq n then y else cU n u i).nd.wl
  split
  ·exact hy1
  ·exact (Yy hn24 hr _ _ (zsT hn24 hi)).1,fun i hi=>by
  show (if i=a % zq n then y else cU n u i).nd.wb
  split
  ·exact hy2
  ·exact (Yy hn24 hr _ _ (zsT hn24 hi)).2.1⟩
 obtain⟨w,hw⟩:=zwG n (zq n) c' hn24
 have main:∀(s18 s19 s32:zg),KCS Tryz.prog 18 s18→KCS Tryz.prog 19 s19→KCS Tryz.prog 32 s32 →
   (∀ B N,102≤N→KOk (E5 x n u (Z7 n u) (XO [Zi n (zq n) (unK c')] (nI w)) s18 s19 s32)→JL (E5 x n u (Z7 n u) (XO [Zi n (zq n) (unK c')] (nI w)) s18 s19 s32) B N (mOf 5) (l5.drop 4) (vE (s5C n (zq n) c' w).1) (vZ (s5C n (zq n) c' w).2.1) (s5C n (zq n) c' w).2.2 (retJ (E5 x n u (Z7 n u) (XO [Zi n (zq n) (unK c')] (nI w)) s18 s19 s32) Tryz.f5 false (.bool true)))→JFn Tryz.prog 5 false (a5 x a y b o c) (.bool true):=by
  intro s18 s19 s32 e18 e19 e32 rest
  have hE:=ok5 hx hn hu H h22 (k39 hT hw) e18 e19 e32
  refine JFn.of (P:=Tryz.prog) hE rfl (c:=cOf 5) (mOf 5) Tryz.func5 (by kernel_rfl) fun B N hN=>?_
  rw[nm5] at hN
  rw[fl5]
  refine JL.stp (n:=60) (s:=(vy (mOf 5) 0 (a5 x a y b o c),[],0)) hE rfl 2 (rOf 5) [1,5,7] [1,Nat.add 5 (Nat.mul 3 (zq n)),Nat.add 4 (Nat.mul 3 (zq n))] hN (by kernel_rfl) (by kernel_rfl) (fun v=>False) (fun v tr zm nx h1 h2 h3 h4=>h1.elim) ?_
  refine Eq.mpr (p5A hn24 x u (Z7 n u) (XO [Zi n (zq n) (unK c')] (nI w)) s18 s19 s32 a y b o c _ _) ?_
  refine⟨rfl,rfl,zn7 ?_ _⟩
  intro tr zm ht hz hmb hi
  have hp1:Nat.add 5 (Nat.mul 3 (zq n))=5 + 3 * zq n:=rfl
  have hp2:Nat.add 4 (Nat.mul 3 (zq n))=4 + 3 * zq n:=rfl
  refine JL.preS hE (zEz (c:=cU n u) (by rw[hp1]; omega) (by rw[hp2]; omega) (by rw[hp1,hp2]; omega) rfl rfl (zqj n u) ht hz) (vS (by kernel_rfl)) ?_
  refine JL.stp (n:=60) hE rfl 2 (rOf 5) [7,8] [1,2] hN (by kernel_rfl) (by kernel_rfl) (fun v=>False) (fun v tr zm nx h1 h2 h3 h4=>h1.elim) ?_
  show c5B x n u (Z7 n u) s18 s19 s32 [Zi n (zq n) (unK c')] n (zq n) (cU n u) a y b o c w _ _
  rw[e5B,←hc']
  refine ze.2 ⟨xB.2 (by omega),ze.2 ⟨?_,ze.2 ⟨vm.2 (Nat.mod_lt _ ht1),zo.2 ⟨fun _=>⟨rfl,?_⟩,fun h=>?_⟩⟩⟩⟩
  ·unfold neB
   rw[jx]
   simp
   omega
  ·intro tr zm ht hz hmb hi
   show JL _ B N (mOf 5) ((l5.drop 2).drop 2) tr zm 3 _
   rw[List.drop_drop]
   exact JL.preS hE (zEA ht hz) (vS (by kernel_rfl)) (rest B N hN hE)
  ·rw[zn6] at h; cases h
 cases w with
 | zero =>
  refine main (fun _ _=>False) (fun _ _=>False) (fun _ _=>False) (zn5 k18.1) (zn5 k19.1) (zn5 k32.1) fun B N hN hE=>?_
  refine JL.all (n:=60) hE rfl (rOf 5) [] [] hN (by kernel_rfl) (by kernel_rfl) (fun v=>v=.bool true) (fun v tr zm nx h1 h2 h3 h4=>by subst h1; exact retJ.mk rfl rs5 (FzP.noref rfl) h4) ?_
  show c5Z x n u (Z7 n u) _ _ _ _ n (zq n) c' _ _
  rw[e5Z]
 | succ b =>
  refine main _ _ _ (zF3 hT hw) (zF4 hT hw) (zF5 hT hw) fun B N hN hE=>?_
  refine JL.all (n:=60) hE rfl (rOf 5) [] [] hN (by kernel_rfl) (by kernel_rfl) (fun v=>v=.bool true) (fun v tr zm nx h1 h2 h3 h4=>by subst h1; exact retJ.mk rfl rs5 (FzP.noref rfl) h4) ?_
  show c5S x n u (Z7 n u) _ (Zi n (zq n) (unK c')) n (zq n) c' b _ _
  rw[e5S]
  have hl:=zn6 (zq n) c'
  have he:eqI (.ofNat (Nat.succ b)) (.ofNat (Nat.succ b))=true:=zaX.2 rfl
  rw[hl,he]
  exact⟨rfl,rfl,rfl,rfl⟩
end
end
end Go.K
