/- The compressions as contracts of the run, joined. No condition. -/
import Derived.Test.YtkllahedaiddgaaGreatDoorYL0
import Derived.Test.YtkllahedaiddgaaGreatDoorK28
import Derived.Test.YtkllahedaiddgaaGreatDoorKL0
set_option linter.unusedSimpArgs false
set_option linter.unusedVariables false
set_option maxRecDepth 100000
namespace Go.K
open Go.Ab Go.RowKit Go.Y Go.Proofs
noncomputable section
attribute [local instance 10000] gO
noncomputable def kcO (n:Nat):Code:=match Tryz.prog.funcs[n]? with
 | some fn=>match fn.body with
  | some c=>c
  | none=>.skip
 | none=>.skip
noncomputable def krO (n:Nat):List ResultVar:=match Tryz.prog.funcs[n]? with
 | some fn=>fn.results.toList
 | none=>[]
noncomputable def kmO (n:Nat):Nat:=zeM.getD n 0
abbrev KQ:=Exit→List KV→List (Option KBlk)→Nat→Prop
noncomputable def kpc (E:KEnv) (f:Nat) (l:List Code) (lt li:List Nat) (s:LS) (Q:KQ) (R:KV→Prop):Prop:=kpre E 60 (kmO f) l (vo s.1) (vO s.2.1) s.2.2 0 (zfh Tryz.prog (krO f) lt li Q fun v _ _=>R v)
noncomputable def f32 (n:Nat) (f:Nat→Nat):KV:=.fa n fun i=>.int .u32 (.ofNat (f i))
noncomputable def f8 (n:Nat) (f:Nat→Nat):KV:=.fa n fun i=>.int .u8 (.ofNat (f i))
noncomputable def bW (t n:Nat) (v:KV):KBlk:=⟨.box t,.arr n .sc,v⟩
noncomputable def zt (id n:Nat):KV:=.ptr id [] (.arr n .sc)
noncomputable def lpc (c:Code):List Code:=fl (lpB (blB c))
noncomputable def lsP (n:Nat) (f:Nat→Prop):List Prop:=@Nat.rec (fun _=>Nat→List Prop) (fun _=>[]) (fun _ ih i=>f i::ih (Nat.succ i)) n 0
theorem Yu {f:Nat→Prop}:∀ {n a i:Nat},i < n→(@Nat.rec (fun _=>Nat→List Prop) (fun _=>[]) (fun _ ih i=>f i::ih (Nat.succ i)) n a:List Prop).getD i True=f (a + i)
 | n + 1,a,0,h=>rfl
 | n + 1,a,i + 1,h=>(Yu (n:=n) (a:=Nat.succ a) (i:=i) (by omega)).trans (by rw[show Nat.succ a + i=a + (i + 1) by omega])
theorem zlc {n:Nat}{f g:Nat→Prop}(h:lsP n f=lsP n g) {i:Nat}(hi:i < n):f i=g i:=by
 have h1:=congrArg (fun l=>l.getD i True) h
 have h2:(lsP n f).getD i True=f (0 + i):=Yu hi
 have h3:(lsP n g).getD i True=g (0 + i):=Yu hi
 rw[Nat.zero_add] at h2 h3
 exact h2.symm.trans (h1.trans h3)
noncomputable def Z3:List Code:=fl (kcO 298)
noncomputable def zqP:KBlk:=bW 329 64 (.ar 64 (.int .u32 (.ofNat 0)) .te)
noncomputable def zbh (w:Nat→Nat) (t x:Nat):KBlk:=bW 329 64 (.fa 64 fun j=>ifN j t (.int .u32 (.ofNat x)) (.int .u32 (.ofNat (w j))))
noncomputable def kA (k:IntKind) (n:Nat) (f:Nat→Nat):KV:=.ar n (.int k (.ofNat 0)) (@Nat.rec (fun _=>KV) .te (fun i t=>xk (.int k (.ofNat (f i))) (enc i) t) n)
theorem QY {k:IntKind}{f:Nat→Nat}{z:V}:∀ {n i:Nat},i < n→KV.atv (@Nat.rec (fun _=>KV) .te (fun i t=>xk (.int k (.ofNat (f i))) (enc i) t) n) (enc i) z=wV k (f i)
 | 0,i,h=>absurd h (by omega)
 | n + 1,i,h=>by
  show (xk (.int k (.ofNat (f n))) (enc n) (@Nat.rec (fun _=>KV) .te (fun i t=>xk (.int k (.ofNat (f i))) (enc i) t) n)).atv (enc i) z=_
  rw[vX]
  by_cases e:i=n
  ·rw[if_pos e,e]; rfl
  ·rw[if_neg e]; exact QY (by omega)
theorem Yl {k:IntKind}{n:Nat}{f:Nat→Nat}{g:Nat→V}(h:∀ i,i < n→g i=wV k (f i)):Imp (.arr n g) (kA k n f).v:=Imp.arrE fun i hi=>by rw[h i hi]; exact (QY hi).symm
theorem zjh {k:IntKind}{n:Nat}{f:Nat→Nat}{g:Nat→V}(h:∀ i,i < n→wV k (f i)=g i):Imp (kA k n f).v (.arr n g):=Imp.arrE fun i hi=>(QY hi).trans (h i hi)
theorem ZX {k:IntKind}{n:Nat}{f g:Nat→Nat}(h:∀ i,i < n→f i=g i):Imp (kA k n f).v (kA k n g).v:=Imp.arrE fun i hi=>(QY hi).trans ((congrArg (wV k) (h i hi)).trans (QY hi).symm)
theorem zs1 {k:IntKind}{n:Nat}{f g:Nat→Nat}(h:∀ i,i < n→f i=g i):Imp (KV.fa n fun i=>.int k (.ofNat (f i))).v (kA k n g).v:=Yl (g:=fun i=>wV k (f i)) fun i hi=>congrArg (wV k) (h i hi)
theorem FzP.imp {zm:KZ}{v w:KV}(hn:xi v.v=true) (h:Imp v.v w.v):FzP false zm v w:=fun B C M _ _ m hr=>h _ _ (R.noref _ hn hr)
section
variable {F:List Nat}{ρ:Nat→Nat}{nx:Nat}{zm:KZ}
theorem xB {μ:Mem}{n2 b:Nat}{s:Shape}(h:b < n2):RnV μ [] id n2 (KV.ptr b [] s).v (KV.ptr b [] s).v:=(RnB.ptr rfl h).v
theorem vm {μ:Mem}{n2:Nat}(v:KV) (h:xw 0 v=true):RnV μ [] id n2 v.v v.v:=(RnF.nf (jT 0 v h).1).b.v
theorem qZ {b1 b:KBlk}(h1:b1.k=b.k) (h2:b1.sh=b.sh) (hi:Imp b1.v.v b.v.v) (hw:RnB (am zm) F ρ nx b.v.v b.v.v):RnK F ρ nx zm (some b1) b:=RnK.mk' h1 h2 fun B H C M q1 q2 q3 m hm=>hw B H C M q1 q2 q3 m (hi C m hm)
theorem Zc {n:Nat}{f:Nat→Nat}:RnB (am zm) F ρ nx (f32 n f).v (f32 n f).v:=RnB.arr fun i hi=>nfB (v:=.int .u32 (.ofNat (f i))) rfl
end
noncomputable def za6 (b:Nat→Nat):KBlk:=bW 374 64 (kA .u8 64 b)
noncomputable def Ym (b w:Nat→Nat) (t:Nat):LS:=([(1,zt 0 64),(2,zt 1 64),(9,nI t)],[(0,za6 b),(1,bW 329 64 (f32 64 w))],2)
noncomputable def zs2 (b:Nat→Nat) (Q:KQ) (R:KV→Prop):Prop:=kpc EO0 298 (Z3.take 2) [1,2,9] [0,1] (xd (kmO 298) 0 [kA .u8 64 b],[],0) Q R
theorem zDk (b:Nat→Nat) (Q:KQ) (R:KV→Prop):zs2 b Q R=Q .normal [zt 0 64,zt 1 64,nI 0] [some (za6 b),some zqP] 2:=by kernel_rfl
noncomputable def zji (b w:Nat→Nat) (t:Nat) (Q:KQ) (R:KV→Prop):Prop:=kpc EO0 298 (lpc (Z3.getD 2 .skip)) [1,2,9] [0,1] (Ym b w t) Q R
theorem zDl (b w:Nat→Nat) (Q:KQ) (R:KV→Prop):lsP 16 (fun t=>zji b w t Q R)=lsP 16 (fun t=>Q .normal [zt 0 64,zt 1 64,nI (Nat.add t 1)] [some (za6 b),some (zbh w t (S.load32 b t))] 2):=by kernel_rfl
theorem zxa (b w:Nat→Nat) (Q:KQ) (R:KV→Prop):zji b w 16 Q R=Q (.exit 0) [zt 0 64,zt 1 64,nI 16] [some (za6 b),some (bW 329 64 (f32 64 w))] 2:=by kernel_rfl
noncomputable def QZ (w:Nat→Nat) (t:Nat):LS:=([(2,zt 0 64),(4,nI t)],[(0,bW 329 64 (f32 64 w))],1)
noncomputable def zs3 (b w:Nat→Nat) (Q:KQ) (R:KV→Prop):Prop:=kpc EO0 298 ((Z3.drop 3).take 1) [2,4] [1] (Ym b w 16) Q R
theorem zDm (b w:Nat→Nat) (Q:KQ) (R:KV→Prop):zs3 b w Q R=Q .normal [zt 1 64,nI 16] [some (bW 329 64 (f32 64 w))] 2:=by kernel_rfl
noncomputable def zeu (w:Nat→Nat) (t:Nat) (Q:KQ) (R:KV→Prop):Prop:=kpc EO0 298 (lpc (Z3.getD 4 .skip)) [2,4] [0] (QZ w t) Q R
theorem zDn (w:Nat→Nat) (Q:KQ) (R:KV→Prop):lsP 48 (fun k=>zeu w (Nat.add 16 k) Q R)=lsP 48 (fun k=>Q .normal [zt 0 64,nI (Nat.add (Nat.add 16 k) 1)] [some (zbh w (Nat.add 16 k) (S.nextW (w (Nat.add 1 k)) (w (Nat.add 14 k)) (w (Nat.add 9 k)) (w k)))] 1):=by kernel_rfl
theorem zxb (w:Nat→Nat) (Q:KQ) (R:KV→Prop) {k:Nat}(hk:k < 48):zeu w (Nat.add 16 k) Q R=Q .normal [zt 0 64,nI (Nat.add (Nat.add 16 k) 1)] [some (zbh w (Nat.add 16 k) (S.nextW (w (Nat.add 1 k)) (w (Nat.add 14 k)) (w (Nat.add 9 k)) (w k)))] 1:=zlc (zDn w Q R) hk
theorem zxc (w:Nat→Nat) (Q:KQ) (R:KV→Prop):zeu w 64 Q R=Q (.exit 2) [zt 0 64,nI 64] [some (bW 329 64 (f32 64 w))] 1:=by kernel_rfl
noncomputable def zjj (w:Nat→Nat):LS:=([(2,zt 0 64)],[(0,bW 329 64 (kA .u32 64 w))],1)
noncomputable def zs4 (w:Nat→Nat) (Q:KQ) (R:KV→Prop):Prop:=kpc EO0 298 (Z3.drop 5) [] [] (zjj w) Q R
theorem zDo (w:Nat→Nat) (Q:KQ) (R:KV→Prop):zs4 w Q R=R (kA .u32 64 w):=by kernel_rfl
attribute [local irreducible] kpre kcO kmO krO JL zp Z3 S.nextW S.load32
theorem zDp:Tryz.f298.ntmps=72:=by kernel_rfl
theorem zDq:Tryz.f298.results.toList=krO 298:=by kernel_rfl
theorem zDr:fl (kcO 298)=Z3:=by kernel_rfl
theorem zjk (b:Nat→Nat):xw 0 (za6 b).v=true:=by kernel_rfl
theorem zjl {w w':Nat→Nat}{t x:Nat}(h:∀ j,j < 64→w' j=if j=t then x else w j):Imp (zbh w t x).v.v (f32 64 w').v:=Imp.arr fun j hj=>by
 show Imp (ifN j t (.int .u32 (.ofNat x)) (.int .u32 (.ofNat (w j)))).v (KV.int .u32 (.ofNat (w' j))).v
 rw[wM,h j hj]
 split<;>exact Imp.refl _
section
variable {b w w':Nat→Nat}{t x:Nat}{tr:KTm}{zm:KZ}
theorem zxd (ht:[1,2,9].map (zn tr)=[zt 0 64,zt 1 64,nI 0]) (hz:[0,1].map (kb zm)=[some (za6 b),some zqP]):atS (kmO 298) (Ym b (fun _=>0) 0) tr zm :=
 atS.of (s:=Ym b (fun _=>0) 0) [] id ht hz (by kernel_rfl) ⟨xB (ltk rfl),xB (ltk rfl),vm _ rfl,trivial⟩ ⟨RnK.nf (zjk b),qZ rfl rfl (Imp.arrE fun i hi=>rfl) Zc,trivial⟩
theorem zDs (h:∀ j,j < 64→w' j=if j=t then x else w j) (ht:[1,2,9].map (zn tr)=[zt 0 64,zt 1 64,nI (Nat.add t 1)]) (hz:[0,1].map (kb zm)=[some (za6 b),some (zbh w t x)]):atS (kmO 298) (Ym b w' (t + 1)) tr zm :=
 atS.of (s:=Ym b w' (t + 1)) [] id ht hz (by kernel_rfl) ⟨xB (ltk rfl),xB (ltk rfl),vm _ rfl,trivial⟩ ⟨RnK.nf (zjk b),qZ rfl rfl (zjl h) Zc,trivial⟩
theorem zxe (ht:[1,2,9].map (zn tr)=[zt 0 64,zt 1 64,nI 16]) (hz:[0,1].map (kb zm)=[some (za6 b),some (bW 329 64 (f32 64 w))]):atS (kmO 298) (Ym b w 16) tr zm :=
 atS.of (s:=Ym b w 16) [] id ht hz (by kernel_rfl) ⟨xB (ltk rfl),xB (ltk rfl),vm _ rfl,trivial⟩ ⟨RnK.nf (zjk b),RnK.mk' rfl rfl Zc,trivial⟩
theorem zxf (ht:[2,4].map (zn tr)=[zt 1 64,nI 16]) (hz:[1].map (kb zm)=[some (bW 329 64 (f32 64 w))]):atS (kmO 298) (QZ w 16) tr zm :=
 atS.of (s:=QZ w 16) [] (fun _=>1) ht hz (by kernel_rfl) ⟨(show RnB (am zm) [] (fun _=>1) 1 (V.ptr 1 [] (.arr 64 .sc)) (V.ptr 0 [] (.arr 64 .sc)) from RnB.ptr rfl (ltk rfl)).v,(nfB (v:=nI 16) rfl).v,trivial⟩ ⟨RnK.mk' rfl rfl Zc,trivial⟩
theorem zxg (h:∀ j,j < 64→w' j=if j=t then x else w j) (ht:[2,4].map (zn tr)=[zt 0 64,nI (Nat.add t 1)]) (hz:[0].map (kb zm)=[some (zbh w t x)]):atS (kmO 298) (QZ w' (t + 1)) tr zm :=
 atS.of (s:=QZ w' (t + 1)) [] id ht hz (by kernel_rfl) ⟨xB (ltk rfl),vm _ rfl,trivial⟩ ⟨qZ rfl rfl (zjl h) Zc,trivial⟩
theorem zDt {F:List Nat}{ρ:Nat→Nat}{nx:Nat}{k:IntKind}{n:Nat}{f:Nat→Nat}:RnB (am zm) F ρ nx (kA k n f).v (kA k n f).v:=RnB.arr fun i hi=>by
 show RnB (am zm) F ρ nx (KV.atv _ (enc i) _) (KV.atv _ (enc i) _)
 rw[QY hi]
 exact nfB (v:=.int k (.ofNat (f i))) rfl
theorem zxh (h:∀ j,j < 64→w j=w' j) (ht:[2,4].map (zn tr)=[zt 0 64,nI 64]) (hz:[0].map (kb zm)=[some (bW 329 64 (f32 64 w))]):atS (kmO 298) (zjj w') tr zm:=by
 have h2:[2].map (zn tr)=[zt 0 64]:=congrArg (fun l=>l.take 1) ht
 exact atS.of (s:=zjj w') [] id h2 hz (by kernel_rfl) ⟨xB (ltk rfl),trivial⟩ ⟨qZ rfl rfl (zs1 h) zDt,trivial⟩
end
theorem Yn (j t a b:Nat):(bif j==t then a else b)=if j=t then a else b:=by
 by_cases e:j=t
 ·rw[if_pos e,show (j==t)=true by simpa using e]; rfl
 ·rw[if_neg e,show (j==t)=false by simpa using e]; rfl
theorem zHZ (b:Nat→Nat):JFn Tryz.prog 298 false [kA .u8 64 b] (kA .u32 64 (S.sched b)):=by
 refine JFn.of (P:=Tryz.prog) zI rfl (c:=kcO 298) (kmO 298) Tryz.func298 (by kernel_rfl) fun B N hN=>?_
 rw[zDp] at hN
 rw[zDr]
 refine JL.stp (n:=60) (s:=(xd (kmO 298) 0 [kA .u8 64 b],[],0)) zI rfl 2 (krO 298) [1,2,9] [0,1] hN (by kernel_rfl) (by kernel_rfl) (fun v=>False) (fun v tr zm nx h1 h2 h3 h4=>h1.elim) ?_
 show zs2 b _ _
 rw[zDk]
 intro tr zm ht hz hmb hi
 refine JL.loopT zI (fun t=>Ym b (S.wS b t) t) (fun t=>16 - t) (fun t=>t≤16) (id:=0) (b:=lpB (blB (Z3.getD 2 .skip))) (l2:=Z3.drop 3) (by kernel_rfl) (fun t=>by kernel_rfl) 0 (Nat.zero_le _) (zxd ht hz) hmb hi ?_
 intro t ht16
 refine JL.all (n:=60) zI rfl (krO 298) [1,2,9] [0,1] hN (by kernel_rfl) (by kernel_rfl) (fun v=>False) (fun v tr zm nx h1 h2 h3 h4=>h1.elim) ?_
 show zji b (S.wS b t) t _ _
 rcases Nat.lt_or_ge t 16 with h | h
 ·rw[zlc (zDl b (S.wS b t) _ _) h]
  intro tr zm ht hz hmb hi
  refine⟨t + 1,by omega,by omega,zDs (fun j hj=>?_) ht hz⟩
  rw[S.wS_lo b t h]
  exact Yn _ _ _ _
 ·obtain rfl:t=16:=by omega
  rw[zxa]
  intro tr zm ht hz hmb hi
  show (if (0:Nat)=0 then JL EO0 B N (kmO 298) (Z3.drop 3) tr zm 2 _ else _)
  rw[if_pos rfl]
  refine JL.preS zI (zxe ht hz) (xL (by kernel_rfl)) ?_
  refine JL.stp (n:=60) zI rfl 1 (krO 298) [2,4] [1] hN (by kernel_rfl) (by kernel_rfl) (fun v=>False) (fun v tr zm nx h1 h2 h3 h4=>h1.elim) ?_
  show zs3 b (S.wS b 16) _ _
  rw[zDm]
  intro tr zm ht hz hmb hi
  show JL EO0 B N (kmO 298) ((Z3.drop 3).drop 1) tr zm 2 _
  rw[List.drop_drop]
  refine JL.loopT zI (fun t=>QZ (S.wS b t) t) (fun t=>64 - t) (fun t=>16≤t∧t≤64) (id:=2) (b:=lpB (blB (Z3.getD 4 .skip))) (l2:=Z3.drop 5) (by kernel_rfl) (fun t=>by kernel_rfl) 16 ⟨by omega,by omega⟩ (zxf ht hz) hmb hi ?_
  rintro t ⟨ha,hb⟩
  refine JL.all (n:=60) zI rfl (krO 298) [2,4] [0] hN (by kernel_rfl) (by kernel_rfl) (fun v=>False) (fun v tr zm nx h1 h2 h3 h4=>h1.elim) ?_
  show zeu (S.wS b t) t _ _
  rcases Nat.lt_or_ge t 64 with h | h
  ·obtain⟨k,rfl⟩:∃ k,t=Nat.add 16 k:=⟨t - 16,by show t=16 + (t - 16); omega⟩
   have hk:k < 48:=by have h':16 + k < 64:=h; omega
   rw[zxb _ _ _ hk]
   intro tr zm ht hz hmb hi
   refine⟨Nat.add 16 k + 1,by omega,by omega,zxg (fun j hj=>?_) ht hz⟩
   rw[S.wS_hi b (Nat.add 16 k) ha]
   have e1:Nat.add 16 k - 15=Nat.add 1 k:=by show 16 + k - 15=1 + k; omega
   have e2:Nat.add 16 k - 2=Nat.add 14 k:=by show 16 + k - 2=14 + k; omega
   have e3:Nat.add 16 k - 7=Nat.add 9 k:=by show 16 + k - 7=9 + k; omega
   have e4:Nat.add 16 k - 16=k:=by show 16 + k - 16=k; omega
   rw[e1,e2,e3,e4]
   exact Yn _ _ _ _
  ·obtain rfl:t=64:=by omega
   rw[zxc]
   intro tr zm ht hz hmb hi
   show (if (2:Nat)=2 then JL EO0 B N (kmO 298) (Z3.drop 5) tr zm 1 _ else _)
   rw[if_pos rfl]
   refine JL.preS zI (zxh (w':=S.sched b) (fun j hj=>S.wS_sched b j hj) ht hz) (xL (by kernel_rfl)) ?_
   refine JL.all (n:=60) zI rfl (krO 298) [] [] hN (by kernel_rfl) (by kernel_rfl) (fun v=>v=kA .u32 64 (S.sched b)) (fun v tr zm nx h1 h2 h3 h4=>by subst h1; exact retJ.mk rfl zDq (FzP.noref (by kernel_rfl)) h4) ?_
   show zs4 (S.sched b) _ _
   rw[zDo]
noncomputable def zDu:zf:=vp (fun b:Nat→Nat=>[kA .u8 64 b]) (fun _=>True) fun b=>kA .u32 64 (S.sched b)
theorem zH0:KCS Tryz.prog 298 zDu:=vV ⟨Tryz.f298,Tryz.func298,by kernel_rfl,by kernel_rfl⟩ fun b _=>zHZ b
end
end Go.K
set_option maxRecDepth 100000
namespace Go.K
open Go.Ab Go.RowKit Go.Y Go.Proofs
noncomputable section
attribute [local instance 10000] gO
def pwL:List Nat:=[1,2,4,8,16,32,64,128,256,512,1024,2048,4096,8192,16384,32768,65536,131072,262144,524288,1048576,2097152,4194304,8388608,16777216,33554432,67108864,134217728,268435456,536870912,1073741824,2147483648,4294967296]
noncomputable def zyZ (n x:Nat):Nat:=S.rot x (pwL.getD (Nat.sub 32 n) 0) (pwL.getD n 0)
noncomputable def zy0 (n x:Nat):Nat:=R.rot x (pwL.getD (Nat.sub 32 n) 0) (pwL.getD n 0)
noncomputable def zFm (x:KV) (f:Nat→Prop):Prop:=xm (fun k a=>chk (xn k .u32) 300 (@Int.rec (fun _=>Prop) (fun n=>f n) (fun _=>BadN 301) a)) (BadN 302) x
theorem zy1 {x:KV}{f:Nat→Prop}(h:zFm x f):∃ n,x=.int .u32 (.ofNat n)∧f n:=by
 rcases zF h with ⟨k,a,rfl,h1⟩ | ⟨_,h1⟩
 ·obtain⟨h2,h3⟩:=ze h1
  obtain rfl:=zJ h2
  cases a with
  | ofNat n=>exact⟨n,rfl,h3⟩
  | negSucc n=>exact (show BadN 301 from h3).elim
 ·exact h1.elim
noncomputable def kl2 (l:List KV) (f:KV→KV→Prop):Prop:=match l with
 | [a,b]=>f a b
 | _=>False
theorem zFn {l:List KV}{f:KV→KV→Prop}(h:kl2 l f):∃ a b,l=[a,b]∧f a b:=by
 unfold kl2 at h
 split at h
 ·exact⟨_,_,rfl,h⟩
 ·exact h.elim
def JF:List Nat:=[2,6,7,11,13,17,18,19,22,25]
noncomputable def zbm (g:Nat→Nat→Nat):zf:=fun l K=>kl2 l fun a b=>zFm a fun x=>z9 b fun n=>cnd (JF.any (Nat.beq n)) (K (.int .u32 (.ofNat (g n x))))
noncomputable def zJl (x n:Nat) (K:KV→Prop):Prop:=zk EO0 (zp EO0 60) 0 299 [.int .u32 (.ofNat x),nI n] .e 0 0 fun r _ _ _=>K r
noncomputable def zJm (x n:Nat) (K:KV→Prop):Prop:=zk EO0 (zp EO0 60) 0 246 [.int .u32 (.ofNat x),nI n] .e 0 0 fun r _ _ _=>K r
theorem w6 {l:List Nat}{f g:Nat→Prop}(h:l.map f=l.map g) {n:Nat}(hn:n∈l):f n=g n:=List.map_inj_left.1 h n hn
theorem zJn (x:Nat) (K:KV→Prop):JF.map (fun n=>zJl x n K)=JF.map (fun n=>K (.int .u32 (.ofNat (zyZ n x)))):=by kernel_rfl
theorem zJo (x:Nat) (K:KV→Prop):JF.map (fun n=>zJm x n K)=JF.map (fun n=>K (.int .u32 (.ofNat (zy0 n x)))):=by kernel_rfl
theorem zFo {f:Nat}{g:Nat→Nat→Nat}(hf:∃ fn,Tryz.prog.funcs[f]?=some fn∧(fn.name == "runtime.NumGoroutine")=false∧fn.body.isNone=false)
  (h:∀ x n (K:KV→Prop),n∈JF→zk EO0 (zp EO0 60) 0 f [.int .u32 (.ofNat x),nI n] .e 0 0 (fun r _ _ _=>K r)=K (.int .u32 (.ofNat (g n x)))):KCS Tryz.prog f (zbm g):=jV hf fun l K hs=>by
 obtain⟨a,b,rfl,h1⟩:=zFn hs
 obtain⟨x,rfl,h2⟩:=zy1 h1
 obtain⟨n,rfl,h3⟩:=zu h2
 obtain⟨h4,h5⟩:=zd.1 h3
 have hn:n∈JF:=by
  obtain⟨y,h6,h7⟩:=List.any_eq_true.1 h4
  rw[Nat.eq_of_beq_eq_true h7]; exact h6
 exact⟨EO0,zI,rfl,60,fun r=>r=.int .u32 (.ofNat (g n x)),_,h5,rfl,fun r hr=>by rw[hr]; exact Imp.refl _,Eq.mpr (h x n _ hn) rfl⟩
theorem zq9:KCS Tryz.prog 299 (zbm zyZ):=zFo ⟨Tryz.f299,Tryz.func299,by kernel_rfl,by kernel_rfl⟩ fun x n K hn=>w6 (zJn x K) hn
theorem zra:KCS Tryz.prog 246 (zbm zy0):=zFo ⟨Tryz.f246,Tryz.func246,by kernel_rfl,by kernel_rfl⟩ fun x n K hn=>w6 (zJo x K) hn
noncomputable def wm:KEnv:=EO0.tab [(298,zDu),(299,zbm zyZ)]
theorem jF:KOk wm:=zI.tab ⟨zH0,zq9,trivial⟩
noncomputable def yx:List Code:=fl (kcO 276)
noncomputable def b8K (f:Nat→Nat):KBlk:=bW 330 8 (kA .u32 8 f)
noncomputable def z8K:KBlk:=bW 330 8 (.ar 8 (.int .u32 (.ofNat 0)) .te)
noncomputable def zne:KV:=zlt
noncomputable def zde (t:Nat):List KV:=[zt 0 8,zt 1 8,zt 2 64,zt 3 8,zne,nI t]
noncomputable def Z8 (h w:Nat→Nat) (s:S.St) (t:Nat):LS:=([(2,zt 0 8),(4,zt 1 8),(5,zt 2 64),(6,zt 3 8),(17,zne),(18,nI t)],[(0,b8K h),(1,z8K),(2,bW 329 64 (kA .u32 64 w)),(3,b8K s.get)],4)
noncomputable def ztH (h b:Nat→Nat) (Q:KQ) (R:KV→Prop):Prop:=kpc wm 276 (yx.take 4) [2,4,5,6,17,18] [0,2,3,4] (xd (kmO 276) 0 [kA .u32 8 h,kA .u8 64 b],[],0) Q R
theorem zFW (h b:Nat→Nat) (Q:KQ) (R:KV→Prop):ztH h b Q R=∃ x:Nat→Nat,[kA .u8 64 b]=[kA .u8 64 x]∧True∧Q .normal [zt 0 8,zt 2 8,zt 3 64,zt 4 8,zne,nI 0] [some (b8K h),some z8K,some (bW 329 64 (kA .u32 64 (S.sched x))),some (b8K h)] 5:=by kernel_rfl
noncomputable def lN (l:List Nat) (i:Nat):Nat:=@List.rec Nat (fun _=>Nat→Nat) (fun _=>0) (fun x _ ih i=>@Nat.rec (fun _=>Nat) x (fun j _=>ih j) i) l i
def X4:List Nat:=[0,1,2,3,4,5,6,7,8,9,10,11,12,13,14,15,16,17,18,19,20,21,22,23,24,25,26,27,28,29,30,31,32,33,34,35,36,37,38,39,40,41,42,43,44,45,46,47,48,49,50,51,52,53,54,55,56,57,58,59,60,61,62,63]
def ns8:List Nat:=[0,1,2,3,4,5,6,7]
theorem zbp {t:Nat}(h:t < 64):t∈X4:=by
 have hd:∀ t:Fin 64,t.1∈X4:=by decide
 exact hd ⟨t,h⟩
theorem zJ2 {t:Nat}(h:t < 8):t∈ns8:=by
 have hd:∀ t:Fin 8,t.1∈ns8:=by decide
 exact hd ⟨t,h⟩
noncomputable def yM:List Code:=lpc (yx.getD 4 .skip)
noncomputable def zbq:List Code:=fl (blB (yM.getD 2 .skip))
noncomputable def zdf (h w:Nat→Nat) (s:S.St):List (Option KBlk):=[some (b8K h),some z8K,some (bW 329 64 (kA .u32 64 w)),some (b8K s.get)]
noncomputable def znf (h w:Nat→Nat) (s:S.St) (t:Nat) (Q:KQ) (R:KV→Prop):Prop:=kpc wm 276 (yM.take 2) [2,4,5,6,17,18] [0,1,2,3] (Z8 h w s t) Q R
theorem zFX (h w:Nat→Nat) (s:S.St) (Q:KQ) (R:KV→Prop):X4.map (fun t=>znf h w s t Q R)=X4.map (fun t=>Q .normal (zde t) (zdf h w s) 4):=by kernel_rfl
theorem zzM (h w:Nat→Nat) (s:S.St) (Q:KQ) (R:KV→Prop):znf h w s 64 Q R=Q (.exit 0) (zde 64) (zdf h w s) 4:=by kernel_rfl
noncomputable def ztI (h w:Nat→Nat) (s:S.St) (t:Nat) (Q:KQ) (R:KV→Prop):Prop:=kpc wm 276 (zbq.take 4) [2,4,5,6,17,18,11,12] [0,1,2,3] (Z8 h w s t) Q R
theorem zFY (h w:Nat→Nat) (s:S.St) (Q:KQ) (R:KV→Prop):X4.map (fun t=>ztI h w s t Q R)=X4.map (fun t=>Q .normal (zde t++[.int .u32 (.ofNat (S.t1 s (jd.getD t 0) (w t))),.int .u32 (.ofNat (S.t2 s))]) (zdf h w s) 4):=by kernel_rfl
noncomputable def zng (h w:Nat→Nat) (s:S.St) (t x y:Nat):LS:=((Z8 h w s t).1++[(11,.int .u32 (.ofNat x)),(12,.int .u32 (.ofNat y))],(Z8 h w s t).2.1,4)
noncomputable def ztJ (h w:Nat→Nat) (s:S.St) (t x y:Nat) (Q:KQ) (R:KV→Prop):Prop:=kpc wm 276 (zbq.drop 4) [2,4,5,6,17,18] [0,1,2,3] (zng h w s t x y) Q R
noncomputable def nxS (s:S.St) (x y:Nat):S.St:=⟨S.add32 x y,s.a,s.b,s.c,S.add32 s.d x,s.e,s.f,s.g⟩
theorem zFZ (h w:Nat→Nat) (s:S.St) (t x y:Nat) (Q:KQ) (R:KV→Prop):ztJ h w s t x y Q R=Q .normal (zde t) (zdf h w (nxS s x y)) 4:=by kernel_rfl
noncomputable def ztK (h w:Nat→Nat) (s:S.St) (t:Nat) (Q:KQ) (R:KV→Prop):Prop:=kpc wm 276 (yM.drop 3) [2,4,5,6,17,18] [0,1,2,3] (Z8 h w s t) Q R
theorem zF0 (h w:Nat→Nat) (s:S.St) (Q:KQ) (R:KV→Prop):X4.map (fun t=>ztK h w s t Q R)=X4.map (fun t=>Q .normal (zde (Nat.add t 1)) (zdf h w s) 4):=by kernel_rfl
noncomputable def JI (a x:Nat→Nat) (t:Nat):LS:=([(2,zt 0 8),(4,zt 1 8),(6,zt 2 8),(99,nI t)],[(0,b8K a),(1,z8K),(2,b8K x)],3)
noncomputable def znh (t:Nat):List KV:=[zt 0 8,zt 1 8,zt 2 8,nI t]
noncomputable def ztL (h w:Nat→Nat) (s:S.St) (Q:KQ) (R:KV→Prop):Prop:=kpc wm 276 ((yx.drop 5).take 1) [2,4,6,99] [0,1,3] (Z8 h w s 64) Q R
theorem zF1 (h w:Nat→Nat) (s:S.St) (Q:KQ) (R:KV→Prop):ztL h w s Q R=Q .normal [zt 0 8,zt 1 8,zt 3 8,nI 0] [some (b8K h),some z8K,some (b8K s.get)] 4:=by kernel_rfl
noncomputable def zni (a x:Nat→Nat) (t:Nat) (Q:KQ) (R:KV→Prop):Prop:=kpc wm 276 (lpc (yx.getD 6 .skip)) [2,4,6,99] [0,1,2] (JI a x t) Q R
noncomputable def acN (a x:Nat→Nat) (t j:Nat):Nat:=@Bool.rec (fun _=>Nat) (a j) (S.add32 (a t) (x t)) (Nat.beq j t)
theorem zF2 (a x:Nat→Nat) (Q:KQ) (R:KV→Prop):ns8.map (fun t=>zni a x t Q R)=ns8.map (fun t=>Q .normal (znh (Nat.add t 1)) [some (b8K (acN a x t)),some z8K,some (b8K x)] 3):=by kernel_rfl
theorem zzN (a x:Nat→Nat) (Q:KQ) (R:KV→Prop):zni a x 8 Q R=Q (.exit 2) (znh 8) [some (b8K a),some z8K,some (b8K x)] 3:=by kernel_rfl
noncomputable def ztM (a x:Nat→Nat) (Q:KQ) (R:KV→Prop):Prop:=kpc wm 276 (yx.drop 7) [] [] (JI a x 8) Q R
theorem zF3 (a x:Nat→Nat) (Q:KQ) (R:KV→Prop):ztM a x Q R=R (kA .u32 8 a):=by kernel_rfl
theorem zzO (w:Nat→Nat) (s0:S.St) (t:Nat):nxS (S.rounds w s0 t) (S.t1 (S.rounds w s0 t) (jd.getD t 0) (w t)) (S.t2 (S.rounds w s0 t))=S.rounds w s0 (t + 1):=rfl
attribute [local irreducible] kpre kcO kmO krO JL zp yx yM zbq S.rounds S.sched S.t1 S.t2 S.add32 kA
noncomputable def Z0 (a b c d i:Nat):Nat:=@Nat.rec (fun _=>Nat) a (fun i _=>@Nat.rec (fun _=>Nat) b (fun i _=>@Nat.rec (fun _=>Nat) c (fun _ _=>d) i) i) i
theorem zD8:Tryz.f276.ntmps=112:=by kernel_rfl
theorem zD9:Tryz.f276.results.toList=krO 276:=by kernel_rfl
theorem zEa:fl (kcO 276)=yx:=by kernel_rfl
theorem Z1 (f:Nat→Nat):xw 0 (b8K f).v=true:=by kernel_rfl
theorem zbe (f:Nat→Nat):xw 0 (bW 329 64 (kA .u32 64 f)).v=true:=by kernel_rfl
theorem Ys:xw 0 z8K.v=true:=by kernel_rfl
theorem zqu (f:Nat→Nat):xi (kA .u32 8 f).v=true:=by kernel_rfl
section
variable {h w x a:Nat→Nat}{s:S.St}{t p q:Nat}{tr:KTm}{zm:KZ}
theorem zeB (ht:[2,4,5,6,17,18].map (zn tr)=zde t) (hz:[0,1,2,3].map (kb zm)=zdf h w s):atS (kmO 276) (Z8 h w s t) tr zm :=
 atS.of (s:=Z8 h w s t) [] id ht hz (by kernel_rfl) ⟨xB (ltk rfl),xB (ltk rfl),xB (ltk rfl),xB (ltk rfl),vm _ rfl,vm _ rfl,trivial⟩ ⟨RnK.nf (Z1 h),RnK.nf Ys,RnK.nf (zbe w),RnK.nf (Z1 s.get),trivial⟩
theorem zxK (ht:[2,4,5,6,17,18,11,12].map (zn tr)=zde t++[.int .u32 (.ofNat p),.int .u32 (.ofNat q)]) (hz:[0,1,2,3].map (kb zm)=zdf h w s):atS (kmO 276) (zng h w s t p q) tr zm :=
 atS.of (s:=zng h w s t p q) [] id ht hz (by kernel_rfl) ⟨xB (ltk rfl),xB (ltk rfl),xB (ltk rfl),xB (ltk rfl),vm _ rfl,vm _ rfl,vm _ rfl,vm _ rfl,trivial⟩ ⟨RnK.nf (Z1 h),RnK.nf Ys,RnK.nf (zbe w),RnK.nf (Z1 s.get),trivial⟩
theorem zxL (hs:∀ i,i < 8→h i=s.get i) (ht:[2,4,5,6,17,18].map (zn tr)=[zt 0 8,zt 2 8,zt 3 64,zt 4 8,zne,nI 0]) (hz:[0,2,3,4].map (kb zm)=[some (b8K h),some z8K,some (bW 329 64 (kA .u32 64 w)),some (b8K h)]):atS (kmO 276) (Z8 h w s 0) tr zm :=
 atS.of (s:=Z8 h w s 0) [] (Z0 0 2 3 4) ht hz (by kernel_rfl)
  ⟨(show RnB (am zm) [] (Z0 0 2 3 4) 4 (V.ptr 0 [] (.arr 8 .sc)) (V.ptr 0 [] (.arr 8 .sc)) from RnB.ptr rfl (ltk rfl)).v,(show RnB (am zm) [] (Z0 0 2 3 4) 4 (V.ptr 2 [] (.arr 8 .sc)) (V.ptr 1 [] (.arr 8 .sc)) from RnB.ptr rfl (ltk rfl)).v,(show RnB (am zm) [] (Z0 0 2 3 4) 4 (V.ptr 3 [] (.arr 64 .sc)) (V.ptr 2 [] (.arr 64 .sc)) from RnB.ptr rfl (ltk rfl)).v,(show RnB (am zm) [] (Z0 0 2 3 4) 4 (V.ptr 4 [] (.arr 8 .sc)) (V.ptr 3 [] (.arr 8 .sc)) from RnB.ptr rfl (ltk rfl)).v,(nfB (v:=zne) rfl).v,(nfB (v:=nI 0) rfl).v,trivial⟩
  ⟨RnK.nf (Z1 h),RnK.nf Ys,RnK.nf (zbe w),qZ rfl rfl (ZX hs) (nfB (Z1 s.get)),trivial⟩
theorem zxM (ht:[2,4,6,99].map (zn tr)=[zt 0 8,zt 1 8,zt 3 8,nI 0]) (hz:[0,1,3].map (kb zm)=[some (b8K a),some z8K,some (b8K x)]):atS (kmO 276) (JI a x 0) tr zm :=
 atS.of (s:=JI a x 0) [] (Z0 0 1 3 0) ht hz (by kernel_rfl)
  ⟨(show RnB (am zm) [] (Z0 0 1 3 0) 3 (V.ptr 0 [] (.arr 8 .sc)) (V.ptr 0 [] (.arr 8 .sc)) from RnB.ptr rfl (ltk rfl)).v,(show RnB (am zm) [] (Z0 0 1 3 0) 3 (V.ptr 1 [] (.arr 8 .sc)) (V.ptr 1 [] (.arr 8 .sc)) from RnB.ptr rfl (ltk rfl)).v,(show RnB (am zm) [] (Z0 0 1 3 0) 3 (V.ptr 3 [] (.arr 8 .sc)) (V.ptr 2 [] (.arr 8 .sc)) from RnB.ptr rfl (ltk rfl)).v,(nfB (v:=nI 0) rfl).v,trivial⟩
  ⟨RnK.nf (Z1 a),RnK.nf Ys,RnK.nf (Z1 x),trivial⟩
theorem zkl {a':Nat→Nat}(ha:∀ j,j < 8→a j=a' j) (ht:[2,4,6,99].map (zn tr)=znh t) (hz:[0,1,2].map (kb zm)=[some (b8K a),some z8K,some (b8K x)]):atS (kmO 276) (JI a' x t) tr zm :=
 atS.of (s:=JI a' x t) [] id ht hz (by kernel_rfl) ⟨xB (ltk rfl),xB (ltk rfl),xB (ltk rfl),vm _ rfl,trivial⟩ ⟨qZ rfl rfl (ZX ha) (nfB (Z1 a')),RnK.nf Ys,RnK.nf (Z1 x),trivial⟩
end
theorem zxN (h x:Nat→Nat) (t j:Nat):acN (S.accS h x t) x t j=S.accS h x (t + 1) j:=by
 show @Bool.rec (fun _=>Nat) _ _ (Nat.beq j t)=(bif j==t then S.add32 (S.accS h x t t) (x t) else S.accS h x t j)
 by_cases e:j=t
 ·subst e
  rw[Nat.beq_refl,show (j==j)=true by simp]; rfl
 ·rw[show Nat.beq j t=false by
   cases hb:Nat.beq j t with
   | false=>rfl
   | true=>exact absurd (Nat.eq_of_beq_eq_true hb) e,show (j==t)=false by simpa using e]; rfl
theorem zxO (h:Nat→Nat):∀ i,i < 8→h i=(S.stOf h).get i:=fun i hi=>by
 match i,hi with
 | 0,_=>rfl
 | 1,_=>rfl
 | 2,_=>rfl
 | 3,_=>rfl
 | 4,_=>rfl
 | 5,_=>rfl
 | 6,_=>rfl
 | 7,_=>rfl
theorem zIg (h b:Nat→Nat):JFn Tryz.prog 276 false [kA .u32 8 h,kA .u8 64 b] (kA .u32 8 (S.comp h b)):=by
 refine JFn.of (P:=Tryz.prog) jF rfl (c:=kcO 276) (kmO 276) Tryz.func276 (by kernel_rfl) fun B N hN=>?_
 rw[zD8] at hN
 rw[zEa]
 refine JL.stp (n:=60) (s:=(xd (kmO 276) 0 [kA .u32 8 h,kA .u8 64 b],[],0)) jF rfl 4 (krO 276) [2,4,5,6,17,18] [0,2,3,4] hN (by kernel_rfl) (by kernel_rfl) (fun v=>False) (fun v tr zm nx h1 h2 h3 h4=>h1.elim) ?_
 show ztH h b _ _
 rw[zFW]
 refine⟨b,rfl,trivial,?_⟩
 generalize hw:S.sched b=w
 intro tr zm ht hz hmb hi
 refine JL.loopT jF (fun t=>Z8 h w (S.rounds w (S.stOf h) t) t) (fun t=>64 - t) (fun t=>t≤64) (id:=0) (b:=lpB (blB (yx.getD 4 .skip))) (l2:=yx.drop 5) (by kernel_rfl) (fun t=>by kernel_rfl) 0 (Nat.zero_le _) (zxL (s:=S.rounds w (S.stOf h) 0) (fun i hi=>by unfold S.rounds; exact zxO h i hi) ht hz) hmb hi ?_
 intro t ht64
 show JL wm B N (kmO 276) (fl (lpB (blB (yx.getD 4 .skip)))) (vo (Z8 h w (S.rounds w (S.stOf h) t) t).1) (vO (Z8 h w (S.rounds w (S.stOf h) t) t).2.1) (Z8 h w (S.rounds w (S.stOf h) t) t).2.2 _
 rw[show fl (lpB (blB (yx.getD 4 .skip)))=yM by kernel_rfl]
 refine JL.stp (n:=60) jF rfl 2 (krO 276) [2,4,5,6,17,18] [0,1,2,3] hN (by kernel_rfl) (by kernel_rfl) (fun v=>False) (fun v tr zm nx h1 h2 h3 h4=>h1.elim) ?_
 show znf h w (S.rounds w (S.stOf h) t) t _ _
 rcases Nat.lt_or_ge t 64 with hlt | hge
 ·rw[w6 (zFX h w (S.rounds w (S.stOf h) t) _ _) (zbp hlt)]
  intro tr zm ht hz hmb hi
  show JL wm B N (kmO 276) (yM.drop 2) tr zm 4 _
  refine JL.blk (id:=1) (X:=blB (yM.getD 2 .skip)) (l2:=yM.drop 3) (by kernel_rfl) hmb hi ?_
  rw[show fl (blB (yM.getD 2 .skip))=zbq by kernel_rfl]
  refine JL.preS jF (zeB ht hz) (xL (by kernel_rfl)) ?_
  refine JL.stp (n:=60) jF rfl 4 (krO 276) [2,4,5,6,17,18,11,12] [0,1,2,3] hN (by kernel_rfl) (by kernel_rfl) (fun v=>False) (fun v tr zm nx h1 h2 h3 h4=>h1.elim) ?_
  show ztI h w (S.rounds w (S.stOf h) t) t _ _
  rw[w6 (zFY h w (S.rounds w (S.stOf h) t) _ _) (zbp hlt)]
  intro tr zm ht hz hmb hi
  show JL wm B N (kmO 276) (zbq.drop 4) tr zm 4 _
  refine JL.preS jF (zxK ht hz) (xL (by kernel_rfl)) ?_
  refine JL.all (n:=60) jF rfl (krO 276) [2,4,5,6,17,18] [0,1,2,3] hN (by kernel_rfl) (by kernel_rfl) (fun v=>False) (fun v tr zm nx h1 h2 h3 h4=>h1.elim) ?_
  show ztJ h w (S.rounds w (S.stOf h) t) t _ _ _ _
  rw[zFZ,zzO]
  intro tr zm ht hz hmb hi
  show JL wm B N (kmO 276) (yM.drop 3) tr zm 4 _
  refine JL.preS jF (zeB ht hz) (xL (by kernel_rfl)) ?_
  refine JL.all (n:=60) jF rfl (krO 276) [2,4,5,6,17,18] [0,1,2,3] hN (by kernel_rfl) (by kernel_rfl) (fun v=>False) (fun v tr zm nx h1 h2 h3 h4=>h1.elim) ?_
  show ztK h w (S.rounds w (S.stOf h) (t + 1)) t _ _
  rw[w6 (zF0 h w (S.rounds w (S.stOf h) (t + 1)) _ _) (zbp hlt)]
  intro tr zm ht hz hmb hi
  exact⟨t + 1,by omega,by omega,zeB ht hz⟩
 ·obtain rfl:t=64:=by omega
  rw[zzM]
  intro tr zm ht hz hmb hi
  show (if (0:Nat)=0 then JL wm B N (kmO 276) (yx.drop 5) tr zm 4 (retJ wm Tryz.f276 false (kA .u32 8 (S.comp h b))) else retJ wm Tryz.f276 false (kA .u32 8 (S.comp h b)) (.exit 0) tr zm 4)
  rw[if_pos rfl]
  refine JL.preS jF (zeB ht hz) (xL (by kernel_rfl)) ?_
  refine JL.stp (n:=60) jF rfl 1 (krO 276) [2,4,6,99] [0,1,3] hN (by kernel_rfl) (by kernel_rfl) (fun v=>False) (fun v tr zm nx h1 h2 h3 h4=>h1.elim) ?_
  show ztL h w (S.rounds w (S.stOf h) 64) _ _
  rw[zF1]
  generalize hx:(S.rounds w (S.stOf h) 64).get=x
  intro tr zm ht hz hmb hi
  show JL wm B N (kmO 276) ((yx.drop 5).drop 1) tr zm 4 _
  rw[List.drop_drop]
  refine JL.loopT jF (fun t=>JI (S.accS h x t) x t) (fun t=>8 - t) (fun t=>t≤8) (id:=2) (b:=lpB (blB (yx.getD 6 .skip))) (l2:=yx.drop 7) (by kernel_rfl) (fun t=>by kernel_rfl) 0 (Nat.zero_le _) (zxM ht hz) hmb hi ?_
  intro t ht8
  refine JL.all (n:=60) jF rfl (krO 276) [2,4,6,99] [0,1,2] hN (by kernel_rfl) (by kernel_rfl) (fun v=>False) (fun v tr zm nx h1 h2 h3 h4=>h1.elim) ?_
  show zni (S.accS h x t) x t _ _
  rcases Nat.lt_or_ge t 8 with hlt | hge
  ·rw[w6 (zF2 (S.accS h x t) x _ _) (zJ2 hlt)]
   intro tr zm ht hz hmb hi
   exact⟨t + 1,by omega,by omega,zkl (fun j _=>zxN h x t j) ht hz⟩
  ·obtain rfl:t=8:=by omega
   rw[zzN]
   intro tr zm ht hz hmb hi
   show (if (2:Nat)=2 then JL wm B N (kmO 276) (yx.drop 7) tr zm 3 _ else _)
   rw[if_pos rfl]
   refine JL.preS jF (zkl (fun j _=>rfl) ht hz) (xL (by kernel_rfl)) ?_
   refine JL.all (n:=60) jF rfl (krO 276) [] [] hN (by kernel_rfl) (by kernel_rfl) (fun v=>v=kA .u32 8 (S.accS h x 8)) (fun v tr zm nx h1 h2 h3 h4=>by
    subst h1
    refine retJ.mk rfl zD9 (FzP.imp (zqu _) (ZX fun j hj=>?_)) h4
    rw[S.accS_lt h x 8 j hj,←hx,←hw]; rfl) ?_
   show ztM (S.accS h x 8) x _ _
   rw[zF3]
end
end Go.K
set_option maxRecDepth 100000
namespace Go.K
open Go.Ab Go.RowKit Go.Y Go.Proofs
noncomputable section
attribute [local instance 10000] gO
noncomputable def Yq:KEnv:=EO0.tab [(246,zbm zy0)]
theorem yL:KOk Yq:=zI.tab ⟨zra,trivial⟩
noncomputable def ZZ:List Code:=fl (kcO 190)
noncomputable def ro8 (b:Nat→Nat):KV:=.ro true false .sc 0 64 (f8 64 b)
noncomputable def JA:KBlk:=bW 329 64 (kA .u32 64 fun i=>jd.getD i 0)
noncomputable def zqp (b:Nat→Nat) (t:Nat):List KV:=[ro8 b,zt 0 8,zt 1 8,zt 2 64,zt 3 64,nI t]
noncomputable def zs9 (h b:Nat→Nat) (Q:KQ) (RR:KV→Prop):Prop:=kpc Yq 190 (ZZ.take 4) [1,2,4,5,7,8] [0,1,2,4] (xd (kmO 190) 0 [kA .u32 8 h,ro8 b],[],0) Q RR
theorem zDA (h b:Nat→Nat) (Q:KQ) (RR:KV→Prop):zs9 h b Q RR=Q .normal [ro8 b,zt 0 8,zt 1 8,zt 2 64,zt 4 64,nI 0] [some (b8K h),some z8K,some JA,some zqP] 5:=by kernel_rfl
noncomputable def zfE (h b w:Nat→Nat) (t:Nat):LS:=([(1,ro8 b),(2,zt 0 8),(4,zt 1 8),(5,zt 2 64),(7,zt 3 64),(8,nI t)],[(0,b8K h),(1,z8K),(2,JA),(3,bW 329 64 (f32 64 w))],4)
noncomputable def Xz (b w:Nat→Nat) (t:Nat):Nat:=@Bool.rec (fun _=>Nat) (Go.Y.R.nextW (w (Nat.sub t 15)) (w (Nat.sub t 2)) (w (Nat.sub t 7)) (w (Nat.sub t 16))) (Go.Y.R.load32 b t) (Nat.blt t 16)
noncomputable def zke (h b w:Nat→Nat) (t:Nat) (Q:KQ) (RR:KV→Prop):Prop:=kpc Yq 190 (lpc (ZZ.getD 4 .skip)) [1,2,4,5,7,8] [0,1,2,3] (zfE h b w t) Q RR
theorem zDB (h b w:Nat→Nat) (Q:KQ) (RR:KV→Prop):X4.map (fun t=>zke h b w t Q RR)=X4.map (fun t=>Q .normal (zqp b (Nat.add t 1)) [some (b8K h),some z8K,some JA,some (zbh w t (Xz b w t))] 4):=by kernel_rfl
theorem zxr (h b w:Nat→Nat) (Q:KQ) (RR:KV→Prop):zke h b w 64 Q RR=Q (.exit 0) (zqp b 64) [some (b8K h),some z8K,some JA,some (bW 329 64 (f32 64 w))] 4:=by kernel_rfl
noncomputable def zqq (h w:Nat→Nat):List (Option KBlk):=[some (b8K h),some z8K,some JA,some (bW 329 64 (kA .u32 64 w))]
noncomputable def yw (a:Nat):KV:=.int .u32 (.ofNat a)
noncomputable def zH6 (s:S.St):List KV:=[yw s.a,yw s.b,yw s.c,yw s.d,yw s.e,yw s.f,yw s.g,yw s.h]
noncomputable def zkf (h w:Nat→Nat):LS:=([(2,zt 0 8),(4,zt 1 8),(5,zt 2 64),(7,zt 3 64)],[(0,b8K h),(1,z8K),(2,JA),(3,bW 329 64 (kA .u32 64 w))],4)
noncomputable def Q2 (h w:Nat→Nat) (s:S.St) (t:Nat):LS:=([(2,zt 0 8),(4,zt 1 8),(5,zt 2 64),(7,zt 3 64),(13,yw s.a),(14,yw s.b),(15,yw s.c),(16,yw s.d),(17,yw s.e),(18,yw s.f),(19,yw s.g),(20,yw s.h),(21,nI t)],[(0,b8K h),(1,z8K),(2,JA),(3,bW 329 64 (kA .u32 64 w))],4)
noncomputable def zex (s:S.St) (t:Nat):List KV:=[zt 0 8,zt 1 8,zt 2 64,zt 3 64]++(zH6 s++[nI t])
noncomputable def zta (h w:Nat→Nat) (Q:KQ) (RR:KV→Prop):Prop:=kpc Yq 190 ((ZZ.drop 5).take 2) [2,4,5,7,13,14,15,16,17,18,19,20,21] [0,1,2,3] (zkf h w) Q RR
theorem zDC (h w:Nat→Nat) (Q:KQ) (RR:KV→Prop):zta h w Q RR=Q .normal (zex (S.stOf h) 0) (zqq h w) 4:=by kernel_rfl
noncomputable def zkg (h w:Nat→Nat) (s:S.St) (t:Nat) (Q:KQ) (RR:KV→Prop):Prop:=kpc Yq 190 (lpc (ZZ.getD 7 .skip)) [2,4,5,7,13,14,15,16,17,18,19,20,21] [0,1,2,3] (Q2 h w s t) Q RR
theorem zDD (h w:Nat→Nat) (s:S.St) (Q:KQ) (RR:KV→Prop):X4.map (fun t=>zkg h w s t Q RR)=X4.map (fun t=>Q .normal (zex (Go.Y.R.rnd (jd.getD t 0) (w t) s) (Nat.add t 1)) (zqq h w) 4):=by kernel_rfl
theorem zxs (h w:Nat→Nat) (s:S.St) (Q:KQ) (RR:KV→Prop):zkg h w s 64 Q RR=Q (.exit 2) (zex s 64) (zqq h w) 4:=by kernel_rfl
noncomputable def ztb (h w:Nat→Nat) (s:S.St) (Q:KQ) (RR:KV→Prop):Prop:=kpc Yq 190 (ZZ.drop 8) [] [] (Q2 h w s 64) Q RR
theorem zDE (h w:Nat→Nat) (s:S.St) (Q:KQ) (RR:KV→Prop):ztb h w s Q RR=RR (kA .u32 8 (lN [S.add32 (h 0) s.a,S.add32 (h 1) s.b,S.add32 (h 2) s.c,S.add32 (h 3) s.d,S.add32 (h 4) s.e,S.add32 (h 5) s.f,S.add32 (h 6) s.g,S.add32 (h 7) s.h])):=by kernel_rfl
theorem zrD (w:Nat→Nat) (s0:S.St) (t:Nat):Go.Y.R.rnd (jd.getD t 0) (w t) (Go.Y.R.rounds w s0 t)=Go.Y.R.rounds w s0 (t + 1):=rfl
attribute [local irreducible] kpre kcO kmO krO JL zp ZZ Go.Y.R.rounds Go.Y.R.sched Go.Y.R.rnd S.add32 kA Go.Y.R.nextW Go.Y.R.load32
theorem zFF:Tryz.f190.ntmps=202:=by kernel_rfl
theorem zFG:Tryz.f190.results.toList=krO 190:=by kernel_rfl
theorem zFH:fl (kcO 190)=ZZ:=by kernel_rfl
theorem zeX:xw 0 JA.v=true:=by kernel_rfl
section
variable {h b w w':Nat→Nat}{s:S.St}{t:Nat}{tr:KTm}{zm:KZ}
theorem zzB (ht:[1,2,4,5,7,8].map (zn tr)=[ro8 b,zt 0 8,zt 1 8,zt 2 64,zt 4 64,nI 0]) (hz:[0,1,2,4].map (kb zm)=[some (b8K h),some z8K,some JA,some zqP]):atS (kmO 190) (zfE h b (fun _=>0) 0) tr zm :=
 atS.of (s:=zfE h b (fun _=>0) 0) [] (Z0 0 1 2 4) ht hz (by kernel_rfl)
  ⟨(nfB (v:=ro8 b) rfl).v,(show RnB (am zm) [] (Z0 0 1 2 4) 4 (V.ptr 0 [] (.arr 8 .sc)) (V.ptr 0 [] (.arr 8 .sc)) from RnB.ptr rfl (ltk rfl)).v,(show RnB (am zm) [] (Z0 0 1 2 4) 4 (V.ptr 1 [] (.arr 8 .sc)) (V.ptr 1 [] (.arr 8 .sc)) from RnB.ptr rfl (ltk rfl)).v,(show RnB (am zm) [] (Z0 0 1 2 4) 4 (V.ptr 2 [] (.arr 64 .sc)) (V.ptr 2 [] (.arr 64 .sc)) from RnB.ptr rfl (ltk rfl)).v,(show RnB (am zm) [] (Z0 0 1 2 4) 4 (V.ptr 4 [] (.arr 64 .sc)) (V.ptr 3 [] (.arr 64 .sc)) from RnB.ptr rfl (ltk rfl)).v,(nfB (v:=nI 0) rfl).v,trivial⟩
  ⟨RnK.nf (Z1 h),RnK.nf Ys,RnK.nf zeX,qZ rfl rfl (Imp.arrE fun i hi=>rfl) Zc,trivial⟩
theorem zFI {x:Nat}(hw:∀ j,j < 64→w' j=if j=t then x else w j) (ht:[1,2,4,5,7,8].map (zn tr)=zqp b (Nat.add t 1)) (hz:[0,1,2,3].map (kb zm)=[some (b8K h),some z8K,some JA,some (zbh w t x)]):atS (kmO 190) (zfE h b w' (t + 1)) tr zm :=
 atS.of (s:=zfE h b w' (t + 1)) [] id ht hz (by kernel_rfl) ⟨vm _ rfl,xB (ltk rfl),xB (ltk rfl),xB (ltk rfl),xB (ltk rfl),vm _ rfl,trivial⟩ ⟨RnK.nf (Z1 h),RnK.nf Ys,RnK.nf zeX,qZ rfl rfl (zjl hw) Zc,trivial⟩
theorem zzC (hw:∀ j,j < 64→w j=w' j) (ht:[1,2,4,5,7,8].map (zn tr)=zqp b 64) (hz:[0,1,2,3].map (kb zm)=[some (b8K h),some z8K,some JA,some (bW 329 64 (f32 64 w))]):atS (kmO 190) (zkf h w') tr zm:=by
 have h2:[2,4,5,7].map (zn tr)=[zt 0 8,zt 1 8,zt 2 64,zt 3 64]:=congrArg (fun l=>(l.drop 1).take 4) ht
 exact atS.of (s:=zkf h w') [] id h2 hz (by kernel_rfl) ⟨xB (ltk rfl),xB (ltk rfl),xB (ltk rfl),xB (ltk rfl),trivial⟩ ⟨RnK.nf (Z1 h),RnK.nf Ys,RnK.nf zeX,qZ rfl rfl (zs1 hw) (nfB (zbe w')),trivial⟩
theorem zdb (ht:[2,4,5,7,13,14,15,16,17,18,19,20,21].map (zn tr)=zex s t) (hz:[0,1,2,3].map (kb zm)=zqq h w):atS (kmO 190) (Q2 h w s t) tr zm :=
 atS.of (s:=Q2 h w s t) [] id ht hz (by kernel_rfl) ⟨xB (ltk rfl),xB (ltk rfl),xB (ltk rfl),xB (ltk rfl),vm _ rfl,vm _ rfl,vm _ rfl,vm _ rfl,vm _ rfl,vm _ rfl,vm _ rfl,vm _ rfl,vm _ rfl,trivial⟩ ⟨RnK.nf (Z1 h),RnK.nf Ys,RnK.nf zeX,RnK.nf (zbe w),trivial⟩
end
theorem zJG (h:Nat→Nat) (x:S.St):∀ j,j < 8→lN [S.add32 (h 0) x.a,S.add32 (h 1) x.b,S.add32 (h 2) x.c,S.add32 (h 3) x.d,S.add32 (h 4) x.e,S.add32 (h 5) x.f,S.add32 (h 6) x.g,S.add32 (h 7) x.h] j=S.add32 (h j) (x.get j):=by
 have gen:∀(op:Nat→Nat→Nat) j,j < 8→lN [op (h 0) x.a,op (h 1) x.b,op (h 2) x.c,op (h 3) x.d,op (h 4) x.e,op (h 5) x.f,op (h 6) x.g,op (h 7) x.h] j=op (h j) (x.get j):=fun op j hj=>by
  match j,hj with
  | 0,_=>rfl
  | 1,_=>rfl
  | 2,_=>rfl
  | 3,_=>rfl
  | 4,_=>rfl
  | 5,_=>rfl
  | 6,_=>rfl
  | 7,_=>rfl
 exact gen S.add32
theorem zzD (b:Nat→Nat) (t j:Nat):Go.Y.R.wS b (t + 1) j=if j=t then Xz b (Go.Y.R.wS b t) t else Go.Y.R.wS b t j:=by
 rcases Nat.lt_or_ge t 16 with h | h
 ·rw[Go.Y.R.wS_lo b t h]
  have e:Xz b (Go.Y.R.wS b t) t=Go.Y.R.load32 b t:=by
   unfold Xz
   rw[vq.2 h]
  rw[e]; exact Yn _ _ _ _
 ·rw[Go.Y.R.wS_hi b t h]
  have e:Xz b (Go.Y.R.wS b t) t=Go.Y.R.nextW (Go.Y.R.wS b t (t - 15)) (Go.Y.R.wS b t (t - 2)) (Go.Y.R.wS b t (t - 7)) (Go.Y.R.wS b t (t - 16)):=by
   unfold Xz
   have hb:Nat.blt t 16=false:=by
    cases hb:Nat.blt t 16 with
    | false=>rfl
    | true=>exact absurd (vq.1 hb) (by omega)
   rw[hb]; rfl
  rw[e]; exact Yn _ _ _ _
theorem zJH (h b:Nat→Nat):JFn Tryz.prog 190 false [kA .u32 8 h,ro8 b] (kA .u32 8 (Go.Y.R.comp h b)):=by
 refine JFn.of (P:=Tryz.prog) yL rfl (c:=kcO 190) (kmO 190) Tryz.func190 (by kernel_rfl) fun B N hN=>?_
 rw[zFF] at hN
 rw[zFH]
 refine JL.stp (n:=60) (s:=(xd (kmO 190) 0 [kA .u32 8 h,ro8 b],[],0)) yL rfl 4 (krO 190) [1,2,4,5,7,8] [0,1,2,4] hN (by kernel_rfl) (by kernel_rfl) (fun v=>False) (fun v tr zm nx h1 h2 h3 h4=>h1.elim) ?_
 show zs9 h b _ _
 rw[zDA]
 intro tr zm ht hz hmb hi
 refine JL.loopT yL (fun t=>zfE h b (Go.Y.R.wS b t) t) (fun t=>64 - t) (fun t=>t≤64) (id:=0) (b:=lpB (blB (ZZ.getD 4 .skip))) (l2:=ZZ.drop 5) (by kernel_rfl) (fun t=>by kernel_rfl) 0 (Nat.zero_le _) (zzB ht hz) hmb hi ?_
 intro t ht64
 refine JL.all (n:=60) yL rfl (krO 190) [1,2,4,5,7,8] [0,1,2,3] hN (by kernel_rfl) (by kernel_rfl) (fun v=>False) (fun v tr zm nx h1 h2 h3 h4=>h1.elim) ?_
 show zke h b (Go.Y.R.wS b t) t _ _
 rcases Nat.lt_or_ge t 64 with hlt | hge
 ·rw[w6 (zDB h b (Go.Y.R.wS b t) _ _) (zbp hlt)]
  intro tr zm ht hz hmb hi
  exact⟨t + 1,by omega,by omega,zFI (fun j _=>zzD b t j) ht hz⟩
 ·obtain rfl:t=64:=by omega
  rw[zxr]
  intro tr zm ht hz hmb hi
  show (if (0:Nat)=0 then JL Yq B N (kmO 190) (ZZ.drop 5) tr zm 4 _ else _)
  rw[if_pos rfl]
  refine JL.preS yL (zzC (w':=Go.Y.R.sched b) (fun j hj=>Go.Y.R.wS_sched b j hj) ht hz) (xL (by kernel_rfl)) ?_
  generalize hw:Go.Y.R.sched b=w
  refine JL.stp (n:=60) yL rfl 2 (krO 190) [2,4,5,7,13,14,15,16,17,18,19,20,21] [0,1,2,3] hN (by kernel_rfl) (by kernel_rfl) (fun v=>False) (fun v tr zm nx h1 h2 h3 h4=>h1.elim) ?_
  show zta h w _ _
  rw[zDC]
  intro tr zm ht hz hmb hi
  show JL Yq B N (kmO 190) ((ZZ.drop 5).drop 2) tr zm 4 _
  rw[List.drop_drop]
  refine JL.loopT yL (fun t=>Q2 h w (Go.Y.R.rounds w (S.stOf h) t) t) (fun t=>64 - t) (fun t=>t≤64) (id:=2) (b:=lpB (blB (ZZ.getD 7 .skip))) (l2:=ZZ.drop 8) (by kernel_rfl) (fun t=>by kernel_rfl) 0 (Nat.zero_le _) (by
   have e:Go.Y.R.rounds w (S.stOf h) 0=S.stOf h:=by unfold Go.Y.R.rounds; rfl
   show atS (kmO 190) (Q2 h w (Go.Y.R.rounds w (S.stOf h) 0) 0) tr zm
   rw[e]; exact zdb ht hz) hmb hi ?_
  intro t ht64
  refine JL.all (n:=60) yL rfl (krO 190) [2,4,5,7,13,14,15,16,17,18,19,20,21] [0,1,2,3] hN (by kernel_rfl) (by kernel_rfl) (fun v=>False) (fun v tr zm nx h1 h2 h3 h4=>h1.elim) ?_
  show zkg h w (Go.Y.R.rounds w (S.stOf h) t) t _ _
  rcases Nat.lt_or_ge t 64 with hlt | hge
  ·rw[w6 (zDD h w (Go.Y.R.rounds w (S.stOf h) t) _ _) (zbp hlt),zrD]
   intro tr zm ht hz hmb hi
   exact⟨t + 1,by omega,by omega,zdb ht hz⟩
  ·obtain rfl:t=64:=by omega
   rw[zxs]
   generalize hx:Go.Y.R.rounds w (S.stOf h) 64=x
   intro tr zm ht hz hmb hi
   show (if (2:Nat)=2 then JL Yq B N (kmO 190) (ZZ.drop 8) tr zm 4 _ else _)
   rw[if_pos rfl]
   refine JL.preS yL (zdb ht hz) (xL (by kernel_rfl)) ?_
   refine JL.all (n:=60) yL rfl (krO 190) [] [] hN (by kernel_rfl) (by kernel_rfl) (fun v=>v=kA .u32 8 (lN [S.add32 (h 0) x.a,S.add32 (h 1) x.b,S.add32 (h 2) x.c,S.add32 (h 3) x.d,S.add32 (h 4) x.e,S.add32 (h 5) x.f,S.add32 (h 6) x.g,S.add32 (h 7) x.h])) (fun v tr zm nx h1 h2 h3 h4=>by
    subst h1
    refine retJ.mk rfl zFG (FzP.imp (zqu _) (ZX fun j hj=>?_)) h4
    unfold Go.Y.R.comp
    rw[hw,hx]
    exact zJG h x j hj) ?_
   show ztb h w x _ _
   rw[zDE]
end
end Go.K
set_option maxRecDepth 100000
namespace Go.Y
open Go.Ab
def isW (k:IntKind) (v:V):Bool:=match v with
 | .int k' (.ofNat _)=>xn k' k
 | _=>false
def x6 (v:V):Nat:=match v with
 | .int _ (.ofNat n)=>n
 | _=>0
theorem zwV {k:IntKind}{v:V}(h:isW k v=true):v=wV k (x6 v):=by
 unfold isW at h
 split at h
 ·obtain rfl:=zJ h; rfl
 ·cases h
def qi (k:IntKind) (n:Nat) (f:Nat→V):Bool:=(List.range n).all fun i=>isW k (f i)
def zCL (k:IntKind) (n:Nat) (f:Nat→Nat):V:=.arr n fun i=>wV k (f i)
theorem Vn {k:IntKind}{n:Nat}{f:Nat→V}(h:qi k n f=true) {i:Nat}(hi:i < n):f i=wV k (x6 (f i)):=zwV (List.all_eq_true.1 h i (List.mem_range.2 hi))
def zwW:CSpec where
 pre:=fun l=>match l with
  | [.arr 8 f,.arr 64 g]=>qi .u32 8 f&&qi .u8 64 g
  | _=>false
 res:=fun l=>match l with
  | [.arr 8 f,.arr 64 g]=>zCL .u32 8 (S.comp (fun i=>x6 (f i)) fun i=>x6 (g i))
  | _=>.unk
 fresh:=true
theorem ziM {args:List V}(h:zwW.pre args=true):∃ f g,args=[.arr 8 f,.arr 64 g]∧qi .u32 8 f=true∧qi .u8 64 g=true:=by
 simp only[zwW] at h
 split at h
 ·rw[Bool.and_eq_true] at h; exact⟨_,_,rfl,h.1,h.2⟩
 ·cases h
def zwX:CSpec where
 pre:=fun l=>match l with
  | [.arr 8 f,.ro _ _ .sc 64 g]=>qi .u32 8 f&&qi .u8 64 g
  | _=>false
 res:=fun l=>match l with
  | [.arr 8 f,.ro _ _ .sc 64 g]=>zCL .u32 8 (R.comp (fun i=>x6 (f i)) fun i=>x6 (g i))
  | _=>.unk
 fresh:=true
theorem ziN {args:List V}(h:zwX.pre args=true):∃ f u cl g,args=[.arr 8 f,.ro u cl .sc 64 g]∧qi .u32 8 f=true∧qi .u8 64 g=true:=by
 simp only[zwX] at h
 split at h
 ·rw[Bool.and_eq_true] at h; exact⟨_,_,_,_,rfl,h.1,h.2⟩
 ·cases h
end Go.Y
namespace Go.K
open Go.Ab Go.RowKit Go.Y Go.Proofs
noncomputable section
attribute [local instance 10000] gO
attribute [local irreducible] S.comp Go.Y.R.comp kA
noncomputable def lwC (C:Ctx):Ctx:={ C with ok:=fun _ b=>C.ok false b∨C.ok true b }
theorem lwK (C:Ctx):Keep C (lwC C):=⟨fun _ h=>h,fun _ _=>rfl,fun _ _=>rfl,fun u b h=>by
 cases u
 ·exact .inl h
 ·exact .inr h,fun _ _ _=>rfl⟩
theorem zsU {fid:FuncId}{c:CSpec}(hf:∃ fn,Tryz.prog.funcs[fid]?=some fn∧(fn.name == "runtime.NumGoroutine")=false∧fn.body.isNone=false)
  (h:∀ args,c.pre args=true→∃(l:List KV) (w:KV),(∀ C m,R C (mkL args) m→R (lwC C) (mkL (l.map KV.v)) m)∧JFn Tryz.prog fid false l w∧xi w.v=true∧Imp w.v (c.res args)):vh Tryz.prog fid c:=by
 refine⟨hf,fun C args vals hok hg hargs hpre=>?_⟩
 obtain⟨l,w,hl,⟨E,fn,c',mask,hE,hP,h2,h3,h4⟩,hn,hi⟩:=h args hpre
 obtain⟨P⟩:=E
 subst hP
 refine (WZ h2 h3 h4 (C:=lwC C) (fun u b hb=>hb.elim (hok _ _) (hok _ _)) (fun g=>R.keep (lwK C.pur) _ _ (hg g)) (hl C.pur _ hargs)).mono ?_
 rintro e w' ⟨val,he,C',rfl,hR,hk,hlt⟩
 exact⟨hk.below,val,he,hi _ _ (R.noref _ hn hR)⟩
theorem zeo:vh Tryz.prog 276 zwW:=zsU ⟨Tryz.f276,Tryz.func276,by kernel_rfl,by kernel_rfl⟩ fun args hp=>by
 obtain⟨f,g,rfl,hf,hg⟩:=ziM hp
 refine⟨[kA .u32 8 fun i=>x6 (f i),kA .u8 64 fun i=>x6 (g i)],_,?_,zIg _ _,zqu _,zjh (k:=.u32) (n:=8) (f:=S.comp (fun i=>x6 (f i)) fun i=>x6 (g i)) (g:=fun i=>wV .u32 (S.comp (fun i=>x6 (f i)) (fun i=>x6 (g i)) i)) fun i hi=>rfl⟩
 exact fun C m=>R.cons_map (fun m h=>R.keep (lwK C) _ _ (Yl (fun i hi=>Vn hf hi) _ _ h)) (fun m=>R.cons_map (fun m h=>R.keep (lwK C) _ _ (Yl (fun i hi=>Vn hg hi) _ _ h)) (fun m h=>R.keep (lwK C) _ _ h))
theorem zep:vh Tryz.prog 190 zwX:=zsU ⟨Tryz.f190,Tryz.func190,by kernel_rfl,by kernel_rfl⟩ fun args hp=>by
 obtain⟨f,u,cl,g,rfl,hf,hg⟩:=ziN hp
 refine⟨[kA .u32 8 fun i=>x6 (f i),ro8 fun i=>x6 (g i)],_,?_,zJH _ _,zqu _,zjh (k:=.u32) (n:=8) (f:=Go.Y.R.comp (fun i=>x6 (f i)) fun i=>x6 (g i)) (g:=fun i=>wV .u32 (Go.Y.R.comp (fun i=>x6 (f i)) (fun i=>x6 (g i)) i)) fun i hi=>rfl⟩
 refine fun C m=>R.cons_map (fun m h=>R.keep (lwK C) _ _ (Yl (fun i hi=>Vn hf hi) _ _ h)) (fun m=>R.cons_map (fun m h=>?_) (fun m h=>R.keep (lwK C) _ _ h))
 obtain⟨a,k,h1,h2,h3,h4⟩:=h
 refine⟨a,k,h1,h2,fun h=>(by cases h),h4.imp (fun h=>h) ?_⟩
 rintro⟨b,o,q1,q2,q3⟩
 refine⟨b,o,q1,by cases u; exact .inl q2; exact .inr q2,fun i hi=>?_⟩
 have:=q3 i hi
 rw[Vn hg hi] at this
 show R (lwC C).pur (wV .u8 (x6 (g (0 + i)))) _
 rw[Nat.zero_add]
 exact R.keep (lwK C.pur) _ _ this
end
end Go.K
set_option maxRecDepth 100000
namespace Go.K
open Go.Ab Go.RowKit Go.Y Go.Proofs
noncomputable section
def Qe (l:List Nat):Nat→Nat:=@List.rec Nat (fun _=>Nat→Nat) (fun _=>0) (fun x _ ih i=>@Nat.rec (fun _=>Nat) x (fun j _=>ih j) i) l
theorem zee:∀(l:List Nat) (i:Nat),Qe l i=l.getD i 0
 | [],i=>rfl
 | x::l,0=>rfl
 | x::l,i + 1=>by
  show Qe l i=_
  rw[zee l i,List.getD_cons_succ]
def gF (ld:Nat→Nat) (nw:Nat→Nat→Nat→Nat→Nat) (n:Nat):(List Nat→Prop)→Prop :=
 @Nat.rec (fun _=>(List Nat→Prop)→Prop) (fun K=>K []) (fun t ih K=>ih fun l=>zz (@Bool.rec (fun _=>Nat) (nw (Qe l 14) (Qe l 1) (Qe l 6) (Qe l 15)) (ld t) (Nat.blt t 16)) fun w=>K (w::l)) n
theorem zsE (ld:Nat→Nat) (nw:Nat→Nat→Nat→Nat→Nat):∀(n:Nat) (K:List Nat→Prop),gF ld nw n K=K (S.gL ld nw n)
 | 0,K=>rfl
 | n + 1,K=>by
  show gF ld nw n (fun l=>zz (@Bool.rec (fun _=>Nat) (nw (Qe l 14) (Qe l 1) (Qe l 6) (Qe l 15)) (ld n) (Nat.blt n 16)) fun w=>K (w::l))=_
  rw[zsE ld nw n,zA]
  simp only[zee,S.gL]
  congr 2
  by_cases h:n < 16
  ·rw[show Nat.blt n 16=true by rw[Nat.blt_eq]; exact h,show decide (n < 16)=true by simpa using h]; rfl
  ·rw[show Nat.blt n 16=false by rw[Bool.eq_false_iff]; intro h2; rw[Nat.blt_eq] at h2; exact h h2,show decide (n < 16)=false by simpa using h]; rfl
theorem QO (ld:Nat→Nat) (nw:Nat→Nat→Nat→Nat→Nat) (j:Nat):∀ k,S.gS ld nw (j + 1 + k) j=S.gS ld nw (j + 1) j
 | 0=>rfl
 | k + 1=>by
  rw[←QO ld nw j k]
  show (bif j==j + 1 + k then _ else _)=_
  rw[show (j==j + 1 + k)=false by simp; omega,cond_false]
  rfl
theorem zoR (ld:Nat→Nat) (nw:Nat→Nat→Nat→Nat→Nat) {t:Nat}(h:t < 64):S.gL ld nw (t + 1)=(S.gL ld nw 64).getD (63 - t) 0::S.gL ld nw t:=by
 have h1:=S.gS_gL ld nw (t + 1) t (by omega)
 have h2:=S.gS_gL ld nw 64 t h
 have h3:=QO ld nw t (63 - t)
 rw[show t + 1 + (63 - t)=64 by omega] at h3
 rw[h3,h1] at h2
 rw[show 64 - 1 - t=63 - t by omega] at h2
 rw[←h2,show t + 1 - 1 - t=0 by omega]
 simp only[S.gL,List.getD_cons_zero]
section
variable (T1:Nat→Nat→Nat→Nat→Nat→Nat→Nat) (T2:Nat→Nat→Nat→Nat)
def zh8 (k w:Nat) (s:S.St):S.St:=⟨S.add32 (T1 s.e s.f s.g s.h k w) (T2 s.a s.b s.c),s.a,s.b,s.c,S.add32 s.d (T1 s.e s.f s.g s.h k w),s.e,s.f,s.g⟩
def XR (w:Nat→Nat) (s:S.St):Nat→S.St
 | 0=>s
 | t + 1=>zh8 T1 T2 (jd.getD t 0) (w t) (XR w s t)
abbrev K8:Type:=Nat→Nat→Nat→Nat→Nat→Nat→Nat→Nat→Prop
def rF (a b c d e f g h:Nat) (ws:List Nat):List Nat→K8→Prop :=
 @List.rec Nat (fun _=>List Nat→K8→Prop) (fun _ K=>K a b c d e f g h) (fun w _ ih ks K=>@List.rec Nat (fun _=>Prop) True (fun k kr _=>ih kr fun a b c d e f g h =>
  zz (T1 e f g h k w) fun x=>zz (Nat.mod (Nat.add x (T2 a b c)) 4294967296) fun a'=>zz (Nat.mod (Nat.add d x) 4294967296) fun e'=>K a' a b c e' e f g) ks) ws
def zoS:Nat→List Nat
 | 0=>[]
 | t + 1=>jd.getD t 0::zoS t
theorem zsF (ld:Nat→Nat) (nw:Nat→Nat→Nat→Nat→Nat) (s:S.St):∀(t:Nat) (K:K8),t≤64→rF T1 T2 s.a s.b s.c s.d s.e s.f s.g s.h (S.gL ld nw t) (zoS t) K=(fun r:S.St=>K r.a r.b r.c r.d r.e r.f r.g r.h) (XR T1 T2 (fun j=>(S.gL ld nw 64).getD (63 - j) 0) s t)
 | 0,K,_=>rfl
 | t + 1,K,h=>by
  rw[zoR ld nw (by omega)]
  show rF T1 T2 s.a s.b s.c s.d s.e s.f s.g s.h (S.gL ld nw t) (zoS t) _=_
  rw[zsF ld nw s t _ (by omega)]
  simp only[zA]
  rfl
end
def pk8 (a b c d e f g h:Nat) (K:Nat→Prop):Prop :=
 zz (Nat.add a (Nat.mul 4294967296 (Nat.add b (Nat.mul 4294967296 (Nat.add c (Nat.mul 4294967296 (Nat.add d (Nat.mul 4294967296 (Nat.add e (Nat.mul 4294967296 (Nat.add f (Nat.mul 4294967296 (Nat.add g (Nat.mul 4294967296 h)))))))))))))) K
theorem zvU (x o l:Nat):bts x o l=x / 2 ^ o % 2 ^ l:=by
 show (x >>> o) % 2 ^ l=_
 rw[Nat.shiftRight_eq_div_pow]
theorem zvV {a b c d e f g h:Nat}(ha:a < 4294967296) (hb:b < 4294967296) (hc:c < 4294967296) (hd:d < 4294967296) (he:e < 4294967296) (hf:f < 4294967296) (hg:g < 4294967296) (hh:h < 4294967296) :
  ∀ j,j < 8→pkr .u32 (a + 4294967296 * (b + 4294967296 * (c + 4294967296 * (d + 4294967296 * (e + 4294967296 * (f + 4294967296 * (g + 4294967296 * h))))))) j=[a,b,c,d,e,f,g,h].getD j 0:=by
 intro j hj
 show bts _ (32 * j) 32=_
 rw[zvU]
 match j,hj with
 | 0,_=>show _ / 1 % 4294967296=a; omega
 | 1,_=>show _ / 4294967296 % 4294967296=b; omega
 | 2,_=>show _ / (4294967296 * 4294967296) % 4294967296=c; omega
 | 3,_=>show _ / (4294967296 * 4294967296 * 4294967296) % 4294967296=d; omega
 | 4,_=>show _ / (4294967296 * 4294967296 * 4294967296 * 4294967296) % 4294967296=e; omega
 | 5,_=>show _ / (4294967296 * 4294967296 * 4294967296 * 4294967296 * 4294967296) % 4294967296=f; omega
 | 6,_=>show _ / (4294967296 * 4294967296 * 4294967296 * 4294967296 * 4294967296 * 4294967296) % 4294967296=g; omega
 | 7,_=>show _ / (4294967296 * 4294967296 * 4294967296 * 4294967296 * 4294967296 * 4294967296 * 4294967296) % 4294967296=h; omega
end
end Go.K
set_option maxRecDepth 100000
namespace Go.K
open Go.Ab Go.RowKit Go.Y Go.Proofs
noncomputable section
namespace F
def a32 (x y:Nat):Nat:=Nat.mod (Nat.add x y) 4294967296
def x32 (x y:Nat):Nat:=Nat.mod (Nat.xor x y) 4294967296
def n32 (x y:Nat):Nat:=Nat.mod (Nat.land x y) 4294967296
def o32 (x y:Nat):Nat:=Nat.mod (Nat.lor x y) 4294967296
def not32 (x:Nat):Nat:=Nat.mod (Nat.xor 4294967295 x) 4294967296
def Qd (a l r:Nat):Nat:=Nat.mod (Nat.lor (Nat.mod (Nat.mul a l) 4294967296) (Nat.div a r)) 4294967296
def rotR (a l r:Nat):Nat:=Nat.mod (Nat.lor (Nat.div a r) (Nat.mod (Nat.mul a l) 4294967296)) 4294967296
def by8 (y off t i:Nat):Nat:=Nat.mod (pkr .u8 y (Nat.add off (Nat.add (Nat.mul 4 t) i))) 18446744073709551616
def o64 (x y:Nat):Nat:=Nat.mod (Nat.lor x y) 18446744073709551616
def p64 (x y:Nat):Nat:=Nat.mod (Nat.add x y) 18446744073709551616
def l64 (x:Nat):Nat:=Nat.mod (Nat.mul x 256) 18446744073709551616
def ldS (y off t:Nat):Nat:=Nat.mod (o64 (l64 (o64 (l64 (o64 (l64 (o64 0 (by8 y off t 0))) (by8 y off t 1))) (by8 y off t 2))) (by8 y off t 3)) 4294967296
def ldR (y off t:Nat):Nat:=Nat.mod (p64 (l64 (p64 (l64 (p64 (l64 (p64 (l64 0) (by8 y off t 0))) (by8 y off t 1))) (by8 y off t 2))) (by8 y off t 3)) 4294967296
def s0S (x:Nat):Nat:=x32 (x32 (Qd x 33554432 128) (Qd x 16384 262144)) (Nat.div x 8)
def s1S (y:Nat):Nat:=x32 (x32 (Qd y 32768 131072) (Qd y 8192 524288)) (Nat.div y 1024)
def nwS (w15 w2 w7 w16:Nat):Nat:=a32 (a32 (a32 (s1S w2) w7) (s0S w15)) w16
def s0R (x:Nat):Nat:=x32 (x32 (rotR x 33554432 128) (rotR x 16384 262144)) (Nat.div x 8)
def s1R (y:Nat):Nat:=x32 (x32 (rotR y 32768 131072) (rotR y 8192 524288)) (Nat.div y 1024)
def nwR (w15 w2 w7 w16:Nat):Nat:=a32 (a32 (a32 w16 w7) (s0R w15)) (s1R w2)
def b1S (e:Nat):Nat:=x32 (x32 (Qd e 67108864 64) (Qd e 2097152 2048)) (Qd e 128 33554432)
def b0S (a:Nat):Nat:=x32 (x32 (Qd a 1073741824 4) (Qd a 524288 8192)) (Qd a 1024 4194304)
def b1R (e:Nat):Nat:=x32 (x32 (rotR e 67108864 64) (rotR e 2097152 2048)) (rotR e 128 33554432)
def b0R (a:Nat):Nat:=x32 (x32 (rotR a 1073741824 4) (rotR a 524288 8192)) (rotR a 1024 4194304)
def chS (e f g:Nat):Nat:=x32 (n32 e f) (n32 (not32 e) g)
def mjS (a b c:Nat):Nat:=x32 (x32 (n32 a b) (n32 a c)) (n32 b c)
def chR (e f g:Nat):Nat:=o32 (n32 e f) (n32 (not32 e) g)
def mjR (a b c:Nat):Nat:=o32 (o32 (n32 a b) (n32 a c)) (n32 b c)
def t1S (e f g h k w:Nat):Nat:=a32 (a32 (a32 (a32 h (b1S e)) (chS e f g)) k) w
def t2S (a b c:Nat):Nat:=a32 (b0S a) (mjS a b c)
def t1R (e f g h k w:Nat):Nat:=a32 (a32 (a32 (a32 h (b1R e)) (chR e f g)) k) w
def t2R (a b c:Nat):Nat:=a32 (b0R a) (mjR a b c)
end F
def zsB:List Nat:=[3329325298,3204031479,2756734187,2428436474,2361852424,2227730452,2024104815,1955562222,1747873779,1537002063,1322822218,958139571,883997877,659060556,506948616,430227734,275423344,4094571909,3600352804,3516065817,3345764771,3259730800,2820302411,2730485921,2456956037,2177026350,1986661051,1695183700,1396182291,1294757372,773529912,666307205,338241895,113926993,3584528711,3336571891,3210313671,2952996808,2821834349,2554220882,1996064986,1555081692,1249150122,770255983,604807628,264347078,4022224774,3835390401,3248222580,2614888103,2162078206,1925078388,1426881987,607225278,310598401,3624381080,2870763221,2453635748,1508970993,961987163,3921009573,3049323471,1899447441,1116352408]
theorem zh7:zoS 64=zsB:=by decide +kernel
theorem zvM (s:S.St) (k w:Nat):F.t1S s.e s.f s.g s.h k w=S.t1 s k w:=rfl
theorem zvN (s:S.St):F.t2S s.a s.b s.c=S.t2 s:=rfl
theorem zvO (s:S.St) (k w:Nat):F.t1R s.e s.f s.g s.h k w=R.t1 s k w:=rfl
theorem zvP (s:S.St):F.t2R s.a s.b s.c=R.t2 s:=rfl
theorem zsC (w:Nat→Nat) (s:S.St):∀ t,XR F.t1S F.t2S w s t=S.rounds w s t
 | 0=>rfl
 | t + 1=>by
  show zh8 F.t1S F.t2S (jd.getD t 0) (w t) (XR F.t1S F.t2S w s t)=S.rnd (jd.getD t 0) (w t) (S.rounds w s t)
  rw[zsC w s t]
  unfold zh8 S.rnd
  rw[zvM,zvN]
theorem zsD (w:Nat→Nat) (s:S.St):∀ t,XR F.t1R F.t2R w s t=R.rounds w s t
 | 0=>rfl
 | t + 1=>by
  show zh8 F.t1R F.t2R (jd.getD t 0) (w t) (XR F.t1R F.t2R w s t)=R.rnd (jd.getD t 0) (w t) (R.rounds w s t)
  rw[zsD w s t]
  unfold zh8 R.rnd
  rw[zvO,zvP]
theorem zvQ (y off:Nat):F.ldS y off=S.load32 fun i=>pkr .u8 y (off + i):=by funext t; rfl
theorem zvR (y off:Nat):F.ldR y off=R.load32 fun i=>pkr .u8 y (off + i):=by funext t; rfl
theorem zvS:F.nwS=S.nextW:=rfl
theorem zvT:F.nwR=R.nextW:=rfl
def zec (ld:Nat→Nat) (nw:Nat→Nat→Nat→Nat→Nat) (T1:Nat→Nat→Nat→Nat→Nat→Nat→Nat) (T2:Nat→Nat→Nat→Nat) (x:Nat) (K:Nat→Prop):Prop :=
 zz (pkr .u32 x 0) fun a=>zz (pkr .u32 x 1) fun b=>zz (pkr .u32 x 2) fun c=>zz (pkr .u32 x 3) fun d=>zz (pkr .u32 x 4) fun e=>zz (pkr .u32 x 5) fun f=>zz (pkr .u32 x 6) fun g=>zz (pkr .u32 x 7) fun h =>
  gF ld nw 64 fun ws=>rF T1 T2 a b c d e f g h ws zsB fun a' b' c' d' e' f' g' h'=>pk8 (F.a32 a a') (F.a32 b b') (F.a32 c c') (F.a32 d d') (F.a32 e e') (F.a32 f f') (F.a32 g g') (F.a32 h h') K
theorem wO (a b:Nat):F.a32 a b < 4294967296:=Nat.mod_lt _ (by decide)
theorem zed {ld:Nat→Nat}{nw:Nat→Nat→Nat→Nat→Nat}{T1:Nat→Nat→Nat→Nat→Nat→Nat→Nat}{T2:Nat→Nat→Nat→Nat}{x:Nat}{K:Nat→Prop}(h:zec ld nw T1 T2 x K) :
  ∃ z,K z∧∀ j,j < 8→pkr .u32 z j=S.add32 (pkr .u32 x j) ((XR T1 T2 (fun j=>(S.gL ld nw 64).getD (63 - j) 0) (S.stOf fun i=>pkr .u32 x i) 64).get j):=by
 unfold zec at h
 simp only[zA,zsE] at h
 rw[←zh7] at h
 have h1:=zsF T1 T2 ld nw (S.stOf fun i=>pkr .u32 x i) 64 (fun a' b' c' d' e' f' g' h'=>pk8 (F.a32 (pkr .u32 x 0) a') (F.a32 (pkr .u32 x 1) b') (F.a32 (pkr .u32 x 2) c') (F.a32 (pkr .u32 x 3) d') (F.a32 (pkr .u32 x 4) e') (F.a32 (pkr .u32 x 5) f') (F.a32 (pkr .u32 x 6) g') (F.a32 (pkr .u32 x 7) h') K) (Nat.le_refl _)
 rw[show rF T1 T2 (S.stOf fun i=>pkr .u32 x i).a (S.stOf fun i=>pkr .u32 x i).b (S.stOf fun i=>pkr .u32 x i).c (S.stOf fun i=>pkr .u32 x i).d (S.stOf fun i=>pkr .u32 x i).e (S.stOf fun i=>pkr .u32 x i).f (S.stOf fun i=>pkr .u32 x i).g (S.stOf fun i=>pkr .u32 x i).h=rF T1 T2 (pkr .u32 x 0) (pkr .u32 x 1) (pkr .u32 x 2) (pkr .u32 x 3) (pkr .u32 x 4) (pkr .u32 x 5) (pkr .u32 x 6) (pkr .u32 x 7) from rfl] at h1
 rw[h1] at h
 generalize XR T1 T2 (fun j=>(S.gL ld nw 64).getD (63 - j) 0) (S.stOf fun i=>pkr .u32 x i) 64=r at h ⊢
 unfold pk8 at h
 rw[zA] at h
 refine⟨_,h,fun j hj=>?_⟩
 rw[show ∀ z,pkr .u32 z j=pkr .u32 z j from fun _=>rfl]
 refine (zvV (wO _ _) (wO _ _) (wO _ _) (wO _ _) (wO _ _) (wO _ _) (wO _ _) (wO _ _) j hj).trans ?_
 match j,hj with
 | 0,_=>rfl
 | 1,_=>rfl
 | 2,_=>rfl
 | 3,_=>rfl
 | 4,_=>rfl
 | 5,_=>rfl
 | 6,_=>rfl
 | 7,_=>rfl
def la2 (l:List KV) (f:KV→KV→Prop):Prop:=match l with
 | [x,y]=>f x y
 | _=>BadN 230
theorem qt {l:List KV}{f:KV→KV→Prop}(h:la2 l f):∃ x y,l=[x,y]∧f x y:=by
 unfold la2 at h
 split at h
 ·exact⟨_,_,rfl,h⟩
 ·exact h.elim
def y6:zf:=fun l K=>la2 l fun x y=>wi (fun k n h=>chk (nd (xn k .u32) (Nat.beq n 8)) 231 (wi (fun k2 n2 b=>chk (nd (xn k2 .u8) (Nat.beq n2 64)) 232 (zec (F.ldS b 0) F.nwS F.t1S F.t2S h fun z=>K (.pk .u32 8 z))) (BadN 233) y)) (BadN 234) x
def y7:zf:=fun l K=>la2 l fun x y=>wi (fun k n h=>chk (nd (xn k .u32) (Nat.beq n 8)) 235 (Jf (fun u cl e off len c=>chk (nd (xZ e) (Nat.beq len 64)) 236 (wi (fun k2 n2 b=>chk (xn k2 .u8) 237 (zec (F.ldR b off) F.nwR F.t1R F.t2R h fun z=>K (.pk .u32 8 z))) (BadN 238) c)) (BadN 239) y)) (BadN 240) x
theorem csg {P:Program}{f:FuncId}{c:CSpec}(h:@vh (@instGl gO) P f c):@vh (@instGl kgL) P f c:=h
end
end Go.K
set_option maxRecDepth 100000
namespace Go.K
open Go.Ab Go.RowKit Go.Y Go.Proofs
noncomputable section
theorem jJ:∀ l:List V,unL (mkL l)=l
 | []=>rfl
 | x::l=>by show x::unL (mkL l)=_; rw[jJ l]
theorem Vs {k:IntKind}{n:Nat}{f:Nat→V}(g:Nat→Nat) (h:∀ i,f i=wV k (g i)):qi k n f=true:=by
 unfold qi
 rw[List.all_eq_true]
 intro i _
 rw[h i]
 show xn k k=true
 cases k<;>rfl
theorem XF:KCS Tryz.prog 276 y6:=by
 have hc:=csg zeo
 refine⟨hc.1,fun l K hs=>?_⟩
 obtain⟨x,y,rfl,h1⟩:=qt hs
 rcases xI h1 with ⟨k,n,h,rfl,h2⟩ | ⟨_,h2⟩
 ·obtain⟨h3,h4⟩:=ze h2
  obtain⟨h5,h6⟩:=za.1 h3
  obtain rfl:=zJ h5
  obtain rfl:=zP h6
  rcases xI h4 with ⟨k2,n2,b,rfl,h7⟩ | ⟨_,h7⟩
  ·obtain⟨h8,h9⟩:=ze h7
   obtain⟨h10,h11⟩:=za.1 h8
   obtain rfl:=zJ h10
   obtain rfl:=zP h11
   obtain⟨z,h12,h13⟩:=zed h9
   refine⟨_,h12,fun B μ nx mx l0 hl=>?_⟩
   have hcall:=vy (B:=B) (μ:=μ) (nx:=nx) (mx:=mx) gnL hc rfl hl (by
    rw[jJ,List.map_cons,List.map_cons,List.map_nil,wj,wj]
    show (qi .u32 8 (fun i=>.int .u32 (pkg .u32 h i))&&qi .u8 64 (fun i=>.int .u8 (pkg .u8 b i)))=true
    rw[Bool.and_eq_true]
    exact⟨Vs (fun i=>pkr .u32 h i) fun i=>rfl,Vs (fun i=>pkr .u8 b i) fun i=>rfl⟩)
   rw[jJ] at hcall
   refine hcall.imp ?_ (MImp.refl _) (Nat.le_refl _) (Nat.le_refl _)
   refine Imp.arrE (g:=fun i=>V.int .u32 (pkg .u32 z i)) fun i hi=>?_
   show wV .u32 (S.comp (fun i=>pkr .u32 h i) (fun i=>pkr .u8 b i) i)=wV .u32 (pkr .u32 z i)
   rw[h13 i hi,zvQ,zvS,zsC]
   simp only[Nat.zero_add]
   rfl
  ·exact h7.elim
 ·exact h2.elim
theorem XG:KCS Tryz.prog 190 y7:=by
 have hc:=csg zep
 refine⟨hc.1,fun l K hs=>?_⟩
 obtain⟨x,y,rfl,h1⟩:=qt hs
 rcases xI h1 with ⟨k,n,h,rfl,h2⟩ | ⟨_,h2⟩
 ·obtain⟨h3,h4⟩:=ze h2
  obtain⟨h5,h6⟩:=za.1 h3
  obtain rfl:=zJ h5
  obtain rfl:=zP h6
  rcases vA h4 with ⟨u,cl,e,off,len,c,rfl,h7⟩ | ⟨_,h7⟩
  ·obtain⟨h8,h9⟩:=ze h7
   obtain⟨h10,h11⟩:=za.1 h8
   obtain rfl:=j7 h10
   obtain rfl:=zP h11
   rcases xI h9 with ⟨k2,n2,b,rfl,h14⟩ | ⟨_,h14⟩
   ·obtain⟨h15,h16⟩:=ze h14
    obtain rfl:=zJ h15
    obtain⟨z,h12,h13⟩:=zed h16
    refine⟨_,h12,fun B μ nx mx l0 hl=>?_⟩
    have hcall:=vy (B:=B) (μ:=μ) (nx:=nx) (mx:=mx) gnL hc rfl hl (by
     rw[jJ,List.map_cons,List.map_cons,List.map_nil,wj,ZQ,wj]
     show (qi .u32 8 (fun i=>.int .u32 (pkg .u32 h i))&&qi .u8 64 (fun i=>.int .u8 (pkg .u8 b (off + i))))=true
     rw[Bool.and_eq_true]
     exact⟨Vs (fun i=>pkr .u32 h i) fun i=>rfl,Vs (fun i=>pkr .u8 b (off + i)) fun i=>rfl⟩)
    rw[jJ] at hcall
    refine hcall.imp ?_ (MImp.refl _) (Nat.le_refl _) (Nat.le_refl _)
    refine Imp.arrE (g:=fun i=>V.int .u32 (pkg .u32 z i)) fun i hi=>?_
    show wV .u32 (R.comp (fun i=>pkr .u32 h i) (fun i=>pkr .u8 b (off + i)) i)=wV .u32 (pkr .u32 z i)
    rw[h13 i hi,zvR,zvT,zsD]
    rfl
   ·exact h14.elim
  ·exact h7.elim
 ·exact h2.elim
def ctC:FuncId→Option zf:=fun f=>@Bool.rec (fun _=>Option zf) (@Bool.rec (fun _=>Option zf) none (some y7) (Nat.beq f 190)) (some y6) (Nat.beq f 276)
theorem zFh (f:FuncId) (s:zf) (h:ctC f=some s):KCS Tryz.prog f s:=by
 unfold ctC at h
 cases h1:Nat.beq f 276 with
 | true =>
  rw[h1] at h
  cases h
  rw[zP h1]
  exact XF
 | false =>
  rw[h1] at h
  cases h2:Nat.beq f 190 with
  | true =>
   rw[h2] at h
   cases h
   rw[zP h2]
   exact XG
  | false=>rw[h2] at h; cases h
def E1:KEnv:={ E0 with ct:=ctC }
theorem ok1:KOk E1 where
 fns:=w5
 ct:=zFh
 gn:=gnL
 mixed:=zyH
 ex:=fun _ h=>(by cases h)
end
end Go.K
