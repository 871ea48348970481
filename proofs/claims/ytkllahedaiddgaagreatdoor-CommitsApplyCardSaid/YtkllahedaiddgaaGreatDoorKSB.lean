/- The compressions as contracts of the run, joined. No condition. -/
import Derived.Test.YtkllahedaiddgaaGreatDoorYL0
import Derived.Test.YtkllahedaiddgaaGreatDoorK21
import Derived.Test.YtkllahedaiddgaaGreatDoorKL0
set_option linter.unusedSimpArgs false
set_option linter.unusedVariables false
set_option maxRecDepth 100000
namespace Go.K
open Go.Ab Go.RowKit Go.Y Go.Proofs
noncomputable section
attribute [local instance 10000] gO
noncomputable def kcO (n:Nat):Code:=match Tryz.prog.funcs[n]? with
 | some fn=>match fn.body with
  | some c=>c
  | none=>.skip
 | none=>.skip
noncomputable def krO (n:Nat):List ResultVar:=match Tryz.prog.funcs[n]? with
 | some fn=>fn.results.toList
 | none=>[]
noncomputable def kmO (n:Nat):Nat:=zdH.getD n 0
abbrev KQ:=Exit→List KV→List (Option KBlk)→Nat→Prop
noncomputable def kpc (E:KEnv) (f:Nat) (l:List Code) (lt li:List Nat) (s:LS) (Q:KQ) (R:KV→Prop):Prop:=kpre E 60 (kmO f) l (xA s.1) (xI s.2.1) s.2.2 0 (zee Tryz.prog (krO f) lt li Q fun v _ _=>R v)
noncomputable def f32 (n:Nat) (f:Nat→Nat):KV:=.fa n fun i=>.int .u32 (.ofNat (f i))
noncomputable def f8 (n:Nat) (f:Nat→Nat):KV:=.fa n fun i=>.int .u8 (.ofNat (f i))
noncomputable def bW (t n:Nat) (v:KV):KBlk:=⟨.box t,.arr n .sc,v⟩
noncomputable def zl (id n:Nat):KV:=.ptr id [] (.arr n .sc)
noncomputable def lpc (c:Code):List Code:=fl (lpB (blB c))
noncomputable def lsP (n:Nat) (f:Nat→Prop):List Prop:=@Nat.rec (fun _=>Nat→List Prop) (fun _=>[]) (fun _ ih i=>f i::ih (Nat.succ i)) n 0
theorem Ww {f:Nat→Prop}:∀ {n a i:Nat},i < n→(@Nat.rec (fun _=>Nat→List Prop) (fun _=>[]) (fun _ ih i=>f i::ih (Nat.succ i)) n a:List Prop).getD i True=f (a + i)
 | n + 1,a,0,h=>rfl
 | n + 1,a,i + 1,h=>(Ww (n:=n) (a:=Nat.succ a) (i:=i) (by omega)).trans (by rw[show Nat.succ a + i=a + (i + 1) by omega])
theorem zid {n:Nat}{f g:Nat→Prop}(h:lsP n f=lsP n g) {i:Nat}(hi:i < n):f i=g i:=by
 have h1:=congrArg (fun l=>l.getD i True) h
 have h2:(lsP n f).getD i True=f (0 + i):=Ww hi
 have h3:(lsP n g).getD i True=g (0 + i):=Ww hi
 rw[Nat.zero_add] at h2 h3
 exact h2.symm.trans (h1.trans h3)
noncomputable def Zp:List Code:=fl (kcO 298)
noncomputable def zk2:KBlk:=bW 329 64 (.ar 64 (.int .u32 (.ofNat 0)) .te)
noncomputable def zac (w:Nat→Nat) (t x:Nat):KBlk:=bW 329 64 (.fa 64 fun j=>ifN j t (.int .u32 (.ofNat x)) (.int .u32 (.ofNat (w j))))
noncomputable def kA (k:IntKind) (n:Nat) (f:Nat→Nat):KV:=.ar n (.int k (.ofNat 0)) (@Nat.rec (fun _=>KV) .te (fun i t=>vm (.int k (.ofNat (f i))) (enc i) t) n)
theorem J8 {k:IntKind}{f:Nat→Nat}{z:V}:∀ {n i:Nat},i < n→KV.atv (@Nat.rec (fun _=>KV) .te (fun i t=>vm (.int k (.ofNat (f i))) (enc i) t) n) (enc i) z=wV k (f i)
 | 0,i,h=>absurd h (by omega)
 | n + 1,i,h=>by
  show (vm (.int k (.ofNat (f n))) (enc n) (@Nat.rec (fun _=>KV) .te (fun i t=>vm (.int k (.ofNat (f i))) (enc i) t) n)).atv (enc i) z=_
  rw[wB]
  by_cases e:i=n
  ·rw[if_pos e,e]; rfl
  ·rw[if_neg e]; exact J8 (by omega)
theorem Wq {k:IntKind}{n:Nat}{f:Nat→Nat}{g:Nat→V}(h:∀ i,i < n→g i=wV k (f i)):Imp (.arr n g) (kA k n f).v:=Imp.arrE fun i hi=>by rw[h i hi]; exact (J8 hi).symm
theorem zhQ {k:IntKind}{n:Nat}{f:Nat→Nat}{g:Nat→V}(h:∀ i,i < n→wV k (f i)=g i):Imp (kA k n f).v (.arr n g):=Imp.arrE fun i hi=>(J8 hi).trans (h i hi)
theorem Zi {k:IntKind}{n:Nat}{f g:Nat→Nat}(h:∀ i,i < n→f i=g i):Imp (kA k n f).v (kA k n g).v:=Imp.arrE fun i hi=>(J8 hi).trans ((congrArg (wV k) (h i hi)).trans (J8 hi).symm)
theorem zmr {k:IntKind}{n:Nat}{f g:Nat→Nat}(h:∀ i,i < n→f i=g i):Imp (KV.fa n fun i=>.int k (.ofNat (f i))).v (kA k n g).v:=Wq (g:=fun i=>wV k (f i)) fun i hi=>congrArg (wV k) (h i hi)
theorem FzP.imp {zm:KZ}{v w:KV}(hn:xw v.v=true) (h:Imp v.v w.v):FzP false zm v w:=fun B C M _ _ m hr=>h _ _ (R.noref _ hn hr)
section
variable {F:List Nat}{ρ:Nat→Nat}{nx:Nat}{zm:KZ}
theorem xf {μ:Mem}{n2 b:Nat}{s:Shape}(h:b < n2):RnV μ [] id n2 (KV.ptr b [] s).v (KV.ptr b [] s).v:=(RnB.ptr rfl h).v
theorem xV {μ:Mem}{n2:Nat}(v:KV) (h:zY 0 v=true):RnV μ [] id n2 v.v v.v:=(RnF.nf (vY 0 v h).1).b.v
theorem qr {b1 b:KBlk}(h1:b1.k=b.k) (h2:b1.sh=b.sh) (hi:Imp b1.v.v b.v.v) (hw:RnB (am zm) F ρ nx b.v.v b.v.v):RnK F ρ nx zm (some b1) b:=RnK.mk' h1 h2 fun B H C M q1 q2 q3 m hm=>hw B H C M q1 q2 q3 m (hi C m hm)
theorem yy {n:Nat}{f:Nat→Nat}:RnB (am zm) F ρ nx (f32 n f).v (f32 n f).v:=RnB.arr fun i hi=>nfB (v:=.int .u32 (.ofNat (f i))) rfl
end
noncomputable def YX (b:Nat→Nat):KBlk:=bW 374 64 (kA .u8 64 b)
noncomputable def Ws (b w:Nat→Nat) (t:Nat):LS:=([(1,zl 0 64),(2,zl 1 64),(9,nI t)],[(0,YX b),(1,bW 329 64 (f32 64 w))],2)
noncomputable def zms (b:Nat→Nat) (Q:KQ) (R:KV→Prop):Prop:=kpc EO0 298 (Zp.take 2) [1,2,9] [0,1] (xc (kmO 298) 0 [kA .u8 64 b],[],0) Q R
theorem zuJ (b:Nat→Nat) (Q:KQ) (R:KV→Prop):zms b Q R=Q .normal [zl 0 64,zl 1 64,nI 0] [some (YX b),some zk2] 2:=by kernel_rfl
noncomputable def zhR (b w:Nat→Nat) (t:Nat) (Q:KQ) (R:KV→Prop):Prop:=kpc EO0 298 (lpc (Zp.getD 2 .skip)) [1,2,9] [0,1] (Ws b w t) Q R
theorem zuK (b w:Nat→Nat) (Q:KQ) (R:KV→Prop):lsP 16 (fun t=>zhR b w t Q R)=lsP 16 (fun t=>Q .normal [zl 0 64,zl 1 64,nI (Nat.add t 1)] [some (YX b),some (zac w t (S.load32 b t))] 2):=by kernel_rfl
theorem zpP (b w:Nat→Nat) (Q:KQ) (R:KV→Prop):zhR b w 16 Q R=Q (.exit 0) [zl 0 64,zl 1 64,nI 16] [some (YX b),some (bW 329 64 (f32 64 w))] 2:=by kernel_rfl
noncomputable def J9 (w:Nat→Nat) (t:Nat):LS:=([(2,zl 0 64),(4,nI t)],[(0,bW 329 64 (f32 64 w))],1)
noncomputable def zmt (b w:Nat→Nat) (Q:KQ) (R:KV→Prop):Prop:=kpc EO0 298 ((Zp.drop 3).take 1) [2,4] [1] (Ws b w 16) Q R
theorem zuL (b w:Nat→Nat) (Q:KQ) (R:KV→Prop):zmt b w Q R=Q .normal [zl 1 64,nI 16] [some (bW 329 64 (f32 64 w))] 2:=by kernel_rfl
noncomputable def zdv (w:Nat→Nat) (t:Nat) (Q:KQ) (R:KV→Prop):Prop:=kpc EO0 298 (lpc (Zp.getD 4 .skip)) [2,4] [0] (J9 w t) Q R
theorem zuM (w:Nat→Nat) (Q:KQ) (R:KV→Prop):lsP 48 (fun k=>zdv w (Nat.add 16 k) Q R)=lsP 48 (fun k=>Q .normal [zl 0 64,nI (Nat.add (Nat.add 16 k) 1)] [some (zac w (Nat.add 16 k) (S.nextW (w (Nat.add 1 k)) (w (Nat.add 14 k)) (w (Nat.add 9 k)) (w k)))] 1):=by kernel_rfl
theorem zpQ (w:Nat→Nat) (Q:KQ) (R:KV→Prop) {k:Nat}(hk:k < 48):zdv w (Nat.add 16 k) Q R=Q .normal [zl 0 64,nI (Nat.add (Nat.add 16 k) 1)] [some (zac w (Nat.add 16 k) (S.nextW (w (Nat.add 1 k)) (w (Nat.add 14 k)) (w (Nat.add 9 k)) (w k)))] 1:=zid (zuM w Q R) hk
theorem zpR (w:Nat→Nat) (Q:KQ) (R:KV→Prop):zdv w 64 Q R=Q (.exit 2) [zl 0 64,nI 64] [some (bW 329 64 (f32 64 w))] 1:=by kernel_rfl
noncomputable def zhS (w:Nat→Nat):LS:=([(2,zl 0 64)],[(0,bW 329 64 (kA .u32 64 w))],1)
noncomputable def zmu (w:Nat→Nat) (Q:KQ) (R:KV→Prop):Prop:=kpc EO0 298 (Zp.drop 5) [] [] (zhS w) Q R
theorem zuN (w:Nat→Nat) (Q:KQ) (R:KV→Prop):zmu w Q R=R (kA .u32 64 w):=by kernel_rfl
attribute [local irreducible] kpre kcO kmO krO JL zp Zp S.nextW S.load32
theorem zuO:Tryz.f298.ntmps=72:=by kernel_rfl
theorem zuP:Tryz.f298.results.toList=krO 298:=by kernel_rfl
theorem zuQ:fl (kcO 298)=Zp:=by kernel_rfl
theorem zhT (b:Nat→Nat):zY 0 (YX b).v=true:=by kernel_rfl
theorem zhU {w w':Nat→Nat}{t x:Nat}(h:∀ j,j < 64→w' j=if j=t then x else w j):Imp (zac w t x).v.v (f32 64 w').v:=Imp.arr fun j hj=>by
 show Imp (ifN j t (.int .u32 (.ofNat x)) (.int .u32 (.ofNat (w j)))).v (KV.int .u32 (.ofNat (w' j))).v
 rw[qZ,h j hj]
 split<;>exact Imp.refl _
section
variable {b w w':Nat→Nat}{t x:Nat}{tr:KTm}{zm:KZ}
theorem zpS (ht:[1,2,9].map (zj tr)=[zl 0 64,zl 1 64,nI 0]) (hz:[0,1].map (kb zm)=[some (YX b),some zk2]):atS (kmO 298) (Ws b (fun _=>0) 0) tr zm :=
 atS.of (s:=Ws b (fun _=>0) 0) [] id ht hz (by kernel_rfl) ⟨xf (ltk rfl),xf (ltk rfl),xV _ rfl,trivial⟩ ⟨RnK.nf (zhT b),qr rfl rfl (Imp.arrE fun i hi=>rfl) yy,trivial⟩
theorem zuR (h:∀ j,j < 64→w' j=if j=t then x else w j) (ht:[1,2,9].map (zj tr)=[zl 0 64,zl 1 64,nI (Nat.add t 1)]) (hz:[0,1].map (kb zm)=[some (YX b),some (zac w t x)]):atS (kmO 298) (Ws b w' (t + 1)) tr zm :=
 atS.of (s:=Ws b w' (t + 1)) [] id ht hz (by kernel_rfl) ⟨xf (ltk rfl),xf (ltk rfl),xV _ rfl,trivial⟩ ⟨RnK.nf (zhT b),qr rfl rfl (zhU h) yy,trivial⟩
theorem zpT (ht:[1,2,9].map (zj tr)=[zl 0 64,zl 1 64,nI 16]) (hz:[0,1].map (kb zm)=[some (YX b),some (bW 329 64 (f32 64 w))]):atS (kmO 298) (Ws b w 16) tr zm :=
 atS.of (s:=Ws b w 16) [] id ht hz (by kernel_rfl) ⟨xf (ltk rfl),xf (ltk rfl),xV _ rfl,trivial⟩ ⟨RnK.nf (zhT b),RnK.mk' rfl rfl yy,trivial⟩
theorem zpU (ht:[2,4].map (zj tr)=[zl 1 64,nI 16]) (hz:[1].map (kb zm)=[some (bW 329 64 (f32 64 w))]):atS (kmO 298) (J9 w 16) tr zm :=
 atS.of (s:=J9 w 16) [] (fun _=>1) ht hz (by kernel_rfl) ⟨(show RnB (am zm) [] (fun _=>1) 1 (V.ptr 1 [] (.arr 64 .sc)) (V.ptr 0 [] (.arr 64 .sc)) from RnB.ptr rfl (ltk rfl)).v,(nfB (v:=nI 16) rfl).v,trivial⟩ ⟨RnK.mk' rfl rfl yy,trivial⟩
theorem zpV (h:∀ j,j < 64→w' j=if j=t then x else w j) (ht:[2,4].map (zj tr)=[zl 0 64,nI (Nat.add t 1)]) (hz:[0].map (kb zm)=[some (zac w t x)]):atS (kmO 298) (J9 w' (t + 1)) tr zm :=
 atS.of (s:=J9 w' (t + 1)) [] id ht hz (by kernel_rfl) ⟨xf (ltk rfl),xV _ rfl,trivial⟩ ⟨qr rfl rfl (zhU h) yy,trivial⟩
theorem zuS {F:List Nat}{ρ:Nat→Nat}{nx:Nat}{k:IntKind}{n:Nat}{f:Nat→Nat}:RnB (am zm) F ρ nx (kA k n f).v (kA k n f).v:=RnB.arr fun i hi=>by
 show RnB (am zm) F ρ nx (KV.atv _ (enc i) _) (KV.atv _ (enc i) _)
 rw[J8 hi]
 exact nfB (v:=.int k (.ofNat (f i))) rfl
theorem zpW (h:∀ j,j < 64→w j=w' j) (ht:[2,4].map (zj tr)=[zl 0 64,nI 64]) (hz:[0].map (kb zm)=[some (bW 329 64 (f32 64 w))]):atS (kmO 298) (zhS w') tr zm:=by
 have h2:[2].map (zj tr)=[zl 0 64]:=congrArg (fun l=>l.take 1) ht
 exact atS.of (s:=zhS w') [] id h2 hz (by kernel_rfl) ⟨xf (ltk rfl),trivial⟩ ⟨qr rfl rfl (zmr h) zuS,trivial⟩
end
theorem Wt (j t a b:Nat):(bif j==t then a else b)=if j=t then a else b:=by
 by_cases e:j=t
 ·rw[if_pos e,show (j==t)=true by simpa using e]; rfl
 ·rw[if_neg e,show (j==t)=false by simpa using e]; rfl
theorem zxQ (b:Nat→Nat):JFn Tryz.prog 298 false [kA .u8 64 b] (kA .u32 64 (S.sched b)):=by
 refine JFn.of (P:=Tryz.prog) zR rfl (c:=kcO 298) (kmO 298) Tryz.func298 (by kernel_rfl) fun B N hN=>?_
 rw[zuO] at hN
 rw[zuQ]
 refine JL.stp (n:=60) (s:=(xc (kmO 298) 0 [kA .u8 64 b],[],0)) zR rfl 2 (krO 298) [1,2,9] [0,1] hN (by kernel_rfl) (by kernel_rfl) (fun v=>False) (fun v tr zm nx h1 h2 h3 h4=>h1.elim) ?_
 show zms b _ _
 rw[zuJ]
 intro tr zm ht hz hmb hi
 refine JL.loopT zR (fun t=>Ws b (S.wS b t) t) (fun t=>16 - t) (fun t=>t≤16) (id:=0) (b:=lpB (blB (Zp.getD 2 .skip))) (l2:=Zp.drop 3) (by kernel_rfl) (fun t=>by kernel_rfl) 0 (Nat.zero_le _) (zpS ht hz) hmb hi ?_
 intro t ht16
 refine JL.all (n:=60) zR rfl (krO 298) [1,2,9] [0,1] hN (by kernel_rfl) (by kernel_rfl) (fun v=>False) (fun v tr zm nx h1 h2 h3 h4=>h1.elim) ?_
 show zhR b (S.wS b t) t _ _
 rcases Nat.lt_or_ge t 16 with h | h
 ·rw[zid (zuK b (S.wS b t) _ _) h]
  intro tr zm ht hz hmb hi
  refine⟨t + 1,by omega,by omega,zuR (fun j hj=>?_) ht hz⟩
  rw[S.wS_lo b t h]
  exact Wt _ _ _ _
 ·obtain rfl:t=16:=by omega
  rw[zpP]
  intro tr zm ht hz hmb hi
  show (if (0:Nat)=0 then JL EO0 B N (kmO 298) (Zp.drop 3) tr zm 2 _ else _)
  rw[if_pos rfl]
  refine JL.preS zR (zpT ht hz) (xx (by kernel_rfl)) ?_
  refine JL.stp (n:=60) zR rfl 1 (krO 298) [2,4] [1] hN (by kernel_rfl) (by kernel_rfl) (fun v=>False) (fun v tr zm nx h1 h2 h3 h4=>h1.elim) ?_
  show zmt b (S.wS b 16) _ _
  rw[zuL]
  intro tr zm ht hz hmb hi
  show JL EO0 B N (kmO 298) ((Zp.drop 3).drop 1) tr zm 2 _
  rw[List.drop_drop]
  refine JL.loopT zR (fun t=>J9 (S.wS b t) t) (fun t=>64 - t) (fun t=>16≤t∧t≤64) (id:=2) (b:=lpB (blB (Zp.getD 4 .skip))) (l2:=Zp.drop 5) (by kernel_rfl) (fun t=>by kernel_rfl) 16 ⟨by omega,by omega⟩ (zpU ht hz) hmb hi ?_
  rintro t ⟨ha,hb⟩
  refine JL.all (n:=60) zR rfl (krO 298) [2,4] [0] hN (by kernel_rfl) (by kernel_rfl) (fun v=>False) (fun v tr zm nx h1 h2 h3 h4=>h1.elim) ?_
  show zdv (S.wS b t) t _ _
  rcases Nat.lt_or_ge t 64 with h | h
  ·obtain⟨k,rfl⟩:∃ k,t=Nat.add 16 k:=⟨t - 16,by show t=16 + (t - 16); omega⟩
   have hk:k < 48:=by have h':16 + k < 64:=h; omega
   rw[zpQ _ _ _ hk]
   intro tr zm ht hz hmb hi
   refine⟨Nat.add 16 k + 1,by omega,by omega,zpV (fun j hj=>?_) ht hz⟩
   rw[S.wS_hi b (Nat.add 16 k) ha]
   have e1:Nat.add 16 k - 15=Nat.add 1 k:=by show 16 + k - 15=1 + k; omega
   have e2:Nat.add 16 k - 2=Nat.add 14 k:=by show 16 + k - 2=14 + k; omega
   have e3:Nat.add 16 k - 7=Nat.add 9 k:=by show 16 + k - 7=9 + k; omega
   have e4:Nat.add 16 k - 16=k:=by show 16 + k - 16=k; omega
   rw[e1,e2,e3,e4]
   exact Wt _ _ _ _
  ·obtain rfl:t=64:=by omega
   rw[zpR]
   intro tr zm ht hz hmb hi
   show (if (2:Nat)=2 then JL EO0 B N (kmO 298) (Zp.drop 5) tr zm 1 _ else _)
   rw[if_pos rfl]
   refine JL.preS zR (zpW (w':=S.sched b) (fun j hj=>S.wS_sched b j hj) ht hz) (xx (by kernel_rfl)) ?_
   refine JL.all (n:=60) zR rfl (krO 298) [] [] hN (by kernel_rfl) (by kernel_rfl) (fun v=>v=kA .u32 64 (S.sched b)) (fun v tr zm nx h1 h2 h3 h4=>by subst h1; exact retJ.mk rfl zuP (FzP.noref (by kernel_rfl)) h4) ?_
   show zmu (S.sched b) _ _
   rw[zuN]
noncomputable def zuT:zk:=qw (fun b:Nat→Nat=>[kA .u8 64 b]) (fun _=>True) fun b=>kA .u32 64 (S.sched b)
theorem zxR:KCS Tryz.prog 298 zuT:=QX ⟨Tryz.f298,Tryz.func298,by kernel_rfl,by kernel_rfl⟩ fun b _=>zxQ b
end
end Go.K
set_option maxRecDepth 100000
namespace Go.K
open Go.Ab Go.RowKit Go.Y Go.Proofs
noncomputable section
attribute [local instance 10000] gO
def pwL:List Nat:=[1,2,4,8,16,32,64,128,256,512,1024,2048,4096,8192,16384,32768,65536,131072,262144,524288,1048576,2097152,4194304,8388608,16777216,33554432,67108864,134217728,268435456,536870912,1073741824,2147483648,4294967296]
noncomputable def zqH (n x:Nat):Nat:=S.rot x (pwL.getD (Nat.sub 32 n) 0) (pwL.getD n 0)
noncomputable def zqI (n x:Nat):Nat:=R.rot x (pwL.getD (Nat.sub 32 n) 0) (pwL.getD n 0)
noncomputable def zv1 (x:KV) (f:Nat→Prop):Prop:=zW (fun k a=>chk (z8 k .u32) 300 (@Int.rec (fun _=>Prop) (fun n=>f n) (fun _=>BadN 301) a)) (BadN 302) x
theorem zqJ {x:KV}{f:Nat→Prop}(h:zv1 x f):∃ n,x=.int .u32 (.ofNat n)∧f n:=by
 rcases zt h with ⟨k,a,rfl,h1⟩ | ⟨_,h1⟩
 ·obtain⟨h2,h3⟩:=zf h1
  obtain rfl:=zw h2
  cases a with
  | ofNat n=>exact⟨n,rfl,h3⟩
  | negSucc n=>exact (show BadN 301 from h3).elim
 ·exact h1.elim
noncomputable def kl2 (l:List KV) (f:KV→KV→Prop):Prop:=match l with
 | [a,b]=>f a b
 | _=>False
theorem zv2 {l:List KV}{f:KV→KV→Prop}(h:kl2 l f):∃ a b,l=[a,b]∧f a b:=by
 unfold kl2 at h
 split at h
 ·exact⟨_,_,rfl,h⟩
 ·exact h.elim
def VR:List Nat:=[2,6,7,11,13,17,18,19,22,25]
noncomputable def zaf (g:Nat→Nat→Nat):zk:=fun l K=>kl2 l fun a b=>zv1 a fun x=>ZU b fun n=>cnd (VR.any (Nat.beq n)) (K (.int .u32 (.ofNat (g n x))))
noncomputable def zyA (x n:Nat) (K:KV→Prop):Prop:=zo EO0 (zp EO0 60) 0 299 [.int .u32 (.ofNat x),nI n] .e 0 0 fun r _ _ _=>K r
noncomputable def zyB (x n:Nat) (K:KV→Prop):Prop:=zo EO0 (zp EO0 60) 0 246 [.int .u32 (.ofNat x),nI n] .e 0 0 fun r _ _ _=>K r
theorem wm {l:List Nat}{f g:Nat→Prop}(h:l.map f=l.map g) {n:Nat}(hn:n∈l):f n=g n:=List.map_inj_left.1 h n hn
theorem zyC (x:Nat) (K:KV→Prop):VR.map (fun n=>zyA x n K)=VR.map (fun n=>K (.int .u32 (.ofNat (zqH n x)))):=by kernel_rfl
theorem zyD (x:Nat) (K:KV→Prop):VR.map (fun n=>zyB x n K)=VR.map (fun n=>K (.int .u32 (.ofNat (zqI n x)))):=by kernel_rfl
theorem zv3 {f:Nat}{g:Nat→Nat→Nat}(hf:∃ fn,Tryz.prog.funcs[f]?=some fn∧(fn.name == "runtime.NumGoroutine")=false∧fn.body.isNone=false)
  (h:∀ x n (K:KV→Prop),n∈VR→zo EO0 (zp EO0 60) 0 f [.int .u32 (.ofNat x),nI n] .e 0 0 (fun r _ _ _=>K r)=K (.int .u32 (.ofNat (g n x)))):KCS Tryz.prog f (zaf g):=zes hf fun l K hs=>by
 obtain⟨a,b,rfl,h1⟩:=zv2 hs
 obtain⟨x,rfl,h2⟩:=zqJ h1
 obtain⟨n,rfl,h3⟩:=jA h2
 obtain⟨h4,h5⟩:=ze.1 h3
 have hn:n∈VR:=by
  obtain⟨y,h6,h7⟩:=List.any_eq_true.1 h4
  rw[Nat.eq_of_beq_eq_true h7]; exact h6
 exact⟨EO0,zR,rfl,60,fun r=>r=.int .u32 (.ofNat (g n x)),_,h5,rfl,fun r hr=>by rw[hr]; exact Imp.refl _,Eq.mpr (h x n _ hn) rfl⟩
theorem zlg:KCS Tryz.prog 299 (zaf zqH):=zv3 ⟨Tryz.f299,Tryz.func299,by kernel_rfl,by kernel_rfl⟩ fun x n K hn=>wm (zyC x K) hn
theorem zlh:KCS Tryz.prog 246 (zaf zqI):=zv3 ⟨Tryz.f246,Tryz.func246,by kernel_rfl,by kernel_rfl⟩ fun x n K hn=>wm (zyD x K) hn
noncomputable def qF:KEnv:=EO0.tab [(298,zuT),(299,zaf zqH)]
theorem jf:KOk qF:=zR.tab ⟨zxR,zlg,trivial⟩
noncomputable def wL:List Code:=fl (kcO 276)
noncomputable def b8K (f:Nat→Nat):KBlk:=bW 330 8 (kA .u32 8 f)
noncomputable def z8K:KBlk:=bW 330 8 (.ar 8 (.int .u32 (.ofNat 0)) .te)
noncomputable def ziZ:KV:=zik
noncomputable def zb5 (t:Nat):List KV:=[zl 0 8,zl 1 8,zl 2 64,zl 3 8,ziZ,nI t]
noncomputable def Zs (h w:Nat→Nat) (s:S.St) (t:Nat):LS:=([(2,zl 0 8),(4,zl 1 8),(5,zl 2 64),(6,zl 3 8),(17,ziZ),(18,nI t)],[(0,b8K h),(1,z8K),(2,bW 329 64 (kA .u32 64 w)),(3,b8K s.get)],4)
noncomputable def zm8 (h b:Nat→Nat) (Q:KQ) (R:KV→Prop):Prop:=kpc qF 276 (wL.take 4) [2,4,5,6,17,18] [0,2,3,4] (xc (kmO 276) 0 [kA .u32 8 h,kA .u8 64 b],[],0) Q R
theorem zws (h b:Nat→Nat) (Q:KQ) (R:KV→Prop):zm8 h b Q R=∃ x:Nat→Nat,[kA .u8 64 b]=[kA .u8 64 x]∧True∧Q .normal [zl 0 8,zl 2 8,zl 3 64,zl 4 8,ziZ,nI 0] [some (b8K h),some z8K,some (bW 329 64 (kA .u32 64 (S.sched x))),some (b8K h)] 5:=by kernel_rfl
noncomputable def lN (l:List Nat) (i:Nat):Nat:=@List.rec Nat (fun _=>Nat→Nat) (fun _=>0) (fun x _ ih i=>@Nat.rec (fun _=>Nat) x (fun j _=>ih j) i) l i
def Xm:List Nat:=[0,1,2,3,4,5,6,7,8,9,10,11,12,13,14,15,16,17,18,19,20,21,22,23,24,25,26,27,28,29,30,31,32,33,34,35,36,37,38,39,40,41,42,43,44,45,46,47,48,49,50,51,52,53,54,55,56,57,58,59,60,61,62,63]
def ns8:List Nat:=[0,1,2,3,4,5,6,7]
theorem zaj {t:Nat}(h:t < 64):t∈Xm:=by
 have hd:∀ t:Fin 64,t.1∈Xm:=by decide
 exact hd ⟨t,h⟩
theorem zyQ {t:Nat}(h:t < 8):t∈ns8:=by
 have hd:∀ t:Fin 8,t.1∈ns8:=by decide
 exact hd ⟨t,h⟩
noncomputable def w6:List Code:=lpc (wL.getD 4 .skip)
noncomputable def zak:List Code:=fl (blB (w6.getD 2 .skip))
noncomputable def zb6 (h w:Nat→Nat) (s:S.St):List (Option KBlk):=[some (b8K h),some z8K,some (bW 329 64 (kA .u32 64 w)),some (b8K s.get)]
noncomputable def zi0 (h w:Nat→Nat) (s:S.St) (t:Nat) (Q:KQ) (R:KV→Prop):Prop:=kpc qF 276 (w6.take 2) [2,4,5,6,17,18] [0,1,2,3] (Zs h w s t) Q R
theorem zwt (h w:Nat→Nat) (s:S.St) (Q:KQ) (R:KV→Prop):Xm.map (fun t=>zi0 h w s t Q R)=Xm.map (fun t=>Q .normal (zb5 t) (zb6 h w s) 4):=by kernel_rfl
theorem zsa (h w:Nat→Nat) (s:S.St) (Q:KQ) (R:KV→Prop):zi0 h w s 64 Q R=Q (.exit 0) (zb5 64) (zb6 h w s) 4:=by kernel_rfl
noncomputable def zm9 (h w:Nat→Nat) (s:S.St) (t:Nat) (Q:KQ) (R:KV→Prop):Prop:=kpc qF 276 (zak.take 4) [2,4,5,6,17,18,11,12] [0,1,2,3] (Zs h w s t) Q R
theorem zwu (h w:Nat→Nat) (s:S.St) (Q:KQ) (R:KV→Prop):Xm.map (fun t=>zm9 h w s t Q R)=Xm.map (fun t=>Q .normal (zb5 t++[.int .u32 (.ofNat (S.t1 s (vI.getD t 0) (w t))),.int .u32 (.ofNat (S.t2 s))]) (zb6 h w s) 4):=by kernel_rfl
noncomputable def zi1 (h w:Nat→Nat) (s:S.St) (t x y:Nat):LS:=((Zs h w s t).1++[(11,.int .u32 (.ofNat x)),(12,.int .u32 (.ofNat y))],(Zs h w s t).2.1,4)
noncomputable def zna (h w:Nat→Nat) (s:S.St) (t x y:Nat) (Q:KQ) (R:KV→Prop):Prop:=kpc qF 276 (zak.drop 4) [2,4,5,6,17,18] [0,1,2,3] (zi1 h w s t x y) Q R
noncomputable def nxS (s:S.St) (x y:Nat):S.St:=⟨S.add32 x y,s.a,s.b,s.c,S.add32 s.d x,s.e,s.f,s.g⟩
theorem zwv (h w:Nat→Nat) (s:S.St) (t x y:Nat) (Q:KQ) (R:KV→Prop):zna h w s t x y Q R=Q .normal (zb5 t) (zb6 h w (nxS s x y)) 4:=by kernel_rfl
noncomputable def znb (h w:Nat→Nat) (s:S.St) (t:Nat) (Q:KQ) (R:KV→Prop):Prop:=kpc qF 276 (w6.drop 3) [2,4,5,6,17,18] [0,1,2,3] (Zs h w s t) Q R
theorem zww (h w:Nat→Nat) (s:S.St) (Q:KQ) (R:KV→Prop):Xm.map (fun t=>znb h w s t Q R)=Xm.map (fun t=>Q .normal (zb5 (Nat.add t 1)) (zb6 h w s) 4):=by kernel_rfl
noncomputable def VV (a x:Nat→Nat) (t:Nat):LS:=([(2,zl 0 8),(4,zl 1 8),(6,zl 2 8),(99,nI t)],[(0,b8K a),(1,z8K),(2,b8K x)],3)
noncomputable def zi2 (t:Nat):List KV:=[zl 0 8,zl 1 8,zl 2 8,nI t]
noncomputable def znc (h w:Nat→Nat) (s:S.St) (Q:KQ) (R:KV→Prop):Prop:=kpc qF 276 ((wL.drop 5).take 1) [2,4,6,99] [0,1,3] (Zs h w s 64) Q R
theorem zwx (h w:Nat→Nat) (s:S.St) (Q:KQ) (R:KV→Prop):znc h w s Q R=Q .normal [zl 0 8,zl 1 8,zl 3 8,nI 0] [some (b8K h),some z8K,some (b8K s.get)] 4:=by kernel_rfl
noncomputable def zi3 (a x:Nat→Nat) (t:Nat) (Q:KQ) (R:KV→Prop):Prop:=kpc qF 276 (lpc (wL.getD 6 .skip)) [2,4,6,99] [0,1,2] (VV a x t) Q R
noncomputable def acN (a x:Nat→Nat) (t j:Nat):Nat:=@Bool.rec (fun _=>Nat) (a j) (S.add32 (a t) (x t)) (Nat.beq j t)
theorem zwy (a x:Nat→Nat) (Q:KQ) (R:KV→Prop):ns8.map (fun t=>zi3 a x t Q R)=ns8.map (fun t=>Q .normal (zi2 (Nat.add t 1)) [some (b8K (acN a x t)),some z8K,some (b8K x)] 3):=by kernel_rfl
theorem zsb (a x:Nat→Nat) (Q:KQ) (R:KV→Prop):zi3 a x 8 Q R=Q (.exit 2) (zi2 8) [some (b8K a),some z8K,some (b8K x)] 3:=by kernel_rfl
noncomputable def znd (a x:Nat→Nat) (Q:KQ) (R:KV→Prop):Prop:=kpc qF 276 (wL.drop 7) [] [] (VV a x 8) Q R
theorem zwz (a x:Nat→Nat) (Q:KQ) (R:KV→Prop):znd a x Q R=R (kA .u32 8 a):=by kernel_rfl
theorem zsc (w:Nat→Nat) (s0:S.St) (t:Nat):nxS (S.rounds w s0 t) (S.t1 (S.rounds w s0 t) (vI.getD t 0) (w t)) (S.t2 (S.rounds w s0 t))=S.rounds w s0 (t + 1):=rfl
attribute [local irreducible] kpre kcO kmO krO JL zp wL w6 zak S.rounds S.sched S.t1 S.t2 S.add32 kA
noncomputable def Zn (a b c d i:Nat):Nat:=@Nat.rec (fun _=>Nat) a (fun i _=>@Nat.rec (fun _=>Nat) b (fun i _=>@Nat.rec (fun _=>Nat) c (fun _ _=>d) i) i) i
theorem zvb:Tryz.f276.ntmps=112:=by kernel_rfl
theorem zvc:Tryz.f276.results.toList=krO 276:=by kernel_rfl
theorem zvd:fl (kcO 276)=wL:=by kernel_rfl
theorem Zo (f:Nat→Nat):zY 0 (b8K f).v=true:=by kernel_rfl
theorem Y0 (f:Nat→Nat):zY 0 (bW 329 64 (kA .u32 64 f)).v=true:=by kernel_rfl
theorem Wv:zY 0 z8K.v=true:=by kernel_rfl
theorem zkV (f:Nat→Nat):xw (kA .u32 8 f).v=true:=by kernel_rfl
section
variable {h w x a:Nat→Nat}{s:S.St}{t p q:Nat}{tr:KTm}{zm:KZ}
theorem zdA (ht:[2,4,5,6,17,18].map (zj tr)=zb5 t) (hz:[0,1,2,3].map (kb zm)=zb6 h w s):atS (kmO 276) (Zs h w s t) tr zm :=
 atS.of (s:=Zs h w s t) [] id ht hz (by kernel_rfl) ⟨xf (ltk rfl),xf (ltk rfl),xf (ltk rfl),xf (ltk rfl),xV _ rfl,xV _ rfl,trivial⟩ ⟨RnK.nf (Zo h),RnK.nf Wv,RnK.nf (Y0 w),RnK.nf (Zo s.get),trivial⟩
theorem zp6 (ht:[2,4,5,6,17,18,11,12].map (zj tr)=zb5 t++[.int .u32 (.ofNat p),.int .u32 (.ofNat q)]) (hz:[0,1,2,3].map (kb zm)=zb6 h w s):atS (kmO 276) (zi1 h w s t p q) tr zm :=
 atS.of (s:=zi1 h w s t p q) [] id ht hz (by kernel_rfl) ⟨xf (ltk rfl),xf (ltk rfl),xf (ltk rfl),xf (ltk rfl),xV _ rfl,xV _ rfl,xV _ rfl,xV _ rfl,trivial⟩ ⟨RnK.nf (Zo h),RnK.nf Wv,RnK.nf (Y0 w),RnK.nf (Zo s.get),trivial⟩
theorem zp7 (hs:∀ i,i < 8→h i=s.get i) (ht:[2,4,5,6,17,18].map (zj tr)=[zl 0 8,zl 2 8,zl 3 64,zl 4 8,ziZ,nI 0]) (hz:[0,2,3,4].map (kb zm)=[some (b8K h),some z8K,some (bW 329 64 (kA .u32 64 w)),some (b8K h)]):atS (kmO 276) (Zs h w s 0) tr zm :=
 atS.of (s:=Zs h w s 0) [] (Zn 0 2 3 4) ht hz (by kernel_rfl)
  ⟨(show RnB (am zm) [] (Zn 0 2 3 4) 4 (V.ptr 0 [] (.arr 8 .sc)) (V.ptr 0 [] (.arr 8 .sc)) from RnB.ptr rfl (ltk rfl)).v,(show RnB (am zm) [] (Zn 0 2 3 4) 4 (V.ptr 2 [] (.arr 8 .sc)) (V.ptr 1 [] (.arr 8 .sc)) from RnB.ptr rfl (ltk rfl)).v,(show RnB (am zm) [] (Zn 0 2 3 4) 4 (V.ptr 3 [] (.arr 64 .sc)) (V.ptr 2 [] (.arr 64 .sc)) from RnB.ptr rfl (ltk rfl)).v,(show RnB (am zm) [] (Zn 0 2 3 4) 4 (V.ptr 4 [] (.arr 8 .sc)) (V.ptr 3 [] (.arr 8 .sc)) from RnB.ptr rfl (ltk rfl)).v,(nfB (v:=ziZ) rfl).v,(nfB (v:=nI 0) rfl).v,trivial⟩
  ⟨RnK.nf (Zo h),RnK.nf Wv,RnK.nf (Y0 w),qr rfl rfl (Zi hs) (nfB (Zo s.get)),trivial⟩
theorem zp8 (ht:[2,4,6,99].map (zj tr)=[zl 0 8,zl 1 8,zl 3 8,nI 0]) (hz:[0,1,3].map (kb zm)=[some (b8K a),some z8K,some (b8K x)]):atS (kmO 276) (VV a x 0) tr zm :=
 atS.of (s:=VV a x 0) [] (Zn 0 1 3 0) ht hz (by kernel_rfl)
  ⟨(show RnB (am zm) [] (Zn 0 1 3 0) 3 (V.ptr 0 [] (.arr 8 .sc)) (V.ptr 0 [] (.arr 8 .sc)) from RnB.ptr rfl (ltk rfl)).v,(show RnB (am zm) [] (Zn 0 1 3 0) 3 (V.ptr 1 [] (.arr 8 .sc)) (V.ptr 1 [] (.arr 8 .sc)) from RnB.ptr rfl (ltk rfl)).v,(show RnB (am zm) [] (Zn 0 1 3 0) 3 (V.ptr 3 [] (.arr 8 .sc)) (V.ptr 2 [] (.arr 8 .sc)) from RnB.ptr rfl (ltk rfl)).v,(nfB (v:=nI 0) rfl).v,trivial⟩
  ⟨RnK.nf (Zo a),RnK.nf Wv,RnK.nf (Zo x),trivial⟩
theorem zh6 {a':Nat→Nat}(ha:∀ j,j < 8→a j=a' j) (ht:[2,4,6,99].map (zj tr)=zi2 t) (hz:[0,1,2].map (kb zm)=[some (b8K a),some z8K,some (b8K x)]):atS (kmO 276) (VV a' x t) tr zm :=
 atS.of (s:=VV a' x t) [] id ht hz (by kernel_rfl) ⟨xf (ltk rfl),xf (ltk rfl),xf (ltk rfl),xV _ rfl,trivial⟩ ⟨qr rfl rfl (Zi ha) (nfB (Zo a')),RnK.nf Wv,RnK.nf (Zo x),trivial⟩
end
theorem zp9 (h x:Nat→Nat) (t j:Nat):acN (S.accS h x t) x t j=S.accS h x (t + 1) j:=by
 show @Bool.rec (fun _=>Nat) _ _ (Nat.beq j t)=(bif j==t then S.add32 (S.accS h x t t) (x t) else S.accS h x t j)
 by_cases e:j=t
 ·subst e
  rw[Nat.beq_refl,show (j==j)=true by simp]; rfl
 ·rw[show Nat.beq j t=false by
   cases hb:Nat.beq j t with
   | false=>rfl
   | true=>exact absurd (Nat.eq_of_beq_eq_true hb) e,show (j==t)=false by simpa using e]; rfl
theorem zqa (h:Nat→Nat):∀ i,i < 8→h i=(S.stOf h).get i:=fun i hi=>by
 match i,hi with
 | 0,_=>rfl
 | 1,_=>rfl
 | 2,_=>rfl
 | 3,_=>rfl
 | 4,_=>rfl
 | 5,_=>rfl
 | 6,_=>rfl
 | 7,_=>rfl
theorem zx5 (h b:Nat→Nat):JFn Tryz.prog 276 false [kA .u32 8 h,kA .u8 64 b] (kA .u32 8 (S.comp h b)):=by
 refine JFn.of (P:=Tryz.prog) jf rfl (c:=kcO 276) (kmO 276) Tryz.func276 (by kernel_rfl) fun B N hN=>?_
 rw[zvb] at hN
 rw[zvd]
 refine JL.stp (n:=60) (s:=(xc (kmO 276) 0 [kA .u32 8 h,kA .u8 64 b],[],0)) jf rfl 4 (krO 276) [2,4,5,6,17,18] [0,2,3,4] hN (by kernel_rfl) (by kernel_rfl) (fun v=>False) (fun v tr zm nx h1 h2 h3 h4=>h1.elim) ?_
 show zm8 h b _ _
 rw[zws]
 refine⟨b,rfl,trivial,?_⟩
 generalize hw:S.sched b=w
 intro tr zm ht hz hmb hi
 refine JL.loopT jf (fun t=>Zs h w (S.rounds w (S.stOf h) t) t) (fun t=>64 - t) (fun t=>t≤64) (id:=0) (b:=lpB (blB (wL.getD 4 .skip))) (l2:=wL.drop 5) (by kernel_rfl) (fun t=>by kernel_rfl) 0 (Nat.zero_le _) (zp7 (s:=S.rounds w (S.stOf h) 0) (fun i hi=>by unfold S.rounds; exact zqa h i hi) ht hz) hmb hi ?_
 intro t ht64
 show JL qF B N (kmO 276) (fl (lpB (blB (wL.getD 4 .skip)))) (xA (Zs h w (S.rounds w (S.stOf h) t) t).1) (xI (Zs h w (S.rounds w (S.stOf h) t) t).2.1) (Zs h w (S.rounds w (S.stOf h) t) t).2.2 _
 rw[show fl (lpB (blB (wL.getD 4 .skip)))=w6 by kernel_rfl]
 refine JL.stp (n:=60) jf rfl 2 (krO 276) [2,4,5,6,17,18] [0,1,2,3] hN (by kernel_rfl) (by kernel_rfl) (fun v=>False) (fun v tr zm nx h1 h2 h3 h4=>h1.elim) ?_
 show zi0 h w (S.rounds w (S.stOf h) t) t _ _
 rcases Nat.lt_or_ge t 64 with hlt | hge
 ·rw[wm (zwt h w (S.rounds w (S.stOf h) t) _ _) (zaj hlt)]
  intro tr zm ht hz hmb hi
  show JL qF B N (kmO 276) (w6.drop 2) tr zm 4 _
  refine JL.blk (id:=1) (X:=blB (w6.getD 2 .skip)) (l2:=w6.drop 3) (by kernel_rfl) hmb hi ?_
  rw[show fl (blB (w6.getD 2 .skip))=zak by kernel_rfl]
  refine JL.preS jf (zdA ht hz) (xx (by kernel_rfl)) ?_
  refine JL.stp (n:=60) jf rfl 4 (krO 276) [2,4,5,6,17,18,11,12] [0,1,2,3] hN (by kernel_rfl) (by kernel_rfl) (fun v=>False) (fun v tr zm nx h1 h2 h3 h4=>h1.elim) ?_
  show zm9 h w (S.rounds w (S.stOf h) t) t _ _
  rw[wm (zwu h w (S.rounds w (S.stOf h) t) _ _) (zaj hlt)]
  intro tr zm ht hz hmb hi
  show JL qF B N (kmO 276) (zak.drop 4) tr zm 4 _
  refine JL.preS jf (zp6 ht hz) (xx (by kernel_rfl)) ?_
  refine JL.all (n:=60) jf rfl (krO 276) [2,4,5,6,17,18] [0,1,2,3] hN (by kernel_rfl) (by kernel_rfl) (fun v=>False) (fun v tr zm nx h1 h2 h3 h4=>h1.elim) ?_
  show zna h w (S.rounds w (S.stOf h) t) t _ _ _ _
  rw[zwv,zsc]
  intro tr zm ht hz hmb hi
  show JL qF B N (kmO 276) (w6.drop 3) tr zm 4 _
  refine JL.preS jf (zdA ht hz) (xx (by kernel_rfl)) ?_
  refine JL.all (n:=60) jf rfl (krO 276) [2,4,5,6,17,18] [0,1,2,3] hN (by kernel_rfl) (by kernel_rfl) (fun v=>False) (fun v tr zm nx h1 h2 h3 h4=>h1.elim) ?_
  show znb h w (S.rounds w (S.stOf h) (t + 1)) t _ _
  rw[wm (zww h w (S.rounds w (S.stOf h) (t + 1)) _ _) (zaj hlt)]
  intro tr zm ht hz hmb hi
  exact⟨t + 1,by omega,by omega,zdA ht hz⟩
 ·obtain rfl:t=64:=by omega
  rw[zsa]
  intro tr zm ht hz hmb hi
  show (if (0:Nat)=0 then JL qF B N (kmO 276) (wL.drop 5) tr zm 4 (retJ qF Tryz.f276 false (kA .u32 8 (S.comp h b))) else retJ qF Tryz.f276 false (kA .u32 8 (S.comp h b)) (.exit 0) tr zm 4)
  rw[if_pos rfl]
  refine JL.preS jf (zdA ht hz) (xx (by kernel_rfl)) ?_
  refine JL.stp (n:=60) jf rfl 1 (krO 276) [2,4,6,99] [0,1,3] hN (by kernel_rfl) (by kernel_rfl) (fun v=>False) (fun v tr zm nx h1 h2 h3 h4=>h1.elim) ?_
  show znc h w (S.rounds w (S.stOf h) 64) _ _
  rw[zwx]
  generalize hx:(S.rounds w (S.stOf h) 64).get=x
  intro tr zm ht hz hmb hi
  show JL qF B N (kmO 276) ((wL.drop 5).drop 1) tr zm 4 _
  rw[List.drop_drop]
  refine JL.loopT jf (fun t=>VV (S.accS h x t) x t) (fun t=>8 - t) (fun t=>t≤8) (id:=2) (b:=lpB (blB (wL.getD 6 .skip))) (l2:=wL.drop 7) (by kernel_rfl) (fun t=>by kernel_rfl) 0 (Nat.zero_le _) (zp8 ht hz) hmb hi ?_
  intro t ht8
  refine JL.all (n:=60) jf rfl (krO 276) [2,4,6,99] [0,1,2] hN (by kernel_rfl) (by kernel_rfl) (fun v=>False) (fun v tr zm nx h1 h2 h3 h4=>h1.elim) ?_
  show zi3 (S.accS h x t) x t _ _
  rcases Nat.lt_or_ge t 8 with hlt | hge
  ·rw[wm (zwy (S.accS h x t) x _ _) (zyQ hlt)]
   intro tr zm ht hz hmb hi
   exact⟨t + 1,by omega,by omega,zh6 (fun j _=>zp9 h x t j) ht hz⟩
  ·obtain rfl:t=8:=by omega
   rw[zsb]
   intro tr zm ht hz hmb hi
   show (if (2:Nat)=2 then JL qF B N (kmO 276) (wL.drop 7) tr zm 3 _ else _)
   rw[if_pos rfl]
   refine JL.preS jf (zh6 (fun j _=>rfl) ht hz) (xx (by kernel_rfl)) ?_
   refine JL.all (n:=60) jf rfl (krO 276) [] [] hN (by kernel_rfl) (by kernel_rfl) (fun v=>v=kA .u32 8 (S.accS h x 8)) (fun v tr zm nx h1 h2 h3 h4=>by
    subst h1
    refine retJ.mk rfl zvc (FzP.imp (zkV _) (Zi fun j hj=>?_)) h4
    rw[S.accS_lt h x 8 j hj,←hx,←hw]; rfl) ?_
   show znd (S.accS h x 8) x _ _
   rw[zwz]
end
end Go.K
set_option maxRecDepth 100000
namespace Go.K
open Go.Ab Go.RowKit Go.Y Go.Proofs
noncomputable section
attribute [local instance 10000] gO
noncomputable def Wu:KEnv:=EO0.tab [(246,zaf zqI)]
theorem w5:KOk Wu:=zR.tab ⟨zlh,trivial⟩
noncomputable def Zj:List Code:=fl (kcO 190)
noncomputable def ro8 (b:Nat→Nat):KV:=.ro true false .sc 0 64 (f8 64 b)
noncomputable def VM:KBlk:=bW 329 64 (kA .u32 64 fun i=>vI.getD i 0)
noncomputable def zkN (b:Nat→Nat) (t:Nat):List KV:=[ro8 b,zl 0 8,zl 1 8,zl 2 64,zl 3 64,nI t]
noncomputable def zmx (h b:Nat→Nat) (Q:KQ) (RR:KV→Prop):Prop:=kpc Wu 190 (Zj.take 4) [1,2,4,5,7,8] [0,1,2,4] (xc (kmO 190) 0 [kA .u32 8 h,ro8 b],[],0) Q RR
theorem zu1 (h b:Nat→Nat) (Q:KQ) (RR:KV→Prop):zmx h b Q RR=Q .normal [ro8 b,zl 0 8,zl 1 8,zl 2 64,zl 4 64,nI 0] [some (b8K h),some z8K,some VM,some zk2] 5:=by kernel_rfl
noncomputable def zez (h b w:Nat→Nat) (t:Nat):LS:=([(1,ro8 b),(2,zl 0 8),(4,zl 1 8),(5,zl 2 64),(7,zl 3 64),(8,nI t)],[(0,b8K h),(1,z8K),(2,VM),(3,bW 329 64 (f32 64 w))],4)
noncomputable def ZX (b w:Nat→Nat) (t:Nat):Nat:=@Bool.rec (fun _=>Nat) (Go.Y.R.nextW (w (Nat.sub t 15)) (w (Nat.sub t 2)) (w (Nat.sub t 7)) (w (Nat.sub t 16))) (Go.Y.R.load32 b t) (Nat.blt t 16)
noncomputable def zhV (h b w:Nat→Nat) (t:Nat) (Q:KQ) (RR:KV→Prop):Prop:=kpc Wu 190 (lpc (Zj.getD 4 .skip)) [1,2,4,5,7,8] [0,1,2,3] (zez h b w t) Q RR
theorem zu2 (h b w:Nat→Nat) (Q:KQ) (RR:KV→Prop):Xm.map (fun t=>zhV h b w t Q RR)=Xm.map (fun t=>Q .normal (zkN b (Nat.add t 1)) [some (b8K h),some z8K,some VM,some (zac w t (ZX b w t))] 4):=by kernel_rfl
theorem zpZ (h b w:Nat→Nat) (Q:KQ) (RR:KV→Prop):zhV h b w 64 Q RR=Q (.exit 0) (zkN b 64) [some (b8K h),some z8K,some VM,some (bW 329 64 (f32 64 w))] 4:=by kernel_rfl
noncomputable def zkO (h w:Nat→Nat):List (Option KBlk):=[some (b8K h),some z8K,some VM,some (bW 329 64 (kA .u32 64 w))]
noncomputable def wH (a:Nat):KV:=.int .u32 (.ofNat a)
noncomputable def zxW (s:S.St):List KV:=[wH s.a,wH s.b,wH s.c,wH s.d,wH s.e,wH s.f,wH s.g,wH s.h]
noncomputable def zhW (h w:Nat→Nat):LS:=([(2,zl 0 8),(4,zl 1 8),(5,zl 2 64),(7,zl 3 64)],[(0,b8K h),(1,z8K),(2,VM),(3,bW 329 64 (kA .u32 64 w))],4)
noncomputable def Qa (h w:Nat→Nat) (s:S.St) (t:Nat):LS:=([(2,zl 0 8),(4,zl 1 8),(5,zl 2 64),(7,zl 3 64),(13,wH s.a),(14,wH s.b),(15,wH s.c),(16,wH s.d),(17,wH s.e),(18,wH s.f),(19,wH s.g),(20,wH s.h),(21,nI t)],[(0,b8K h),(1,z8K),(2,VM),(3,bW 329 64 (kA .u32 64 w))],4)
noncomputable def zdw (s:S.St) (t:Nat):List KV:=[zl 0 8,zl 1 8,zl 2 64,zl 3 64]++(zxW s++[nI t])
noncomputable def zmy (h w:Nat→Nat) (Q:KQ) (RR:KV→Prop):Prop:=kpc Wu 190 ((Zj.drop 5).take 2) [2,4,5,7,13,14,15,16,17,18,19,20,21] [0,1,2,3] (zhW h w) Q RR
theorem zu3 (h w:Nat→Nat) (Q:KQ) (RR:KV→Prop):zmy h w Q RR=Q .normal (zdw (S.stOf h) 0) (zkO h w) 4:=by kernel_rfl
noncomputable def zhX (h w:Nat→Nat) (s:S.St) (t:Nat) (Q:KQ) (RR:KV→Prop):Prop:=kpc Wu 190 (lpc (Zj.getD 7 .skip)) [2,4,5,7,13,14,15,16,17,18,19,20,21] [0,1,2,3] (Qa h w s t) Q RR
theorem zu4 (h w:Nat→Nat) (s:S.St) (Q:KQ) (RR:KV→Prop):Xm.map (fun t=>zhX h w s t Q RR)=Xm.map (fun t=>Q .normal (zdw (Go.Y.R.rnd (vI.getD t 0) (w t) s) (Nat.add t 1)) (zkO h w) 4):=by kernel_rfl
theorem zp0 (h w:Nat→Nat) (s:S.St) (Q:KQ) (RR:KV→Prop):zhX h w s 64 Q RR=Q (.exit 2) (zdw s 64) (zkO h w) 4:=by kernel_rfl
noncomputable def zmz (h w:Nat→Nat) (s:S.St) (Q:KQ) (RR:KV→Prop):Prop:=kpc Wu 190 (Zj.drop 8) [] [] (Qa h w s 64) Q RR
theorem zu5 (h w:Nat→Nat) (s:S.St) (Q:KQ) (RR:KV→Prop):zmz h w s Q RR=RR (kA .u32 8 (lN [S.add32 (h 0) s.a,S.add32 (h 1) s.b,S.add32 (h 2) s.c,S.add32 (h 3) s.d,S.add32 (h 4) s.e,S.add32 (h 5) s.f,S.add32 (h 6) s.g,S.add32 (h 7) s.h])):=by kernel_rfl
theorem zlk (w:Nat→Nat) (s0:S.St) (t:Nat):Go.Y.R.rnd (vI.getD t 0) (w t) (Go.Y.R.rounds w s0 t)=Go.Y.R.rounds w s0 (t + 1):=rfl
attribute [local irreducible] kpre kcO kmO krO JL zp Zj Go.Y.R.rounds Go.Y.R.sched Go.Y.R.rnd S.add32 kA Go.Y.R.nextW Go.Y.R.load32
theorem zwo:Tryz.f190.ntmps=202:=by kernel_rfl
theorem zwp:Tryz.f190.results.toList=krO 190:=by kernel_rfl
theorem zwq:fl (kcO 190)=Zj:=by kernel_rfl
theorem zdR:zY 0 VM.v=true:=by kernel_rfl
section
variable {h b w w':Nat→Nat}{s:S.St}{t:Nat}{tr:KTm}{zm:KZ}
theorem zr7 (ht:[1,2,4,5,7,8].map (zj tr)=[ro8 b,zl 0 8,zl 1 8,zl 2 64,zl 4 64,nI 0]) (hz:[0,1,2,4].map (kb zm)=[some (b8K h),some z8K,some VM,some zk2]):atS (kmO 190) (zez h b (fun _=>0) 0) tr zm :=
 atS.of (s:=zez h b (fun _=>0) 0) [] (Zn 0 1 2 4) ht hz (by kernel_rfl)
  ⟨(nfB (v:=ro8 b) rfl).v,(show RnB (am zm) [] (Zn 0 1 2 4) 4 (V.ptr 0 [] (.arr 8 .sc)) (V.ptr 0 [] (.arr 8 .sc)) from RnB.ptr rfl (ltk rfl)).v,(show RnB (am zm) [] (Zn 0 1 2 4) 4 (V.ptr 1 [] (.arr 8 .sc)) (V.ptr 1 [] (.arr 8 .sc)) from RnB.ptr rfl (ltk rfl)).v,(show RnB (am zm) [] (Zn 0 1 2 4) 4 (V.ptr 2 [] (.arr 64 .sc)) (V.ptr 2 [] (.arr 64 .sc)) from RnB.ptr rfl (ltk rfl)).v,(show RnB (am zm) [] (Zn 0 1 2 4) 4 (V.ptr 4 [] (.arr 64 .sc)) (V.ptr 3 [] (.arr 64 .sc)) from RnB.ptr rfl (ltk rfl)).v,(nfB (v:=nI 0) rfl).v,trivial⟩
  ⟨RnK.nf (Zo h),RnK.nf Wv,RnK.nf zdR,qr rfl rfl (Imp.arrE fun i hi=>rfl) yy,trivial⟩
theorem zwr {x:Nat}(hw:∀ j,j < 64→w' j=if j=t then x else w j) (ht:[1,2,4,5,7,8].map (zj tr)=zkN b (Nat.add t 1)) (hz:[0,1,2,3].map (kb zm)=[some (b8K h),some z8K,some VM,some (zac w t x)]):atS (kmO 190) (zez h b w' (t + 1)) tr zm :=
 atS.of (s:=zez h b w' (t + 1)) [] id ht hz (by kernel_rfl) ⟨xV _ rfl,xf (ltk rfl),xf (ltk rfl),xf (ltk rfl),xf (ltk rfl),xV _ rfl,trivial⟩ ⟨RnK.nf (Zo h),RnK.nf Wv,RnK.nf zdR,qr rfl rfl (zhU hw) yy,trivial⟩
theorem zr8 (hw:∀ j,j < 64→w j=w' j) (ht:[1,2,4,5,7,8].map (zj tr)=zkN b 64) (hz:[0,1,2,3].map (kb zm)=[some (b8K h),some z8K,some VM,some (bW 329 64 (f32 64 w))]):atS (kmO 190) (zhW h w') tr zm:=by
 have h2:[2,4,5,7].map (zj tr)=[zl 0 8,zl 1 8,zl 2 64,zl 3 64]:=congrArg (fun l=>(l.drop 1).take 4) ht
 exact atS.of (s:=zhW h w') [] id h2 hz (by kernel_rfl) ⟨xf (ltk rfl),xf (ltk rfl),xf (ltk rfl),xf (ltk rfl),trivial⟩ ⟨RnK.nf (Zo h),RnK.nf Wv,RnK.nf zdR,qr rfl rfl (zmr hw) (nfB (Y0 w')),trivial⟩
theorem zb4 (ht:[2,4,5,7,13,14,15,16,17,18,19,20,21].map (zj tr)=zdw s t) (hz:[0,1,2,3].map (kb zm)=zkO h w):atS (kmO 190) (Qa h w s t) tr zm :=
 atS.of (s:=Qa h w s t) [] id ht hz (by kernel_rfl) ⟨xf (ltk rfl),xf (ltk rfl),xf (ltk rfl),xf (ltk rfl),xV _ rfl,xV _ rfl,xV _ rfl,xV _ rfl,xV _ rfl,xV _ rfl,xV _ rfl,xV _ rfl,xV _ rfl,trivial⟩ ⟨RnK.nf (Zo h),RnK.nf Wv,RnK.nf zdR,RnK.nf (Y0 w),trivial⟩
end
theorem zyO (h:Nat→Nat) (x:S.St):∀ j,j < 8→lN [S.add32 (h 0) x.a,S.add32 (h 1) x.b,S.add32 (h 2) x.c,S.add32 (h 3) x.d,S.add32 (h 4) x.e,S.add32 (h 5) x.f,S.add32 (h 6) x.g,S.add32 (h 7) x.h] j=S.add32 (h j) (x.get j):=by
 have gen:∀(op:Nat→Nat→Nat) j,j < 8→lN [op (h 0) x.a,op (h 1) x.b,op (h 2) x.c,op (h 3) x.d,op (h 4) x.e,op (h 5) x.f,op (h 6) x.g,op (h 7) x.h] j=op (h j) (x.get j):=fun op j hj=>by
  match j,hj with
  | 0,_=>rfl
  | 1,_=>rfl
  | 2,_=>rfl
  | 3,_=>rfl
  | 4,_=>rfl
  | 5,_=>rfl
  | 6,_=>rfl
  | 7,_=>rfl
 exact gen S.add32
theorem zr9 (b:Nat→Nat) (t j:Nat):Go.Y.R.wS b (t + 1) j=if j=t then ZX b (Go.Y.R.wS b t) t else Go.Y.R.wS b t j:=by
 rcases Nat.lt_or_ge t 16 with h | h
 ·rw[Go.Y.R.wS_lo b t h]
  have e:ZX b (Go.Y.R.wS b t) t=Go.Y.R.load32 b t:=by
   unfold ZX
   rw[x9.2 h]
  rw[e]; exact Wt _ _ _ _
 ·rw[Go.Y.R.wS_hi b t h]
  have e:ZX b (Go.Y.R.wS b t) t=Go.Y.R.nextW (Go.Y.R.wS b t (t - 15)) (Go.Y.R.wS b t (t - 2)) (Go.Y.R.wS b t (t - 7)) (Go.Y.R.wS b t (t - 16)):=by
   unfold ZX
   have hb:Nat.blt t 16=false:=by
    cases hb:Nat.blt t 16 with
    | false=>rfl
    | true=>exact absurd (x9.1 hb) (by omega)
   rw[hb]; rfl
  rw[e]; exact Wt _ _ _ _
theorem zyP (h b:Nat→Nat):JFn Tryz.prog 190 false [kA .u32 8 h,ro8 b] (kA .u32 8 (Go.Y.R.comp h b)):=by
 refine JFn.of (P:=Tryz.prog) w5 rfl (c:=kcO 190) (kmO 190) Tryz.func190 (by kernel_rfl) fun B N hN=>?_
 rw[zwo] at hN
 rw[zwq]
 refine JL.stp (n:=60) (s:=(xc (kmO 190) 0 [kA .u32 8 h,ro8 b],[],0)) w5 rfl 4 (krO 190) [1,2,4,5,7,8] [0,1,2,4] hN (by kernel_rfl) (by kernel_rfl) (fun v=>False) (fun v tr zm nx h1 h2 h3 h4=>h1.elim) ?_
 show zmx h b _ _
 rw[zu1]
 intro tr zm ht hz hmb hi
 refine JL.loopT w5 (fun t=>zez h b (Go.Y.R.wS b t) t) (fun t=>64 - t) (fun t=>t≤64) (id:=0) (b:=lpB (blB (Zj.getD 4 .skip))) (l2:=Zj.drop 5) (by kernel_rfl) (fun t=>by kernel_rfl) 0 (Nat.zero_le _) (zr7 ht hz) hmb hi ?_
 intro t ht64
 refine JL.all (n:=60) w5 rfl (krO 190) [1,2,4,5,7,8] [0,1,2,3] hN (by kernel_rfl) (by kernel_rfl) (fun v=>False) (fun v tr zm nx h1 h2 h3 h4=>h1.elim) ?_
 show zhV h b (Go.Y.R.wS b t) t _ _
 rcases Nat.lt_or_ge t 64 with hlt | hge
 ·rw[wm (zu2 h b (Go.Y.R.wS b t) _ _) (zaj hlt)]
  intro tr zm ht hz hmb hi
  exact⟨t + 1,by omega,by omega,zwr (fun j _=>zr9 b t j) ht hz⟩
 ·obtain rfl:t=64:=by omega
  rw[zpZ]
  intro tr zm ht hz hmb hi
  show (if (0:Nat)=0 then JL Wu B N (kmO 190) (Zj.drop 5) tr zm 4 _ else _)
  rw[if_pos rfl]
  refine JL.preS w5 (zr8 (w':=Go.Y.R.sched b) (fun j hj=>Go.Y.R.wS_sched b j hj) ht hz) (xx (by kernel_rfl)) ?_
  generalize hw:Go.Y.R.sched b=w
  refine JL.stp (n:=60) w5 rfl 2 (krO 190) [2,4,5,7,13,14,15,16,17,18,19,20,21] [0,1,2,3] hN (by kernel_rfl) (by kernel_rfl) (fun v=>False) (fun v tr zm nx h1 h2 h3 h4=>h1.elim) ?_
  show zmy h w _ _
  rw[zu3]
  intro tr zm ht hz hmb hi
  show JL Wu B N (kmO 190) ((Zj.drop 5).drop 2) tr zm 4 _
  rw[List.drop_drop]
  refine JL.loopT w5 (fun t=>Qa h w (Go.Y.R.rounds w (S.stOf h) t) t) (fun t=>64 - t) (fun t=>t≤64) (id:=2) (b:=lpB (blB (Zj.getD 7 .skip))) (l2:=Zj.drop 8) (by kernel_rfl) (fun t=>by kernel_rfl) 0 (Nat.zero_le _) (by
   have e:Go.Y.R.rounds w (S.stOf h) 0=S.stOf h:=by unfold Go.Y.R.rounds; rfl
   show atS (kmO 190) (Qa h w (Go.Y.R.rounds w (S.stOf h) 0) 0) tr zm
   rw[e]; exact zb4 ht hz) hmb hi ?_
  intro t ht64
  refine JL.all (n:=60) w5 rfl (krO 190) [2,4,5,7,13,14,15,16,17,18,19,20,21] [0,1,2,3] hN (by kernel_rfl) (by kernel_rfl) (fun v=>False) (fun v tr zm nx h1 h2 h3 h4=>h1.elim) ?_
  show zhX h w (Go.Y.R.rounds w (S.stOf h) t) t _ _
  rcases Nat.lt_or_ge t 64 with hlt | hge
  ·rw[wm (zu4 h w (Go.Y.R.rounds w (S.stOf h) t) _ _) (zaj hlt),zlk]
   intro tr zm ht hz hmb hi
   exact⟨t + 1,by omega,by omega,zb4 ht hz⟩
  ·obtain rfl:t=64:=by omega
   rw[zp0]
   generalize hx:Go.Y.R.rounds w (S.stOf h) 64=x
   intro tr zm ht hz hmb hi
   show (if (2:Nat)=2 then JL Wu B N (kmO 190) (Zj.drop 8) tr zm 4 _ else _)
   rw[if_pos rfl]
   refine JL.preS w5 (zb4 ht hz) (xx (by kernel_rfl)) ?_
   refine JL.all (n:=60) w5 rfl (krO 190) [] [] hN (by kernel_rfl) (by kernel_rfl) (fun v=>v=kA .u32 8 (lN [S.add32 (h 0) x.a,S.add32 (h 1) x.b,S.add32 (h 2) x.c,S.add32 (h 3) x.d,S.add32 (h 4) x.e,S.add32 (h 5) x.f,S.add32 (h 6) x.g,S.add32 (h 7) x.h])) (fun v tr zm nx h1 h2 h3 h4=>by
    subst h1
    refine retJ.mk rfl zwp (FzP.imp (zkV _) (Zi fun j hj=>?_)) h4
    unfold Go.Y.R.comp
    rw[hw,hx]
    exact zyO h x j hj) ?_
   show zmz h w x _ _
   rw[zu5]
end
end Go.K
set_option maxRecDepth 100000
namespace Go.Y
open Go.Ab
def isW (k:IntKind) (v:V):Bool:=match v with
 | .int k' (.ofNat _)=>z8 k' k
 | _=>false
def xP (v:V):Nat:=match v with
 | .int _ (.ofNat n)=>n
 | _=>0
theorem zpC {k:IntKind}{v:V}(h:isW k v=true):v=wV k (xP v):=by
 unfold isW at h
 split at h
 ·obtain rfl:=zw h; rfl
 ·cases h
def qp (k:IntKind) (n:Nat) (f:Nat→V):Bool:=(List.range n).all fun i=>isW k (f i)
def zup (k:IntKind) (n:Nat) (f:Nat→Nat):V:=.arr n fun i=>wV k (f i)
theorem XC {k:IntKind}{n:Nat}{f:Nat→V}(h:qp k n f=true) {i:Nat}(hi:i < n):f i=wV k (xP (f i)):=zpC (List.all_eq_true.1 h i (List.mem_range.2 hi))
def zpD:CSpec where
 pre:=fun l=>match l with
  | [.arr 8 f,.arr 64 g]=>qp .u32 8 f&&qp .u8 64 g
  | _=>false
 res:=fun l=>match l with
  | [.arr 8 f,.arr 64 g]=>zup .u32 8 (S.comp (fun i=>xP (f i)) fun i=>xP (g i))
  | _=>.unk
 fresh:=true
theorem zhB {args:List V}(h:zpD.pre args=true):∃ f g,args=[.arr 8 f,.arr 64 g]∧qp .u32 8 f=true∧qp .u8 64 g=true:=by
 simp only[zpD] at h
 split at h
 ·rw[Bool.and_eq_true] at h; exact⟨_,_,rfl,h.1,h.2⟩
 ·cases h
def zpE:CSpec where
 pre:=fun l=>match l with
  | [.arr 8 f,.ro _ _ .sc 64 g]=>qp .u32 8 f&&qp .u8 64 g
  | _=>false
 res:=fun l=>match l with
  | [.arr 8 f,.ro _ _ .sc 64 g]=>zup .u32 8 (R.comp (fun i=>xP (f i)) fun i=>xP (g i))
  | _=>.unk
 fresh:=true
theorem zhC {args:List V}(h:zpE.pre args=true):∃ f u cl g,args=[.arr 8 f,.ro u cl .sc 64 g]∧qp .u32 8 f=true∧qp .u8 64 g=true:=by
 simp only[zpE] at h
 split at h
 ·rw[Bool.and_eq_true] at h; exact⟨_,_,_,_,rfl,h.1,h.2⟩
 ·cases h
end Go.Y
namespace Go.K
open Go.Ab Go.RowKit Go.Y Go.Proofs
noncomputable section
attribute [local instance 10000] gO
attribute [local irreducible] S.comp Go.Y.R.comp kA
noncomputable def lwC (C:Ctx):Ctx:={ C with ok:=fun _ b=>C.ok false b∨C.ok true b }
theorem lwK (C:Ctx):Keep C (lwC C):=⟨fun _ h=>h,fun _ _=>rfl,fun _ _=>rfl,fun u b h=>by
 cases u
 ·exact .inl h
 ·exact .inr h,fun _ _ _=>rfl⟩
theorem zmm {fid:FuncId}{c:CSpec}(hf:∃ fn,Tryz.prog.funcs[fid]?=some fn∧(fn.name == "runtime.NumGoroutine")=false∧fn.body.isNone=false)
  (h:∀ args,c.pre args=true→∃(l:List KV) (w:KV),(∀ C m,R C (mkL args) m→R (lwC C) (mkL (l.map KV.v)) m)∧JFn Tryz.prog fid false l w∧xw w.v=true∧Imp w.v (c.res args)):xi Tryz.prog fid c:=by
 refine⟨hf,fun C args vals hok hg hargs hpre=>?_⟩
 obtain⟨l,w,hl,⟨E,fn,c',mask,hE,hP,h2,h3,h4⟩,hn,hi⟩:=h args hpre
 obtain⟨P⟩:=E
 subst hP
 refine (Q6 h2 h3 h4 (C:=lwC C) (fun u b hb=>hb.elim (hok _ _) (hok _ _)) (fun g=>R.keep (lwK C.pur) _ _ (hg g)) (hl C.pur _ hargs)).mono ?_
 rintro e w' ⟨val,he,C',rfl,hR,hk,hlt⟩
 exact⟨hk.below,val,he,hi _ _ (R.noref _ hn hR)⟩
theorem zkH:xi Tryz.prog 276 zpD:=zmm ⟨Tryz.f276,Tryz.func276,by kernel_rfl,by kernel_rfl⟩ fun args hp=>by
 obtain⟨f,g,rfl,hf,hg⟩:=zhB hp
 refine⟨[kA .u32 8 fun i=>xP (f i),kA .u8 64 fun i=>xP (g i)],_,?_,zx5 _ _,zkV _,zhQ (k:=.u32) (n:=8) (f:=S.comp (fun i=>xP (f i)) fun i=>xP (g i)) (g:=fun i=>wV .u32 (S.comp (fun i=>xP (f i)) (fun i=>xP (g i)) i)) fun i hi=>rfl⟩
 exact fun C m=>R.cons_map (fun m h=>R.keep (lwK C) _ _ (Wq (fun i hi=>XC hf hi) _ _ h)) (fun m=>R.cons_map (fun m h=>R.keep (lwK C) _ _ (Wq (fun i hi=>XC hg hi) _ _ h)) (fun m h=>R.keep (lwK C) _ _ h))
theorem zdn:xi Tryz.prog 190 zpE:=zmm ⟨Tryz.f190,Tryz.func190,by kernel_rfl,by kernel_rfl⟩ fun args hp=>by
 obtain⟨f,u,cl,g,rfl,hf,hg⟩:=zhC hp
 refine⟨[kA .u32 8 fun i=>xP (f i),ro8 fun i=>xP (g i)],_,?_,zyP _ _,zkV _,zhQ (k:=.u32) (n:=8) (f:=Go.Y.R.comp (fun i=>xP (f i)) fun i=>xP (g i)) (g:=fun i=>wV .u32 (Go.Y.R.comp (fun i=>xP (f i)) (fun i=>xP (g i)) i)) fun i hi=>rfl⟩
 refine fun C m=>R.cons_map (fun m h=>R.keep (lwK C) _ _ (Wq (fun i hi=>XC hf hi) _ _ h)) (fun m=>R.cons_map (fun m h=>?_) (fun m h=>R.keep (lwK C) _ _ h))
 obtain⟨a,k,h1,h2,h3,h4⟩:=h
 refine⟨a,k,h1,h2,fun h=>(by cases h),h4.imp (fun h=>h) ?_⟩
 rintro⟨b,o,q1,q2,q3⟩
 refine⟨b,o,q1,by cases u; exact .inl q2; exact .inr q2,fun i hi=>?_⟩
 have:=q3 i hi
 rw[XC hg hi] at this
 show R (lwC C).pur (wV .u8 (xP (g (0 + i)))) _
 rw[Nat.zero_add]
 exact R.keep (lwK C.pur) _ _ this
end
end Go.K
set_option maxRecDepth 100000
namespace Go.K
open Go.Ab Go.RowKit Go.Y Go.Proofs
noncomputable section
def Jq (l:List Nat):Nat→Nat:=@List.rec Nat (fun _=>Nat→Nat) (fun _=>0) (fun x _ ih i=>@Nat.rec (fun _=>Nat) x (fun j _=>ih j) i) l
theorem zdg:∀(l:List Nat) (i:Nat),Jq l i=l.getD i 0
 | [],i=>rfl
 | x::l,0=>rfl
 | x::l,i + 1=>by
  show Jq l i=_
  rw[zdg l i,List.getD_cons_succ]
def gF (ld:Nat→Nat) (nw:Nat→Nat→Nat→Nat→Nat) (n:Nat):(List Nat→Prop)→Prop :=
 @Nat.rec (fun _=>(List Nat→Prop)→Prop) (fun K=>K []) (fun t ih K=>ih fun l=>zJ (@Bool.rec (fun _=>Nat) (nw (Jq l 14) (Jq l 1) (Jq l 6) (Jq l 15)) (ld t) (Nat.blt t 16)) fun w=>K (w::l)) n
theorem zmb (ld:Nat→Nat) (nw:Nat→Nat→Nat→Nat→Nat):∀(n:Nat) (K:List Nat→Prop),gF ld nw n K=K (S.gL ld nw n)
 | 0,K=>rfl
 | n + 1,K=>by
  show gF ld nw n (fun l=>zJ (@Bool.rec (fun _=>Nat) (nw (Jq l 14) (Jq l 1) (Jq l 6) (Jq l 15)) (ld n) (Nat.blt n 16)) fun w=>K (w::l))=_
  rw[zmb ld nw n,zP]
  simp only[zdg,S.gL]
  congr 2
  by_cases h:n < 16
  ·rw[show Nat.blt n 16=true by rw[Nat.blt_eq]; exact h,show decide (n < 16)=true by simpa using h]; rfl
  ·rw[show Nat.blt n 16=false by rw[Bool.eq_false_iff]; intro h2; rw[Nat.blt_eq] at h2; exact h h2,show decide (n < 16)=false by simpa using h]; rfl
theorem J6 (ld:Nat→Nat) (nw:Nat→Nat→Nat→Nat→Nat) (j:Nat):∀ k,S.gS ld nw (j + 1 + k) j=S.gS ld nw (j + 1) j
 | 0=>rfl
 | k + 1=>by
  rw[←J6 ld nw j k]
  show (bif j==j + 1 + k then _ else _)=_
  rw[show (j==j + 1 + k)=false by simp; omega,cond_false]
  rfl
theorem zku (ld:Nat→Nat) (nw:Nat→Nat→Nat→Nat→Nat) {t:Nat}(h:t < 64):S.gL ld nw (t + 1)=(S.gL ld nw 64).getD (63 - t) 0::S.gL ld nw t:=by
 have h1:=S.gS_gL ld nw (t + 1) t (by omega)
 have h2:=S.gS_gL ld nw 64 t h
 have h3:=J6 ld nw t (63 - t)
 rw[show t + 1 + (63 - t)=64 by omega] at h3
 rw[h3,h1] at h2
 rw[show 64 - 1 - t=63 - t by omega] at h2
 rw[←h2,show t + 1 - 1 - t=0 by omega]
 simp only[S.gL,List.getD_cons_zero]
section
variable (T1:Nat→Nat→Nat→Nat→Nat→Nat→Nat) (T2:Nat→Nat→Nat→Nat)
def zhb (k w:Nat) (s:S.St):S.St:=⟨S.add32 (T1 s.e s.f s.g s.h k w) (T2 s.a s.b s.c),s.a,s.b,s.c,S.add32 s.d (T1 s.e s.f s.g s.h k w),s.e,s.f,s.g⟩
def Xe (w:Nat→Nat) (s:S.St):Nat→S.St
 | 0=>s
 | t + 1=>zhb T1 T2 (vI.getD t 0) (w t) (Xe w s t)
abbrev K8:Type:=Nat→Nat→Nat→Nat→Nat→Nat→Nat→Nat→Prop
def rF (a b c d e f g h:Nat) (ws:List Nat):List Nat→K8→Prop :=
 @List.rec Nat (fun _=>List Nat→K8→Prop) (fun _ K=>K a b c d e f g h) (fun w _ ih ks K=>@List.rec Nat (fun _=>Prop) True (fun k kr _=>ih kr fun a b c d e f g h =>
  zJ (T1 e f g h k w) fun x=>zJ (Nat.mod (Nat.add x (T2 a b c)) 4294967296) fun a'=>zJ (Nat.mod (Nat.add d x) 4294967296) fun e'=>K a' a b c e' e f g) ks) ws
def zkv:Nat→List Nat
 | 0=>[]
 | t + 1=>vI.getD t 0::zkv t
theorem zmc (ld:Nat→Nat) (nw:Nat→Nat→Nat→Nat→Nat) (s:S.St):∀(t:Nat) (K:K8),t≤64→rF T1 T2 s.a s.b s.c s.d s.e s.f s.g s.h (S.gL ld nw t) (zkv t) K=(fun r:S.St=>K r.a r.b r.c r.d r.e r.f r.g r.h) (Xe T1 T2 (fun j=>(S.gL ld nw 64).getD (63 - j) 0) s t)
 | 0,K,_=>rfl
 | t + 1,K,h=>by
  rw[zku ld nw (by omega)]
  show rF T1 T2 s.a s.b s.c s.d s.e s.f s.g s.h (S.gL ld nw t) (zkv t) _=_
  rw[zmc ld nw s t _ (by omega)]
  simp only[zP]
  rfl
end
def pk8 (a b c d e f g h:Nat) (K:Nat→Prop):Prop :=
 zJ (Nat.add a (Nat.mul 4294967296 (Nat.add b (Nat.mul 4294967296 (Nat.add c (Nat.mul 4294967296 (Nat.add d (Nat.mul 4294967296 (Nat.add e (Nat.mul 4294967296 (Nat.add f (Nat.mul 4294967296 (Nat.add g (Nat.mul 4294967296 h)))))))))))))) K
theorem zoN (x o l:Nat):bts x o l=x / 2 ^ o % 2 ^ l:=by
 show (x >>> o) % 2 ^ l=_
 rw[Nat.shiftRight_eq_div_pow]
theorem zoO {a b c d e f g h:Nat}(ha:a < 4294967296) (hb:b < 4294967296) (hc:c < 4294967296) (hd:d < 4294967296) (he:e < 4294967296) (hf:f < 4294967296) (hg:g < 4294967296) (hh:h < 4294967296) :
  ∀ j,j < 8→pkr .u32 (a + 4294967296 * (b + 4294967296 * (c + 4294967296 * (d + 4294967296 * (e + 4294967296 * (f + 4294967296 * (g + 4294967296 * h))))))) j=[a,b,c,d,e,f,g,h].getD j 0:=by
 intro j hj
 show bts _ (32 * j) 32=_
 rw[zoN]
 match j,hj with
 | 0,_=>show _ / 1 % 4294967296=a; omega
 | 1,_=>show _ / 4294967296 % 4294967296=b; omega
 | 2,_=>show _ / (4294967296 * 4294967296) % 4294967296=c; omega
 | 3,_=>show _ / (4294967296 * 4294967296 * 4294967296) % 4294967296=d; omega
 | 4,_=>show _ / (4294967296 * 4294967296 * 4294967296 * 4294967296) % 4294967296=e; omega
 | 5,_=>show _ / (4294967296 * 4294967296 * 4294967296 * 4294967296 * 4294967296) % 4294967296=f; omega
 | 6,_=>show _ / (4294967296 * 4294967296 * 4294967296 * 4294967296 * 4294967296 * 4294967296) % 4294967296=g; omega
 | 7,_=>show _ / (4294967296 * 4294967296 * 4294967296 * 4294967296 * 4294967296 * 4294967296 * 4294967296) % 4294967296=h; omega
end
end Go.K
set_option maxRecDepth 100000
namespace Go.K
open Go.Ab Go.RowKit Go.Y Go.Proofs
noncomputable section
namespace F
def a32 (x y:Nat):Nat:=Nat.mod (Nat.add x y) 4294967296
def x32 (x y:Nat):Nat:=Nat.mod (Nat.xor x y) 4294967296
def n32 (x y:Nat):Nat:=Nat.mod (Nat.land x y) 4294967296
def o32 (x y:Nat):Nat:=Nat.mod (Nat.lor x y) 4294967296
def not32 (x:Nat):Nat:=Nat.mod (Nat.xor 4294967295 x) 4294967296
def Jp (a l r:Nat):Nat:=Nat.mod (Nat.lor (Nat.mod (Nat.mul a l) 4294967296) (Nat.div a r)) 4294967296
def rotR (a l r:Nat):Nat:=Nat.mod (Nat.lor (Nat.div a r) (Nat.mod (Nat.mul a l) 4294967296)) 4294967296
def by8 (y off t i:Nat):Nat:=Nat.mod (pkr .u8 y (Nat.add off (Nat.add (Nat.mul 4 t) i))) 18446744073709551616
def o64 (x y:Nat):Nat:=Nat.mod (Nat.lor x y) 18446744073709551616
def p64 (x y:Nat):Nat:=Nat.mod (Nat.add x y) 18446744073709551616
def l64 (x:Nat):Nat:=Nat.mod (Nat.mul x 256) 18446744073709551616
def ldS (y off t:Nat):Nat:=Nat.mod (o64 (l64 (o64 (l64 (o64 (l64 (o64 0 (by8 y off t 0))) (by8 y off t 1))) (by8 y off t 2))) (by8 y off t 3)) 4294967296
def ldR (y off t:Nat):Nat:=Nat.mod (p64 (l64 (p64 (l64 (p64 (l64 (p64 (l64 0) (by8 y off t 0))) (by8 y off t 1))) (by8 y off t 2))) (by8 y off t 3)) 4294967296
def s0S (x:Nat):Nat:=x32 (x32 (Jp x 33554432 128) (Jp x 16384 262144)) (Nat.div x 8)
def s1S (y:Nat):Nat:=x32 (x32 (Jp y 32768 131072) (Jp y 8192 524288)) (Nat.div y 1024)
def nwS (w15 w2 w7 w16:Nat):Nat:=a32 (a32 (a32 (s1S w2) w7) (s0S w15)) w16
def s0R (x:Nat):Nat:=x32 (x32 (rotR x 33554432 128) (rotR x 16384 262144)) (Nat.div x 8)
def s1R (y:Nat):Nat:=x32 (x32 (rotR y 32768 131072) (rotR y 8192 524288)) (Nat.div y 1024)
def nwR (w15 w2 w7 w16:Nat):Nat:=a32 (a32 (a32 w16 w7) (s0R w15)) (s1R w2)
def b1S (e:Nat):Nat:=x32 (x32 (Jp e 67108864 64) (Jp e 2097152 2048)) (Jp e 128 33554432)
def b0S (a:Nat):Nat:=x32 (x32 (Jp a 1073741824 4) (Jp a 524288 8192)) (Jp a 1024 4194304)
def b1R (e:Nat):Nat:=x32 (x32 (rotR e 67108864 64) (rotR e 2097152 2048)) (rotR e 128 33554432)
def b0R (a:Nat):Nat:=x32 (x32 (rotR a 1073741824 4) (rotR a 524288 8192)) (rotR a 1024 4194304)
def chS (e f g:Nat):Nat:=x32 (n32 e f) (n32 (not32 e) g)
def mjS (a b c:Nat):Nat:=x32 (x32 (n32 a b) (n32 a c)) (n32 b c)
def chR (e f g:Nat):Nat:=o32 (n32 e f) (n32 (not32 e) g)
def mjR (a b c:Nat):Nat:=o32 (o32 (n32 a b) (n32 a c)) (n32 b c)
def t1S (e f g h k w:Nat):Nat:=a32 (a32 (a32 (a32 h (b1S e)) (chS e f g)) k) w
def t2S (a b c:Nat):Nat:=a32 (b0S a) (mjS a b c)
def t1R (e f g h k w:Nat):Nat:=a32 (a32 (a32 (a32 h (b1R e)) (chR e f g)) k) w
def t2R (a b c:Nat):Nat:=a32 (b0R a) (mjR a b c)
end F
def zl8:List Nat:=[3329325298,3204031479,2756734187,2428436474,2361852424,2227730452,2024104815,1955562222,1747873779,1537002063,1322822218,958139571,883997877,659060556,506948616,430227734,275423344,4094571909,3600352804,3516065817,3345764771,3259730800,2820302411,2730485921,2456956037,2177026350,1986661051,1695183700,1396182291,1294757372,773529912,666307205,338241895,113926993,3584528711,3336571891,3210313671,2952996808,2821834349,2554220882,1996064986,1555081692,1249150122,770255983,604807628,264347078,4022224774,3835390401,3248222580,2614888103,2162078206,1925078388,1426881987,607225278,310598401,3624381080,2870763221,2453635748,1508970993,961987163,3921009573,3049323471,1899447441,1116352408]
theorem zha:zkv 64=zl8:=by decide +kernel
theorem zoF (s:S.St) (k w:Nat):F.t1S s.e s.f s.g s.h k w=S.t1 s k w:=rfl
theorem zoG (s:S.St):F.t2S s.a s.b s.c=S.t2 s:=rfl
theorem zoH (s:S.St) (k w:Nat):F.t1R s.e s.f s.g s.h k w=R.t1 s k w:=rfl
theorem zoI (s:S.St):F.t2R s.a s.b s.c=R.t2 s:=rfl
theorem zl9 (w:Nat→Nat) (s:S.St):∀ t,Xe F.t1S F.t2S w s t=S.rounds w s t
 | 0=>rfl
 | t + 1=>by
  show zhb F.t1S F.t2S (vI.getD t 0) (w t) (Xe F.t1S F.t2S w s t)=S.rnd (vI.getD t 0) (w t) (S.rounds w s t)
  rw[zl9 w s t]
  unfold zhb S.rnd
  rw[zoF,zoG]
theorem zma (w:Nat→Nat) (s:S.St):∀ t,Xe F.t1R F.t2R w s t=R.rounds w s t
 | 0=>rfl
 | t + 1=>by
  show zhb F.t1R F.t2R (vI.getD t 0) (w t) (Xe F.t1R F.t2R w s t)=R.rnd (vI.getD t 0) (w t) (R.rounds w s t)
  rw[zma w s t]
  unfold zhb R.rnd
  rw[zoH,zoI]
theorem zoJ (y off:Nat):F.ldS y off=S.load32 fun i=>pkr .u8 y (off + i):=by funext t; rfl
theorem zoK (y off:Nat):F.ldR y off=R.load32 fun i=>pkr .u8 y (off + i):=by funext t; rfl
theorem zoL:F.nwS=S.nextW:=rfl
theorem zoM:F.nwR=R.nextW:=rfl
def zdd (ld:Nat→Nat) (nw:Nat→Nat→Nat→Nat→Nat) (T1:Nat→Nat→Nat→Nat→Nat→Nat→Nat) (T2:Nat→Nat→Nat→Nat) (x:Nat) (K:Nat→Prop):Prop :=
 zJ (pkr .u32 x 0) fun a=>zJ (pkr .u32 x 1) fun b=>zJ (pkr .u32 x 2) fun c=>zJ (pkr .u32 x 3) fun d=>zJ (pkr .u32 x 4) fun e=>zJ (pkr .u32 x 5) fun f=>zJ (pkr .u32 x 6) fun g=>zJ (pkr .u32 x 7) fun h =>
  gF ld nw 64 fun ws=>rF T1 T2 a b c d e f g h ws zl8 fun a' b' c' d' e' f' g' h'=>pk8 (F.a32 a a') (F.a32 b b') (F.a32 c c') (F.a32 d d') (F.a32 e e') (F.a32 f f') (F.a32 g g') (F.a32 h h') K
theorem q9 (a b:Nat):F.a32 a b < 4294967296:=Nat.mod_lt _ (by decide)
theorem zde {ld:Nat→Nat}{nw:Nat→Nat→Nat→Nat→Nat}{T1:Nat→Nat→Nat→Nat→Nat→Nat→Nat}{T2:Nat→Nat→Nat→Nat}{x:Nat}{K:Nat→Prop}(h:zdd ld nw T1 T2 x K) :
  ∃ z,K z∧∀ j,j < 8→pkr .u32 z j=S.add32 (pkr .u32 x j) ((Xe T1 T2 (fun j=>(S.gL ld nw 64).getD (63 - j) 0) (S.stOf fun i=>pkr .u32 x i) 64).get j):=by
 unfold zdd at h
 simp only[zP,zmb] at h
 rw[←zha] at h
 have h1:=zmc T1 T2 ld nw (S.stOf fun i=>pkr .u32 x i) 64 (fun a' b' c' d' e' f' g' h'=>pk8 (F.a32 (pkr .u32 x 0) a') (F.a32 (pkr .u32 x 1) b') (F.a32 (pkr .u32 x 2) c') (F.a32 (pkr .u32 x 3) d') (F.a32 (pkr .u32 x 4) e') (F.a32 (pkr .u32 x 5) f') (F.a32 (pkr .u32 x 6) g') (F.a32 (pkr .u32 x 7) h') K) (Nat.le_refl _)
 rw[show rF T1 T2 (S.stOf fun i=>pkr .u32 x i).a (S.stOf fun i=>pkr .u32 x i).b (S.stOf fun i=>pkr .u32 x i).c (S.stOf fun i=>pkr .u32 x i).d (S.stOf fun i=>pkr .u32 x i).e (S.stOf fun i=>pkr .u32 x i).f (S.stOf fun i=>pkr .u32 x i).g (S.stOf fun i=>pkr .u32 x i).h=rF T1 T2 (pkr .u32 x 0) (pkr .u32 x 1) (pkr .u32 x 2) (pkr .u32 x 3) (pkr .u32 x 4) (pkr .u32 x 5) (pkr .u32 x 6) (pkr .u32 x 7) from rfl] at h1
 rw[h1] at h
 generalize Xe T1 T2 (fun j=>(S.gL ld nw 64).getD (63 - j) 0) (S.stOf fun i=>pkr .u32 x i) 64=r at h ⊢
 unfold pk8 at h
 rw[zP] at h
 refine⟨_,h,fun j hj=>?_⟩
 rw[show ∀ z,pkr .u32 z j=pkr .u32 z j from fun _=>rfl]
 refine (zoO (q9 _ _) (q9 _ _) (q9 _ _) (q9 _ _) (q9 _ _) (q9 _ _) (q9 _ _) (q9 _ _) j hj).trans ?_
 match j,hj with
 | 0,_=>rfl
 | 1,_=>rfl
 | 2,_=>rfl
 | 3,_=>rfl
 | 4,_=>rfl
 | 5,_=>rfl
 | 6,_=>rfl
 | 7,_=>rfl
def la2 (l:List KV) (f:KV→KV→Prop):Prop:=match l with
 | [x,y]=>f x y
 | _=>BadN 230
theorem zdf {l:List KV}{f:KV→KV→Prop}(h:la2 l f):∃ x y,l=[x,y]∧f x y:=by
 unfold la2 at h
 split at h
 ·exact⟨_,_,rfl,h⟩
 ·exact h.elim
def yv:zk:=fun l K=>la2 l fun x y=>qA (fun k n h=>chk (nd (z8 k .u32) (Nat.beq n 8)) 231 (qA (fun k2 n2 b=>chk (nd (z8 k2 .u8) (Nat.beq n2 64)) 232 (zdd (F.ldS b 0) F.nwS F.t1S F.t2S h fun z=>K (.pk .u32 8 z))) (BadN 233) y)) (BadN 234) x
def yw:zk:=fun l K=>la2 l fun x y=>qA (fun k n h=>chk (nd (z8 k .u32) (Nat.beq n 8)) 235 (Vx (fun u cl e off len c=>chk (nd (xC e) (Nat.beq len 64)) 236 (qA (fun k2 n2 b=>chk (z8 k2 .u8) 237 (zdd (F.ldR b off) F.nwR F.t1R F.t2R h fun z=>K (.pk .u32 8 z))) (BadN 238) c)) (BadN 239) y)) (BadN 240) x
theorem csg {P:Program}{f:FuncId}{c:CSpec}(h:@xi (@instGl gO) P f c):@xi (@instGl kgL) P f c:=h
end
end Go.K
set_option maxRecDepth 100000
namespace Go.K
open Go.Ab Go.RowKit Go.Y Go.Proofs
noncomputable section
theorem qs:∀ l:List V,unL (mkL l)=l
 | []=>rfl
 | x::l=>by show x::unL (mkL l)=_; rw[qs l]
theorem XF {k:IntKind}{n:Nat}{f:Nat→V}(g:Nat→Nat) (h:∀ i,f i=wV k (g i)):qp k n f=true:=by
 unfold qp
 rw[List.all_eq_true]
 intro i _
 rw[h i]
 show z8 k k=true
 cases k<;>rfl
theorem Z1:KCS Tryz.prog 276 yv:=by
 have hc:=csg zkH
 refine⟨hc.1,fun l K hs=>?_⟩
 obtain⟨x,y,rfl,h1⟩:=zdf hs
 rcases xk h1 with ⟨k,n,h,rfl,h2⟩ | ⟨_,h2⟩
 ·obtain⟨h3,h4⟩:=zf h2
  obtain⟨h5,h6⟩:=za.1 h3
  obtain rfl:=zw h5
  obtain rfl:=zx h6
  rcases xk h4 with ⟨k2,n2,b,rfl,h7⟩ | ⟨_,h7⟩
  ·obtain⟨h8,h9⟩:=zf h7
   obtain⟨h10,h11⟩:=za.1 h8
   obtain rfl:=zw h10
   obtain rfl:=zx h11
   obtain⟨z,h12,h13⟩:=zde h9
   refine⟨_,h12,fun B μ nx mx l0 hl=>?_⟩
   have hcall:=xZ (B:=B) (μ:=μ) (nx:=nx) (mx:=mx) gnL hc rfl hl (by
    rw[qs,List.map_cons,List.map_cons,List.map_nil,qC,qC]
    show (qp .u32 8 (fun i=>.int .u32 (pkg .u32 h i))&&qp .u8 64 (fun i=>.int .u8 (pkg .u8 b i)))=true
    rw[Bool.and_eq_true]
    exact⟨XF (fun i=>pkr .u32 h i) fun i=>rfl,XF (fun i=>pkr .u8 b i) fun i=>rfl⟩)
   rw[qs] at hcall
   refine hcall.imp ?_ (MImp.refl _) (Nat.le_refl _) (Nat.le_refl _)
   refine Imp.arrE (g:=fun i=>V.int .u32 (pkg .u32 z i)) fun i hi=>?_
   show wV .u32 (S.comp (fun i=>pkr .u32 h i) (fun i=>pkr .u8 b i) i)=wV .u32 (pkr .u32 z i)
   rw[h13 i hi,zoJ,zoL,zl9]
   simp only[Nat.zero_add]
   rfl
  ·exact h7.elim
 ·exact h2.elim
theorem Z2:KCS Tryz.prog 190 yw:=by
 have hc:=csg zdn
 refine⟨hc.1,fun l K hs=>?_⟩
 obtain⟨x,y,rfl,h1⟩:=zdf hs
 rcases xk h1 with ⟨k,n,h,rfl,h2⟩ | ⟨_,h2⟩
 ·obtain⟨h3,h4⟩:=zf h2
  obtain⟨h5,h6⟩:=za.1 h3
  obtain rfl:=zw h5
  obtain rfl:=zx h6
  rcases x7 h4 with ⟨u,cl,e,off,len,c,rfl,h7⟩ | ⟨_,h7⟩
  ·obtain⟨h8,h9⟩:=zf h7
   obtain⟨h10,h11⟩:=za.1 h8
   obtain rfl:=jG h10
   obtain rfl:=zx h11
   rcases xk h9 with ⟨k2,n2,b,rfl,h14⟩ | ⟨_,h14⟩
   ·obtain⟨h15,h16⟩:=zf h14
    obtain rfl:=zw h15
    obtain⟨z,h12,h13⟩:=zde h16
    refine⟨_,h12,fun B μ nx mx l0 hl=>?_⟩
    have hcall:=xZ (B:=B) (μ:=μ) (nx:=nx) (mx:=mx) gnL hc rfl hl (by
     rw[qs,List.map_cons,List.map_cons,List.map_nil,qC,Zd,qC]
     show (qp .u32 8 (fun i=>.int .u32 (pkg .u32 h i))&&qp .u8 64 (fun i=>.int .u8 (pkg .u8 b (off + i))))=true
     rw[Bool.and_eq_true]
     exact⟨XF (fun i=>pkr .u32 h i) fun i=>rfl,XF (fun i=>pkr .u8 b (off + i)) fun i=>rfl⟩)
    rw[qs] at hcall
    refine hcall.imp ?_ (MImp.refl _) (Nat.le_refl _) (Nat.le_refl _)
    refine Imp.arrE (g:=fun i=>V.int .u32 (pkg .u32 z i)) fun i hi=>?_
    show wV .u32 (R.comp (fun i=>pkr .u32 h i) (fun i=>pkr .u8 b (off + i)) i)=wV .u32 (pkr .u32 z i)
    rw[h13 i hi,zoK,zoM,zma]
    rfl
   ·exact h14.elim
  ·exact h7.elim
 ·exact h2.elim
def ctC:FuncId→Option zk:=fun f=>@Bool.rec (fun _=>Option zk) (@Bool.rec (fun _=>Option zk) none (some yw) (Nat.beq f 190)) (some yv) (Nat.beq f 276)
theorem zv0 (f:FuncId) (s:zk) (h:ctC f=some s):KCS Tryz.prog f s:=by
 unfold ctC at h
 cases h1:Nat.beq f 276 with
 | true =>
  rw[h1] at h
  cases h
  rw[zx h1]
  exact Z1
 | false =>
  rw[h1] at h
  cases h2:Nat.beq f 190 with
  | true =>
   rw[h2] at h
   cases h
   rw[zx h2]
   exact Z2
  | false=>rw[h2] at h; cases h
def E1:KEnv:={ E0 with ct:=ctC }
theorem ok1:KOk E1 where
 fns:=wj
 ct:=zv0
 gn:=gnL
 mixed:=zqt
 ex:=fun _ h=>(by cases h)
end
end Go.K
