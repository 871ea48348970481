/- Tables of the cipher. No condition. -/
import Derived.Test.YtkllahedaiddgaaGreatDoorKL0
import Derived.Test.YtkllahedaiddgaaGreatDoorK13
set_option linter.unusedSimpArgs false
set_option linter.unusedVariables false
set_option maxRecDepth 100000
namespace Go.K
open Go.Ab Go.RowKit Go.Y Go.Proofs
noncomputable section
attribute [local instance 10000] gO
attribute [local irreducible] kpre kcO kmO krO JL zj yp yK zbz S.rounds S.sched S.t1 S.t2 S.add32 kA
noncomputable def ZZ (a b c d i:Nat):Nat:=@Nat.rec (fun _=>Nat) a (fun i _=>@Nat.rec (fun _=>Nat) b (fun i _=>@Nat.rec (fun _=>Nat) c (fun _ _=>d) i) i) i
theorem zyv:Tryz.f276.ntmps=112:=by kernel_rfl
theorem zyw:Tryz.f276.results.toList=krO 276:=by kernel_rfl
theorem zyx:fl (kcO 276)=yp:=by kernel_rfl
theorem Z0 (f:Nat→Nat):zS 0 (b8K f).v=true:=by kernel_rfl
theorem zbg (f:Nat→Nat):zS 0 (bW 329 64 (kA .u32 64 f)).v=true:=by kernel_rfl
theorem Yt:zS 0 z8K.v=true:=by kernel_rfl
theorem zmR (f:Nat→Nat):zA (kA .u32 8 f).v=true:=by kernel_rfl
section
variable {h w x a:Nat→Nat}{s:S.St}{t p q:Nat}{tr:KTm}{zm:KZ}
theorem zeG (ht:[2,4,5,6,17,18].map (zn tr)=zdb t) (hz:[0,1,2,3].map (kb zm)=zdc h w s):atS (kmO 276) (Z8 h w s t) tr zm :=
 atS.of (s:=Z8 h w s t) [] id ht hz (by kernel_rfl) ⟨xi (ltk rfl),xi (ltk rfl),xi (ltk rfl),xi (ltk rfl),x7 _ rfl,x7 _ rfl,trivial⟩ ⟨RnK.nf (Z0 h),RnK.nf Yt,RnK.nf (zbg w),RnK.nf (Z0 s.get),trivial⟩
theorem ztb (ht:[2,4,5,6,17,18,11,12].map (zn tr)=zdb t++[.int .u32 (.ofNat p),.int .u32 (.ofNat q)]) (hz:[0,1,2,3].map (kb zm)=zdc h w s):atS (kmO 276) (zkX h w s t p q) tr zm :=
 atS.of (s:=zkX h w s t p q) [] id ht hz (by kernel_rfl) ⟨xi (ltk rfl),xi (ltk rfl),xi (ltk rfl),xi (ltk rfl),x7 _ rfl,x7 _ rfl,x7 _ rfl,x7 _ rfl,trivial⟩ ⟨RnK.nf (Z0 h),RnK.nf Yt,RnK.nf (zbg w),RnK.nf (Z0 s.get),trivial⟩
theorem ztc (hs:∀ i,i < 8→h i=s.get i) (ht:[2,4,5,6,17,18].map (zn tr)=[zl 0 8,zl 2 8,zl 3 64,zl 4 8,zkV,nI 0]) (hz:[0,2,3,4].map (kb zm)=[some (b8K h),some z8K,some (bW 329 64 (kA .u32 64 w)),some (b8K h)]):atS (kmO 276) (Z8 h w s 0) tr zm :=
 atS.of (s:=Z8 h w s 0) [] (ZZ 0 2 3 4) ht hz (by kernel_rfl)
  ⟨(show RnB (am zm) [] (ZZ 0 2 3 4) 4 (V.ptr 0 [] (.arr 8 .sc)) (V.ptr 0 [] (.arr 8 .sc)) from RnB.ptr rfl (ltk rfl)).v,(show RnB (am zm) [] (ZZ 0 2 3 4) 4 (V.ptr 2 [] (.arr 8 .sc)) (V.ptr 1 [] (.arr 8 .sc)) from RnB.ptr rfl (ltk rfl)).v,(show RnB (am zm) [] (ZZ 0 2 3 4) 4 (V.ptr 3 [] (.arr 64 .sc)) (V.ptr 2 [] (.arr 64 .sc)) from RnB.ptr rfl (ltk rfl)).v,(show RnB (am zm) [] (ZZ 0 2 3 4) 4 (V.ptr 4 [] (.arr 8 .sc)) (V.ptr 3 [] (.arr 8 .sc)) from RnB.ptr rfl (ltk rfl)).v,(nfB (v:=zkV) rfl).v,(nfB (v:=nI 0) rfl).v,trivial⟩
  ⟨RnK.nf (Z0 h),RnK.nf Yt,RnK.nf (zbg w),qX rfl rfl (ZV hs) (nfB (Z0 s.get)),trivial⟩
theorem ztd (ht:[2,4,6,99].map (zn tr)=[zl 0 8,zl 1 8,zl 3 8,nI 0]) (hz:[0,1,3].map (kb zm)=[some (b8K a),some z8K,some (b8K x)]):atS (kmO 276) (JK a x 0) tr zm :=
 atS.of (s:=JK a x 0) [] (ZZ 0 1 3 0) ht hz (by kernel_rfl)
  ⟨(show RnB (am zm) [] (ZZ 0 1 3 0) 3 (V.ptr 0 [] (.arr 8 .sc)) (V.ptr 0 [] (.arr 8 .sc)) from RnB.ptr rfl (ltk rfl)).v,(show RnB (am zm) [] (ZZ 0 1 3 0) 3 (V.ptr 1 [] (.arr 8 .sc)) (V.ptr 1 [] (.arr 8 .sc)) from RnB.ptr rfl (ltk rfl)).v,(show RnB (am zm) [] (ZZ 0 1 3 0) 3 (V.ptr 3 [] (.arr 8 .sc)) (V.ptr 2 [] (.arr 8 .sc)) from RnB.ptr rfl (ltk rfl)).v,(nfB (v:=nI 0) rfl).v,trivial⟩
  ⟨RnK.nf (Z0 a),RnK.nf Yt,RnK.nf (Z0 x),trivial⟩
theorem zjy {a':Nat→Nat}(ha:∀ j,j < 8→a j=a' j) (ht:[2,4,6,99].map (zn tr)=zkY t) (hz:[0,1,2].map (kb zm)=[some (b8K a),some z8K,some (b8K x)]):atS (kmO 276) (JK a' x t) tr zm :=
 atS.of (s:=JK a' x t) [] id ht hz (by kernel_rfl) ⟨xi (ltk rfl),xi (ltk rfl),xi (ltk rfl),x7 _ rfl,trivial⟩ ⟨qX rfl rfl (ZV ha) (nfB (Z0 a')),RnK.nf Yt,RnK.nf (Z0 x),trivial⟩
end
theorem zte (h x:Nat→Nat) (t j:Nat):acN (S.accS h x t) x t j=S.accS h x (t + 1) j:=by
 show @Bool.rec (fun _=>Nat) _ _ (Nat.beq j t)=(bif j==t then S.add32 (S.accS h x t t) (x t) else S.accS h x t j)
 by_cases e:j=t
 ·subst e
  rw[Nat.beq_refl,show (j==j)=true by simp]; rfl
 ·rw[show Nat.beq j t=false by
   cases hb:Nat.beq j t with
   | false=>rfl
   | true=>exact absurd (Nat.eq_of_beq_eq_true hb) e,show (j==t)=false by simpa using e]; rfl
theorem ztf (h:Nat→Nat):∀ i,i < 8→h i=(S.stOf h).get i:=fun i hi=>by
 match i,hi with
 | 0,_=>rfl
 | 1,_=>rfl
 | 2,_=>rfl
 | 3,_=>rfl
 | 4,_=>rfl
 | 5,_=>rfl
 | 6,_=>rfl
 | 7,_=>rfl
theorem zC4 (h b:Nat→Nat):JFn Tryz.prog 276 false [kA .u32 8 h,kA .u8 64 b] (kA .u32 8 (S.comp h b)):=by
 refine JFn.of (P:=Tryz.prog) jz rfl (c:=kcO 276) (kmO 276) Tryz.func276 (by kernel_rfl) fun B N hN=>?_
 rw[zyv] at hN
 rw[zyx]
 refine JL.stp (n:=60) (s:=(z7 (kmO 276) 0 [kA .u32 8 h,kA .u8 64 b],[],0)) jz rfl 4 (krO 276) [2,4,5,6,17,18] [0,2,3,4] hN (by kernel_rfl) (by kernel_rfl) (fun v=>False) (fun v tr zm nx h1 h2 h3 h4=>h1.elim) ?_
 show zp7 h b _ _
 rw[zAS]
 refine⟨b,rfl,trivial,?_⟩
 generalize hw:S.sched b=w
 intro tr zm ht hz hmb hi
 refine JL.loopT jz (fun t=>Z8 h w (S.rounds w (S.stOf h) t) t) (fun t=>64 - t) (fun t=>t≤64) (id:=0) (b:=lpB (blB (yp.getD 4 .skip))) (l2:=yp.drop 5) (by kernel_rfl) (fun t=>by kernel_rfl) 0 (Nat.zero_le _) (ztc (s:=S.rounds w (S.stOf h) 0) (fun i hi=>by unfold S.rounds; exact ztf h i hi) ht hz) hmb hi ?_
 intro t ht64
 show JL wk B N (kmO 276) (fl (lpB (blB (yp.getD 4 .skip)))) (vj (Z8 h w (S.rounds w (S.stOf h) t) t).1) (vK (Z8 h w (S.rounds w (S.stOf h) t) t).2.1) (Z8 h w (S.rounds w (S.stOf h) t) t).2.2 _
 rw[show fl (lpB (blB (yp.getD 4 .skip)))=yK by kernel_rfl]
 refine JL.stp (n:=60) jz rfl 2 (krO 276) [2,4,5,6,17,18] [0,1,2,3] hN (by kernel_rfl) (by kernel_rfl) (fun v=>False) (fun v tr zm nx h1 h2 h3 h4=>h1.elim) ?_
 show zkW h w (S.rounds w (S.stOf h) t) t _ _
 rcases Nat.lt_or_ge t 64 with hlt | hge
 ·rw[wQ (zAT h w (S.rounds w (S.stOf h) t) _ _) (zby hlt)]
  intro tr zm ht hz hmb hi
  show JL wk B N (kmO 276) (yK.drop 2) tr zm 4 _
  refine JL.blk (id:=1) (X:=blB (yK.getD 2 .skip)) (l2:=yK.drop 3) (by kernel_rfl) hmb hi ?_
  rw[show fl (blB (yK.getD 2 .skip))=zbz by kernel_rfl]
  refine JL.preS jz (zeG ht hz) (vp (by kernel_rfl)) ?_
  refine JL.stp (n:=60) jz rfl 4 (krO 276) [2,4,5,6,17,18,11,12] [0,1,2,3] hN (by kernel_rfl) (by kernel_rfl) (fun v=>False) (fun v tr zm nx h1 h2 h3 h4=>h1.elim) ?_
  show zp8 h w (S.rounds w (S.stOf h) t) t _ _
  rw[wQ (zAU h w (S.rounds w (S.stOf h) t) _ _) (zby hlt)]
  intro tr zm ht hz hmb hi
  show JL wk B N (kmO 276) (zbz.drop 4) tr zm 4 _
  refine JL.preS jz (ztb ht hz) (vp (by kernel_rfl)) ?_
  refine JL.all (n:=60) jz rfl (krO 276) [2,4,5,6,17,18] [0,1,2,3] hN (by kernel_rfl) (by kernel_rfl) (fun v=>False) (fun v tr zm nx h1 h2 h3 h4=>h1.elim) ?_
  show zp9 h w (S.rounds w (S.stOf h) t) t _ _ _ _
  rw[zAV,zuY]
  intro tr zm ht hz hmb hi
  show JL wk B N (kmO 276) (yK.drop 3) tr zm 4 _
  refine JL.preS jz (zeG ht hz) (vp (by kernel_rfl)) ?_
  refine JL.all (n:=60) jz rfl (krO 276) [2,4,5,6,17,18] [0,1,2,3] hN (by kernel_rfl) (by kernel_rfl) (fun v=>False) (fun v tr zm nx h1 h2 h3 h4=>h1.elim) ?_
  show zqa h w (S.rounds w (S.stOf h) (t + 1)) t _ _
  rw[wQ (zAW h w (S.rounds w (S.stOf h) (t + 1)) _ _) (zby hlt)]
  intro tr zm ht hz hmb hi
  exact⟨t + 1,by omega,by omega,zeG ht hz⟩
 ·obtain rfl:t=64:=by omega
  rw[zuW]
  intro tr zm ht hz hmb hi
  show (if (0:Nat)=0 then JL wk B N (kmO 276) (yp.drop 5) tr zm 4 (retJ wk Tryz.f276 false (kA .u32 8 (S.comp h b))) else retJ wk Tryz.f276 false (kA .u32 8 (S.comp h b)) (.exit 0) tr zm 4)
  rw[if_pos rfl]
  refine JL.preS jz (zeG ht hz) (vp (by kernel_rfl)) ?_
  refine JL.stp (n:=60) jz rfl 1 (krO 276) [2,4,6,99] [0,1,3] hN (by kernel_rfl) (by kernel_rfl) (fun v=>False) (fun v tr zm nx h1 h2 h3 h4=>h1.elim) ?_
  show zqb h w (S.rounds w (S.stOf h) 64) _ _
  rw[zAX]
  generalize hx:(S.rounds w (S.stOf h) 64).get=x
  intro tr zm ht hz hmb hi
  show JL wk B N (kmO 276) ((yp.drop 5).drop 1) tr zm 4 _
  rw[List.drop_drop]
  refine JL.loopT jz (fun t=>JK (S.accS h x t) x t) (fun t=>8 - t) (fun t=>t≤8) (id:=2) (b:=lpB (blB (yp.getD 6 .skip))) (l2:=yp.drop 7) (by kernel_rfl) (fun t=>by kernel_rfl) 0 (Nat.zero_le _) (ztd ht hz) hmb hi ?_
  intro t ht8
  refine JL.all (n:=60) jz rfl (krO 276) [2,4,6,99] [0,1,2] hN (by kernel_rfl) (by kernel_rfl) (fun v=>False) (fun v tr zm nx h1 h2 h3 h4=>h1.elim) ?_
  show zkZ (S.accS h x t) x t _ _
  rcases Nat.lt_or_ge t 8 with hlt | hge
  ·rw[wQ (zAY (S.accS h x t) x _ _) (zFm hlt)]
   intro tr zm ht hz hmb hi
   exact⟨t + 1,by omega,by omega,zjy (fun j _=>zte h x t j) ht hz⟩
  ·obtain rfl:t=8:=by omega
   rw[zuX]
   intro tr zm ht hz hmb hi
   show (if (2:Nat)=2 then JL wk B N (kmO 276) (yp.drop 7) tr zm 3 _ else _)
   rw[if_pos rfl]
   refine JL.preS jz (zjy (fun j _=>rfl) ht hz) (vp (by kernel_rfl)) ?_
   refine JL.all (n:=60) jz rfl (krO 276) [] [] hN (by kernel_rfl) (by kernel_rfl) (fun v=>v=kA .u32 8 (S.accS h x 8)) (fun v tr zm nx h1 h2 h3 h4=>by
    subst h1
    refine retJ.mk rfl zyw (FzP.imp (zmR _) (ZV fun j hj=>?_)) h4
    rw[S.accS_lt h x 8 j hj,←hx,←hw]; rfl) ?_
   show zqc (S.accS h x 8) x _ _
   rw[zAZ]
end
end Go.K
set_option maxRecDepth 100000
namespace Go.K
open Go.Ab Go.RowKit Go.Y Go.Proofs
noncomputable section
attribute [local instance 10000] gO
noncomputable def Yr:KEnv:=EO0.tab [(246,zbr zuB)]
theorem yI:KOk Yr:=zr.tab ⟨znK,trivial⟩
noncomputable def ZX:List Code:=fl (kcO 190)
noncomputable def ro8 (b:Nat→Nat):KV:=.ro true false .sc 0 64 (f8 64 b)
noncomputable def Jz:KBlk:=bW 329 64 (kA .u32 64 fun i=>vU.getD i 0)
noncomputable def zmP (b:Nat→Nat) (t:Nat):List KV:=[ro8 b,zl 0 8,zl 1 8,zl 2 64,zl 3 64,nI t]
def zpk (h b:Nat→Nat) (Q:KQ) (RR:KV→Prop):Prop:=kpc Yr 190 (ZX.take 4) [1,2,4,5,7,8] [0,1,2,4] (z7 (kmO 190) 0 [kA .u32 8 h,ro8 b],[],0) Q RR
theorem zym (h b:Nat→Nat) (Q:KQ) (RR:KV→Prop):zpk h b Q RR=Q .normal [ro8 b,zl 0 8,zl 1 8,zl 2 64,zl 4 64,nI 0] [some (b8K h),some z8K,some Jz,some znd] 5:=by kernel_rfl
noncomputable def zfU (h b w:Nat→Nat) (t:Nat):LS:=([(1,ro8 b),(2,zl 0 8),(4,zl 1 8),(5,zl 2 64),(7,zl 3 64),(8,nI t)],[(0,b8K h),(1,z8K),(2,Jz),(3,bW 329 64 (f32 64 w))],4)
noncomputable def XD (b w:Nat→Nat) (t:Nat):Nat:=@Bool.rec (fun _=>Nat) (Go.Y.R.nextW (w (Nat.sub t 15)) (w (Nat.sub t 2)) (w (Nat.sub t 7)) (w (Nat.sub t 16))) (Go.Y.R.load32 b t) (Nat.blt t 16)
def zjn (h b w:Nat→Nat) (t:Nat) (Q:KQ) (RR:KV→Prop):Prop:=kpc Yr 190 (lpc (ZX.getD 4 .skip)) [1,2,4,5,7,8] [0,1,2,3] (zfU h b w t) Q RR
theorem zyn (h b w:Nat→Nat) (Q:KQ) (RR:KV→Prop):X4.map (fun t=>zjn h b w t Q RR)=X4.map (fun t=>Q .normal (zmP b (Nat.add t 1)) [some (b8K h),some z8K,some Jz,some (zbl w t (XD b w t))] 4):=by kernel_rfl
theorem zs8 (h b w:Nat→Nat) (Q:KQ) (RR:KV→Prop):zjn h b w 64 Q RR=Q (.exit 0) (zmP b 64) [some (b8K h),some z8K,some Jz,some (bW 329 64 (f32 64 w))] 4:=by kernel_rfl
noncomputable def zmQ (h w:Nat→Nat):List (Option KBlk):=[some (b8K h),some z8K,some Jz,some (bW 329 64 (kA .u32 64 w))]
noncomputable def yj (a:Nat):KV:=.int .u32 (.ofNat a)
noncomputable def zC0 (s:S.St):List KV:=[yj s.a,yj s.b,yj s.c,yj s.d,yj s.e,yj s.f,yj s.g,yj s.h]
noncomputable def zjo (h w:Nat→Nat):LS:=([(2,zl 0 8),(4,zl 1 8),(5,zl 2 64),(7,zl 3 64)],[(0,b8K h),(1,z8K),(2,Jz),(3,bW 329 64 (kA .u32 64 w))],4)
noncomputable def Q0 (h w:Nat→Nat) (s:S.St) (t:Nat):LS:=([(2,zl 0 8),(4,zl 1 8),(5,zl 2 64),(7,zl 3 64),(13,yj s.a),(14,yj s.b),(15,yj s.c),(16,yj s.d),(17,yj s.e),(18,yj s.f),(19,yj s.g),(20,yj s.h),(21,nI t)],[(0,b8K h),(1,z8K),(2,Jz),(3,bW 329 64 (kA .u32 64 w))],4)
noncomputable def zeB (s:S.St) (t:Nat):List KV:=[zl 0 8,zl 1 8,zl 2 64,zl 3 64]++(zC0 s++[nI t])
def zpl (h w:Nat→Nat) (Q:KQ) (RR:KV→Prop):Prop:=kpc Yr 190 ((ZX.drop 5).take 2) [2,4,5,7,13,14,15,16,17,18,19,20,21] [0,1,2,3] (zjo h w) Q RR
theorem zyo (h w:Nat→Nat) (Q:KQ) (RR:KV→Prop):zpl h w Q RR=Q .normal (zeB (S.stOf h) 0) (zmQ h w) 4:=by kernel_rfl
def zjp (h w:Nat→Nat) (s:S.St) (t:Nat) (Q:KQ) (RR:KV→Prop):Prop:=kpc Yr 190 (lpc (ZX.getD 7 .skip)) [2,4,5,7,13,14,15,16,17,18,19,20,21] [0,1,2,3] (Q0 h w s t) Q RR
theorem zyp (h w:Nat→Nat) (s:S.St) (Q:KQ) (RR:KV→Prop):X4.map (fun t=>zjp h w s t Q RR)=X4.map (fun t=>Q .normal (zeB (Go.Y.R.rnd (vU.getD t 0) (w t) s) (Nat.add t 1)) (zmQ h w) 4):=by kernel_rfl
theorem zs9 (h w:Nat→Nat) (s:S.St) (Q:KQ) (RR:KV→Prop):zjp h w s 64 Q RR=Q (.exit 2) (zeB s 64) (zmQ h w) 4:=by kernel_rfl
def zpm (h w:Nat→Nat) (s:S.St) (Q:KQ) (RR:KV→Prop):Prop:=kpc Yr 190 (ZX.drop 8) [] [] (Q0 h w s 64) Q RR
theorem zyq (h w:Nat→Nat) (s:S.St) (Q:KQ) (RR:KV→Prop):zpm h w s Q RR=RR (kA .u32 8 (lN [S.add32 (h 0) s.a,S.add32 (h 1) s.b,S.add32 (h 2) s.c,S.add32 (h 3) s.d,S.add32 (h 4) s.e,S.add32 (h 5) s.f,S.add32 (h 6) s.g,S.add32 (h 7) s.h])):=by kernel_rfl
theorem znQ (w:Nat→Nat) (s0:S.St) (t:Nat):Go.Y.R.rnd (vU.getD t 0) (w t) (Go.Y.R.rounds w s0 t)=Go.Y.R.rounds w s0 (t + 1):=rfl
attribute [local irreducible] kpre kcO kmO krO JL zj ZX Go.Y.R.rounds Go.Y.R.sched Go.Y.R.rnd S.add32 kA Go.Y.R.nextW Go.Y.R.load32
theorem zAL:Tryz.f190.ntmps=202:=by kernel_rfl
theorem zAM:Tryz.f190.results.toList=krO 190:=by kernel_rfl
theorem zAN:fl (kcO 190)=ZX:=by kernel_rfl
theorem zfa:zS 0 Jz.v=true:=by kernel_rfl
section
variable {h b w w':Nat→Nat}{s:S.St}{t:Nat}{tr:KTm}{zm:KZ}
theorem zuR (ht:[1,2,4,5,7,8].map (zn tr)=[ro8 b,zl 0 8,zl 1 8,zl 2 64,zl 4 64,nI 0]) (hz:[0,1,2,4].map (kb zm)=[some (b8K h),some z8K,some Jz,some znd]):atS (kmO 190) (zfU h b (fun _=>0) 0) tr zm :=
 atS.of (s:=zfU h b (fun _=>0) 0) [] (ZZ 0 1 2 4) ht hz (by kernel_rfl)
  ⟨(nfB (v:=ro8 b) rfl).v,(show RnB (am zm) [] (ZZ 0 1 2 4) 4 (V.ptr 0 [] (.arr 8 .sc)) (V.ptr 0 [] (.arr 8 .sc)) from RnB.ptr rfl (ltk rfl)).v,(show RnB (am zm) [] (ZZ 0 1 2 4) 4 (V.ptr 1 [] (.arr 8 .sc)) (V.ptr 1 [] (.arr 8 .sc)) from RnB.ptr rfl (ltk rfl)).v,(show RnB (am zm) [] (ZZ 0 1 2 4) 4 (V.ptr 2 [] (.arr 64 .sc)) (V.ptr 2 [] (.arr 64 .sc)) from RnB.ptr rfl (ltk rfl)).v,(show RnB (am zm) [] (ZZ 0 1 2 4) 4 (V.ptr 4 [] (.arr 64 .sc)) (V.ptr 3 [] (.arr 64 .sc)) from RnB.ptr rfl (ltk rfl)).v,(nfB (v:=nI 0) rfl).v,trivial⟩
  ⟨RnK.nf (Z0 h),RnK.nf Yt,RnK.nf zfa,qX rfl rfl (Imp.arrE fun i hi=>rfl) y8,trivial⟩
theorem zAO {x:Nat}(hw:∀ j,j < 64→w' j=if j=t then x else w j) (ht:[1,2,4,5,7,8].map (zn tr)=zmP b (Nat.add t 1)) (hz:[0,1,2,3].map (kb zm)=[some (b8K h),some z8K,some Jz,some (zbl w t x)]):atS (kmO 190) (zfU h b w' (t + 1)) tr zm :=
 atS.of (s:=zfU h b w' (t + 1)) [] id ht hz (by kernel_rfl) ⟨x7 _ rfl,xi (ltk rfl),xi (ltk rfl),xi (ltk rfl),xi (ltk rfl),x7 _ rfl,trivial⟩ ⟨RnK.nf (Z0 h),RnK.nf Yt,RnK.nf zfa,qX rfl rfl (zjg hw) y8,trivial⟩
theorem zuS (hw:∀ j,j < 64→w j=w' j) (ht:[1,2,4,5,7,8].map (zn tr)=zmP b 64) (hz:[0,1,2,3].map (kb zm)=[some (b8K h),some z8K,some Jz,some (bW 329 64 (f32 64 w))]):atS (kmO 190) (zjo h w') tr zm:=by
 have h2:[2,4,5,7].map (zn tr)=[zl 0 8,zl 1 8,zl 2 64,zl 3 64]:=congrArg (fun l=>(l.drop 1).take 4) ht
 exact atS.of (s:=zjo h w') [] id h2 hz (by kernel_rfl) ⟨xi (ltk rfl),xi (ltk rfl),xi (ltk rfl),xi (ltk rfl),trivial⟩ ⟨RnK.nf (Z0 h),RnK.nf Yt,RnK.nf zfa,qX rfl rfl (zpe hw) (nfB (zbg w')),trivial⟩
theorem zda (ht:[2,4,5,7,13,14,15,16,17,18,19,20,21].map (zn tr)=zeB s t) (hz:[0,1,2,3].map (kb zm)=zmQ h w):atS (kmO 190) (Q0 h w s t) tr zm :=
 atS.of (s:=Q0 h w s t) [] id ht hz (by kernel_rfl) ⟨xi (ltk rfl),xi (ltk rfl),xi (ltk rfl),xi (ltk rfl),x7 _ rfl,x7 _ rfl,x7 _ rfl,x7 _ rfl,x7 _ rfl,x7 _ rfl,x7 _ rfl,x7 _ rfl,x7 _ rfl,trivial⟩ ⟨RnK.nf (Z0 h),RnK.nf Yt,RnK.nf zfa,RnK.nf (zbg w),trivial⟩
end
theorem zFe (h:Nat→Nat) (x:S.St):∀ j,j < 8→lN [S.add32 (h 0) x.a,S.add32 (h 1) x.b,S.add32 (h 2) x.c,S.add32 (h 3) x.d,S.add32 (h 4) x.e,S.add32 (h 5) x.f,S.add32 (h 6) x.g,S.add32 (h 7) x.h] j=S.add32 (h j) (x.get j):=by
 have gen:∀(op:Nat→Nat→Nat) j,j < 8→lN [op (h 0) x.a,op (h 1) x.b,op (h 2) x.c,op (h 3) x.d,op (h 4) x.e,op (h 5) x.f,op (h 6) x.g,op (h 7) x.h] j=op (h j) (x.get j):=fun op j hj=>by
  match j,hj with
  | 0,_=>rfl
  | 1,_=>rfl
  | 2,_=>rfl
  | 3,_=>rfl
  | 4,_=>rfl
  | 5,_=>rfl
  | 6,_=>rfl
  | 7,_=>rfl
 exact gen S.add32
theorem zuT (b:Nat→Nat) (t j:Nat):Go.Y.R.wS b (t + 1) j=if j=t then XD b (Go.Y.R.wS b t) t else Go.Y.R.wS b t j:=by
 rcases Nat.lt_or_ge t 16 with h | h
 ·rw[Go.Y.R.wS_lo b t h]
  have e:XD b (Go.Y.R.wS b t) t=Go.Y.R.load32 b t:=by
   unfold XD
   rw[xZ.2 h]
  rw[e]; exact Yq _ _ _ _
 ·rw[Go.Y.R.wS_hi b t h]
  have e:XD b (Go.Y.R.wS b t) t=Go.Y.R.nextW (Go.Y.R.wS b t (t - 15)) (Go.Y.R.wS b t (t - 2)) (Go.Y.R.wS b t (t - 7)) (Go.Y.R.wS b t (t - 16)):=by
   unfold XD
   have hb:Nat.blt t 16=false:=by
    cases hb:Nat.blt t 16 with
    | false=>rfl
    | true=>exact absurd (xZ.1 hb) (by omega)
   rw[hb]; rfl
  rw[e]; exact Yq _ _ _ _
theorem zFf (h b:Nat→Nat):JFn Tryz.prog 190 false [kA .u32 8 h,ro8 b] (kA .u32 8 (Go.Y.R.comp h b)):=by
 refine JFn.of (P:=Tryz.prog) yI rfl (c:=kcO 190) (kmO 190) Tryz.func190 (by kernel_rfl) fun B N hN=>?_
 rw[zAL] at hN
 rw[zAN]
 refine JL.stp (n:=60) (s:=(z7 (kmO 190) 0 [kA .u32 8 h,ro8 b],[],0)) yI rfl 4 (krO 190) [1,2,4,5,7,8] [0,1,2,4] hN (by kernel_rfl) (by kernel_rfl) (fun v=>False) (fun v tr zm nx h1 h2 h3 h4=>h1.elim) ?_
 show zpk h b _ _
 rw[zym]
 intro tr zm ht hz hmb hi
 refine JL.loopT yI (fun t=>zfU h b (Go.Y.R.wS b t) t) (fun t=>64 - t) (fun t=>t≤64) (id:=0) (b:=lpB (blB (ZX.getD 4 .skip))) (l2:=ZX.drop 5) (by kernel_rfl) (fun t=>by kernel_rfl) 0 (Nat.zero_le _) (zuR ht hz) hmb hi ?_
 intro t ht64
 refine JL.all (n:=60) yI rfl (krO 190) [1,2,4,5,7,8] [0,1,2,3] hN (by kernel_rfl) (by kernel_rfl) (fun v=>False) (fun v tr zm nx h1 h2 h3 h4=>h1.elim) ?_
 show zjn h b (Go.Y.R.wS b t) t _ _
 rcases Nat.lt_or_ge t 64 with hlt | hge
 ·rw[wQ (zyn h b (Go.Y.R.wS b t) _ _) (zby hlt)]
  intro tr zm ht hz hmb hi
  exact⟨t + 1,by omega,by omega,zAO (fun j _=>zuT b t j) ht hz⟩
 ·obtain rfl:t=64:=by omega
  rw[zs8]
  intro tr zm ht hz hmb hi
  show (if (0:Nat)=0 then JL Yr B N (kmO 190) (ZX.drop 5) tr zm 4 _ else _)
  rw[if_pos rfl]
  refine JL.preS yI (zuS (w':=Go.Y.R.sched b) (fun j hj=>Go.Y.R.wS_sched b j hj) ht hz) (vp (by kernel_rfl)) ?_
  generalize hw:Go.Y.R.sched b=w
  refine JL.stp (n:=60) yI rfl 2 (krO 190) [2,4,5,7,13,14,15,16,17,18,19,20,21] [0,1,2,3] hN (by kernel_rfl) (by kernel_rfl) (fun v=>False) (fun v tr zm nx h1 h2 h3 h4=>h1.elim) ?_
  show zpl h w _ _
  rw[zyo]
  intro tr zm ht hz hmb hi
  show JL Yr B N (kmO 190) ((ZX.drop 5).drop 2) tr zm 4 _
  rw[List.drop_drop]
  refine JL.loopT yI (fun t=>Q0 h w (Go.Y.R.rounds w (S.stOf h) t) t) (fun t=>64 - t) (fun t=>t≤64) (id:=2) (b:=lpB (blB (ZX.getD 7 .skip))) (l2:=ZX.drop 8) (by kernel_rfl) (fun t=>by kernel_rfl) 0 (Nat.zero_le _) (by
   have e:Go.Y.R.rounds w (S.stOf h) 0=S.stOf h:=by unfold Go.Y.R.rounds; rfl
   show atS (kmO 190) (Q0 h w (Go.Y.R.rounds w (S.stOf h) 0) 0) tr zm
   rw[e]; exact zda ht hz) hmb hi ?_
  intro t ht64
  refine JL.all (n:=60) yI rfl (krO 190) [2,4,5,7,13,14,15,16,17,18,19,20,21] [0,1,2,3] hN (by kernel_rfl) (by kernel_rfl) (fun v=>False) (fun v tr zm nx h1 h2 h3 h4=>h1.elim) ?_
  show zjp h w (Go.Y.R.rounds w (S.stOf h) t) t _ _
  rcases Nat.lt_or_ge t 64 with hlt | hge
  ·rw[wQ (zyp h w (Go.Y.R.rounds w (S.stOf h) t) _ _) (zby hlt),znQ]
   intro tr zm ht hz hmb hi
   exact⟨t + 1,by omega,by omega,zda ht hz⟩
  ·obtain rfl:t=64:=by omega
   rw[zs9]
   generalize hx:Go.Y.R.rounds w (S.stOf h) 64=x
   intro tr zm ht hz hmb hi
   show (if (2:Nat)=2 then JL Yr B N (kmO 190) (ZX.drop 8) tr zm 4 _ else _)
   rw[if_pos rfl]
   refine JL.preS yI (zda ht hz) (vp (by kernel_rfl)) ?_
   refine JL.all (n:=60) yI rfl (krO 190) [] [] hN (by kernel_rfl) (by kernel_rfl) (fun v=>v=kA .u32 8 (lN [S.add32 (h 0) x.a,S.add32 (h 1) x.b,S.add32 (h 2) x.c,S.add32 (h 3) x.d,S.add32 (h 4) x.e,S.add32 (h 5) x.f,S.add32 (h 6) x.g,S.add32 (h 7) x.h])) (fun v tr zm nx h1 h2 h3 h4=>by
    subst h1
    refine retJ.mk rfl zAM (FzP.imp (zmR _) (ZV fun j hj=>?_)) h4
    unfold Go.Y.R.comp
    rw[hw,hx]
    exact zFe h x j hj) ?_
   show zpm h w x _ _
   rw[zyq]
end
end Go.K
set_option maxRecDepth 100000
namespace Go.Y
open Go.Ab
def isW (k:IntKind) (v:V):Bool:=match v with
 | .int k' (.ofNat _)=>xa k' k
 | _=>false
def xK (v:V):Nat:=match v with
 | .int _ (.ofNat n)=>n
 | _=>0
theorem zsA {k:IntKind}{v:V}(h:isW k v=true):v=wV k (xK v):=by
 unfold isW at h
 split at h
 ·obtain rfl:=zD h; rfl
 ·cases h
def qk (k:IntKind) (n:Nat) (f:Nat→V):Bool:=(List.range n).all fun i=>isW k (f i)
def zxr (k:IntKind) (n:Nat) (f:Nat→Nat):V:=.arr n fun i=>wV k (f i)
theorem Vl {k:IntKind}{n:Nat}{f:Nat→V}(h:qk k n f=true) {i:Nat}(hi:i < n):f i=wV k (xK (f i)):=zsA (List.all_eq_true.1 h i (List.mem_range.2 hi))
def zsB:CSpec where
 pre:=fun l=>match l with
  | [.arr 8 f,.arr 64 g]=>qk .u32 8 f&&qk .u8 64 g
  | _=>false
 res:=fun l=>match l with
  | [.arr 8 f,.arr 64 g]=>zxr .u32 8 (S.comp (fun i=>xK (f i)) fun i=>xK (g i))
  | _=>.unk
 fresh:=true
theorem ziX {args:List V}(h:zsB.pre args=true):∃ f g,args=[.arr 8 f,.arr 64 g]∧qk .u32 8 f=true∧qk .u8 64 g=true:=by
 simp only[zsB] at h
 split at h
 ·rw[Bool.and_eq_true] at h; exact⟨_,_,rfl,h.1,h.2⟩
 ·cases h
def zsC:CSpec where
 pre:=fun l=>match l with
  | [.arr 8 f,.ro _ _ .sc 64 g]=>qk .u32 8 f&&qk .u8 64 g
  | _=>false
 res:=fun l=>match l with
  | [.arr 8 f,.ro _ _ .sc 64 g]=>zxr .u32 8 (R.comp (fun i=>xK (f i)) fun i=>xK (g i))
  | _=>.unk
 fresh:=true
theorem ziY {args:List V}(h:zsC.pre args=true):∃ f u cl g,args=[.arr 8 f,.ro u cl .sc 64 g]∧qk .u32 8 f=true∧qk .u8 64 g=true:=by
 simp only[zsC] at h
 split at h
 ·rw[Bool.and_eq_true] at h; exact⟨_,_,_,_,rfl,h.1,h.2⟩
 ·cases h
end Go.Y
namespace Go.K
open Go.Ab Go.RowKit Go.Y Go.Proofs
noncomputable section
attribute [local instance 10000] gO
attribute [local irreducible] S.comp Go.Y.R.comp kA
noncomputable def lwC (C:Ctx):Ctx:={ C with ok:=fun _ b=>C.ok false b∨C.ok true b }
theorem lwK (C:Ctx):Keep C (lwC C):=⟨fun _ h=>h,fun _ _=>rfl,fun _ _=>rfl,fun u b h=>by
 cases u
 ·exact .inl h
 ·exact .inr h,fun _ _ _=>rfl⟩
theorem zo9 {fid:FuncId}{c:CSpec}(hf:∃ fn,Tryz.prog.funcs[fid]?=some fn∧(fn.name == "runtime.NumGoroutine")=false∧fn.body.isNone=false)
  (h:∀ args,c.pre args=true→∃(l:List KV) (w:KV),(∀ C m,R C (mkL args) m→R (lwC C) (mkL (l.map KV.v)) m)∧JFn Tryz.prog fid false l w∧zA w.v=true∧Imp w.v (c.res args)):xX Tryz.prog fid c:=by
 refine⟨hf,fun C args vals hok hg hargs hpre=>?_⟩
 obtain⟨l,w,hl,⟨E,fn,c',mask,hE,hP,h2,h3,h4⟩,hn,hi⟩:=h args hpre
 obtain⟨P⟩:=E
 subst hP
 refine (W1 h2 h3 h4 (C:=lwC C) (fun u b hb=>hb.elim (hok _ _) (hok _ _)) (fun g=>R.keep (lwK C.pur) _ _ (hg g)) (hl C.pur _ hargs)).mono ?_
 rintro e w' ⟨val,he,C',rfl,hR,hk,hlt⟩
 exact⟨hk.below,val,he,hi _ _ (R.noref _ hn hR)⟩
theorem zep:xX Tryz.prog 276 zsB:=zo9 ⟨Tryz.f276,Tryz.func276,by kernel_rfl,by kernel_rfl⟩ fun args hp=>by
 obtain⟨f,g,rfl,hf,hg⟩:=ziX hp
 refine⟨[kA .u32 8 fun i=>xK (f i),kA .u8 64 fun i=>xK (g i)],_,?_,zC4 _ _,zmR _,zjc (k:=.u32) (n:=8) (f:=S.comp (fun i=>xK (f i)) fun i=>xK (g i)) (g:=fun i=>wV .u32 (S.comp (fun i=>xK (f i)) (fun i=>xK (g i)) i)) fun i hi=>rfl⟩
 exact fun C m=>R.cons_map (fun m h=>R.keep (lwK C) _ _ (Yo (fun i hi=>Vl hf hi) _ _ h)) (fun m=>R.cons_map (fun m h=>R.keep (lwK C) _ _ (Yo (fun i hi=>Vl hg hi) _ _ h)) (fun m h=>R.keep (lwK C) _ _ h))
theorem zeq:xX Tryz.prog 190 zsC:=zo9 ⟨Tryz.f190,Tryz.func190,by kernel_rfl,by kernel_rfl⟩ fun args hp=>by
 obtain⟨f,u,cl,g,rfl,hf,hg⟩:=ziY hp
 refine⟨[kA .u32 8 fun i=>xK (f i),ro8 fun i=>xK (g i)],_,?_,zFf _ _,zmR _,zjc (k:=.u32) (n:=8) (f:=Go.Y.R.comp (fun i=>xK (f i)) fun i=>xK (g i)) (g:=fun i=>wV .u32 (Go.Y.R.comp (fun i=>xK (f i)) (fun i=>xK (g i)) i)) fun i hi=>rfl⟩
 refine fun C m=>R.cons_map (fun m h=>R.keep (lwK C) _ _ (Yo (fun i hi=>Vl hf hi) _ _ h)) (fun m=>R.cons_map (fun m h=>?_) (fun m h=>R.keep (lwK C) _ _ h))
 obtain⟨a,k,h1,h2,h3,h4⟩:=h
 refine⟨a,k,h1,h2,fun h=>(by cases h),h4.imp (fun h=>h) ?_⟩
 rintro⟨b,o,q1,q2,q3⟩
 refine⟨b,o,q1,by cases u; exact .inl q2; exact .inr q2,fun i hi=>?_⟩
 have:=q3 i hi
 rw[Vl hg hi] at this
 show R (lwC C).pur (wV .u8 (xK (g (0 + i)))) _
 rw[Nat.zero_add]
 exact R.keep (lwK C.pur) _ _ this
end
end Go.K
set_option maxRecDepth 100000
namespace Go.K
open Go.Ab Go.RowKit Go.Y Go.Proofs
noncomputable section
def Qf (l:List Nat):Nat→Nat:=@List.rec Nat (fun _=>Nat→Nat) (fun _=>0) (fun x _ ih i=>@Nat.rec (fun _=>Nat) x (fun j _=>ih j) i) l
theorem zea:∀(l:List Nat) (i:Nat),Qf l i=l.getD i 0
 | [],i=>rfl
 | x::l,0=>rfl
 | x::l,i + 1=>by
  show Qf l i=_
  rw[zea l i,List.getD_cons_succ]
def gF (ld:Nat→Nat) (nw:Nat→Nat→Nat→Nat→Nat) (n:Nat):(List Nat→Prop)→Prop :=
 @Nat.rec (fun _=>(List Nat→Prop)→Prop) (fun K=>K []) (fun t ih K=>ih fun l=>zW (@Bool.rec (fun _=>Nat) (nw (Qf l 14) (Qf l 1) (Qf l 6) (Qf l 15)) (ld t) (Nat.blt t 16)) fun w=>K (w::l)) n
theorem zoP (ld:Nat→Nat) (nw:Nat→Nat→Nat→Nat→Nat):∀(n:Nat) (K:List Nat→Prop),gF ld nw n K=K (S.gL ld nw n)
 | 0,K=>rfl
 | n + 1,K=>by
  show gF ld nw n (fun l=>zW (@Bool.rec (fun _=>Nat) (nw (Qf l 14) (Qf l 1) (Qf l 6) (Qf l 15)) (ld n) (Nat.blt n 16)) fun w=>K (w::l))=_
  rw[zoP ld nw n,zZ]
  simp only[zea,S.gL]
  congr 2
  by_cases h:n < 16
  ·rw[show Nat.blt n 16=true by rw[Nat.blt_eq]; exact h,show decide (n < 16)=true by simpa using h]; rfl
  ·rw[show Nat.blt n 16=false by rw[Bool.eq_false_iff]; intro h2; rw[Nat.blt_eq] at h2; exact h h2,show decide (n < 16)=false by simpa using h]; rfl
theorem QV (ld:Nat→Nat) (nw:Nat→Nat→Nat→Nat→Nat) (j:Nat):∀ k,S.gS ld nw (j + 1 + k) j=S.gS ld nw (j + 1) j
 | 0=>rfl
 | k + 1=>by
  rw[←QV ld nw j k]
  show (bif j==j + 1 + k then _ else _)=_
  rw[show (j==j + 1 + k)=false by simp; omega,cond_false]
  rfl
theorem zmj (ld:Nat→Nat) (nw:Nat→Nat→Nat→Nat→Nat) {t:Nat}(h:t < 64):S.gL ld nw (t + 1)=(S.gL ld nw 64).getD (63 - t) 0::S.gL ld nw t:=by
 have h1:=S.gS_gL ld nw (t + 1) t (by omega)
 have h2:=S.gS_gL ld nw 64 t h
 have h3:=QV ld nw t (63 - t)
 rw[show t + 1 + (63 - t)=64 by omega] at h3
 rw[h3,h1] at h2
 rw[show 64 - 1 - t=63 - t by omega] at h2
 rw[←h2,show t + 1 - 1 - t=0 by omega]
 simp only[S.gL,List.getD_cons_zero]
section
variable (T1:Nat→Nat→Nat→Nat→Nat→Nat→Nat) (T2:Nat→Nat→Nat→Nat)
def zis (k w:Nat) (s:S.St):S.St:=⟨S.add32 (T1 s.e s.f s.g s.h k w) (T2 s.a s.b s.c),s.a,s.b,s.c,S.add32 s.d (T1 s.e s.f s.g s.h k w),s.e,s.f,s.g⟩
def XS (w:Nat→Nat) (s:S.St):Nat→S.St
 | 0=>s
 | t + 1=>zis T1 T2 (vU.getD t 0) (w t) (XS w s t)
abbrev K8:Type:=Nat→Nat→Nat→Nat→Nat→Nat→Nat→Nat→Prop
def rF (a b c d e f g h:Nat) (ws:List Nat):List Nat→K8→Prop :=
 @List.rec Nat (fun _=>List Nat→K8→Prop) (fun _ K=>K a b c d e f g h) (fun w _ ih ks K=>@List.rec Nat (fun _=>Prop) True (fun k kr _=>ih kr fun a b c d e f g h =>
  zW (T1 e f g h k w) fun x=>zW (Nat.mod (Nat.add x (T2 a b c)) 4294967296) fun a'=>zW (Nat.mod (Nat.add d x) 4294967296) fun e'=>K a' a b c e' e f g) ks) ws
def zmk:Nat→List Nat
 | 0=>[]
 | t + 1=>vU.getD t 0::zmk t
theorem zoQ (ld:Nat→Nat) (nw:Nat→Nat→Nat→Nat→Nat) (s:S.St):∀(t:Nat) (K:K8),t≤64→rF T1 T2 s.a s.b s.c s.d s.e s.f s.g s.h (S.gL ld nw t) (zmk t) K=(fun r:S.St=>K r.a r.b r.c r.d r.e r.f r.g r.h) (XS T1 T2 (fun j=>(S.gL ld nw 64).getD (63 - j) 0) s t)
 | 0,K,_=>rfl
 | t + 1,K,h=>by
  rw[zmj ld nw (by omega)]
  show rF T1 T2 s.a s.b s.c s.d s.e s.f s.g s.h (S.gL ld nw t) (zmk t) _=_
  rw[zoQ ld nw s t _ (by omega)]
  simp only[zZ]
  rfl
end
def pk8 (a b c d e f g h:Nat) (K:Nat→Prop):Prop :=
 zW (Nat.add a (Nat.mul 4294967296 (Nat.add b (Nat.mul 4294967296 (Nat.add c (Nat.mul 4294967296 (Nat.add d (Nat.mul 4294967296 (Nat.add e (Nat.mul 4294967296 (Nat.add f (Nat.mul 4294967296 (Nat.add g (Nat.mul 4294967296 h)))))))))))))) K
theorem zrG (x o l:Nat):bts x o l=x / 2 ^ o % 2 ^ l:=by
 show (x >>> o) % 2 ^ l=_
 rw[Nat.shiftRight_eq_div_pow]
theorem zrH {a b c d e f g h:Nat}(ha:a < 4294967296) (hb:b < 4294967296) (hc:c < 4294967296) (hd:d < 4294967296) (he:e < 4294967296) (hf:f < 4294967296) (hg:g < 4294967296) (hh:h < 4294967296) :
  ∀ j,j < 8→pkr .u32 (a + 4294967296 * (b + 4294967296 * (c + 4294967296 * (d + 4294967296 * (e + 4294967296 * (f + 4294967296 * (g + 4294967296 * h))))))) j=[a,b,c,d,e,f,g,h].getD j 0:=by
 intro j hj
 show bts _ (32 * j) 32=_
 rw[zrG]
 match j,hj with
 | 0,_=>show _ / 1 % 4294967296=a; omega
 | 1,_=>show _ / 4294967296 % 4294967296=b; omega
 | 2,_=>show _ / (4294967296 * 4294967296) % 4294967296=c; omega
 | 3,_=>show _ / (4294967296 * 4294967296 * 4294967296) % 4294967296=d; omega
 | 4,_=>show _ / (4294967296 * 4294967296 * 4294967296 * 4294967296) % 4294967296=e; omega
 | 5,_=>show _ / (4294967296 * 4294967296 * 4294967296 * 4294967296 * 4294967296) % 4294967296=f; omega
 | 6,_=>show _ / (4294967296 * 4294967296 * 4294967296 * 4294967296 * 4294967296 * 4294967296) % 4294967296=g; omega
 | 7,_=>show _ / (4294967296 * 4294967296 * 4294967296 * 4294967296 * 4294967296 * 4294967296 * 4294967296) % 4294967296=h; omega
end
end Go.K
set_option maxRecDepth 100000
namespace Go.K
open Go.Ab Go.RowKit Go.Y Go.Proofs
noncomputable section
namespace F
def a32 (x y:Nat):Nat:=Nat.mod (Nat.add x y) 4294967296
def x32 (x y:Nat):Nat:=Nat.mod (Nat.xor x y) 4294967296
def n32 (x y:Nat):Nat:=Nat.mod (Nat.land x y) 4294967296
def o32 (x y:Nat):Nat:=Nat.mod (Nat.lor x y) 4294967296
def not32 (x:Nat):Nat:=Nat.mod (Nat.xor 4294967295 x) 4294967296
def Qe (a l r:Nat):Nat:=Nat.mod (Nat.lor (Nat.mod (Nat.mul a l) 4294967296) (Nat.div a r)) 4294967296
def rotR (a l r:Nat):Nat:=Nat.mod (Nat.lor (Nat.div a r) (Nat.mod (Nat.mul a l) 4294967296)) 4294967296
def by8 (y off t i:Nat):Nat:=Nat.mod (pkr .u8 y (Nat.add off (Nat.add (Nat.mul 4 t) i))) 18446744073709551616
def o64 (x y:Nat):Nat:=Nat.mod (Nat.lor x y) 18446744073709551616
def p64 (x y:Nat):Nat:=Nat.mod (Nat.add x y) 18446744073709551616
def l64 (x:Nat):Nat:=Nat.mod (Nat.mul x 256) 18446744073709551616
def ldS (y off t:Nat):Nat:=Nat.mod (o64 (l64 (o64 (l64 (o64 (l64 (o64 0 (by8 y off t 0))) (by8 y off t 1))) (by8 y off t 2))) (by8 y off t 3)) 4294967296
def ldR (y off t:Nat):Nat:=Nat.mod (p64 (l64 (p64 (l64 (p64 (l64 (p64 (l64 0) (by8 y off t 0))) (by8 y off t 1))) (by8 y off t 2))) (by8 y off t 3)) 4294967296
def s0S (x:Nat):Nat:=x32 (x32 (Qe x 33554432 128) (Qe x 16384 262144)) (Nat.div x 8)
def s1S (y:Nat):Nat:=x32 (x32 (Qe y 32768 131072) (Qe y 8192 524288)) (Nat.div y 1024)
def nwS (w15 w2 w7 w16:Nat):Nat:=a32 (a32 (a32 (s1S w2) w7) (s0S w15)) w16
def s0R (x:Nat):Nat:=x32 (x32 (rotR x 33554432 128) (rotR x 16384 262144)) (Nat.div x 8)
def s1R (y:Nat):Nat:=x32 (x32 (rotR y 32768 131072) (rotR y 8192 524288)) (Nat.div y 1024)
def nwR (w15 w2 w7 w16:Nat):Nat:=a32 (a32 (a32 w16 w7) (s0R w15)) (s1R w2)
def b1S (e:Nat):Nat:=x32 (x32 (Qe e 67108864 64) (Qe e 2097152 2048)) (Qe e 128 33554432)
def b0S (a:Nat):Nat:=x32 (x32 (Qe a 1073741824 4) (Qe a 524288 8192)) (Qe a 1024 4194304)
def b1R (e:Nat):Nat:=x32 (x32 (rotR e 67108864 64) (rotR e 2097152 2048)) (rotR e 128 33554432)
def b0R (a:Nat):Nat:=x32 (x32 (rotR a 1073741824 4) (rotR a 524288 8192)) (rotR a 1024 4194304)
def chS (e f g:Nat):Nat:=x32 (n32 e f) (n32 (not32 e) g)
def mjS (a b c:Nat):Nat:=x32 (x32 (n32 a b) (n32 a c)) (n32 b c)
def chR (e f g:Nat):Nat:=o32 (n32 e f) (n32 (not32 e) g)
def mjR (a b c:Nat):Nat:=o32 (o32 (n32 a b) (n32 a c)) (n32 b c)
def t1S (e f g h k w:Nat):Nat:=a32 (a32 (a32 (a32 h (b1S e)) (chS e f g)) k) w
def t2S (a b c:Nat):Nat:=a32 (b0S a) (mjS a b c)
def t1R (e f g h k w:Nat):Nat:=a32 (a32 (a32 (a32 h (b1R e)) (chR e f g)) k) w
def t2R (a b c:Nat):Nat:=a32 (b0R a) (mjR a b c)
end F
def zoM:List Nat:=[3329325298,3204031479,2756734187,2428436474,2361852424,2227730452,2024104815,1955562222,1747873779,1537002063,1322822218,958139571,883997877,659060556,506948616,430227734,275423344,4094571909,3600352804,3516065817,3345764771,3259730800,2820302411,2730485921,2456956037,2177026350,1986661051,1695183700,1396182291,1294757372,773529912,666307205,338241895,113926993,3584528711,3336571891,3210313671,2952996808,2821834349,2554220882,1996064986,1555081692,1249150122,770255983,604807628,264347078,4022224774,3835390401,3248222580,2614888103,2162078206,1925078388,1426881987,607225278,310598401,3624381080,2870763221,2453635748,1508970993,961987163,3921009573,3049323471,1899447441,1116352408]
theorem zir:zmk 64=zoM:=by decide +kernel
theorem zry (s:S.St) (k w:Nat):F.t1S s.e s.f s.g s.h k w=S.t1 s k w:=rfl
theorem zrz (s:S.St):F.t2S s.a s.b s.c=S.t2 s:=rfl
theorem zrA (s:S.St) (k w:Nat):F.t1R s.e s.f s.g s.h k w=R.t1 s k w:=rfl
theorem zrB (s:S.St):F.t2R s.a s.b s.c=R.t2 s:=rfl
theorem zoN (w:Nat→Nat) (s:S.St):∀ t,XS F.t1S F.t2S w s t=S.rounds w s t
 | 0=>rfl
 | t + 1=>by
  show zis F.t1S F.t2S (vU.getD t 0) (w t) (XS F.t1S F.t2S w s t)=S.rnd (vU.getD t 0) (w t) (S.rounds w s t)
  rw[zoN w s t]
  unfold zis S.rnd
  rw[zry,zrz]
theorem zoO (w:Nat→Nat) (s:S.St):∀ t,XS F.t1R F.t2R w s t=R.rounds w s t
 | 0=>rfl
 | t + 1=>by
  show zis F.t1R F.t2R (vU.getD t 0) (w t) (XS F.t1R F.t2R w s t)=R.rnd (vU.getD t 0) (w t) (R.rounds w s t)
  rw[zoO w s t]
  unfold zis R.rnd
  rw[zrA,zrB]
theorem zrC (y off:Nat):F.ldS y off=S.load32 fun i=>pkr .u8 y (off + i):=by funext t; rfl
theorem zrD (y off:Nat):F.ldR y off=R.load32 fun i=>pkr .u8 y (off + i):=by funext t; rfl
theorem zrE:F.nwS=S.nextW:=rfl
theorem zrF:F.nwR=R.nextW:=rfl
def zd8 (ld:Nat→Nat) (nw:Nat→Nat→Nat→Nat→Nat) (T1:Nat→Nat→Nat→Nat→Nat→Nat→Nat) (T2:Nat→Nat→Nat→Nat) (x:Nat) (K:Nat→Prop):Prop :=
 zW (pkr .u32 x 0) fun a=>zW (pkr .u32 x 1) fun b=>zW (pkr .u32 x 2) fun c=>zW (pkr .u32 x 3) fun d=>zW (pkr .u32 x 4) fun e=>zW (pkr .u32 x 5) fun f=>zW (pkr .u32 x 6) fun g=>zW (pkr .u32 x 7) fun h =>
  gF ld nw 64 fun ws=>rF T1 T2 a b c d e f g h ws zoM fun a' b' c' d' e' f' g' h'=>pk8 (F.a32 a a') (F.a32 b b') (F.a32 c c') (F.a32 d d') (F.a32 e e') (F.a32 f f') (F.a32 g g') (F.a32 h h') K
theorem wJ (a b:Nat):F.a32 a b < 4294967296:=Nat.mod_lt _ (by decide)
theorem zd9 {ld:Nat→Nat}{nw:Nat→Nat→Nat→Nat→Nat}{T1:Nat→Nat→Nat→Nat→Nat→Nat→Nat}{T2:Nat→Nat→Nat→Nat}{x:Nat}{K:Nat→Prop}(h:zd8 ld nw T1 T2 x K) :
  ∃ z,K z∧∀ j,j < 8→pkr .u32 z j=S.add32 (pkr .u32 x j) ((XS T1 T2 (fun j=>(S.gL ld nw 64).getD (63 - j) 0) (S.stOf fun i=>pkr .u32 x i) 64).get j):=by
 unfold zd8 at h
 simp only[zZ,zoP] at h
 rw[←zir] at h
 have h1:=zoQ T1 T2 ld nw (S.stOf fun i=>pkr .u32 x i) 64 (fun a' b' c' d' e' f' g' h'=>pk8 (F.a32 (pkr .u32 x 0) a') (F.a32 (pkr .u32 x 1) b') (F.a32 (pkr .u32 x 2) c') (F.a32 (pkr .u32 x 3) d') (F.a32 (pkr .u32 x 4) e') (F.a32 (pkr .u32 x 5) f') (F.a32 (pkr .u32 x 6) g') (F.a32 (pkr .u32 x 7) h') K) (Nat.le_refl _)
 rw[show rF T1 T2 (S.stOf fun i=>pkr .u32 x i).a (S.stOf fun i=>pkr .u32 x i).b (S.stOf fun i=>pkr .u32 x i).c (S.stOf fun i=>pkr .u32 x i).d (S.stOf fun i=>pkr .u32 x i).e (S.stOf fun i=>pkr .u32 x i).f (S.stOf fun i=>pkr .u32 x i).g (S.stOf fun i=>pkr .u32 x i).h=rF T1 T2 (pkr .u32 x 0) (pkr .u32 x 1) (pkr .u32 x 2) (pkr .u32 x 3) (pkr .u32 x 4) (pkr .u32 x 5) (pkr .u32 x 6) (pkr .u32 x 7) from rfl] at h1
 rw[h1] at h
 generalize XS T1 T2 (fun j=>(S.gL ld nw 64).getD (63 - j) 0) (S.stOf fun i=>pkr .u32 x i) 64=r at h ⊢
 unfold pk8 at h
 rw[zZ] at h
 refine⟨_,h,fun j hj=>?_⟩
 rw[show ∀ z,pkr .u32 z j=pkr .u32 z j from fun _=>rfl]
 refine (zrH (wJ _ _) (wJ _ _) (wJ _ _) (wJ _ _) (wJ _ _) (wJ _ _) (wJ _ _) (wJ _ _) j hj).trans ?_
 match j,hj with
 | 0,_=>rfl
 | 1,_=>rfl
 | 2,_=>rfl
 | 3,_=>rfl
 | 4,_=>rfl
 | 5,_=>rfl
 | 6,_=>rfl
 | 7,_=>rfl
def la2 (l:List KV) (f:KV→KV→Prop):Prop:=match l with
 | [x,y]=>f x y
 | _=>BadN 230
theorem ju {l:List KV}{f:KV→KV→Prop}(h:la2 l f):∃ x y,l=[x,y]∧f x y:=by
 unfold la2 at h
 split at h
 ·exact⟨_,_,rfl,h⟩
 ·exact h.elim
def zcc:zh:=fun l K=>la2 l fun x y=>wh (fun k n h=>chk (nd (xa k .u32) (Nat.beq n 8)) 231 (wh (fun k2 n2 b=>chk (nd (xa k2 .u8) (Nat.beq n2 64)) 232 (zd8 (F.ldS b 0) F.nwS F.t1S F.t2S h fun z=>K (.pk .u32 8 z))) (BadN 233) y)) (BadN 234) x
def zcd:zh:=fun l K=>la2 l fun x y=>wh (fun k n h=>chk (nd (xa k .u32) (Nat.beq n 8)) 235 (Xu (fun u cl e off len c=>chk (nd (xF e) (Nat.beq len 64)) 236 (wh (fun k2 n2 b=>chk (xa k2 .u8) 237 (zd8 (F.ldR b off) F.nwR F.t1R F.t2R h fun z=>K (.pk .u32 8 z))) (BadN 238) c)) (BadN 239) y)) (BadN 240) x
theorem csg {P:Program}{f:FuncId}{c:CSpec}(h:@xX (@instGl gO) P f c):@xX (@instGl kgL) P f c:=h
end
end Go.K
set_option maxRecDepth 100000
namespace Go.K
open Go.Ab Go.RowKit Go.Y Go.Proofs
noncomputable section
theorem jH:∀ l:List V,unL (mkL l)=l
 | []=>rfl
 | x::l=>by show x::unL (mkL l)=_; rw[jH l]
theorem Vq {k:IntKind}{n:Nat}{f:Nat→V}(g:Nat→Nat) (h:∀ i,f i=wV k (g i)):qk k n f=true:=by
 unfold qk
 rw[List.all_eq_true]
 intro i _
 rw[h i]
 show xa k k=true
 cases k<;>rfl
theorem zkn:KCS Tryz.prog 276 zcc:=by
 have hc:=csg zep
 refine⟨hc.1,fun l K hs=>?_⟩
 obtain⟨x,y,rfl,h1⟩:=ju hs
 rcases xp h1 with ⟨k,n,h,rfl,h2⟩ | ⟨_,h2⟩
 ·obtain⟨h3,h4⟩:=ze h2
  obtain⟨h5,h6⟩:=zd.1 h3
  obtain rfl:=zD h5
  obtain rfl:=zI h6
  rcases xp h4 with ⟨k2,n2,b,rfl,h7⟩ | ⟨_,h7⟩
  ·obtain⟨h8,h9⟩:=ze h7
   obtain⟨h10,h11⟩:=zd.1 h8
   obtain rfl:=zD h10
   obtain rfl:=zI h11
   obtain⟨z,h12,h13⟩:=zd9 h9
   refine⟨_,h12,fun B μ nx mx l0 hl=>?_⟩
   have hcall:=vd (B:=B) (μ:=μ) (nx:=nx) (mx:=mx) gnL hc rfl hl (by
    rw[jH,List.map_cons,List.map_cons,List.map_nil,wI,wI]
    show (qk .u32 8 (fun i=>.int .u32 (pkg .u32 h i))&&qk .u8 64 (fun i=>.int .u8 (pkg .u8 b i)))=true
    rw[Bool.and_eq_true]
    exact⟨Vq (fun i=>pkr .u32 h i) fun i=>rfl,Vq (fun i=>pkr .u8 b i) fun i=>rfl⟩)
   rw[jH] at hcall
   refine hcall.imp ?_ (MImp.refl _) (Nat.le_refl _) (Nat.le_refl _)
   refine Imp.arrE (g:=fun i=>V.int .u32 (pkg .u32 z i)) fun i hi=>?_
   show wV .u32 (S.comp (fun i=>pkr .u32 h i) (fun i=>pkr .u8 b i) i)=wV .u32 (pkr .u32 z i)
   rw[h13 i hi,zrC,zrE,zoN]
   simp only[Nat.zero_add]
   rfl
  ·exact h7.elim
 ·exact h2.elim
theorem zko:KCS Tryz.prog 190 zcd:=by
 have hc:=csg zeq
 refine⟨hc.1,fun l K hs=>?_⟩
 obtain⟨x,y,rfl,h1⟩:=ju hs
 rcases xp h1 with ⟨k,n,h,rfl,h2⟩ | ⟨_,h2⟩
 ·obtain⟨h3,h4⟩:=ze h2
  obtain⟨h5,h6⟩:=zd.1 h3
  obtain rfl:=zD h5
  obtain rfl:=zI h6
  rcases xJ h4 with ⟨u,cl,e,off,len,c,rfl,h7⟩ | ⟨_,h7⟩
  ·obtain⟨h8,h9⟩:=ze h7
   obtain⟨h10,h11⟩:=zd.1 h8
   obtain rfl:=jB h10
   obtain rfl:=zI h11
   rcases xp h9 with ⟨k2,n2,b,rfl,h14⟩ | ⟨_,h14⟩
   ·obtain⟨h15,h16⟩:=ze h14
    obtain rfl:=zD h15
    obtain⟨z,h12,h13⟩:=zd9 h16
    refine⟨_,h12,fun B μ nx mx l0 hl=>?_⟩
    have hcall:=vd (B:=B) (μ:=μ) (nx:=nx) (mx:=mx) gnL hc rfl hl (by
     rw[jH,List.map_cons,List.map_cons,List.map_nil,wI,Xx,wI]
     show (qk .u32 8 (fun i=>.int .u32 (pkg .u32 h i))&&qk .u8 64 (fun i=>.int .u8 (pkg .u8 b (off + i))))=true
     rw[Bool.and_eq_true]
     exact⟨Vq (fun i=>pkr .u32 h i) fun i=>rfl,Vq (fun i=>pkr .u8 b (off + i)) fun i=>rfl⟩)
    rw[jH] at hcall
    refine hcall.imp ?_ (MImp.refl _) (Nat.le_refl _) (Nat.le_refl _)
    refine Imp.arrE (g:=fun i=>V.int .u32 (pkg .u32 z i)) fun i hi=>?_
    show wV .u32 (R.comp (fun i=>pkr .u32 h i) (fun i=>pkr .u8 b (off + i)) i)=wV .u32 (pkr .u32 z i)
    rw[h13 i hi,zrD,zrF,zoO]
    rfl
   ·exact h14.elim
  ·exact h7.elim
 ·exact h2.elim
def ctC:FuncId→Option zh:=fun f=>@Bool.rec (fun _=>Option zh) (@Bool.rec (fun _=>Option zh) none (some zcd) (Nat.beq f 190)) (some zcc) (Nat.beq f 276)
theorem zAk (f:FuncId) (s:zh) (h:ctC f=some s):KCS Tryz.prog f s:=by
 unfold ctC at h
 cases h1:Nat.beq f 276 with
 | true =>
  rw[h1] at h
  cases h
  rw[zI h1]
  exact zkn
 | false =>
  rw[h1] at h
  cases h2:Nat.beq f 190 with
  | true =>
   rw[h2] at h
   cases h
   rw[zI h2]
   exact zko
  | false=>rw[h2] at h; cases h
def E1:KEnv:={ E0 with ct:=ctC }
theorem ok1:KOk E1 where
 fns:=zf6
 ct:=zAk
 gn:=gnL
 mixed:=zt8
 ex:=fun _ h=>(by cases h)
end
end Go.K
namespace Go.K
open Go.Ab Go.RowKit Go.Y Go.Proofs
noncomputable section
def sbN:Nat:=2869618975290639062594974519597816386035077209210385677284518162336985023502962151465775969507961862820568736543004676439868535775640188584098917533413284844376797297285941524888791401501466624530423689326528054213168201056672989590893583853414110162539122864583953358348775951166211353578440977400428507475679327181038682772945817200201960445064847785221508011893952350688324234443749897213621340677040612747745615276448919507935121141307752692835344166708617454322778699219895865633266409040561742768581056182730443599545881830075941537620590442514083341749674612746994879540562701631131184186066652929592955206755
def mtN:Nat:=111197023193888367968200152334547660254734075553810429117359693047478698005119972406014201113377058237691984189666161657004952710585744746605590099928998079233382989269142082354597505249516095324457167374386362118215663837591360865158016025255139738945327833405850589542707638272363515967589951296822107107747260529859595333272154222475596050066871225445883020230532600854447001205498469762137649375310575495776950580662739777029691836323640006165114755910309465935041456333457368413541400046980939063759821577021934982839447173645997307940043924690843864349167485018418209259496764836533131370319499323145426709080290621490060508081054513401003704623424174439629503521309962738310204343828618723932051666820498322606993605490300566692897724179799886730541837819826730487925066903516252461580758263506669364943707820724931656439959205690095487589638319178672043754672143435162911644572891614283507520305191253724153896764875349033471687306005915286088597504713442224312722349171547908930206994546396558641755864655511222175354517440077551137056387909702508051285017211920273188339859048988378928650951778965192879930823885105320932831818176250929245499042835031288425769063215381449929270038554288135951668139042230316205257806821146844431751653667774084464045859944034386441751014987782574920621537976833830853455150856721013883634109780438002009576075585568987728376036727120133596851213146723808687091423779499882795214265078312989784791593015334674446717103898352460117274378246560382131707553742308242609401509771600926912969559477268171265430276485398498586619984564145109216036379849728457882527951666652997366633530354696894926878897462456906367594059958588845971210044687124465512774795771827245195611969136463382697674739497679580844373560333318399528967570200823706261026657967989229733258797577275855160402084747959307968772238178657842429301241942821083639769206309285057274967064671216212824809325137102478628886900767037519267772181750018476391943419597305639259984812769947285594185155079272550816569171208682055149424669695888784416670447629683848778506277689627839654434364252424104782459121923038184824433116811226311985289640951430210228887736234375760956328321197264395807938280063066190905597224205084787876166892205915552408502737267651351757773160286658791230194483612045393728859048311672846174399334025339240267843201265009005990178151286056654025988023797393274250597669863566112755912286486546797923694912857353871687008015184493522452480
def qs (n:Nat):Prop:=zi E1 (zj E1 1000000) 0 311 [.int .u8 (.ofNat n)] .e 0 0 (fun r _ _ _=>tK (kvb r (.int .u8 (.ofNat (pkr .u8 sbN n)))))
def qt (n:Nat):Prop:=zi E1 (zj E1 1000000) 0 328 [.int .u8 (.ofNat (n / 256)),.int .u8 (.ofNat (n % 256))] .e 0 0 (fun r _ _ _=>tK (kvb r (.int .u8 (.ofNat (pkr .u8 mtN n)))))
def zw3:Prop:=zi E1 (zj E1 1000000) 0 318 [] .e 0 0 (fun r _ _ _=>tK (kvb r (.pk .u8 256 sbN)))
theorem zP:∀ n,zG (fun _=>True) n
 | 0=>trivial
 | n + 1=>⟨zP n,trivial⟩
end
end Go.K
