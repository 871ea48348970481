/- CommitsApply: the law's contract. No condition. -/
import Derived.Test.YtkllahedaiddgaaGreatDoorZL4
import Derived.Test.YtkllahedaiddgaaGreatDoorCE7
set_option linter.unusedSimpArgs false
set_option linter.unusedVariables false
set_option maxRecDepth 100000
namespace Go.K
open Go.Ab Go.RowKit Go.Y Go.Proofs
noncomputable section
attribute [local instance 10000] gO
attribute [local irreducible] kpre cOf mOf rOf JL zp zo l12 bL1 bL4 bL6 xL6 bL7 bL8 zhu
section
variable {a m:Nat}{W:Nat→Wr}{k:Int}{B N:Nat}
theorem wL5 (hE:KOk (EL (yL a m W k))) (hN:238≤N) (hm:m≤12) (hP:(yL a m W k).P63) (d:Dd) (i:Nat) (tr:KTm) (zm:KZ) (nx:Nat) (h:atS (mOf 12) (sL4 (yL a m W k) d i) tr zm) (m1:MB (am zm) nx) (m2:INV (mOf 12) tr):JL (EL (yL a m W k)) B N (mOf 12) (l12.drop 18) tr zm nx (QL (yL a m W k)):=by
 refine JL.preS hE h (xx (by kernel_rfl)) ?_
 refine JL.stp (n:=60) hE rfl 3 (rOf 12) [1,18,19,20] [] hN (by kernel_rfl) (by kernel_rfl) (fun v=>v=.bool true) yB ?_
 show dL5 (yL a m W k) d i _ _
 rw[eL5]
 refine⟨hP,rfl,?_⟩
 intro tr zm ht hz hmb hi
 show JL (EL (yL a m W k)) B N (mOf 12) ((l12.drop 18).drop 3) tr zm 3 _
 rw[show (l12.drop 18).drop 3=l12.drop 21 from List.drop_drop]
 exact wL6 hE hN hm tr zm 3 (zh1 ht) hmb hi
theorem wL4 (hE:KOk (EL (yL a m W k))) (hN:238≤N) (hm:m≤12) (hP:(yL a m W k).P63) (hb:∀ i j,(W i).by' j < 256) (tr:KTm) (zm:KZ) (nx:Nat) (h:atS (mOf 12) (sL4 (yL a m W k) (ddd (d0A a) m W k m) 0) tr zm) (m1:MB (am zm) nx) (m2:INV (mOf 12) tr):JL (EL (yL a m W k)) B N (mOf 12) (l12.drop 17) tr zm nx (QL (yL a m W k)):=by
 obtain⟨n1,n2⟩:=YZ (a:=a)
 refine JL.loopT hE (fun i=>sL4 (yL a m W k) (ddd (d0A a) m W k m) i) (fun i=>nA a - i) (fun i=>i≤nA a) (id:=2) (b:=bL4) (l2:=l12.drop 18) (by kernel_rfl) (fun w=>by kernel_rfl) 0 (Nat.zero_le _) h m1 m2 ?_
 intro i hi
 refine JL.all (n:=60) hE rfl (rOf 12) [1,7,9,10,13,14] [1,2] hN (by kernel_rfl) (by kernel_rfl) (fun v=>v=.bool true) yB ?_
 show dL4 (yL a m W k) _ i _ _
 rw[eL4]
 have ex:∀(tr:KTm) (zm:KZ) (nx:Nat),[1,7,9,10,13,14].map (zj tr)=vL4 (yL a m W k) i→[1,2].map (kb zm)=oL4 (yL a m W k) (ddd (d0A a) m W k m)→MB (am zm) nx→INV (mOf 12) tr→(if (2:Nat)=2 then JL (EL (yL a m W k)) B N (mOf 12) (l12.drop 18) tr zm nx (QL (yL a m W k)) else QL (yL a m W k) (.exit 2) tr zm nx):=fun tr zm nx ht hz hmb hi'=>by
  rw[if_pos rfl]
  exact wL5 hE hN hm hP _ i tr zm nx (zp2 ht hz) hmb hi'
 refine zh.2 ⟨fun q=>zh.2 ⟨fun q2=>?_,fun q2=>fun tr zm ht hz hmb hi'=>ex tr zm 3 ht hz hmb hi'⟩,fun q=>fun tr zm ht hz hmb hi'=>ex tr zm 3 ht hz hmb hi'⟩
 have q:i < nA a:=vq.1 q
 have q2:apZ (d0A a) m W k=0:=y8.1 q2
 have R:=zkt (d0:=d0A a) (m:=m) (W:=W) (k:=k) rfl hb q2
 have hl:=R.l i q
 have ho:okO (atK (yL a m W k).D.f i):=R.o i
 have hok:(yL a m W k).D.ok∧(yL a m W k).D.L=nA a:=by
  have hk:¬ zew m k:=fun h=>by
   rw[show apZ (d0A a) m W k=1 from if_pos h] at q2
   cases q2
  have e1:apZ (d0A a) m W k=apE (d0A a) W k.toNat:=if_neg hk
  have e2:(yL a m W k).D=apD (d0A a) W k.toNat:=if_neg hk
  have hk':¬ (k < 0∨(m:Int) < k):=hk
  rw[e1] at q2
  rw[e2]
  exact⟨ziz zmB (by show 0 + k.toNat≤_; omega) q2,(zdN q2).1⟩
 have e73:(yL a m W k).o [(yL a m W k).D.k,nI i]=atK (yL a m W k).D.f i:=zva _ _
 have e74:(yL a m W k).γ [dK (yL a m W k).n (ddd (d0A a) m W k m),nI i]=cvO (atK (yL a m W k).D.f i):=(γ_eq _ _).trans hl
 rw[e73,e74]
 refine⟨⟨_,i,rfl,hok.1,by rw[hok.2]; exact q⟩,⟨_,i,rfl,q,by have:=zbb (d0:=d0A a) (m:=m) (W:=W) (k:=k) m i; omega⟩,?_⟩
 have nx:nx4 (yL a m W k) (goQ (mOf 12) [1,7,9,10,13,14] [1,2] fun e tr zm nx=>match e with
   | .normal=>∃ s',(nA a - s') < (nA a - i)∧s'≤nA a∧atS (mOf 12) (sL4 (yL a m W k) (ddd (d0A a) m W k m) s') tr zm
   | .exit i=>if i=2 then JL (EL (yL a m W k)) B N (mOf 12) (l12.drop 18) tr zm nx (QL (yL a m W k)) else QL (yL a m W k) (.exit i) tr zm nx
   | e=>QL (yL a m W k) e tr zm nx) i (ddd (d0A a) m W k m):=ze.2 ⟨xe.2 (by show i + 1 < _; omega),fun tr zm ht hz hmb hi'=>⟨i + 1,by omega,by omega,zp2 ht hz⟩⟩
 refine zh.2 ⟨fun t=>?_,fun _=>zh.2 ⟨fun z=>zh.2 ⟨fun t=>?_,fun _=>nx⟩,fun z=>ze.2 ⟨zg9 (zxj ho),zh.2 ⟨fun t=>?_,fun _=>nx⟩⟩⟩⟩
 ·rw[zxi ho] at t; cases t
 ·rw[zxk ho (Nat.eq_of_beq_eq_true z)] at t; cases t
 ·rw[zxl ho (fun h=>by rw[h] at z; cases z)] at t; cases t
theorem wL3 (hE:KOk (EL (yL a m W k))) (hN:238≤N) (hm:m≤12) (hP:(yL a m W k).P63) (hb:∀ i j,(W i).by' j < 256) (i:Nat) (tr:KTm) (zm:KZ) (nx:Nat) (h:atS (mOf 12) (sL1 (yL a m W k) (bd (d0A a) m W k m) (ddd (d0A a) m W k m) i) tr zm) (m1:MB (am zm) nx) (m2:INV (mOf 12) tr):JL (EL (yL a m W k)) B N (mOf 12) (l12.drop 13) tr zm nx (QL (yL a m W k)):=by
 refine JL.preS hE h (xx (by kernel_rfl)) ?_
 refine JL.stp (n:=60) hE rfl 4 (rOf 12) [1,7,9,10,13,14] [1,2] hN (by kernel_rfl) (by kernel_rfl) (fun v=>v=.bool true) yB ?_
 show dL3 (yL a m W k) _ _ i _ _
 rw[eL3]
 have ex:∀(tr:KTm) (zm:KZ),[1,7,9,10,13,14].map (zj tr)=vL4 (yL a m W k) 0→[1,2].map (kb zm)=oL4 (yL a m W k) (ddd (d0A a) m W k m)→MB (am zm) 3→INV (mOf 12) tr→JL (EL (yL a m W k)) B N (mOf 12) ((l12.drop 13).drop 4) tr zm 3 (QL (yL a m W k)):=fun tr zm ht hz hmb hi=>by
  rw[show (l12.drop 13).drop 4=l12.drop 17 from List.drop_drop]
  exact wL4 hE hN hm hP hb tr zm 3 (zp2 ht hz) hmb hi
 refine⟨hP,rfl,zh.2 ⟨fun q=>?_,fun _=>zh.2 ⟨fun q=>zh.2 ⟨fun q2=>?_,fun _=>fun tr zm ht hz hmb hi=>ex tr zm ht hz hmb hi⟩,fun _=>fun tr zm ht hz hmb hi=>ex tr zm ht hz hmb hi⟩⟩⟩
 ·rw[show eqI (.ofNat (yL a m W k).e) (.ofNat (bd (d0A a) m W k m))=true from y8.2 zoD.symm] at q
  cases q
 ·have hne:apZ (d0A a) m W k≠0:=fun h=>by
   rw[show eqI (.ofNat (yL a m W k).e) (.ofNat 0)=true from y8.2 h] at q
   cases q
  have e:(yL a m W k).D=zDk:=by
   by_cases hk:zew m k
   ·exact if_pos hk
   ·rw[show apZ (d0A a) m W k=apE (d0A a) W k.toNat from if_neg hk] at hne
    exact (show (yL a m W k).D=apD (d0A a) W k.toNat from if_neg hk).trans (zmV hne)
  rw[e] at q2
  cases q2
theorem wL1 (hE:KOk (EL (yL a m W k))) (hN:238≤N) (hm:m≤12) (hb:∀ i j,(W i).by' j < 256) (tr:KTm) (zm:KZ) (nx:Nat) (h:atS (mOf 12) (sL1 (yL a m W k) (bd (d0A a) m W k 0) jj 0) tr zm) (m1:MB (am zm) nx) (m2:INV (mOf 12) tr):JL (EL (yL a m W k)) B N (mOf 12) (l12.drop 12) tr zm nx (QL (yL a m W k)):=by
 obtain⟨n1,n2⟩:=YZ (a:=a)
 refine JL.loopT hE (fun i=>sL1 (yL a m W k) (bd (d0A a) m W k i) (ddd (d0A a) m W k i) i) (fun i=>m - i) (fun i=>i≤m∧∀ j,j < i→(W j).ln≤300) (id:=0) (b:=bL1) (l2:=l12.drop 13) (by kernel_rfl) (fun w=>by kernel_rfl) 0 ⟨Nat.zero_le _,fun j hj=>by omega⟩ h m1 m2 ?_
 rintro i ⟨hi,hln⟩
 refine JL.all (n:=60) hE rfl (rOf 12) [1,2,7,8,10,11,12] [0,1] hN (by kernel_rfl) (by kernel_rfl) (fun v=>v=.bool true) yB ?_
 show dL2 (yL a m W k) _ _ i _ _
 rw[eL2]
 have ew:(yL a m W k).w i=W i:=by show W (Nat.add 0 i)=_; rw[ji]
 rw[ew]
 refine zh.2 ⟨fun q=>?_,fun q=>?_⟩
 ·have q:i < m:=vq.1 q
  have nx:(W i).ln≤300→∀ b d,b=bd (d0A a) m W k (i + 1)→d=ddd (d0A a) m W k (i + 1)→nxL (yL a m W k) (goQ (mOf 12) [1,2,7,8,10,11,12] [0,1] fun e tr zm nx=>match e with
   | .normal=>∃ s',(m - s') < (m - i)∧(s'≤m∧∀ j,j < s'→(W j).ln≤300)∧atS (mOf 12) (sL1 (yL a m W k) (bd (d0A a) m W k s') (ddd (d0A a) m W k s') s') tr zm
   | .exit i=>if i=0 then JL (EL (yL a m W k)) B N (mOf 12) (l12.drop 13) tr zm nx (QL (yL a m W k)) else QL (yL a m W k) (.exit i) tr zm nx
   | e=>QL (yL a m W k) e tr zm nx) i b d:=fun h300 b d hb hd=>by
   subst hb hd
   exact ze.2 ⟨xe.2 (by show i + 1 < _; omega),fun tr zm ht hz hmb hi'=>⟨i + 1,by omega,⟨by omega,fun j hj=>by
    by_cases e:j=i
    ·rw[e]; exact h300
    ·exact hln j (by omega)⟩,zp1 ht hz⟩⟩
  have ix:ixB (.ofNat i) (yL a m W k).m=true:=xQ.2 q
  refine ze.2 ⟨ix,zh.2 ⟨fun _=>rfl,fun q0=>zh.2 ⟨fun q2=>?_,fun q2=>zh.2 ⟨fun q3=>?_,fun q3=>ze.2 ⟨ix,zh.2 ⟨fun q4=>?_,fun q4=>ze.2 ⟨ix,zh.2 ⟨fun q5=>?_,fun q5=>ze.2 ⟨ix,zh.2 ⟨fun q6=>?_,fun q6=>ze.2 ⟨ix,ze.2 ⟨ix,?_⟩⟩⟩⟩⟩⟩⟩⟩⟩⟩⟩⟩
  all_goals have nx:=nx (y7.1 q0)
  ·have q2:bd (d0A a) m W k i≠0:=fun h=>by
    rw[show eqI (.ofNat (bd (d0A a) m W k i)) (.ofNat 0)=true from y8.2 h] at q2
    cases q2
   exact nx _ _ (zg2 (.inl q2)).symm (VI (.inl q2)).symm
  ·have q3:k≤i:=by rw[xq,decide_eq_true_eq] at q3; exact q3
   exact nx _ _ (zg2 (.inr q3)).symm (VI (.inr (.inl q3))).symm
  all_goals
   have q2:bd (d0A a) m W k i=0:=by
    refine Classical.byContradiction fun h=>?_
    rw[show eqI (.ofNat (bd (d0A a) m W k i)) (.ofNat 0)=false from zcH.2 h] at q2
    cases q2
   have q3:(i:Int) < k:=by
    rw[xq,decide_eq_false_iff_not] at q3
    have q3:¬ (k≤(i:Int)):=q3
    omega
  ·have q4:(W i).sc < 0:=by rw[xE,decide_eq_true_eq] at q4; exact q4
   have e:erW (d0A a) (W i).sc (W i).ln=1:=if_pos (.inl q4)
   exact nx _ _ (by rw[zg3 q2 q3,e]) (VI (.inr (.inr (by rw[e]; decide)))).symm
  all_goals
   have q4:¬ (W i).sc < 0:=by rw[xE,decide_eq_false_iff_not] at q4; exact q4
  ·have q5:((d0A a).L:Int)≤(W i).sc:=by rw[xq,decide_eq_true_eq] at q5; exact q5
   have e:erW (d0A a) (W i).sc (W i).ln=1:=if_pos (.inr q5)
   exact nx _ _ (by rw[zg3 q2 q3,e]) (VI (.inr (.inr (by rw[e]; decide)))).symm
  all_goals
   have q5:¬ ((d0A a).L:Int)≤(W i).sc:=by rw[xq,decide_eq_false_iff_not] at q5; exact q5
   have hn:¬ ((W i).sc < 0∨((d0A a).L:Int)≤(W i).sc):=fun h=>h.elim q4 q5
  ·have q6:256 < (W i).ln:=vq.1 q6
   have e:erW (d0A a) (W i).sc (W i).ln=3:=(if_neg hn).trans (if_pos q6)
   exact nx _ _ (by rw[zg3 q2 q3,e]) (VI (.inr (.inr (by rw[e]; decide)))).symm
  ·have q6:(W i).ln≤256:=y7.1 q6
   have e:erW (d0A a) (W i).sc (W i).ln=0:=(if_neg hn).trans (if_neg (by omega))
   have hd:∀ l,l < nA a→(ddd (d0A a) m W k i).cn l < 1000:=fun l _=>by
    have:=zbb (d0:=d0A a) (m:=m) (W:=W) (k:=k) i l
    omega
   obtain⟨z,hz⟩:=Int.eq_ofNat_of_zero_le (a:=(W i).sc) (by omega)
   have fin:∀ v,v=cvN (W i).ln (W i).by'→nxP (yL a m W k) (goQ (mOf 12) [1,2,7,8,10,11,12] [0,1] fun e tr zm nx=>match e with
     | .normal=>∃ s',(m - s') < (m - i)∧(s'≤m∧∀ j,j < s'→(W j).ln≤300)∧atS (mOf 12) (sL1 (yL a m W k) (bd (d0A a) m W k s') (ddd (d0A a) m W k s') s') tr zm
     | .exit i=>if i=0 then JL (EL (yL a m W k)) B N (mOf 12) (l12.drop 13) tr zm nx (QL (yL a m W k)) else QL (yL a m W k) (.exit i) tr zm nx
     | e=>QL (yL a m W k) e tr zm nx) i (bd (d0A a) m W k i) (a65 (nA a) (ddd (d0A a) m W k i) (W i).sc v):=fun v hv=>by
    refine⟨⟨_,z,v,by rw[hz]; rfl,hd⟩,?_⟩
    rw[δ_eq]
    exact nx _ _ (by rw[zg3 q2 q3,e]; exact q2) (by rw[zg4 q2 q3 e,hv])
   refine zh.2 ⟨fun h0=>fin _ ?_,fun h0=>ze.2 ⟨zg9 (hb i),fin _ ?_⟩⟩
   ·unfold cvN
    rw[if_pos (Nat.eq_of_beq_eq_true h0)]
   ·unfold cvN
    rw[if_neg fun h=>by rw[h] at h0; cases h0]
 ·have q:m≤i:=y7.1 q
  obtain rfl:m=i:=by omega
  intro tr zm ht hz hmb hi'
  show (if (0:Nat)=0 then JL (EL (yL a m W k)) B N (mOf 12) (l12.drop 13) tr zm 2 (QL (yL a m W k)) else QL (yL a m W k) (.exit 0) tr zm 2)
  rw[if_pos rfl]
  exact wL3 hE hN hm ⟨hm,fun j hj=>by have:=hln j hj; omega⟩ hb m tr zm 2 (zp1 ht hz) hmb hi'
end
theorem j12 {a m:Nat}{W:Nat→Wr}{k:Int}(h22:KCS Tryz.prog 22 (xm [] (.bool true))) (ha:a < 256) (hz:∀ i,i < m→(Lit.int .i64 (W i).sc).wf=true) (hb:∀ i j,(W i).by' j < 256):JFn Tryz.prog 12 false [kU8 a,va m W,.int .i64 k] (.bool true):=by
 have hE:=okL (a:=a) (k:=k) h22 hz
 obtain⟨n1,n2⟩:=YZ (a:=a)
 refine JFn.of (P:=Tryz.prog) hE rfl (c:=cOf 12) (mOf 12) Tryz.func12 (by kernel_rfl) fun B N hN=>?_
 rw[zxY] at hN
 rw[zx0]
 refine JL.stp (n:=60) (s:=(xc (mOf 12) 0 (a12 (yL a m W k)),[],0)) hE rfl 12 (rOf 12) [1,2,7,8,10,11,12] [0,1] hN (by kernel_rfl) (by kernel_rfl) (fun v=>v=.bool true) yB ?_
 show dL1 (yL a m W k) _ _
 rw[eL1]
 refine zh.2 ⟨fun _=>rfl,fun q=>ze.2 ⟨xe.2 (by show a < _; omega),ze.2 ⟨xe.2 (show nA a < _ by omega),rfl,rfl,?_⟩⟩⟩
 have hm:m≤12:=y7.1 q
 have go:∀ b,b=bd (d0A a) m W k 0→∀ tr zm,[1,2,7,8,10,11,12].map (zj tr)=vL2 (yL a m W k) b 0→[0,1].map (kb zm)=oL2 (yL a m W k) jj→MB (am zm) 2→INV (mOf 12) tr→JL (EL (yL a m W k)) B N (mOf 12) (l12.drop 12) tr zm 2 (QL (yL a m W k)):=fun b e tr zm ht hz hmb hi=>by
  subst e
  exact wL1 hE hN hm hb tr zm 2 (zp1 ht hz) hmb hi
 refine zh.2 ⟨fun q1=>?_,fun q1=>zh.2 ⟨fun q2=>?_,fun q2=>?_⟩⟩
 ·have q1:k < 0:=by rw[xE,decide_eq_true_eq] at q1; exact q1
  exact fun tr zm ht hz hmb hi=>go 1 (if_pos (.inl q1)).symm tr zm ht hz hmb hi
 ·have q2:(m:Int) < k:=by rw[xE,decide_eq_true_eq] at q2; exact q2
  exact fun tr zm ht hz hmb hi=>go 1 (if_pos (.inr q2)).symm tr zm ht hz hmb hi
 ·have q1:¬ k < 0:=by rw[xE,decide_eq_false_iff_not] at q1; exact q1
  have q2:¬ (m:Int) < k:=by rw[xE,decide_eq_false_iff_not] at q2; exact q2
  exact fun tr zm ht hz hmb hi=>go 0 (if_neg fun h=>h.elim q1 q2).symm tr zm ht hz hmb hi
structure L12 where
 a:Nat
 m:Nat
 W:Nat→Wr
 k:Int
noncomputable def zvl:zk:=qw (fun x:L12=>[kU8 x.a,va x.m x.W,.int .i64 x.k]) (fun x=>x.a < 256∧(∀ i,i < x.m→(Lit.int .i64 (x.W i).sc).wf=true)∧∀ i j,(x.W i).by' j < 256) fun _=>.bool true
theorem zyf:KCS Tryz.prog 12 zvl:=QX ⟨Tryz.f12,Tryz.func12,by kernel_rfl,by kernel_rfl⟩ fun x h=>j12 zvm h.1 h.2.1 h.2.2
end
end Go.K
