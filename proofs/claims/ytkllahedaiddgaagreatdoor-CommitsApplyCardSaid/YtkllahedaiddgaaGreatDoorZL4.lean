/- CommitsApply: the law walked (2). No condition. -/
import Derived.Test.YtkllahedaiddgaaGreatDoorZD1
set_option linter.unusedSimpArgs false
set_option linter.unusedVariables false
set_option maxRecDepth 100000
namespace Go.K
open Go.Ab Go.RowKit Go.Y Go.Proofs
noncomputable section
attribute [local instance 10000] gO
attribute [local irreducible] kpre cOf mOf rOf JL zp zo l12 bL1 bL4 bL6 xL6 bL7 bL8 zhu
noncomputable def dcP (p:Prop):Bool:=@decide p (Classical.propDecidable p)
theorem YQ {p:Prop}(h:p):dcP p=true:=@decide_eq_true p (Classical.propDecidable p) h
theorem zdm {p:Prop}(h:¬ p):dcP p=false:=@decide_eq_false p (Classical.propDecidable p) h
theorem zbn {p:Prop}(h:dcP p=true):p:=@of_decide_eq_true p (Classical.propDecidable p) h
theorem zbo {p:Prop}(h:dcP p=false):¬ p:=@of_decide_eq_false p (Classical.propDecidable p) h
section
variable {a m:Nat}{W:Nat→Wr}{k:Int}{B N:Nat}
theorem zml {α:Type}(n:Nat) (l:List α):(l.drop n).drop 1=l.drop (n + 1):=List.drop_drop
theorem zxD (hE:KOk (EL (yL a m W k))) (hN:238≤N) (hm:m≤12) (mn i:Nat) (hmn:mn=(srW m W).length) (tr:KTm) (zm:KZ) (nx:Nat) (h:atS (mOf 12) (sL6 (yL a m W k) mn i) tr zm) (m1:MB (am zm) nx) (m2:INV (mOf 12) tr):JL (EL (yL a m W k)) B N (mOf 12) (l12.drop 22) tr zm nx (QL (yL a m W k)):=by
 have hc:(srW m W).length≤m:=by rw[zbc]; exact zdc _ _
 refine JL.preS hE h (xx (by kernel_rfl)) ?_
 refine JL.stp (n:=60) hE rfl 1 (rOf 12) [18,19,25] [] hN (by kernel_rfl) (by kernel_rfl) (fun v=>v=.bool true) yB ?_
 show zuf (yL a m W k) mn i _ _
 rw[zxB]
 intro tr zm ht hz hmb hi
 show JL (EL (yL a m W k)) B N (mOf 12) ((l12.drop 22).drop 1) tr zm 0 _
 rw[zml]
 refine JL.loopT hE (fun j=>zht (yL a m W k) mn (Nat.succ j)) (fun j=>(srW m W).length - j) (fun j=>j≤(srW m W).length) (id:=10) (b:=zhu) (l2:=l12.drop 24) (by kernel_rfl) (fun w=>by kernel_rfl) 0 (Nat.zero_le _) (zh2 ht) hmb hi ?_
 intro j hj
 refine JL.all (n:=60) hE rfl (rOf 12) [18,19,25] [] hN (by kernel_rfl) (by kernel_rfl) (fun v=>v=.bool true) yB ?_
 show zmk (yL a m W k) mn j _ _
 rw[zug]
 refine zh.2 ⟨fun q=>?_,fun q=>?_⟩
 ·have q:j + 1 < (srW m W).length:=vq.1 q
  refine ze.2 ⟨xe.2 (by show j < _; omega),ze.2 ⟨xQ.2 (show j < (srW m W).length by omega),ze.2 ⟨xQ.2 q,zh.2 ⟨fun q2=>?_,fun q2=>ze.2 ⟨xe.2 (by show j + 1 + 1 < _; omega),?_⟩⟩⟩⟩⟩
  ·rw[ji,ji,xq,decide_eq_true_eq] at q2
   have q2:(srW m W).getD (j + 1) 0≤(srW m W).getD j 0:=q2
   have:=ztD q
   omega
  ·intro tr zm ht hz hmb hi
   exact⟨j + 1,by omega,by omega,zh2 ht⟩
 ·intro tr zm ht hz hmb hi
  refine zdu 10 ?_
  refine JL.preS hE (zh2 ht) (xx (by kernel_rfl)) ?_
  refine JL.all (n:=60) hE rfl (rOf 12) [] [] hN (by kernel_rfl) (by kernel_rfl) (fun v=>v=.bool true) yB ?_
  show zuh (yL a m W k) mn (Nat.succ j) _ _
  rw[zxC]
  refine zh.2 ⟨fun _=>zh.2 ⟨fun _=>rfl,fun q=>absurd rfl (zcH.1 q)⟩,fun q=>absurd hmn (zcH.1 q)⟩
theorem wL6 (hE:KOk (EL (yL a m W k))) (hN:238≤N) (hm:m≤12) (tr:KTm) (zm:KZ) (nx:Nat) (h:atS (mOf 12) (sL6 (yL a m W k) 0 0) tr zm) (m1:MB (am zm) nx) (m2:INV (mOf 12) tr):JL (EL (yL a m W k)) B N (mOf 12) (l12.drop 21) tr zm nx (QL (yL a m W k)):=by
 have hc:(srW m W).length≤m:=by rw[zbc]; exact zdc _ _
 have hdl:∀ i,(ddI (scW W) i).length≤i:=zdc (scW W)
 refine JL.loopT hE (fun i=>sL6 (yL a m W k) (ddI (scW W) i).length i) (fun i=>m - i) (fun i=>i≤m) (id:=4) (b:=bL6) (l2:=l12.drop 22) (by kernel_rfl) (fun w=>by kernel_rfl) 0 (Nat.zero_le _) h m1 m2 ?_
 intro i hi
 refine JL.stp (n:=60) hE rfl 2 (rOf 12) [1,18,19,20] [] hN (by kernel_rfl) (by kernel_rfl) (fun v=>v=.bool true) yB ?_
 show dL6 (yL a m W k) _ i _ _
 rw[eL6]
 refine zh.2 ⟨fun q=>?_,fun q=>?_⟩
 ·have q:i < m:=vq.1 q
  intro tr zm ht hz hmb hi'
  show JL (EL (yL a m W k)) B N (mOf 12) ((fl bL6).drop 2) tr zm 0 _
  refine JL.blk (id:=5) (X:=xL6) (l2:=(fl bL6).drop 3) (by kernel_rfl) hmb hi' ?_
  refine JL.preS hE (zh1 ht) (xx (by kernel_rfl)) ?_
  refine JL.stp (n:=60) hE rfl 2 (rOf 12) [1,18,19,20,21,22,23] [] hN (by kernel_rfl) (by kernel_rfl) (fun v=>v=.bool true) yB ?_
  show dL7 (yL a m W k) _ i _ _
  rw[eL7]
  intro tr zm ht hz hmb hi'
  show JL (EL (yL a m W k)) B N (mOf 12) ((fl xL6).drop 2) tr zm 0 _
  refine JL.loopT hE (fun j=>sL7 (yL a m W k) (ddI (scW W) i).length i (dcP (¬ jC (scW W) j (scW W i))) j) (fun j=>i - j) (fun j=>j≤i) (id:=6) (b:=bL7) (l2:=(fl xL6).drop 3) (by kernel_rfl) (fun w=>by kernel_rfl) 0 (Nat.zero_le _) ?_ hmb hi' ?_
  ·have e:dcP (¬ jC (scW W) 0 (scW W i))=true:=YQ fun⟨j,hj,_⟩=>by omega
   rw[e]
   exact zkT ht
  intro j hj
  refine JL.all (n:=60) hE rfl (rOf 12) [1,18,19,20,21,22,23] [] hN (by kernel_rfl) (by kernel_rfl) (fun v=>v=.bool true) yB ?_
  show zuc (yL a m W k) _ i _ j _ _
  rw[zxy]
  refine zh.2 ⟨fun q2=>?_,fun q2=>?_⟩
  ·have q2:j < i:=vq.1 q2
   refine zh.2 ⟨fun f=>ze.2 ⟨xQ.2 (show j < m by omega),ze.2 ⟨xQ.2 (show i < m by omega),ze.2 ⟨xe.2 (by show j + 1 < _; omega),?_⟩⟩⟩,fun f=>ze.2 ⟨xe.2 (by show j + 1 < _; omega),?_⟩⟩
   ·intro tr zm ht hz hmb hi'
    have f:¬ jC (scW W) j (scW W i):=zbn f
    have e:(!(eqI ((yL a m W k).w j).sc ((yL a m W k).w i).sc))=dcP (¬ jC (scW W) (j + 1) (scW W i)):=by
     have e1:((yL a m W k).w j).sc=scW W j:=by show (W (Nat.add 0 j)).sc=_; rw[ji]; rfl
     have e2:((yL a m W k).w i).sc=scW W i:=by show (W (Nat.add 0 i)).sc=_; rw[ji]; rfl
     rw[e1,e2,qG]
     by_cases h:scW W j=scW W i
     ·rw[zdm (fun h'=>h' ⟨j,Nat.lt_succ_self j,h⟩),h]
      simp
     ·have hn:¬ jC (scW W) (j + 1) (scW W i):=by
       rintro⟨j',h1,h2⟩
       by_cases h3:j'=j
       ·rw[h3] at h2; exact h h2
       ·exact f ⟨j',by omega,h2⟩
      rw[YQ hn]
      simp [h]
    rw[e] at ht
    exact⟨j + 1,by omega,by omega,zkT ht⟩
   ·intro tr zm ht hz hmb hi'
    have f:jC (scW W) j (scW W i):=Classical.not_not.1 (zbo f)
    have e:dcP (¬ jC (scW W) (j + 1) (scW W i))=false:=zdm fun h=>by
     obtain⟨j',h1,h2⟩:=f
     exact h ⟨j',by omega,h2⟩
    refine⟨j + 1,by omega,by omega,?_⟩
    rw[e]
    exact zkT ht
  ·have q2:¬ j < i:=by have:=y7.1 q2; omega
   obtain rfl:j=i:=by omega
   intro tr zm ht hz hmb hi'
   refine zdu 6 ?_
   refine JL.preS hE (zkT ht) (xx (by kernel_rfl)) ?_
   refine JL.stp (n:=60) hE rfl 1 (rOf 12) [1,18,19,20,21,22,24] [] hN (by kernel_rfl) (by kernel_rfl) (fun v=>v=.bool true) yB ?_
   show dL8 (yL a m W k) _ j _ j _ _
   rw[eL8]
   intro tr zm ht hz hmb hi'
   show JL (EL (yL a m W k)) B N (mOf 12) (((fl xL6).drop 3).drop 1) tr zm 0 _
   rw[zml]
   refine JL.loopT hE (fun l=>sL8 (yL a m W k) (ddI (scW W) j).length j (dcP (¬ jC (scW W) j (scW W j))) (dcP (∃ l',l' < l∧(srW m W).getD l' 0=(W j).sc)) l) (fun l=>(srW m W).length - l) (fun l=>l≤(srW m W).length) (id:=8) (b:=bL8) (l2:=(fl xL6).drop 5) (by kernel_rfl) (fun w=>by kernel_rfl) 0 (Nat.zero_le _) ?_ hmb hi' ?_
   ·have e:dcP (∃ l',l' < 0∧(srW m W).getD l' 0=(W j).sc)=false:=zdm fun⟨l',hl,_⟩=>by omega
    rw[e]
    exact zkU ht
   intro l hl
   refine JL.all (n:=60) hE rfl (rOf 12) [1,18,19,20,21,22,24] [] hN (by kernel_rfl) (by kernel_rfl) (fun v=>v=.bool true) yB ?_
   show zud (yL a m W k) _ j _ _ l _ _
   rw[zxz]
   have e2:((yL a m W k).w j).sc=(W j).sc:=by show (W (Nat.add 0 j)).sc=_; rw[ji]
   refine zh.2 ⟨fun q3=>?_,fun q3=>?_⟩
   ·have q3:l < (srW m W).length:=vq.1 q3
    refine zh.2 ⟨fun g=>ze.2 ⟨xe.2 (by show l + 1 < _; omega),?_⟩,fun g=>ze.2 ⟨xQ.2 q3,ze.2 ⟨xQ.2 q,ze.2 ⟨xe.2 (by show l + 1 < _; omega),?_⟩⟩⟩⟩
    ·intro tr zm ht hz hmb hi'
     obtain⟨l',h1,h2⟩:=zbn g
     have e:dcP (∃ l',l' < l + 1∧(srW m W).getD l' 0=(W j).sc)=true:=YQ ⟨l',by omega,h2⟩
     refine⟨l + 1,by omega,by omega,?_⟩
     rw[e]
     exact zkU ht
    ·intro tr zm ht hz hmb hi'
     have g:=zbo g
     have e:eqI ((yL a m W k).g (Nat.add 0 l)) ((yL a m W k).w j).sc=dcP (∃ l',l' < l + 1∧(srW m W).getD l' 0=(W j).sc):=by
      rw[e2,qG,ji]
      show ((srW m W).getD l 0==(W j).sc)=_
      by_cases h:(srW m W).getD l 0=(W j).sc
      ·rw[YQ ⟨l,Nat.lt_succ_self l,h⟩,h]
       simp
      ·have hn:¬ ∃ l',l' < l + 1∧(srW m W).getD l' 0=(W j).sc:=by
        rintro⟨l',h1,h2⟩
        by_cases h3:l'=l
        ·rw[h3] at h2; exact h h2
        ·exact g ⟨l',by omega,h2⟩
       rw[zdm hn]
       simpa using h
     rw[e] at ht
     exact⟨l + 1,by omega,by omega,zkU ht⟩
   ·have q3:(srW m W).length≤l:=y7.1 q3
    obtain rfl:l=(srW m W).length:=by omega
    intro tr zm ht hz hmb hi'
    refine zdu 8 ?_
    obtain⟨l',h1,h2⟩:=ztC (W:=W) q
    have e:dcP (∃ l',l' < (srW m W).length∧(srW m W).getD l' 0=(W j).sc)=true:=YQ ⟨l',h1,h2⟩
    rw[e] at ht
    refine JL.preS hE (zkU ht) (xx (by kernel_rfl)) ?_
    refine JL.all (n:=60) hE rfl (rOf 12) [1,18,19,20] [] hN (by kernel_rfl) (by kernel_rfl) (fun v=>v=.bool true) yB ?_
    show dL9 (yL a m W k) _ j _ _ _ _ _
    rw[eL9]
    have hd:=hdl j
    have go:∀ mn,mn=(ddI (scW W) (j + 1)).length→∀ tr zm,[1,18,19,20].map (zj tr)=v6 (yL a m W k) mn j→MB (am zm) 0→INV (mOf 12) tr→JL (EL (yL a m W k)) B N (mOf 12) ((fl bL6).drop 3) tr zm 0 fun e tr zm nx=>match e with
      | .normal=>∃ s',(m - s') < (m - j)∧s'≤m∧atS (mOf 12) (sL6 (yL a m W k) (ddI (scW W) s').length s') tr zm
      | .exit i=>if i=4 then JL (EL (yL a m W k)) B N (mOf 12) (l12.drop 22) tr zm nx (QL (yL a m W k)) else QL (yL a m W k) (.exit i) tr zm nx
      | e=>QL (yL a m W k) e tr zm nx:=by
     intro mn hmn tr zm ht hmb hi'
     refine JL.preS hE (zh1 (y:=(yL a m W k)) ht) (xx (by kernel_rfl)) ?_
     refine JL.all (n:=60) hE rfl (rOf 12) [1,18,19,20] [] hN (by kernel_rfl) (by kernel_rfl) (fun v=>v=.bool true) yB ?_
     show zue (yL a m W k) mn j _ _
     rw[zxA]
     refine ze.2 ⟨xe.2 (by show j + 1 < _; omega),?_⟩
     intro tr zm ht hz hmb hi'
     refine⟨j + 1,by omega,by omega,?_⟩
     rw[←hmn]
     exact zh1 ht
    refine zh.2 ⟨fun g=>(by cases g),fun g=>zh.2 ⟨fun f=>ze.2 ⟨xe.2 (by show (ddI (scW W) j).length + 1 < _; omega),?_⟩,fun f=>?_⟩⟩
    ·have f:¬ jC (scW W) j (scW W j):=zbn f
     intro tr zm ht hz hmb hi'
     exact go _ (ztE f).symm tr zm ht hmb hi'
    ·have f:jC (scW W) j (scW W j):=Classical.not_not.1 (zbo f)
     intro tr zm ht hz hmb hi'
     exact go _ (by rw[ztF f]) tr zm ht hmb hi'
 ·have q:m≤i:=y7.1 q
  obtain rfl:m=i:=by omega
  intro tr zm ht hz hmb hi'
  show (if (4:Nat)=4 then JL (EL (yL a m W k)) B N (mOf 12) (l12.drop 22) tr zm 0 (QL (yL a m W k)) else QL (yL a m W k) (.exit 4) tr zm 0)
  rw[if_pos rfl]
  exact zxD hE hN hm _ _ zbc.symm tr zm 0 (zh1 ht) hmb hi'
end
end
end Go.K
