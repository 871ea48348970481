/- The plan: the closed runs together; what is written. No condition. -/
import Derived.Test.YtkllahedaiddgaaGreatDoorPK0
import Derived.Test.YtkllahedaiddgaaGreatDoorPC0
import Derived.Test.YtkllahedaiddgaaGreatDoorPB1_0
import Derived.Test.YtkllahedaiddgaaGreatDoorPB1_2
import Derived.Test.YtkllahedaiddgaaGreatDoorPB1_4
set_option linter.unusedSimpArgs false
set_option linter.unusedVariables false
set_option maxRecDepth 100000
namespace Go.K
open Go.Ab Go.RowKit Go.Y Go.Proofs
noncomputable section
attribute [local instance 10000] gO
theorem zo2 {E:KEnv}(h:KOk E):KOk { E with sc:=true }:=⟨h.fns,h.ct,h.gn,h.mixed,h.ex,h.cb,h.as⟩
noncomputable def lvK (b:KV):Nat:=match b with
 | .cons (.int _ (.ofNat a)) _=>a
 | _=>0
noncomputable def ixK (b:KV):Nat:=match b with
 | .cons _ (.cons (.int _ (.ofNat a)) _)=>a
 | _=>0
noncomputable def xl (n:Nat) (u:Ud) (k:Nat):Nd:=xD n u (lvI n k) (ixI n k)
noncomputable def Pn (n m:Nat) (u:Ud) (s:Nat→Nat) (l:List KV):Prop:=∃ k,k < m∧l=[nI n,(xl n u k).k,nI (s k)]
noncomputable def κn (n:Nat) (l:List KV):Nat:=match l with
 | [_,b,_]=>zh n (lvK b) (ixK b)
 | _=>0
noncomputable def Wn (n:Nat) (u:Ud) (s:Nat→Nat) (k:Nat):Wd:=wdN n (xl n u k) (s k)
theorem Ye {n k:Nat}(hn:zD n=true) (hk:k < zi n):zh n (lvI n k) (ixI n k)=k:=by
 obtain⟨n1,n2⟩:=zH hn
 have h9:=jK hn
 obtain⟨m,rfl⟩:∃ m,n=Nat.succ m:=⟨n - 1,by omega⟩
 have hd:∀ m:Fin 24,∀ k:Fin 9,k.1 < zi (Nat.succ m.1)→zh (Nat.succ m.1) (lvI (Nat.succ m.1) k.1) (ixI (Nat.succ m.1) k.1)=k.1:=by decide
 exact hd ⟨m,by omega⟩ ⟨k,by omega⟩ hk
attribute [local irreducible] kpre cOf mOf rOf JL zp zk l19 l21 zh hS zi zx xh
section
variable {n m:Nat}{u:Ud}
theorem jZ (H:UOk n m u) {k:Nat}(hk:k < m):(xl n u k).lv=lvI n k∧(xl n u k).ix=ixI n k:=by
 have hp:=QS H.n24 (by rw[←H.tot]; exact hk)
 exact (qd (now:=xf n u) H.n24 (fun i hi=>⟨H.wl i hi,H.wb i hi⟩) _ _ hp).2.2
theorem κn_eq (H:UOk n m u) {k:Nat}(hk:k < m) (a c:KV):κn n [a,(xl n u k).k,c]=k:=by
 show zh n (xl n u k).lv (xl n u k).ix=k
 rw[(jZ H hk).1,(jZ H hk).2]
 exact Ye H.n24 (by rw[←H.tot]; exact hk)
theorem zB4 (H:UOk n m u) (V:UV n u) {s:Nat→Nat}(hs:∀ k,k < m→s k≤1):ZK Tryz.prog 97 (zwY (Pn n m u s) (κn n) (Wn n u s)):=zhh ⟨Tryz.f97,Tryz.func97,by kernel_rfl,by kernel_rfl⟩ fun l K h=>by
 obtain⟨⟨k,hk,rfl⟩,h2⟩:=h
 rw[κn_eq H hk] at h2
 have hp:=QS H.n24 (by rw[←H.tot]; exact hk)
 obtain⟨w1,w2,w3,w4⟩:=Jy H V hp
 exact⟨_,h2,j97 H.n24 (by show isS n (xl n u k).lv (xl n u k).ix=true; rw[(jZ H hk).1,(jZ H hk).2]; exact hp) (hs k hk) w1 w2 w3⟩
theorem zsM (H:UOk n m u) {i:Nat}(hi:i < n):tgS u i≤1:=by
 have:=H.st i hi
 unfold tgS
 split
 ·omega
 ·split<;>omega
theorem y8 {g:Nat→Prop→Prop}{q:Prop}(hq:q):∀ {n:Nat},(∀ i,i < n→∀ q,q→g i q)→chF n g q:=by
 have main:∀(n j:Nat),(∀ i,j≤i→i < j + n→∀ q,q→g i q)→(@Nat.rec (fun _=>Nat→Prop) (fun _=>q) (fun _ ih i=>g i (ih (Nat.succ i))) n j:Prop):=by
  intro n
  induction n with
  | zero=>intro j h; exact hq
  | succ n ih=>intro j h; exact h j (Nat.le_refl j) (by omega) _ (ih (j + 1) fun i h1 h2=>h i (by omega) (by omega))
 intro n h
 exact main n 0 fun i h1 h2=>h i (by omega)
noncomputable def kpF (n:Nat) (u:Ud) (i:Nat):Nat:=@Bool.rec (fun _=>Nat) (qA n (lvI n (Nat.sub i n)) (ixI n (Nat.sub i n)) (u.sl (Nat.sub i n))) (Xy i (Nat.sub 1 (tgS u i))) (Nat.blt i n)
theorem zB5 {br:Bool}{zm:KZ}{id N:Nat}{f g:Nat→Nat}(hz:kb zm id=some (QV N fun i=>nI (f i))) (hfg:∀ i,i < N→f i=g i):FzP br zm (.sl id [] .sc 0 N (some N)) (inK N g true):=FzP.slC hz rfl (by unfold qm; simp) rfl rfl fun i hi=>by
 have e:KV.atv (@Nat.rec (fun _=>KV) .te (fun i t=>xk (nI (f i)) (enc i) t) N) (enc (0 + i)) (nI 0).v=(nI (g i)).v:=by
  rw[Nat.zero_add,←hfg i hi]; exact vY (f:=fun i=>nI (f i)) (z:=(nI 0).v) hi
 intro B C M h3 h4 mm hm
 have hm':R C (KV.atv (@Nat.rec (fun _=>KV) .te (fun i t=>xk (nI (f i)) (enc i) t) N) (enc (0 + i)) (nI 0).v) mm:=hm
 rw[e] at hm'
 exact R.noref _ rfl hm'
theorem zB6 {br:Bool}{zm:KZ}{id N:Nat}{f g:Nat→Nat}(hz:kb zm id=some (QV N fun i=>nI (f i))) (hfg:∀ i,i < N→f i=g i):FzP br zm (.row id .sc N) (inK N g false):=FzP.row hz rfl rfl fun i hi B C M h3 h4 mm hm=>by
 have e:KV.atv (@Nat.rec (fun _=>KV) .te (fun i t=>xk (nI (f i)) (enc i) t) N) (enc i) (nI 0).v=(nI (g i)).v:=by
  rw[←hfg i hi]; exact vY (f:=fun i=>nI (f i)) (z:=(nI 0).v) hi
 have hm':R C (KV.atv (@Nat.rec (fun _=>KV) .te (fun i t=>xk (nI (f i)) (enc i) t) N) (enc i) (nI 0).v) mm:=hm
 rw[e] at hm'
 exact R.noref _ rfl hm'
theorem zHj (H:UOk n m u) (V:UV n u):KCS Tryz.prog 95 (zwZ (trK n m (cU n u)) n (tgS u)):=⟨(zDz H V).1,fun l K h=>(zDz H V).2 l K (by
 obtain⟨a,b,rfl,h1⟩:=qt h
 obtain⟨i,rfl,h2,h3⟩:=zu h1
 obtain⟨h4,h5⟩:=zd.1 h3
 cases h2
 exact⟨i,rfl,we.1 h4,h5⟩)⟩
theorem zHk:KCS Tryz.prog 96 zw0:=⟨zsP.1,fun l K h=>zsP.2 l K (by
 obtain⟨a,b,c,rfl,h1⟩:=ZW h
 obtain⟨n,rfl,k1⟩:=zu h1
 obtain⟨i,rfl,k2⟩:=zu k1
 obtain⟨s,rfl,k3⟩:=zu k2
 obtain⟨h4,h5⟩:=zd.1 k3
 obtain⟨q1,q2⟩:=za.1 h4
 obtain⟨q2,q3⟩:=za.1 q2
 exact⟨⟨q1,we.1 q2,yF.1 q3⟩,h5⟩)⟩
theorem zHl (H:UOk n m u) (V:UV n u):KOk (E19 (Pn n m u u.sl) (κn n) (Wn n u u.sl) (trK n m (cU n u)) n (tgS u)) :=
 zo2 (KOk.tabB (zI.tab (l:=[(94,va [trK n m (cU n u)] (nI 0)),(95,zwZ (trK n m (cU n u)) n (tgS u)),(96,zw0)]) ⟨zH2 H V,zHj H V,zHk,trivial⟩) ⟨zB4 H V H.sl,trivial⟩)
end
end
end Go.K
set_option maxRecDepth 100000
namespace Go.K
open Go.Ab Go.RowKit Go.Y Go.Proofs
noncomputable section
attribute [local instance 10000] gO
noncomputable def b2n (b:Bool):Nat:=@Bool.rec (fun _=>Nat) 0 1 b
noncomputable def pN (b0 b1 b2 b3 b4 b5:Bool):Nat:=Nat.add (b2n b0) (Nat.add (Nat.mul 2 (b2n b1)) (Nat.add (Nat.mul 4 (b2n b2)) (Nat.add (Nat.mul 8 (b2n b3)) (Nat.add (Nat.mul 16 (b2n b4)) (Nat.mul 32 (b2n b5))))))
noncomputable def xe (n:Nat) (u:Ud):Nat:=pN (z8 n u 0 0) (z8 n u 0 1) (z8 n u 0 2) (z8 n u 0 3) (z8 n u 0 4) (z8 n u 0 5)
theorem dp1:∀ b0:Bool,pN b0 false false false false false < 2∧dP 1 (pN b0 false false false false false) 0=b0:=by decide
theorem dp3:∀ b0 b1:Bool,pN b0 b1 false false false false < 4∧dP 3 (pN b0 b1 false false false false) 0=b0∧dP 3 (pN b0 b1 false false false false) 1=b1∧dP 3 (pN b0 b1 false false false false) 2=(b0||b1||false||false):=by decide
theorem dp4:∀ b0 b1 b2:Bool,pN b0 b1 b2 false false false < 8∧dP 4 (pN b0 b1 b2 false false false) 0=b0∧dP 4 (pN b0 b1 b2 false false false) 1=b1∧dP 4 (pN b0 b1 b2 false false false) 2=b2∧dP 4 (pN b0 b1 b2 false false false) 3=(b0||b1||b2||false):=by decide
theorem dp5:∀ b0 b1 b2 b3:Bool,pN b0 b1 b2 b3 false false < 16∧dP 5 (pN b0 b1 b2 b3 false false) 0=b0∧dP 5 (pN b0 b1 b2 b3 false false) 1=b1∧dP 5 (pN b0 b1 b2 b3 false false) 2=b2∧dP 5 (pN b0 b1 b2 b3 false false) 3=b3∧dP 5 (pN b0 b1 b2 b3 false false) 4=(b0||b1||b2||b3):=by decide
theorem dp8:∀ b0 b1 b2 b3 b4:Bool,pN b0 b1 b2 b3 b4 false < 32∧dP 8 (pN b0 b1 b2 b3 b4 false) 0=b0∧dP 8 (pN b0 b1 b2 b3 b4 false) 1=b1∧dP 8 (pN b0 b1 b2 b3 b4 false) 2=b2∧dP 8 (pN b0 b1 b2 b3 b4 false) 3=b3∧dP 8 (pN b0 b1 b2 b3 b4 false) 4=b4∧dP 8 (pN b0 b1 b2 b3 b4 false) 5=(b0||b1||b2||b3)∧dP 8 (pN b0 b1 b2 b3 b4 false) 6=(b4||false||false||false)∧dP 8 (pN b0 b1 b2 b3 b4 false) 7=((b0||b1||b2||b3)||(b4||false||false||false)||false||false):=by decide
theorem dp9:∀ b0 b1 b2 b3 b4 b5:Bool,pN b0 b1 b2 b3 b4 b5 < 64∧dP 9 (pN b0 b1 b2 b3 b4 b5) 0=b0∧dP 9 (pN b0 b1 b2 b3 b4 b5) 1=b1∧dP 9 (pN b0 b1 b2 b3 b4 b5) 2=b2∧dP 9 (pN b0 b1 b2 b3 b4 b5) 3=b3∧dP 9 (pN b0 b1 b2 b3 b4 b5) 4=b4∧dP 9 (pN b0 b1 b2 b3 b4 b5) 5=b5∧dP 9 (pN b0 b1 b2 b3 b4 b5) 6=(b0||b1||b2||b3)∧dP 9 (pN b0 b1 b2 b3 b4 b5) 7=(b4||b5||false||false)∧dP 9 (pN b0 b1 b2 b3 b4 b5) 8=((b0||b1||b2||b3)||(b4||b5||false||false)||false||false):=by decide
theorem Zf {n:Nat}(hn:zD n=true):((zi n=1∧nR (zi n)=4)∨(zi n=3∧nR (zi n)=8)∨(zi n=4∧nR (zi n)=12)∨(zi n=5∧nR (zi n)=16)∨(zi n=8∧nR (zi n)=20)∨(zi n=9∧nR (zi n)=24))∧n≤nR (zi n)∧hS n=hS (nR (zi n))∧zx n 0=zx (nR (zi n)) 0∧zx n 1=zx (nR (zi n)) 1∧zx n 2=zx (nR (zi n)) 2∧zD (nR (zi n))=true∧zi (nR (zi n))=zi n:=by
 obtain⟨n1,n2⟩:=zH hn
 obtain⟨m,rfl⟩:∃ m,n=Nat.succ m:=⟨n - 1,by omega⟩
 have hd:∀ m:Fin 24,((zi (Nat.succ m.1)=1∧nR (zi (Nat.succ m.1))=4)∨(zi (Nat.succ m.1)=3∧nR (zi (Nat.succ m.1))=8)∨(zi (Nat.succ m.1)=4∧nR (zi (Nat.succ m.1))=12)∨(zi (Nat.succ m.1)=5∧nR (zi (Nat.succ m.1))=16)∨(zi (Nat.succ m.1)=8∧nR (zi (Nat.succ m.1))=20)∨(zi (Nat.succ m.1)=9∧nR (zi (Nat.succ m.1))=24))∧Nat.succ m.1≤nR (zi (Nat.succ m.1))∧hS (Nat.succ m.1)=hS (nR (zi (Nat.succ m.1)))∧zx (Nat.succ m.1) 0=zx (nR (zi (Nat.succ m.1))) 0∧zx (Nat.succ m.1) 1=zx (nR (zi (Nat.succ m.1))) 1∧zx (Nat.succ m.1) 2=zx (nR (zi (Nat.succ m.1))) 2∧zD (nR (zi (Nat.succ m.1)))=true∧zi (nR (zi (Nat.succ m.1)))=zi (Nat.succ m.1):=by decide
 exact hd ⟨m,by omega⟩
theorem Yv {n l:Nat}(hn:zD n=true) (hl:l≤2) (j:Nat):zh n l j=zh (nR (zi n)) l j:=by
 obtain⟨_,_,_,e0,e1,_⟩:=Zf hn
 match l,hl with
 | 0,_=>rfl
 | 1,_=>show Nat.add j (zx n 0)=Nat.add j (zx _ 0); rw[e0]
 | 2,_=>show Nat.add (Nat.add j (zx n 0)) (zx n 1)=Nat.add (Nat.add j (zx _ 0)) (zx _ 1); rw[e0,e1]
theorem zld {n l:Nat}(hn:zD n=true) (hl:l≤2):zx n l=zx (nR (zi n)) l:=by
 obtain⟨_,_,_,e0,e1,e2,_⟩:=Zf hn
 match l,hl with
 | 0,_=>exact e0
 | 1,_=>exact e1
 | 2,_=>exact e2
theorem zys {n:Nat}(hn:zD n=true) (k:Nat):lvI n k=lvI (nR (zi n)) k∧ixI n k=ixI (nR (zi n)) k:=by
 have h1:=Yv hn (l:=1) (by omega) 0
 have h2:=Yv hn (l:=2) (by omega) 0
 have e:lvI n k=lvI (nR (zi n)) k:=by
  unfold lvI
  rw[h1,h2]
 refine⟨e,?_⟩
 unfold ixI
 rw[←e]
 have hl:lvI n k≤2:=by
  unfold lvI
  cases Nat.blt k (zh n 1 0) with
  | true=>exact Nat.zero_le _
  | false=>cases Nat.blt k (zh n 2 0) with
   | true=>show 1≤2; omega
   | false=>exact Nat.le_refl 2
 rw[Yv hn hl 0]
section
variable {n m:Nat}{u:Ud}
theorem zle (n:Nat) (u:Ud) (l j:Nat):z8 n u (l + 1) j=(z8 n u l (4 * j)||z8 n u l (4 * j + 1)||z8 n u l (4 * j + 2)||z8 n u l (4 * j + 3)):=by
 rw[Bool.eq_iff_iff]
 simp only[Bool.or_eq_true,zba,za9]
 constructor
 ·rintro⟨i,h1,h2,h3⟩
  have:xh i l=4 * j∨xh i l=4 * j + 1∨xh i l=4 * j + 2∨xh i l=4 * j + 3:=by omega
  rcases this with h | h | h | h
  ·exact .inl (.inl (.inl ⟨i,h1,h2,h⟩))
  ·exact .inl (.inl (.inr ⟨i,h1,h2,h⟩))
  ·exact .inl (.inr ⟨i,h1,h2,h⟩)
  ·exact .inr ⟨i,h1,h2,h⟩
 ·rintro (((⟨i,h1,h2,h3⟩ | ⟨i,h1,h2,h3⟩) | ⟨i,h1,h2,h3⟩) | ⟨i,h1,h2,h3⟩)
  all_goals exact⟨i,h1,h2,by omega⟩
theorem zy {j:Nat}(h:n≤4 * j):z8 n u 0 j=false:=by
 cases hb:z8 n u 0 j with
 | false=>rfl
 | true =>
  obtain⟨i,h1,_,h3⟩:=zba.1 hb
  rw[Jz] at h3
  omega
theorem Yw (H:UOk n m u):xe n u < 2 ^ gS m∧∀ k,k < m→dP m (xe n u) k=z8 n u (lvI n k) (ixI n k):=by
 obtain rfl:m=zi n:=H.tot
 obtain⟨hc,hle,_⟩:=Zf H.n24
 have hx:=fun k=>zys H.n24 k
 have up1:=zle n u 0
 have up2:=zle n u 1 0
 rw[up1,up1,up1,up1] at up2
 unfold xe
 rcases hc with ⟨e1,e2⟩ | ⟨e1,e2⟩ | ⟨e1,e2⟩ | ⟨e1,e2⟩ | ⟨e1,e2⟩ | ⟨e1,e2⟩<;>rw[e2] at hle hx<;>rw[e1]
 ·rw[zy (j:=1) (by omega),zy (j:=2) (by omega),zy (j:=3) (by omega),zy (j:=4) (by omega),zy (j:=5) (by omega)]
  obtain⟨h,h0⟩:=dp1 (z8 n u 0 0)
  refine⟨h,fun k hk=>?_⟩
  rw[(hx k).1,(hx k).2]
  match k,hk with
  | 0,_=>exact h0
 ·rw[zy (j:=2) (by omega),zy (j:=3) (by omega),zy (j:=4) (by omega),zy (j:=5) (by omega)]
  obtain⟨h,h0,h1,h2⟩:=dp3 (z8 n u 0 0) (z8 n u 0 1)
  refine⟨h,fun k hk=>?_⟩
  rw[(hx k).1,(hx k).2]
  match k,hk with
  | 0,_=>exact h0
  | 1,_=>exact h1
  | 2,_ =>
   refine h2.trans ?_
   show _=z8 n u 1 0
   rw[up1 0,zy (j:=4 * 0 + 2) (by omega),zy (j:=4 * 0 + 3) (by omega)]
 ·rw[zy (j:=3) (by omega),zy (j:=4) (by omega),zy (j:=5) (by omega)]
  obtain⟨h,h0,h1,h2,h3⟩:=dp4 (z8 n u 0 0) (z8 n u 0 1) (z8 n u 0 2)
  refine⟨h,fun k hk=>?_⟩
  rw[(hx k).1,(hx k).2]
  match k,hk with
  | 0,_=>exact h0
  | 1,_=>exact h1
  | 2,_=>exact h2
  | 3,_ =>
   refine h3.trans ?_
   show _=z8 n u 1 0
   rw[up1 0,zy (j:=4 * 0 + 3) (by omega)]
 ·rw[zy (j:=4) (by omega),zy (j:=5) (by omega)]
  obtain⟨h,h0,h1,h2,h3,h4⟩:=dp5 (z8 n u 0 0) (z8 n u 0 1) (z8 n u 0 2) (z8 n u 0 3)
  refine⟨h,fun k hk=>?_⟩
  rw[(hx k).1,(hx k).2]
  match k,hk with
  | 0,_=>exact h0
  | 1,_=>exact h1
  | 2,_=>exact h2
  | 3,_=>exact h3
  | 4,_ =>
   refine h4.trans ?_
   show _=z8 n u 1 0
   rw[up1 0]
 ·rw[zy (j:=5) (by omega)]
  obtain⟨h,h0,h1,h2,h3,h4,h5,h6,h7⟩:=dp8 (z8 n u 0 0) (z8 n u 0 1) (z8 n u 0 2) (z8 n u 0 3) (z8 n u 0 4)
  refine⟨h,fun k hk=>?_⟩
  rw[(hx k).1,(hx k).2]
  match k,hk with
  | 0,_=>exact h0
  | 1,_=>exact h1
  | 2,_=>exact h2
  | 3,_=>exact h3
  | 4,_=>exact h4
  | 5,_ =>
   refine h5.trans ?_
   show _=z8 n u 1 0
   rw[up1 0]
  | 6,_ =>
   refine h6.trans ?_
   show _=z8 n u 1 1
   rw[up1 1,zy (j:=4 * 1 + 1) (by omega),zy (j:=4 * 1 + 2) (by omega),zy (j:=4 * 1 + 3) (by omega)]
  | 7,_ =>
   refine h7.trans ?_
   show _=z8 n u 2 0
   rw[up2]
   simp only[zy (n:=n) (u:=u) (j:=4 * (4 * 0 + 1) + 1) (by omega),zy (n:=n) (u:=u) (j:=4 * (4 * 0 + 1) + 2) (by omega),zy (n:=n) (u:=u) (j:=4 * (4 * 0 + 1) + 3) (by omega),zy (n:=n) (u:=u) (j:=4 * (4 * 0 + 2)) (by omega),zy (n:=n) (u:=u) (j:=4 * (4 * 0 + 2) + 1) (by omega),zy (n:=n) (u:=u) (j:=4 * (4 * 0 + 2) + 2) (by omega),zy (n:=n) (u:=u) (j:=4 * (4 * 0 + 2) + 3) (by omega),zy (n:=n) (u:=u) (j:=4 * (4 * 0 + 3)) (by omega),zy (n:=n) (u:=u) (j:=4 * (4 * 0 + 3) + 1) (by omega),zy (n:=n) (u:=u) (j:=4 * (4 * 0 + 3) + 2) (by omega),zy (n:=n) (u:=u) (j:=4 * (4 * 0 + 3) + 3) (by omega)]
   rfl
 ·obtain⟨h,h0,h1,h2,h3,h4,h5,h6,h7,h8⟩:=dp9 (z8 n u 0 0) (z8 n u 0 1) (z8 n u 0 2) (z8 n u 0 3) (z8 n u 0 4) (z8 n u 0 5)
  refine⟨h,fun k hk=>?_⟩
  rw[(hx k).1,(hx k).2]
  match k,hk with
  | 0,_=>exact h0
  | 1,_=>exact h1
  | 2,_=>exact h2
  | 3,_=>exact h3
  | 4,_=>exact h4
  | 5,_=>exact h5
  | 6,_ =>
   refine h6.trans ?_
   show _=z8 n u 1 0
   rw[up1 0]
  | 7,_ =>
   refine h7.trans ?_
   show _=z8 n u 1 1
   rw[up1 1,zy (j:=4 * 1 + 2) (by omega),zy (j:=4 * 1 + 3) (by omega)]
  | 8,_ =>
   refine h8.trans ?_
   show _=z8 n u 2 0
   rw[up2]
   simp only[zy (n:=n) (u:=u) (j:=4 * (4 * 0 + 1) + 2) (by omega),zy (n:=n) (u:=u) (j:=4 * (4 * 0 + 1) + 3) (by omega),zy (n:=n) (u:=u) (j:=4 * (4 * 0 + 2)) (by omega),zy (n:=n) (u:=u) (j:=4 * (4 * 0 + 2) + 1) (by omega),zy (n:=n) (u:=u) (j:=4 * (4 * 0 + 2) + 2) (by omega),zy (n:=n) (u:=u) (j:=4 * (4 * 0 + 2) + 3) (by omega),zy (n:=n) (u:=u) (j:=4 * (4 * 0 + 3)) (by omega),zy (n:=n) (u:=u) (j:=4 * (4 * 0 + 3) + 1) (by omega),zy (n:=n) (u:=u) (j:=4 * (4 * 0 + 3) + 2) (by omega),zy (n:=n) (u:=u) (j:=4 * (4 * 0 + 3) + 3) (by omega)]
   rfl
end
end
end Go.K
set_option maxRecDepth 100000
namespace Go.K
open Go.Ab Go.RowKit Go.Y Go.Proofs
noncomputable section
attribute [local instance 10000] gO
theorem zDF:∀ p,p < 2→P18 1 p
 | 0,_=>zpd
 | 1,_=>zpe
 | p + 2,h=>absurd h (by omega)
theorem zDG:∀ p,p < 2→P24 1 p
 | 0,_=>zpB
 | 1,_=>zpC
 | p + 2,h=>absurd h (by omega)
theorem zDH:∀ p,p < 4→P18 3 p
 | 0,_=>zpf
 | 1,_=>zpg
 | 2,_=>zph
 | 3,_=>zpi
 | p + 4,h=>absurd h (by omega)
theorem zDI:∀ p,p < 4→P24 3 p
 | 0,_=>zpD
 | 1,_=>zpE
 | 2,_=>zpF
 | 3,_=>zpG
 | p + 4,h=>absurd h (by omega)
theorem zDJ:∀ p,p < 8→P18 4 p
 | 0,_=>zpj
 | 1,_=>zpk
 | 2,_=>zpl
 | 3,_=>zpm
 | 4,_=>zpn
 | 5,_=>zpo
 | 6,_=>zpp
 | 7,_=>zpq
 | p + 8,h=>absurd h (by omega)
theorem zDK:∀ p,p < 8→P24 4 p
 | 0,_=>zpH
 | 1,_=>zpI
 | 2,_=>zpJ
 | 3,_=>zpK
 | 4,_=>zpL
 | 5,_=>zpM
 | 6,_=>zpN
 | 7,_=>zpO
 | p + 8,h=>absurd h (by omega)
theorem zDL:∀ p,p < 16→P18 5 p
 | 0,_=>zpr
 | 1,_=>zps
 | 2,_=>zpt
 | 3,_=>zpu
 | 4,_=>zpv
 | 5,_=>zpw
 | 6,_=>zpx
 | 7,_=>zpy
 | 8,_=>zpz
 | 9,_=>zpA
 | 10,_=>zi0
 | 11,_=>zi1
 | 12,_=>zi2
 | 13,_=>zi3
 | 14,_=>zi4
 | 15,_=>zjm
 | p + 16,h=>absurd h (by omega)
theorem zDM:∀ p,p < 16→P24 5 p
 | 0,_=>zpP
 | 1,_=>zpQ
 | 2,_=>zpR
 | 3,_=>zpS
 | 4,_=>zpT
 | 5,_=>zpU
 | 6,_=>zpV
 | 7,_=>zpW
 | 8,_=>zpX
 | 9,_=>zpY
 | 10,_=>zi5
 | 11,_=>zi6
 | 12,_=>zi7
 | 13,_=>zi8
 | 14,_=>zi9
 | 15,_=>zjz
 | p + 16,h=>absurd h (by omega)
theorem zDN:∀ p,p < 32→P18 8 p
 | 0,_=>zp5
 | 1,_=>zp6
 | 2,_=>zp7
 | 3,_=>zp8
 | 4,_=>zp9
 | 5,_=>zqa
 | 6,_=>zqb
 | 7,_=>zqc
 | 8,_=>zqd
 | 9,_=>zqe
 | 10,_=>zjn
 | 11,_=>zjo
 | 12,_=>zjp
 | 13,_=>zjq
 | 14,_=>zjr
 | 15,_=>zjs
 | 16,_=>zjt
 | 17,_=>zju
 | 18,_=>zjv
 | 19,_=>zjw
 | 20,_=>zjx
 | 21,_=>zjy
 | 22,_=>zlY
 | 23,_=>zlZ
 | 24,_=>zl0
 | 25,_=>zl1
 | 26,_=>zl2
 | 27,_=>zl3
 | 28,_=>zl4
 | 29,_=>zl5
 | 30,_=>zl6
 | 31,_=>zl7
 | p + 32,h=>absurd h (by omega)
theorem zDO:∀ p,p < 32→P24 8 p
 | 0,_=>zqf
 | 1,_=>zqg
 | 2,_=>zqh
 | 3,_=>zqi
 | 4,_=>zqj
 | 5,_=>zqk
 | 6,_=>zql
 | 7,_=>zqm
 | 8,_=>zqn
 | 9,_=>zqo
 | 10,_=>zjA
 | 11,_=>zjB
 | 12,_=>zjC
 | 13,_=>zjD
 | 14,_=>zjE
 | 15,_=>zjF
 | 16,_=>zjG
 | 17,_=>zjH
 | 18,_=>zjI
 | 19,_=>zjJ
 | 20,_=>zjK
 | 21,_=>zjL
 | 22,_=>zl9
 | 23,_=>zma
 | 24,_=>zmb
 | 25,_=>zmc
 | 26,_=>zmd
 | 27,_=>zme
 | 28,_=>zmf
 | 29,_=>zmg
 | 30,_=>zmh
 | 31,_=>zmi
 | p + 32,h=>absurd h (by omega)
theorem zDP:∀ p,p < 64→P18 9 p
 | 0,_=>zrf
 | 1,_=>zrg
 | 2,_=>zrh
 | 3,_=>zri
 | 4,_=>zrj
 | 5,_=>zrk
 | 6,_=>zrl
 | 7,_=>zrm
 | 8,_=>zrn
 | 9,_=>zro
 | 10,_=>zl8
 | 11,_=>zmu
 | 12,_=>zmv
 | 13,_=>zmw
 | 14,_=>zmx
 | 15,_=>zmy
 | 16,_=>zmz
 | 17,_=>zmA
 | 18,_=>zmB
 | 19,_=>zmC
 | 20,_=>zmD
 | 21,_=>zmE
 | 22,_=>zmF
 | 23,_=>zmG
 | 24,_=>zmH
 | 25,_=>zmI
 | 26,_=>zmJ
 | 27,_=>zmK
 | 28,_=>zmL
 | 29,_=>zmM
 | 30,_=>zmN
 | 31,_=>zks
 | 32,_=>zkt
 | 33,_=>zku
 | 34,_=>zkv
 | 35,_=>zkw
 | 36,_=>zkx
 | 37,_=>zky
 | 38,_=>zkz
 | 39,_=>zkA
 | 40,_=>zkB
 | 41,_=>zkC
 | 42,_=>zkD
 | 43,_=>zkE
 | 44,_=>zkF
 | 45,_=>zkG
 | 46,_=>zkH
 | 47,_=>zkI
 | 48,_=>zkJ
 | 49,_=>zkK
 | 50,_=>zjM
 | 51,_=>zjN
 | 52,_=>zjO
 | 53,_=>zjP
 | 54,_=>zjQ
 | 55,_=>zjR
 | 56,_=>zjS
 | 57,_=>zjT
 | 58,_=>zjU
 | 59,_=>zjV
 | 60,_=>zjW
 | 61,_=>zjX
 | 62,_=>zjY
 | 63,_=>zjZ
 | p + 64,h=>absurd h (by omega)
theorem zDQ:∀ p,p < 64→P24 9 p
 | 0,_=>zrp
 | 1,_=>zrq
 | 2,_=>zrr
 | 3,_=>zrs
 | 4,_=>zrt
 | 5,_=>zru
 | 6,_=>zrv
 | 7,_=>zrw
 | 8,_=>zrx
 | 9,_=>zry
 | 10,_=>zmj
 | 11,_=>zmO
 | 12,_=>zmP
 | 13,_=>zmQ
 | 14,_=>zmR
 | 15,_=>zmS
 | 16,_=>zmT
 | 17,_=>zmU
 | 18,_=>zmV
 | 19,_=>zmW
 | 20,_=>zmX
 | 21,_=>zmY
 | 22,_=>zmZ
 | 23,_=>zm4
 | 24,_=>zm5
 | 25,_=>zm6
 | 26,_=>zm7
 | 27,_=>zm8
 | 28,_=>zm9
 | 29,_=>zna
 | 30,_=>znb
 | 31,_=>zkL
 | 32,_=>zkM
 | 33,_=>zkN
 | 34,_=>zkO
 | 35,_=>zkP
 | 36,_=>zkQ
 | 37,_=>zkR
 | 38,_=>zkS
 | 39,_=>zkT
 | 40,_=>zkU
 | 41,_=>zkV
 | 42,_=>zkW
 | 43,_=>zkX
 | 44,_=>zkY
 | 45,_=>zkZ
 | 46,_=>zk0
 | 47,_=>zk1
 | 48,_=>zk2
 | 49,_=>zk3
 | 50,_=>zj0
 | 51,_=>zj1
 | 52,_=>zj2
 | 53,_=>zj3
 | 54,_=>zj4
 | 55,_=>zj5
 | 56,_=>zj6
 | 57,_=>zj7
 | 58,_=>zj8
 | 59,_=>zj9
 | 60,_=>zka
 | 61,_=>zkb
 | 62,_=>zkc
 | 63,_=>zkd
 | p + 64,h=>absurd h (by omega)
theorem zDR {n p:Nat}(hn:zD n=true) (h:p < 2 ^ gS (zi n)):P18 (zi n) p∧P24 (zi n) p:=by
 rcases (Zf hn).1 with ⟨e,_⟩ | ⟨e,_⟩ | ⟨e,_⟩ | ⟨e,_⟩ | ⟨e,_⟩ | ⟨e,_⟩<;>rw[e] at h ⊢
 ·exact⟨zDF p h,zDG p h⟩
 ·exact⟨zDH p h,zDI p h⟩
 ·exact⟨zDJ p h,zDK p h⟩
 ·exact⟨zDL p h,zDM p h⟩
 ·exact⟨zDN p h,zDO p h⟩
 ·exact⟨zDP p h,zDQ p h⟩
noncomputable def wlA (m p c k:Nat):List Nat:=@Nat.rec (fun _=>Nat→List Nat) (fun _=>[]) (fun _ ih k=>@Bool.rec (fun _=>List Nat) (ih (Nat.succ k)) (k::ih (Nat.succ k)) (wrB m p k)) c k
theorem zey (m p c k:Nat):wlA m p (c + 1) k=if wrB m p k=true then k::wlA m p c (k + 1) else wlA m p c (k + 1):=by
 show @Bool.rec (fun _=>List Nat) _ _ (wrB m p k)=_
 cases wrB m p k<;>rfl
theorem zkh (m p:Nat):∀ c k,∀ x∈wlA m p c k,k≤x∧x < k + c
 | 0,k,x,h=>by cases h
 | c + 1,k,x,h=>by
  rw[zey] at h
  have ih:=zkh m p c (k + 1) x
  split at h
  ·rcases List.mem_cons.1 h with rfl | h
   ·omega
   ·have:=ih h; omega
  ·have:=ih h; omega
theorem Vp:∀ l:List Nat,zEo l=l.length
 | []=>rfl
 | a::l=>congrArg Nat.succ (Vp l)
theorem ztc:∀ {l:List Nat}{i:Nat},i < l.length→nN l i∈l
 | a::l,0,_=>List.mem_cons_self ..
 | a::l,i + 1,h=>List.mem_cons_of_mem _ (ztc (l:=l) (Nat.lt_of_succ_lt_succ h))
theorem zez (m p:Nat):∀ c k,(wlA m p c k).length≤c
 | 0,k=>Nat.le_refl 0
 | c + 1,k=>by
  rw[zey]
  have ih:=zez m p c (k + 1)
  split
  ·show (wlA m p c (k + 1)).length + 1≤c + 1; omega
  ·omega
theorem zqr (m p:Nat):wrB (m + 1) p m=true:=by
 show Yt (dP (m + 1) p m) true (Nat.beq (m + 1) (m + 1))=true
 rw[Nat.beq_refl]
 cases dP (m + 1) p m<;>rfl
theorem zbc (m p:Nat):∀ c k,k + c=m→0 < (wlA (m + 1) p (c + 1) k).length∧nN (wlA (m + 1) p (c + 1) k) ((wlA (m + 1) p (c + 1) k).length - 1)=m
 | 0,k,h=>by
  obtain rfl:k=m:=by omega
  rw[zey,if_pos (zqr _ p)]
  exact⟨Nat.succ_pos _,rfl⟩
 | c + 1,k,h=>by
  obtain⟨h1,h2⟩:=zbc m p c (k + 1) (by omega)
  rw[zey]
  split
  ·refine⟨Nat.succ_pos _,?_⟩
   show nN (k::wlA (m + 1) p (c + 1) (k + 1)) ((wlA (m + 1) p (c + 1) (k + 1)).length)=m
   obtain⟨q,hq⟩:∃ q,(wlA (m + 1) p (c + 1) (k + 1)).length=q + 1:=⟨_,(Nat.succ_pred_eq_of_pos h1).symm⟩
   rw[hq] at h2 ⊢
   exact h2
  ·exact⟨h1,h2⟩
theorem ztd (m p:Nat):wL m p=wlA m p m 0:=rfl
theorem zeA {m p i:Nat}(h:i < nW m p):nN (wL m p) i < m:=by
 unfold nW at h
 rw[Vp] at h
 have:=zkh m p m 0 _ (ztc h)
 rw[ztd]
 omega
theorem zte (m p:Nat):nW m p≤m:=by
 unfold nW
 rw[Vp]
 exact zez m p m 0
theorem zqs (m p:Nat):∃ l,nW (m + 1) p=l + 1∧nN (wL (m + 1) p) l=m:=by
 obtain⟨h1,h2⟩:=zbc m p m 0 (by omega)
 unfold nW
 rw[Vp,ztd]
 exact⟨(wlA (m + 1) p (m + 1) 0).length - 1,by omega,h2⟩
end
end Go.K
