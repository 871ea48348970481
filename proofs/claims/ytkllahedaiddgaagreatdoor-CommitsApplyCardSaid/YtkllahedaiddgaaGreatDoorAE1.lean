/- AES as contracts of the run: what every use leans on. No condition. -/
import Derived.Test.YtkllahedaiddgaaGreatDoorKL0
import Derived.Test.YtkllahedaiddgaaGreatDoorMT0
import Derived.Test.YtkllahedaiddgaaGreatDoorK19
set_option linter.unusedSimpArgs false
set_option linter.unusedVariables false
namespace Go.K
open Go.Ab Go.RowKit Go.Y Go.Proofs
noncomputable section
attribute [local irreducible] zp zo
def C.sub (n:Nat):Nat:=pkr .u8 sbN n
def C.mul (a n:Nat):Nat:=pkr .u8 mtN (256 * a + n)
def C.x8 (a b:Nat):Nat:=(a ^^^ b) % 256
def C.fx (x:Nat→Nat) (m:Nat):Nat:=@Nat.rec (fun _=>Nat) (x (nat_lit 0)) (fun p _=>x (Nat.succ p)) m
theorem Qe (x:Nat→Nat) (m:Nat):C.fx x m=x m:=by cases m<;>rfl
def C.rot (x:Nat→Nat) (i:Nat):Nat:=C.sub (C.fx x (4 * ((i / 4 + i % 4) % 4) + i % 4))
def C.mix (x:Nat→Nat) (i:Nat):Nat :=
 C.x8 (C.x8 (C.x8 (C.x8 0 (C.mul 2 (C.fx x (4 * (i / 4) + (i % 4 + 0) % 4)))) (C.mul 3 (C.fx x (4 * (i / 4) + (i % 4 + 1) % 4)))) (C.mul 1 (C.fx x (4 * (i / 4) + (i % 4 + 2) % 4)))) (C.mul 1 (C.fx x (4 * (i / 4) + (i % 4 + 3) % 4)))
def C.rnd (f g:Nat→Nat):Nat→Nat→Nat
 | 0,i=>C.x8 (f i) (g i)
 | k + 1,i=>C.x8 (C.mix (C.rot (C.rnd f g k)) i) (g (16 * (k + 1) + i))
def C.enc (f g:Nat→Nat) (i:Nat):Nat:=C.x8 (C.rot (C.rnd f g 9) i) (g (160 + i))
def trN (f:Nat→Nat):Nat→KV
 | 0=>.te
 | n + 1=>vm (.int .u8 (.ofNat (f n))) (enc n) (trN f n)
def VS (f:Nat→Nat):KV:=.ar 16 (.int .u8 (.ofNat 0)) (trN f 16)
def ziE (g:Nat→Nat):Nat→KV
 | 0=>.te
 | n + 1=>vm (VS fun j=>g (16 * n + j)) (enc n) (ziE g n)
def zqM (g:Nat→Nat):KV:=.ar 11 (.ar 16 (.int .u8 (.ofNat 0)) .te) (ziE g 11)
def zmX:zk:=fun l K=>la1 l fun x=>zW (fun k a=>chk (z8 k .u8) 400 (@Int.rec (fun _=>Prop) (fun n=>n < 256∧K (.int .u8 (.ofNat (C.sub n)))) (fun _=>BadN 401) a)) (BadN 402) x
def zmY:zk:=fun l K=>lb2 l fun x y=>zW (fun k a=>chk (z8 k .u8) 400 (@Int.rec (fun _=>Prop) (fun m=>zW (fun k a=>chk (z8 k .u8) 400 (@Int.rec (fun _=>Prop) (fun n=>chk (Nat.blt m 4) 404 (n < 256∧K (.int .u8 (.ofNat (C.mul m n))))) (fun _=>BadN 401) a)) (BadN 402) y) (fun _=>BadN 401) a)) (BadN 402) x
def C.con (h:Nat→Nat):Nat→Nat→Prop→Prop
 | 0,_,X=>X
 | n + 1,t,X=>h t < 256∧C.con h n (t + 1) X
theorem zdP {h:Nat→Nat}{X:Prop}(hh:∀ t,h t < 256) (hx:X):∀ n t,C.con h n t X
 | 0,_=>hx
 | n + 1,t=>⟨hh t,zdP hh hx n (t + 1)⟩
def C.fin (f g:Nat→Nat) (X:Prop):Nat→Prop
 | 0=>C.con (fun i=>C.fx (C.rnd f g 9) i) 16 0 X
 | n + 1=>C.con (fun i=>C.fx (C.rnd f g (8 - n)) i) 16 0 (C.con (fun t=>C.fx (C.rot (C.rnd f g (8 - n))) (4 * (t / 16) + (t / 4 % 4 + t % 4) % 4)) 64 0 (C.fin f g X n))
def ES:KEnv:=EO0.tab [(311,zmX),(328,zmY)]
def ziF (f g:Nat→Nat) (v:KV):Prop:=@zo gO ES (@zp gO ES 200) 0 296 [zqM g,VS f] .e 0 0 fun r _ _ _=>r=v
set_option maxRecDepth 100000
theorem zeA (f g:Nat→Nat) (v:KV):ziF f g v=C.fin f g (VS (C.enc f g)=v) 9:=by kernel_rfl
theorem zag (a b:Nat):C.x8 a b < 256:=Nat.mod_lt _ (by decide)
theorem ziG (n:Nat):C.sub n < 256:=yu .u8 _ _
theorem ziH (f g:Nat→Nat):∀ k i,C.rnd f g k i < 256
 | 0,i=>zag _ _
 | k + 1,i=>zag _ _
theorem zmZ {f g:Nat→Nat}{X:Prop}(hx:X):∀ n,C.fin f g X n
 | 0=>zdP (fun t=>by rw[Qe]; exact ziH _ _ _ _) hx _ _
 | n + 1=>zdP (fun t=>by rw[Qe]; exact ziH _ _ _ _) (zdP (fun t=>by rw[Qe]; exact ziG _) (zmZ hx n) _ _) _ _
theorem ziI (f g:Nat→Nat):ziF f g (VS (C.enc f g)):=by
 rw[zeA]
 exact zmZ rfl 9
end
end Go.K
namespace Go.K
open Go.Ab Go.RowKit Go.Y Go.Proofs
noncomputable section
attribute [local irreducible] zp zo
def C.dbl (n:Nat):Nat:=@Bool.rec (fun _=>Nat) (Nat.mod (Nat.mul n 2) 256) (Nat.mod (Nat.xor (Nat.mod (Nat.mul n 2) 256) 27) 256) (Nat.blt 127 n)
def C.mx0 (a b c d:Nat):Nat:=C.x8 (C.x8 (C.x8 (C.x8 (C.dbl a) (C.dbl b)) b) c) d
def C.mx1 (a b c d:Nat):Nat:=C.x8 (C.x8 (C.x8 (C.x8 a (C.dbl b)) (C.dbl c)) c) d
def C.mx2 (a b c d:Nat):Nat:=C.x8 (C.x8 (C.x8 (C.x8 a b) (C.dbl c)) (C.dbl d)) d
def C.mx3 (a b c d:Nat):Nat:=C.x8 (C.x8 (C.x8 (C.x8 (C.dbl a) a) b) c) (C.dbl d)
def C.mxR (r:Nat) (a b c d:Nat):Nat:=@Nat.rec (fun _=>Nat) (C.mx0 a b c d) (fun r _=>@Nat.rec (fun _=>Nat) (C.mx1 a b c d) (fun r _=>@Nat.rec (fun _=>Nat) (C.mx2 a b c d) (fun _ _=>C.mx3 a b c d) r) r) r
def C.mixR (x:Nat→Nat) (i:Nat):Nat:=C.mxR (i % 4) (C.fx x (4 * (i / 4))) (C.fx x (4 * (i / 4) + 1)) (C.fx x (4 * (i / 4) + 2)) (C.fx x (4 * (i / 4) + 3))
def C.rotR (x:Nat→Nat) (i:Nat):Nat:=pkr .u8 sbN (C.fx x (4 * ((i / 4 + i % 4) % 4) + i % 4))
def C.rndR (f g:Nat→Nat):Nat→Nat→Nat
 | 0,i=>C.x8 (f i) (g i)
 | k + 1,i=>C.x8 (C.mixR (C.rotR (C.rndR f g k)) i) (g (16 * (k + 1) + i))
def C.ix (x:Nat) (X:Prop):Prop:=cnd (ixB (.ofNat x) 256) X
def C.ixs (x:Nat→Nat):Nat→Prop→Prop
 | 0,X=>X
 | n + 1,X=>C.ix (C.fx x (4 * (((15 - n) % 4 + (15 - n) / 4) % 4) + (15 - n) / 4)) (C.ixs x n X)
def C.dw (t:Nat):Nat:=[0,1,1,2,2,3,0,3].getD t 0
def C.rds (f g:Nat→Nat) (X:Prop):Nat→Prop
 | 0=>C.ixs (C.rndR f g 9) 16 X
 | n + 1=>C.ixs (C.rndR f g (8 - n)) 16 (C.con (fun t=>C.fx (C.rotR (C.rndR f g (8 - n))) (4 * (t / 8) + C.dw (t % 8))) 32 0 (C.rds f g X n))
set_option maxRecDepth 100000
end
end Go.K
namespace Go.K
open Go.Ab Go.RowKit Go.Y Go.Proofs
noncomputable section
attribute [local irreducible] zp zo
theorem zbB (f:Nat→Nat) (z:V):∀ n i,(trN f n).atv (enc i) z=if i < n then .int .u8 (.ofNat (f i)) else z
 | 0,i=>by rw[if_neg (by omega)]; rfl
 | n + 1,i=>by
  show (vm (.int .u8 (.ofNat (f n))) (enc n) (trN f n)).atv (enc i) z=_
  rw[wB,zbB f z n i]
  by_cases h:i=n
  ·subst h; rw[if_pos rfl,if_pos (by omega)]; rfl
  ·rw[if_neg h]
   by_cases h2:i < n
   ·rw[if_pos h2,if_pos (by omega)]
   ·rw[if_neg h2,if_neg (by omega)]
theorem zim (f:Nat→Nat):(VS f).v=.arr 16 fun i=>(trN f 16).atv (enc i) (.int .u8 (.ofNat 0)):=rfl
theorem zio (x i:Nat):pkg .u8 x i=.ofNat (pkr .u8 x i):=rfl
theorem zad {x:Nat}{f:Nat→Nat}(h:∀ i,i < 16→pkr .u8 x i=f i):Imp (KV.pk .u8 16 x).v (VS f).v:=by
 rw[qC,zim]
 exact Imp.arrE fun i hi=>by rw[zbB,if_pos hi,zio,h i hi]
theorem ziq {x:Nat}{f:Nat→Nat}(h:∀ i,i < 16→pkr .u8 x i=f i):Imp (VS f).v (KV.pk .u8 16 x).v:=by
 rw[qC,zim]
 exact Imp.arrE fun i hi=>by rw[zbB,if_pos hi,zio,h i hi]
theorem zdJ (g:Nat→Nat) (z:V):∀ n i,(ziE g n).atv (enc i) z=if i < n then (VS fun j=>g (16 * i + j)).v else z
 | 0,i=>by rw[if_neg (by omega)]; rfl
 | n + 1,i=>by
  show (vm (VS fun j=>g (16 * n + j)) (enc n) (ziE g n)).atv (enc i) z=_
  rw[wB,zdJ g z n i]
  by_cases h:i=n
  ·subst h; rw[if_pos rfl,if_pos (by omega)]
  ·rw[if_neg h]
   by_cases h2:i < n
   ·rw[if_pos h2,if_pos (by omega)]
   ·rw[if_neg h2,if_neg (by omega)]
def ZZ (s:KV) (k:Nat):Nat:=match zM k s with
 | .pk _ _ x=>x
 | _=>0
def zir (s:KV) (k:Nat):Bool:=match zM k s with
 | .pk kd n _=>nd (z8 kd .u8) (Nat.beq n 16)
 | _=>false
def VP (s:KV):Nat→Bool
 | 0=>true
 | n + 1=>nd (VP s n) (zir s n)
theorem zae {s:KV}:∀ {n:Nat},VP s n=true→∀ k,k < n→zM k s=.pk .u8 16 (ZZ s k)
 | 0,_,k,hk=>by omega
 | n + 1,h,k,hk=>by
  obtain⟨h1,h2⟩:=za.1 (show nd (VP s n) (zir s n)=true from h)
  rcases Nat.lt_or_ge k n with h3 | h3
  ·exact zae h1 k h3
  ·obtain rfl:k=n:=by omega
   unfold zir at h2
   unfold ZZ
   split at h2
   ·rename_i kd n x hx
    obtain⟨q1,q2⟩:=za.1 h2
    obtain rfl:=zw q1
    obtain rfl:=zx q2
    rw[hx]
   ·cases h2
def gOf (s:KV) (j:Nat):Nat:=pkr .u8 (ZZ s (j / 16)) (j % 16)
theorem zlc {d t:KV}(h:VP (.ar 11 d t) 11=true):Imp (KV.ar 11 d t).v (zqM (gOf (.ar 11 d t))).v:=by
 have h0:=zae h
 show Imp (V.arr 11 fun i=>t.atv (enc i) d.v) (V.arr 11 fun i=>(ziE (gOf (.ar 11 d t)) 11).atv (enc i) (KV.ar 16 (.int .u8 (.ofNat 0)) .te).v)
 refine Imp.arr fun i hi=>?_
 rw[zdJ,if_pos hi]
 have h1:t.atv (enc i) d.v=(KV.pk .u8 16 (ZZ (.ar 11 d t) i)).v:=by
  rw[←h0 i hi,xB]; rfl
 rw[h1]
 refine zad fun j hj=>?_
 show _=pkr .u8 (ZZ _ ((16 * i + j) / 16)) ((16 * i + j) % 16)
 rw[show (16 * i + j) / 16=i by omega,show (16 * i + j) % 16=j by omega]
def jc (x i:Nat):Nat:=pkr .u8 x i
def zqv (x N:Nat) (K:Nat→Prop):Prop:=pkK (C.rot (jc x)) 16 fun y=>pkK (fun i=>C.x8 (C.mix (jc y) i) (jc N i)) 16 K
def zqw (s:KV) (n:Nat) (x:Nat) (K:Nat→Prop):Prop:=@Nat.rec (fun _=>(Nat→Prop)→Prop) (fun K=>K x) (fun n ih K=>ih fun x=>zqv x (ZZ s (Nat.succ n)) K) n K
def zqx (s:KV) (b:Nat) (K:Nat→Prop):Prop:=pkK (fun i=>C.x8 (jc b i) (jc (ZZ s 0) i)) 16 fun x=>zqw s 9 x fun x=>pkK (fun i=>C.x8 (C.rot (jc x) i) (jc (ZZ s 10) i)) 16 K
theorem zis {x y:Nat→Nat}(h:∀ i,i < 16→x i=y i) {i:Nat}(hi:i < 16):C.rot x i=C.rot y i:=by
 unfold C.rot
 rw[Qe,Qe,h _ (by omega)]
theorem zqy {x y:Nat→Nat}(h:∀ i,i < 16→x i=y i) {i:Nat}(hi:i < 16):C.mix x i=C.mix y i:=by
 unfold C.mix
 simp only[Qe]
 rw[h _ (show 4 * (i / 4) + (i % 4 + 0) % 4 < 16 by omega),h _ (show 4 * (i / 4) + (i % 4 + 1) % 4 < 16 by omega),h _ (show 4 * (i / 4) + (i % 4 + 2) % 4 < 16 by omega),h _ (show 4 * (i / 4) + (i % 4 + 3) % 4 < 16 by omega)]
theorem zbC (s:KV) (k i:Nat) (hi:i < 16):gOf s (16 * k + i)=jc (ZZ s k) i:=by
 unfold gOf jc
 rw[show (16 * k + i) / 16=k by omega,show (16 * k + i) % 16=i by omega]
theorem zit (s:KV) (f:Nat→Nat) (x:Nat) (hx:∀ i,i < 16→jc x i=C.rnd f (gOf s) 0 i):∀(n:Nat) (K:Nat→Prop),zqw s n x K→∃ y,K y∧∀ i,i < 16→jc y i=C.rnd f (gOf s) n i
 | 0,K,h=>⟨x,h,hx⟩
 | n + 1,K,h=>by
  obtain⟨y,h1,h2⟩:=zit s f x hx n _ (show zqw s n x (fun x=>zqv x (ZZ s (Nat.succ n)) K) from h)
  unfold zqv at h1
  rw[Vh,Vh] at h1
  refine⟨_,h1,fun i hi=>?_⟩
  show pkr .u8 _ i=_
  rw[Zb (fun i=>zag _ _) hi]
  show C.x8 (C.mix (jc (pkA (C.rot (jc y)) 16)) i) (jc (ZZ s (n + 1)) i)=C.x8 (C.mix (C.rot (C.rnd f (gOf s) n)) i) (gOf s (16 * (n + 1) + i))
  rw[zbC s (n + 1) i hi,zqy (y:=C.rot (C.rnd f (gOf s) n)) (fun j hj=>?_) hi]
  show pkr .u8 _ j=_
  rw[Zb (h:=C.rot (jc y)) (fun i=>ziG _) hj]
  exact zis h2 hj
theorem zqz {s:KV}{b:Nat}{K:Nat→Prop}(h:zqx s b K):∃ z,K z∧∀ i,i < 16→pkr .u8 z i=C.enc (jc b) (gOf s) i:=by
 unfold zqx at h
 rw[Vh] at h
 obtain⟨y,h1,h2⟩:=zit s (jc b) _ (fun i hi=>by
  show pkr .u8 _ i=_
  rw[Zb (fun i=>zag _ _) hi]
  show C.x8 (jc b i) (jc (ZZ s 0) i)=C.x8 (jc b i) (gOf s i)
  have:=zbC s 0 i hi
  rw[Nat.mul_zero,Nat.zero_add] at this
  rw[this]) 9 _ h
 rw[Vh] at h1
 refine⟨_,h1,fun i hi=>?_⟩
 rw[Zb (fun i=>zag _ _) hi]
 show C.x8 (C.rot (jc y) i) (jc (ZZ s 10) i)=C.x8 (C.rot (C.rnd (jc b) (gOf s) 9) i) (gOf s (160 + i))
 rw[zis h2 hi]
 have:=zbC s 10 i hi
 rw[this]
end
end Go.K
