/- AES as contracts of the run: what every use leans on. No condition. -/
import Derived.Test.YtkllahedaiddgaaGreatDoorKL0
import Derived.Test.YtkllahedaiddgaaGreatDoorMT0
import Derived.Test.YtkllahedaiddgaaGreatDoorK19
set_option linter.unusedSimpArgs false
set_option linter.unusedVariables false
namespace Go.K
open Go.Ab Go.RowKit Go.Y Go.Proofs
noncomputable section
attribute [local irreducible] zu zn
def C.sub (n:Nat):Nat:=pkr .u8 sbN n
def C.mul (a n:Nat):Nat:=pkr .u8 mtN (256 * a + n)
def C.x8 (a b:Nat):Nat:=(a ^^^ b) % 256
def C.fx (x:Nat→Nat) (m:Nat):Nat:=@Nat.rec (fun _=>Nat) (x (nat_lit 0)) (fun p _=>x (Nat.succ p)) m
theorem Wy (x:Nat→Nat) (m:Nat):C.fx x m=x m:=by cases m<;>rfl
def C.rot (x:Nat→Nat) (i:Nat):Nat:=C.sub (C.fx x (4 * ((i / 4 + i % 4) % 4) + i % 4))
def C.mix (x:Nat→Nat) (i:Nat):Nat :=
 C.x8 (C.x8 (C.x8 (C.x8 0 (C.mul 2 (C.fx x (4 * (i / 4) + (i % 4 + 0) % 4)))) (C.mul 3 (C.fx x (4 * (i / 4) + (i % 4 + 1) % 4)))) (C.mul 1 (C.fx x (4 * (i / 4) + (i % 4 + 2) % 4)))) (C.mul 1 (C.fx x (4 * (i / 4) + (i % 4 + 3) % 4)))
def C.rnd (f g:Nat→Nat):Nat→Nat→Nat
 | 0,i=>C.x8 (f i) (g i)
 | k + 1,i=>C.x8 (C.mix (C.rot (C.rnd f g k)) i) (g (16 * (k + 1) + i))
def C.enc (f g:Nat→Nat) (i:Nat):Nat:=C.x8 (C.rot (C.rnd f g 9) i) (g (160 + i))
def trN (f:Nat→Nat):Nat→KV
 | 0=>.te
 | n + 1=>x6 (.int .u8 (.ofNat (f n))) (enc n) (trN f n)
def J1 (f:Nat→Nat):KV:=.ar 16 (.int .u8 (.ofNat 0)) (trN f 16)
def zn0 (g:Nat→Nat):Nat→KV
 | 0=>.te
 | n + 1=>x6 (J1 fun j=>g (16 * n + j)) (enc n) (zn0 g n)
def zx9 (g:Nat→Nat):KV:=.ar 11 (.ar 16 (.int .u8 (.ofNat 0)) .te) (zn0 g 11)
def ztz:zg:=fun l K=>la1 l fun x=>xt (fun k a=>chk (xq k .u8) 400 (@Int.rec (fun _=>Prop) (fun n=>n < 256∧K (.int .u8 (.ofNat (C.sub n)))) (fun _=>BadN 401) a)) (BadN 402) x
def ztA:zg:=fun l K=>lb2 l fun x y=>xt (fun k a=>chk (xq k .u8) 400 (@Int.rec (fun _=>Prop) (fun m=>xt (fun k a=>chk (xq k .u8) 400 (@Int.rec (fun _=>Prop) (fun n=>chk (Nat.blt m 4) 404 (n < 256∧K (.int .u8 (.ofNat (C.mul m n))))) (fun _=>BadN 401) a)) (BadN 402) y) (fun _=>BadN 401) a)) (BadN 402) x
def C.con (h:Nat→Nat):Nat→Nat→Prop→Prop
 | 0,_,X=>X
 | n + 1,t,X=>h t < 256∧C.con h n (t + 1) X
theorem ze2 {h:Nat→Nat}{X:Prop}(hh:∀ t,h t < 256) (hx:X):∀ n t,C.con h n t X
 | 0,_=>hx
 | n + 1,t=>⟨hh t,ze2 hh hx n (t + 1)⟩
def C.fin (f g:Nat→Nat) (X:Prop):Nat→Prop
 | 0=>C.con (fun i=>C.fx (C.rnd f g 9) i) 16 0 X
 | n + 1=>C.con (fun i=>C.fx (C.rnd f g (8 - n)) i) 16 0 (C.con (fun t=>C.fx (C.rot (C.rnd f g (8 - n))) (4 * (t / 16) + (t / 4 % 4 + t % 4) % 4)) 64 0 (C.fin f g X n))
def ES:KEnv:=EO0.tab [(311,ztz),(328,ztA)]
def zn1 (f g:Nat→Nat) (v:KV):Prop:=@zn gO ES (@zu gO ES 200) 0 296 [zx9 g,J1 f] .e 0 0 fun r _ _ _=>r=v
set_option maxRecDepth 100000
theorem zf9 (f g:Nat→Nat) (v:KV):zn1 f g v=C.fin f g (J1 (C.enc f g)=v) 9:=by kernel_rfl
theorem zby (a b:Nat):C.x8 a b < 256:=Nat.mod_lt _ (by decide)
theorem zn2 (n:Nat):C.sub n < 256:=Ze .u8 _ _
theorem zn3 (f g:Nat→Nat):∀ k i,C.rnd f g k i < 256
 | 0,i=>zby _ _
 | k + 1,i=>zby _ _
theorem ztB {f g:Nat→Nat}{X:Prop}(hx:X):∀ n,C.fin f g X n
 | 0=>ze2 (fun t=>by rw[Wy]; exact zn3 _ _ _ _) hx _ _
 | n + 1=>ze2 (fun t=>by rw[Wy]; exact zn3 _ _ _ _) (ze2 (fun t=>by rw[Wy]; exact zn2 _) (ztB hx n) _ _) _ _
theorem zn4 (f g:Nat→Nat):zn1 f g (J1 (C.enc f g)):=by
 rw[zf9]
 exact ztB rfl 9
end
end Go.K
namespace Go.K
open Go.Ab Go.RowKit Go.Y Go.Proofs
noncomputable section
attribute [local irreducible] zu zn
set_option maxRecDepth 100000
end
end Go.K
namespace Go.K
open Go.Ab Go.RowKit Go.Y Go.Proofs
noncomputable section
attribute [local irreducible] zu zn
theorem zcX (f:Nat→Nat) (z:V):∀ n i,(trN f n).atv (enc i) z=if i < n then .int .u8 (.ofNat (f i)) else z
 | 0,i=>by rw[if_neg (by omega)]; rfl
 | n + 1,i=>by
  show (x6 (.int .u8 (.ofNat (f n))) (enc n) (trN f n)).atv (enc i) z=_
  rw[jm,zcX f z n i]
  by_cases h:i=n
  ·subst h; rw[if_pos rfl,if_pos (by omega)]; rfl
  ·rw[if_neg h]
   by_cases h2:i < n
   ·rw[if_pos h2,if_pos (by omega)]
   ·rw[if_neg h2,if_neg (by omega)]
theorem znE (f:Nat→Nat):(J1 f).v=.arr 16 fun i=>(trN f 16).atv (enc i) (.int .u8 (.ofNat 0)):=rfl
theorem znF (x i:Nat):pkg .u8 x i=.ofNat (pkr .u8 x i):=rfl
theorem zbw {x:Nat}{f:Nat→Nat}(h:∀ i,i < 16→pkr .u8 x i=f i):Imp (KV.pk .u8 16 x).v (J1 f).v:=by
 rw[wF,znE]
 exact Imp.arrE fun i hi=>by rw[zcX,if_pos hi,znF,h i hi]
theorem znG {x:Nat}{f:Nat→Nat}(h:∀ i,i < 16→pkr .u8 x i=f i):Imp (J1 f).v (KV.pk .u8 16 x).v:=by
 rw[wF,znE]
 exact Imp.arrE fun i hi=>by rw[zcX,if_pos hi,znF,h i hi]
theorem zeY (g:Nat→Nat) (z:V):∀ n i,(zn0 g n).atv (enc i) z=if i < n then (J1 fun j=>g (16 * i + j)).v else z
 | 0,i=>by rw[if_neg (by omega)]; rfl
 | n + 1,i=>by
  show (x6 (J1 fun j=>g (16 * n + j)) (enc n) (zn0 g n)).atv (enc i) z=_
  rw[jm,zeY g z n i]
  by_cases h:i=n
  ·subst h; rw[if_pos rfl,if_pos (by omega)]
  ·rw[if_neg h]
   by_cases h2:i < n
   ·rw[if_pos h2,if_pos (by omega)]
   ·rw[if_neg h2,if_neg (by omega)]
def XS (s:KV) (k:Nat):Nat:=match xb k s with
 | .pk _ _ x=>x
 | _=>0
def znH (s:KV) (k:Nat):Bool:=match xb k s with
 | .pk kd n _=>nd (xq kd .u8) (Nat.beq n 16)
 | _=>false
def JY (s:KV):Nat→Bool
 | 0=>true
 | n + 1=>nd (JY s n) (znH s n)
theorem zbx {s:KV}:∀ {n:Nat},JY s n=true→∀ k,k < n→xb k s=.pk .u8 16 (XS s k)
 | 0,_,k,hk=>by omega
 | n + 1,h,k,hk=>by
  obtain⟨h1,h2⟩:=za.1 (show nd (JY s n) (znH s n)=true from h)
  rcases Nat.lt_or_ge k n with h3 | h3
  ·exact zbx h1 k h3
  ·obtain rfl:k=n:=by omega
   unfold znH at h2
   unfold XS
   split at h2
   ·rename_i kd n x hx
    obtain⟨q1,q2⟩:=za.1 h2
    obtain rfl:=zJ q1
    obtain rfl:=zO q2
    rw[hx]
   ·cases h2
def gOf (s:KV) (j:Nat):Nat:=pkr .u8 (XS s (j / 16)) (j % 16)
theorem zrI {d t:KV}(h:JY (.ar 11 d t) 11=true):Imp (KV.ar 11 d t).v (zx9 (gOf (.ar 11 d t))).v:=by
 have h0:=zbx h
 show Imp (V.arr 11 fun i=>t.atv (enc i) d.v) (V.arr 11 fun i=>(zn0 (gOf (.ar 11 d t)) 11).atv (enc i) (KV.ar 16 (.int .u8 (.ofNat 0)) .te).v)
 refine Imp.arr fun i hi=>?_
 rw[zeY,if_pos hi]
 have h1:t.atv (enc i) d.v=(KV.pk .u8 16 (XS (.ar 11 d t) i)).v:=by
  rw[←h0 i hi,x7]; rfl
 rw[h1]
 refine zbw fun j hj=>?_
 show _=pkr .u8 (XS _ ((16 * i + j) / 16)) ((16 * i + j) % 16)
 rw[show (16 * i + j) / 16=i by omega,show (16 * i + j) % 16=j by omega]
def byN (x i:Nat):Nat:=pkr .u8 x i
def zxR (x N:Nat) (K:Nat→Prop):Prop:=pkK (C.rot (byN x)) 16 fun y=>pkK (fun i=>C.x8 (C.mix (byN y) i) (byN N i)) 16 K
def zxS (s:KV) (n:Nat) (x:Nat) (K:Nat→Prop):Prop:=@Nat.rec (fun _=>(Nat→Prop)→Prop) (fun K=>K x) (fun n ih K=>ih fun x=>zxR x (XS s (Nat.succ n)) K) n K
def zxT (s:KV) (b:Nat) (K:Nat→Prop):Prop:=pkK (fun i=>C.x8 (byN b i) (byN (XS s 0) i)) 16 fun x=>zxS s 9 x fun x=>pkK (fun i=>C.x8 (C.rot (byN x) i) (byN (XS s 10) i)) 16 K
theorem znI {x y:Nat→Nat}(h:∀ i,i < 16→x i=y i) {i:Nat}(hi:i < 16):C.rot x i=C.rot y i:=by
 unfold C.rot
 rw[Wy,Wy,h _ (by omega)]
theorem zxU {x y:Nat→Nat}(h:∀ i,i < 16→x i=y i) {i:Nat}(hi:i < 16):C.mix x i=C.mix y i:=by
 unfold C.mix
 simp only[Wy]
 rw[h _ (show 4 * (i / 4) + (i % 4 + 0) % 4 < 16 by omega),h _ (show 4 * (i / 4) + (i % 4 + 1) % 4 < 16 by omega),h _ (show 4 * (i / 4) + (i % 4 + 2) % 4 < 16 by omega),h _ (show 4 * (i / 4) + (i % 4 + 3) % 4 < 16 by omega)]
theorem zcY (s:KV) (k i:Nat) (hi:i < 16):gOf s (16 * k + i)=byN (XS s k) i:=by
 unfold gOf byN
 rw[show (16 * k + i) / 16=k by omega,show (16 * k + i) % 16=i by omega]
theorem znJ (s:KV) (f:Nat→Nat) (x:Nat) (hx:∀ i,i < 16→byN x i=C.rnd f (gOf s) 0 i):∀(n:Nat) (K:Nat→Prop),zxS s n x K→∃ y,K y∧∀ i,i < 16→byN y i=C.rnd f (gOf s) n i
 | 0,K,h=>⟨x,h,hx⟩
 | n + 1,K,h=>by
  obtain⟨y,h1,h2⟩:=znJ s f x hx n _ (show zxS s n x (fun x=>zxR x (XS s (Nat.succ n)) K) from h)
  unfold zxR at h1
  rw[Ji,Ji] at h1
  refine⟨_,h1,fun i hi=>?_⟩
  show pkr .u8 _ i=_
  rw[Vt (fun i=>zby _ _) hi]
  show C.x8 (C.mix (byN (pkA (C.rot (byN y)) 16)) i) (byN (XS s (n + 1)) i)=C.x8 (C.mix (C.rot (C.rnd f (gOf s) n)) i) (gOf s (16 * (n + 1) + i))
  rw[zcY s (n + 1) i hi,zxU (y:=C.rot (C.rnd f (gOf s) n)) (fun j hj=>?_) hi]
  show pkr .u8 _ j=_
  rw[Vt (h:=C.rot (byN y)) (fun i=>zn2 _) hj]
  exact znI h2 hj
theorem zxV {s:KV}{b:Nat}{K:Nat→Prop}(h:zxT s b K):∃ z,K z∧∀ i,i < 16→pkr .u8 z i=C.enc (byN b) (gOf s) i:=by
 unfold zxT at h
 rw[Ji] at h
 obtain⟨y,h1,h2⟩:=znJ s (byN b) _ (fun i hi=>by
  show pkr .u8 _ i=_
  rw[Vt (fun i=>zby _ _) hi]
  show C.x8 (byN b i) (byN (XS s 0) i)=C.x8 (byN b i) (gOf s i)
  have:=zcY s 0 i hi
  rw[Nat.mul_zero,Nat.zero_add] at this
  rw[this]) 9 _ h
 rw[Ji] at h1
 refine⟨_,h1,fun i hi=>?_⟩
 rw[Vt (fun i=>zby _ _) hi]
 show C.x8 (C.rot (byN y) i) (byN (XS s 10) i)=C.x8 (C.rot (C.rnd (byN b) (gOf s) 9) i) (gOf s (160 + i))
 rw[znI h2 hi]
 have:=zcY s 10 i hi
 rw[this]
end
end Go.K
