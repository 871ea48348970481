/- The shape of a number of blocks up to 24: qF and their parts. No condition. -/
import Derived.Test.YtkllahedaiddgaaGreatDoorAE1
set_option linter.unusedSimpArgs false
set_option linter.unusedVariables false
set_option maxRecDepth 100000
namespace Go.K
open Go.Ab Go.RowKit Go.Y Go.Proofs
noncomputable section
attribute [local instance 10000] gO
def upC (c:Nat):Nat:=Nat.div (Nat.add c 3) 4
def zE (n:Nat) (l:Nat):Nat:=@Nat.rec (fun _=>Nat) (upC n) (fun _ c=>@Nat.rec (fun _=>Nat) 0 (fun k _=>@Nat.rec (fun _=>Nat) 0 (fun _ _=>upC c) k) c) l
def zxR (n:Nat) (l:Nat):Nat:=@Nat.rec (fun _=>Nat) n (fun k _=>zE n k) l
def isS (n l i:Nat):Bool:=Nat.blt i (zE n l)
def zx (n l i:Nat):Nat:=@Bool.rec (fun _=>Nat) 0 (@Bool.rec (fun _=>Nat) (Nat.sub (zxR n l) (Nat.mul 4 i)) 4 (Nat.ble 4 (Nat.sub (zxR n l) (Nat.mul 4 i)))) (isS n l i)
def xr (P:Nat→Prop) (n:Nat):Prop:=@Nat.rec (fun _=>Prop) True (fun i ih=>ih∧P i) n
theorem zw {P:Nat→Prop}:∀ {n:Nat},xr P n→∀ i,i < n→P i
 | 0,_,i,h=>by omega
 | n + 1,h,i,hi=>by
  obtain⟨h1,h2⟩:=(show xr P n∧P n from h)
  by_cases e:i=n
  ·rw[e]; exact h2
  ·exact zw h1 i (by omega)
def whB (b:Bool) (p:Prop):Prop:=@Bool.rec (fun _=>Prop) True p b
theorem zbd {b:Bool}{p:Prop}(h:whB b p) (hb:b=true):p:=by rw[hb] at h; exact h
def zmL (f n l i:Nat) (w:KV):Prop:=zi EO0 (zj EO0 200) 0 f [nI n,nI l,nI i] .e 0 0 fun r _ _ _=>tK (kvb r w)
def Qj (f:Nat) (w:Nat→Nat→Nat→KV) (q:Bool):Prop:=xr (fun n=>xr (fun l=>xr (fun i=>whB (isS (Nat.succ n) l i) (@Bool.rec (fun _=>Prop) True (zmL f (Nat.succ n) l i (w (Nat.succ n) l i)) q)) 6) 3) 24
def zcw (f:Nat) (z:KV) (q:Bool):Prop:=xr (fun n=>xr (fun l=>∀ j,@Bool.rec (fun _=>Prop) True (zmL f (Nat.succ n) l (Nat.add j (zE (Nat.succ n) l)) z) q) 3) 24
def zcx (f:Nat) (z:KV) (q:Bool):Prop:=xr (fun n=>∀ l j,@Bool.rec (fun _=>Prop) True (zmL f (Nat.succ n) (Nat.add l 3) j z) q) 24
def Jv (a e:Nat):KV:=.tup (.cons (nI a) (.cons (nI e) .nl))
def zi3 (n l i:Nat):KV:=Jv (zx n l i) 0
def zmM (n l i:Nat):KV:=.bool true
def zsO (n l i:Nat):KV:=nI (zx n l i)
attribute [local irreducible] zi zj
theorem zF {P:Nat→Prop}(hp:∀ i,P i):∀ n,xr P n
 | 0=>trivial
 | n + 1=>⟨zF hp n,hp n⟩
theorem zcy (f:Nat) (w:Nat→Nat→Nat→KV):Qj f w false :=
 zF (fun n=>zF (fun l=>zF (fun i=>by cases isS (Nat.succ n) l i<;>trivial) 6) 3) 24
theorem zi4 (f:Nat) (z:KV):zcw f z false:=zF (fun n=>zF (fun l=>fun j=>trivial) 3) 24
theorem zi5 (f:Nat) (z:KV):zcx f z false:=zF (fun n=>fun l j=>trivial) 24
theorem zxS:Qj 193 zi3 true=Qj 193 zi3 false:=by kernel_rfl
theorem zxT:Qj 124 zmM true=Qj 124 zmM false:=by kernel_rfl
theorem zxU:Qj 117 zsO true=Qj 117 zsO false:=by kernel_rfl
theorem zxV:zcw 193 (Jv 0 1) true=zcw 193 (Jv 0 1) false:=by kernel_rfl
theorem zxW:zcw 124 (.bool false) true=zcw 124 (.bool false) false:=by kernel_rfl
theorem zxX:zcx 193 (Jv 0 1) true=zcx 193 (Jv 0 1) false:=by kernel_rfl
theorem zxY:zcx 124 (.bool false) true=zcx 124 (.bool false) false:=by kernel_rfl
theorem Vm (n l:Nat) (hn:n < 24):zE (Nat.succ n) (Nat.add l 3)=0:=by
 have h2:∀ m,m < 24→zE (Nat.succ m) 2=0∨zE (Nat.succ m) 2=1:=by
  intro m hm
  have:xr (fun m=>zE (Nat.succ m) 2=0∨zE (Nat.succ m) 2=1) 24:=by
   have h:∀ m:Fin 24,zE (Nat.succ m.1) 2=0∨zE (Nat.succ m.1) 2=1:=by decide
   have h1:∀ k,k≤24→xr (fun m=>zE (Nat.succ m) 2=0∨zE (Nat.succ m) 2=1) k:=by
    intro k
    induction k with
    | zero=>intro _; trivial
    | succ k ih=>intro hk; exact⟨ih (by omega),h ⟨k,by omega⟩⟩
   exact h1 24 (by omega)
  exact zw this m hm
 induction l with
 | zero =>
  show (@Nat.rec (fun _=>Nat) 0 (fun k _=>@Nat.rec (fun _=>Nat) 0 (fun _ _=>upC (zE (Nat.succ n) 2)) k) (zE (Nat.succ n) 2))=0
  rcases h2 n hn with h | h<;>rw[h]<;>rfl
 | succ l ih =>
  show (@Nat.rec (fun _=>Nat) 0 (fun k _=>@Nat.rec (fun _=>Nat) 0 (fun _ _=>upC (zE (Nat.succ n) (Nat.succ (Nat.succ (Nat.add l 1))))) k) (zE (Nat.succ n) (Nat.add l 3)))=0
  rw[ih]
  rfl
theorem zpc {n l i:Nat}:isS n l i=false↔zE n l≤i:=by
 show Nat.blt i _=false↔_
 rw[←Bool.not_eq_true,xZ]; exact Nat.not_lt
theorem ZS {n l i:Nat}:isS n l i=true↔i < zE n l:=xZ
theorem ZT (n l:Nat) (hn:n < 24) (hl:l < 3):zE (Nat.succ n) l≤6:=by
 have h:∀ m:Fin 24,∀ l:Fin 3,zE (Nat.succ m.1) l.1≤6:=by decide
 exact h ⟨n,hn⟩ ⟨l,hl⟩
theorem zmN {f:Nat}{w:Nat→Nat→Nat→KV}{z:KV}(h1:Qj f w true) (h2:zcw f z true) (h3:zcx f z true) {n l i:Nat}(hn:1≤n) (hn2:n≤24):zmL f n l i (@Bool.rec (fun _=>KV) z (w n l i) (isS n l i)):=by
 obtain⟨m,rfl⟩:∃ m,n=Nat.succ m:=⟨n - 1,by omega⟩
 have hm:m < 24:=by omega
 by_cases hl:l < 3
 ·cases hb:isS (Nat.succ m) l i with
  | true =>
   have hi:=ZS.1 hb
   have:=ZT m l hm hl
   exact zbd (zw (zw (zw h1 m hm) l hl) i (by omega)) hb
  | false =>
   have hi:=zpc.1 hb
   have:=zw (zw h2 m hm) l hl (i - zE (Nat.succ m) l)
   rwa [show Nat.add (i - zE (Nat.succ m) l) (zE (Nat.succ m) l)=i from Nat.sub_add_cancel hi] at this
 ·obtain⟨k,rfl⟩:∃ k,l=Nat.add k 3:=⟨l - 3,by show l=l - 3 + 3; omega⟩
  rw[show isS (Nat.succ m) (Nat.add k 3) i=false by rw[zpc,Vm m k hm]; omega]
  exact zw h3 m hm k i
def zC (n:Nat):Bool:=nd (Nat.ble 1 n) (Nat.ble n 24)
theorem zR {n:Nat}(h:zC n=true):1≤n∧n≤24:=by
 obtain⟨h1,h2⟩:=zd.1 h
 exact⟨Nat.le_of_ble_eq_true h1,Nat.le_of_ble_eq_true h2⟩
def la3 (l:List KV) (f:KV→KV→KV→Prop):Prop:=match l with
 | [a,b,c]=>f a b c
 | _=>BadN 920
theorem ZU {l:List KV}{f:KV→KV→KV→Prop}(h:la3 l f):∃ a b c,l=[a,b,c]∧f a b c:=by
 unfold la3 at h
 split at h
 ·exact⟨_,_,_,rfl,h⟩
 ·exact h.elim
def s3 (w:Nat→Nat→Nat→KV):zh:=fun l K=>la3 l fun a b c=>z6 a fun n=>z6 b fun l=>z6 c fun i=>chk (zC n) 921 (K (w n l i))
theorem zxZ {f:Nat}(hf:Q4 f) {w:Nat→Nat→Nat→KV}{z:KV}(h1:Qj f w true) (h2:zcw f z true) (h3:zcx f z true) (hr:∀ n l i,zA (@Bool.rec (fun _=>KV) z (w n l i) (isS n l i):KV).v=true):KCS Tryz.prog f (s3 fun n l i=>@Bool.rec (fun _=>KV) z (w n l i) (isS n l i)) :=
 xm hf fun l K hs=>by
  obtain⟨a,b,c,rfl,hs⟩:=ZU hs
  obtain⟨n,rfl,hs⟩:=zu hs
  obtain⟨l,rfl,hs⟩:=zu hs
  obtain⟨i,rfl,hs⟩:=zu hs
  obtain⟨hn,hk⟩:=ze hs
  obtain⟨q1,q2⟩:=zR hn
  exact⟨EO0,zr,rfl,200,_,_,hk,hr n l i,fun r hr=>by rw[vC (yg hr)]; exact Imp.refl _,zmN h1 h2 h3 q1 q2⟩
def zCL:zh:=s3 fun n l i=>@Bool.rec (fun _=>KV) (Jv 0 1) (zi3 n l i) (isS n l i)
def zCM:zh:=s3 fun n l i=>@Bool.rec (fun _=>KV) (.bool false) (zmM n l i) (isS n l i)
theorem zi6:KCS Tryz.prog 193 zCL:=zxZ ⟨Tryz.f193,Tryz.func193,by kernel_rfl,by kernel_rfl⟩ (Eq.mpr zxS (zcy _ _)) (Eq.mpr zxV (zi4 _ _)) (Eq.mpr zxX (zi5 _ _)) fun n l i=>by cases isS n l i<;>rfl
theorem zsP:KCS Tryz.prog 124 zCM:=zxZ ⟨Tryz.f124,Tryz.func124,by kernel_rfl,by kernel_rfl⟩ (Eq.mpr zxT (zcy _ _)) (Eq.mpr zxW (zi4 _ _)) (Eq.mpr zxY (zi5 _ _)) fun n l i=>by cases isS n l i<;>rfl
def zCN:zh:=fun l K=>la3 l fun a b c=>z6 a fun n=>z6 b fun l=>z6 c fun i=>chk (nd (zC n) (isS n l i)) 922 (K (nI (zx n l i)))
theorem zi7:KCS Tryz.prog 117 zCN :=
 xm ⟨Tryz.f117,Tryz.func117,by kernel_rfl,by kernel_rfl⟩ fun l K hs=>by
  obtain⟨a,b,c,rfl,hs⟩:=ZU hs
  obtain⟨n,rfl,hs⟩:=zu hs
  obtain⟨l,rfl,hs⟩:=zu hs
  obtain⟨i,rfl,hs⟩:=zu hs
  obtain⟨hn,hk⟩:=ze hs
  obtain⟨hn,hi⟩:=zd.1 hn
  obtain⟨q1,q2⟩:=zR hn
  obtain⟨m,rfl⟩:∃ m,n=Nat.succ m:=⟨n - 1,by omega⟩
  have hm:m < 24:=by omega
  have hl:l < 3:=by
   refine Classical.byContradiction fun hl=>?_
   obtain⟨k,rfl⟩:∃ k,l=Nat.add k 3:=⟨l - 3,by show l=l - 3 + 3; omega⟩
   rw[ZS,Vm m k hm] at hi
   omega
  have:=ZT m l hm hl
  have hi':=ZS.1 hi
  exact⟨EO0,zr,rfl,200,_,_,hk,rfl,fun r hr=>by rw[vC (yg hr)]; exact Imp.refl _,zbd (zw (zw (zw (Eq.mpr zxU (zcy _ _):Qj 117 zsO true) m hm) l hl) i (by omega)) hi⟩
end
end Go.K
