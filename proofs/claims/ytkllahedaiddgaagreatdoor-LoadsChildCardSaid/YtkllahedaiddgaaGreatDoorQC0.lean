/- nodes.Get and what it calls: their runs. No condition. -/
import Derived.Test.YtkllahedaiddgaaGreatDoorAE1
import Derived.Test.YtkllahedaiddgaaGreatDoorRW
import Derived.Test.YtkllahedaiddgaaGreatDoorMTT
import Derived.Test.YtkllahedaiddgaaGreatDoorNF
set_option linter.unusedSimpArgs false
set_option linter.unusedVariables false
set_option maxRecDepth 100000
namespace Go.K
open Go.Ab Go.RowKit Go.Y Go.Proofs
noncomputable section
attribute [local instance 10000] gO
noncomputable def zrb:List Nat:=[1,2,4,8,16,32,64,128,27,54]
noncomputable def tE (x:Nat→Nat) (r k:Nat):Nat:=@Nat.rec (fun _=>Nat) (C.x8 (C.sub (C.fx x 13)) (nN zrb r)) (fun k _=>C.sub (C.fx x (Nat.add 12 (Nat.mod (Nat.add k 2) 4)))) k
noncomputable def w0E (x:Nat→Nat) (r k:Nat):Nat:=C.x8 (C.fx x k) (tE x r k)
noncomputable def w1E (x:Nat→Nat) (r k:Nat):Nat:=C.x8 (C.fx x (Nat.add 4 k)) (w0E x r k)
noncomputable def w2E (x:Nat→Nat) (r k:Nat):Nat:=C.x8 (C.fx x (Nat.add 8 k)) (w1E x r k)
noncomputable def w3E (x:Nat→Nat) (r k:Nat):Nat:=C.x8 (C.fx x (Nat.add 12 k)) (w2E x r k)
noncomputable def rkE (key:Nat→Nat) (r:Nat):Nat→Nat:=@Nat.rec (fun _=>Nat→Nat) key (fun r x j=>@Bool.rec (fun _=>Nat) (@Bool.rec (fun _=>Nat) (@Bool.rec (fun _=>Nat) (w3E x r (Nat.sub j 12)) (w2E x r (Nat.sub j 8)) (Nat.blt j 12)) (w1E x r (Nat.sub j 4)) (Nat.blt j 8)) (w0E x r j) (Nat.blt j 4)) r
noncomputable def gE (key:Nat→Nat) (j:Nat):Nat:=rkE key (Nat.div j 16) (Nat.mod j 16)
def ixE (key:Nat→Nat) (q:Prop) (r:Nat):Prop:=C.ix (C.fx (rkE key r) 13) (C.ix (C.fx (rkE key r) 14) (C.ix (C.fx (rkE key r) 15) (C.ix (C.fx (rkE key r) 12) q)))
def chE (key:Nat→Nat) (q:Prop) (n:Nat):Prop:=@Nat.rec (fun _=>Nat→Prop) (fun _=>q) (fun _ ih r=>ixE key (ih (Nat.succ r)) r) n 0
noncomputable def zl9:KEnv:=EO0.tab [(318,yY [] (.pk .u8 256 sbN))]
def zBz (key:Nat→Nat) (K:KV→Prop):Prop:=zi zl9 (zj zl9 300) 0 301 [xx key] .e 0 0 fun r _ _ _=>K r
theorem zBA (key:Nat→Nat) (K:KV→Prop):zBz key K=chE key (K (wdO (gE key))) 10:=by kernel_rfl
end
end Go.K
namespace Go.K
open Go.Ab Go.RowKit Go.Y Go.Proofs
noncomputable section
attribute [local irreducible] zj zi
theorem zd1 {x:KV}{f:Nat→Prop}{a b c:Nat}(h:z8 (fun k z=>chk (xa k .u8) a (@Int.rec (fun _=>Prop) (fun n=>f n) (fun _=>BadN b) z)) (BadN c) x):∃ n,x=.int .u8 (.ofNat n)∧f n:=by
 rcases zz h with ⟨k,z,rfl,h1⟩ | ⟨_,h1⟩
 ·obtain⟨h2,h3⟩:=ze h1
  obtain rfl:=zD h2
  cases z with
  | ofNat n=>exact⟨n,rfl,h3⟩
  | negSucc n=>exact (show BadN _ from h3).elim
 ·exact h1.elim
theorem zd2:KCS Tryz.prog 311 ze7:=by
 refine⟨zcE.1,fun l K hs=>?_⟩
 obtain⟨x,rfl,h1⟩:=j3 hs
 obtain⟨n,rfl,h2,h3⟩:=zd1 h1
 obtain⟨v,h4,h5⟩:=zcE.2 [.int .u8 (.ofNat n)] K (by
  show chk (xa .u8 .u8) 253 (chk (Nat.blt n 256) 254 (zW (pkr .u8 sbN n) fun r=>K (.int .u8 (.ofNat r))))
  rw[show Nat.blt n 256=true by rw[Nat.blt_eq]; exact h2,zZ]
  exact h3)
 exact⟨v,h4,h5⟩
theorem zma:KCS Tryz.prog 328 zp0:=by
 refine⟨zjx.1,fun l K hs=>?_⟩
 obtain⟨x,y,rfl,h1⟩:=zgR hs
 obtain⟨m,rfl,h2⟩:=zd1 h1
 obtain⟨n,rfl,h3⟩:=zd1 h2
 obtain⟨h4,h5,h6⟩:=ze h3
 have hm:m < 4:=by rwa [Nat.blt_eq] at h4
 obtain⟨v,h7,h8⟩:=zjx.2 [.int .u8 (.ofNat m),.int .u8 (.ofNat n)] K (by
  show chk (xa .u8 .u8) 253 (chk (Nat.blt m 256) 254 (chk (xa .u8 .u8) 253 (chk (Nat.blt n 256) 254 (chk (Nat.blt m 4) 259 (zW (pkr .u8 mtN (Nat.add (Nat.mul 256 m) n)) fun r=>K (.int .u8 (.ofNat r)))))))
  rw[show Nat.blt n 256=true by rw[Nat.blt_eq]; exact h5,show Nat.blt m 256=true by rw[Nat.blt_eq]; omega,h4,zZ]
  exact h6)
 exact⟨v,h7,h8⟩
theorem okS:@KOk gO ES:=@KOk.tab gO EO0 zr _ ⟨zd2.opn,zma.opn,trivial⟩
def zrc:zh:=fun l K=>lb2 l fun s b=>W5 (fun n d t=>chk (Nat.beq n 11) 420 (chk (JF (.ar 11 d t) 11) 421 (wh (fun kd m x=>chk (nd (xa kd .u8) (Nat.beq m 16)) 422 (zug (.ar 11 d t) x fun z=>K (.pk .u8 16 z))) (BadN 423) b))) (BadN 424) s
theorem zvY:∃ fn,Tryz.prog.funcs[296]?=some fn∧(fn.name == "runtime.NumGoroutine")=false∧fn.body.isNone=false:=⟨Tryz.f296,Tryz.func296,(zf6.get Tryz.func296).1,by kernel_rfl⟩
theorem Jm {a b a' b':V}(h1:Imp a a') (h2:Imp b b'):∀ C m,R C (mkL [a,b]) m→R C (mkL [a',b']) m:=fun C m h=>R.cons_map (fun m h=>h1 C m h) (fun m h=>R.cons_map (fun m h=>h2 C m h) (fun m h=>h) h) h
theorem zie (k:IntKind) (n x:Nat):zA (KV.pk k n x).v=true:=by
 rw[wI]
 show ((List.range n).all fun i=>zA (.int k (pkg k x i)))=true
 rw[List.all_eq_true]; intro i _; rfl
theorem zrd:@KCS gO Tryz.prog 296 zrc:=by
 refine @zbR gO Tryz.prog 296 zrc zvY fun l K hs=>?_
 obtain⟨s,b,rfl,h1⟩:=zgR hs
 rcases jb h1 with ⟨n,d,t,rfl,h2⟩ | ⟨_,h2⟩
 ·obtain⟨h3,h4⟩:=ze h2
  obtain rfl:=zI h3
  obtain⟨h5,h6⟩:=ze h4
  rcases xp h6 with ⟨kd,m,x,rfl,h7⟩ | ⟨_,h7⟩
  ·obtain⟨h8,h9⟩:=ze h7
   obtain⟨h10,h11⟩:=zd.1 h8
   obtain rfl:=zD h10
   obtain rfl:=zI h11
   obtain⟨z,h12,h13⟩:=zui h9
   refine⟨ES,okS,rfl,200,fun r=>r=xx (C.enc (jr x) (gOf (.ar 11 d t))),_,[Zi (gOf (.ar 11 d t)),xx (jr x)],h12,zie _ _ _,fun r hr=>by rw[hr]; exact zkh h13,?_,zbt _ _⟩
   exact Jm (znq h5) (zbo fun i _=>rfl)
  ·exact h7.elim
 ·exact h2.elim
end
end Go.K
namespace Go.K
open Go.Ab Go.RowKit Go.Y Go.Proofs
noncomputable section
attribute [local irreducible] zj zi
theorem zk0:KCS E1.P 318 (yY [] (.pk .u8 256 sbN)):=by
 have h:=zFn
 unfold zw3 at h
 exact WE ok1 h (by kernel_rfl) rfl
end
end Go.K
namespace Go.K
open Go.Ab Go.RowKit Go.Y Go.Proofs
noncomputable section
attribute [local irreducible] zj zi
def zij (n:Nat) (v:KV):Prop:=@zi gO EO0 (@zj gO EO0 40) 0 319 [.int .u8 (.ofNat n)] .e 0 0 fun r _ _ _=>r=v
theorem zfN (n:Nat) (v:KV):zij n v=alt (ltI (.ofNat 127) (.ofNat n)) (KV.int .u8 (zgw .u8 (zfh .u8 (.ofNat n) 1) (.ofNat 27))=v) (KV.int .u8 (zfh .u8 (.ofNat n) 1)=v):=by kernel_rfl
theorem zik (n:Nat):zij n (.int .u8 (.ofNat (C.dbl n))):=by
 rw[zfN]
 refine zg.2 ⟨fun h=>?_,fun h=>?_⟩
 ·have h:Nat.blt 127 n=true:=h
  unfold C.dbl
  rw[h]
  rfl
 ·have h:Nat.blt 127 n=false:=h
  unfold C.dbl
  rw[h]
  rfl
theorem zBG:∃ fn,Tryz.prog.funcs[319]?=some fn∧(fn.name == "runtime.NumGoroutine")=false∧fn.body.isNone=false:=⟨Tryz.f319,Tryz.func319,(zf6.get Tryz.func319).1,by kernel_rfl⟩
theorem zBH:∃ fn,Tryz.prog.funcs[300]?=some fn∧(fn.name == "runtime.NumGoroutine")=false∧fn.body.isNone=false:=⟨Tryz.f300,Tryz.func300,(zf6.get Tryz.func300).1,by kernel_rfl⟩
theorem zmf:@KCS gO Tryz.prog 319 zjK:=by
 refine @zBv gO EO0 zr 319 zjK zBG fun l K hs=>?_
 obtain⟨x,rfl,h1⟩:=j3 hs
 obtain⟨n,rfl,_,h3⟩:=zd1 h1
 exact⟨40,_,_,h3,rfl,fun _ _ h=>h,zik n⟩
theorem zBI:@KOk gO ESR:=@KOk.tab gO EO0 zr _ ⟨zmf,zk0.opn,trivial⟩
theorem zd4 (x:Nat→Nat) (i:Nat):C.rotR x i < 256:=qi .u8 _ _
theorem zd5 (f g:Nat→Nat):∀ k i,C.rndR f g k i < 256
 | 0,i=>wR _ _
 | k + 1,i=>wR _ _
theorem zil {x:Nat}{X:Prop}(h:x < 256) (hx:X):C.ix x X:=by
 refine za.2 ⟨?_,hx⟩
 show (Nat.ble 0 x&&Nat.blt x 256)=true
 rw[Bool.and_eq_true,Nat.ble_eq,Nat.blt_eq]
 exact⟨Nat.zero_le _,h⟩
theorem zim {x:Nat→Nat}{X:Prop}(h:∀ i,x i < 256) (hx:X):∀ n,C.ixs x n X
 | 0=>hx
 | n + 1=>zil (by rw[jj]; exact h _) (zim h hx n)
theorem zoD {f g:Nat→Nat}{X:Prop}(hx:X):∀ n,C.rds f g X n
 | 0=>zim (zd5 _ _ _) hx _
 | n + 1=>zim (zd5 _ _ _) (zbs (fun t=>by rw[jj]; exact zd4 _ _) (zoD hx n) _ _) _
theorem zin (f g:Nat→Nat):zjL f g (xx (C.encR f g)):=by
 rw[zf2]
 exact zoD rfl 9
end
end Go.K
set_option maxRecDepth 100000
namespace Go.K
open Go.Ab Go.RowKit Go.Y Go.Proofs
noncomputable section
attribute [local instance 10000] gO
theorem zwC:KOk zl9:=zr.tab (l:=[(318,yY [] (.pk .u8 256 sbN))]) ⟨zk0.opn,trivial⟩
theorem Jr {key:Nat→Nat}(h:∀ i,key i < 256):∀ r j,rkE key r j < 256
 | 0,j=>h j
 | r + 1,j=>by
  show @Bool.rec (fun _=>Nat) (@Bool.rec (fun _=>Nat) (@Bool.rec (fun _=>Nat) _ _ (Nat.blt j 12)) _ (Nat.blt j 8)) _ (Nat.blt j 4) < 256
  cases Nat.blt j 4 with
  | true=>exact wR _ _
  | false=>cases Nat.blt j 8 with
   | true=>exact wR _ _
   | false=>cases Nat.blt j 12 with
    | true=>exact wR _ _
    | false=>exact wR _ _
theorem zrT {key:Nat→Nat}(h:∀ i,key i < 256) {q:Prop}(hq:q) (r:Nat):ixE key q r:=by
 unfold ixE
 rw[jj,jj,jj,jj]
 exact zil (Jr h _ _) (zil (Jr h _ _) (zil (Jr h _ _) (zil (Jr h _ _) hq)))
theorem zrU {key:Nat→Nat}(h:∀ i,key i < 256) {q:Prop}(hq:q) (n:Nat):chE key q n:=by
 have main:∀ n r,(@Nat.rec (fun _=>Nat→Prop) (fun _=>q) (fun _ ih r=>ixE key (ih (Nat.succ r)) r) n r:Prop):=by
  intro n
  induction n with
  | zero=>intro r; exact hq
  | succ n ih=>intro r; exact zrT h (ih (r + 1)) r
 exact main n 0
theorem zwD (g:Nat→Nat):zA (wdO g).v=true:=by kernel_rfl
theorem zmr (f:Nat→Nat):zA (xx f).v=true:=by kernel_rfl
theorem zoV:KCS Tryz.prog 301 (xM (fun key:Nat→Nat=>[xx key]) (fun key=>∀ i,key i < 256) fun key=>wdO (gE key)):=xm ⟨Tryz.f301,Tryz.func301,by kernel_rfl,by kernel_rfl⟩ fun l K hs=>by
 obtain⟨key,rfl,h,hk⟩:=hs
 exact⟨zl9,zwC,rfl,300,fun r=>r=wdO (gE key),_,hk,zwD _,fun r hr=>by rw[hr]; exact Imp.refl _,Eq.mpr (zBA key _) (zrU h rfl 10)⟩
theorem zoW:KCS Tryz.prog 300 (xM (fun x:(Nat→Nat)×(Nat→Nat)=>[wdO x.2,xx x.1]) (fun _=>True) fun x=>xx (C.encR x.1 x.2)):=xm zBH fun l K hs=>by
 obtain⟨⟨f,g⟩,rfl,_,hk⟩:=hs
 exact⟨ESR,zBI,rfl,200,fun r=>r=xx (C.encR f g),_,hk,zmr _,fun r hr=>by rw[hr]; exact Imp.refl _,zin f g⟩
noncomputable def zms (key:Nat→Nat) (g:Nat→Nat) (b r:Nat→Nat):KEnv:=EO0.tab [(301,zq [xx key] (wdO g)),(300,zq [wdO g,xx b] (xx r))]
def zwE (key g b r:Nat→Nat) (K:KV→Prop):Prop:=zi (zms key g b r) (zj (zms key g b r) 300) 0 280 [xx key,xx b] .e 0 0 fun r _ _ _=>K r
theorem zB8 (key g b r:Nat→Nat) (K:KV→Prop):zwE key g b r K=([xx key]=[xx key]∧[wdO g,xx b]=[wdO g,xx b]∧K (xx r)):=by kernel_rfl
noncomputable def wK (k b:List Nat):List Nat:=lsF 16 (C.encR (nN b) (gE (nN k)))
theorem qr (f:Nat→Nat):xx f=kBy 16 f:=by kernel_rfl
theorem ziy (n:Nat) (f:Nat→Nat):Imp (kBy n f).v (kBy n (nN (lsF n f))).v:=qV fun i hi=>by
 refine (qU (f:=fun i=>kU8 (f i)) hi).trans ?_
 rw[vR hi]
noncomputable def wL (n:Nat) (l:List Nat):KV:=.ro true false .sc 0 n (.fa n fun i=>kU8 (nN l i))
def zjh (cp:CP) (lk:Nat) (k:List Nat) (lm:Nat) (m:List Nat) (L:List Nat):Prop:=zi (E55 cp) (zj (E55 cp) 300) 0 108 [wL lk k,wL lm m] .e 0 0 fun r _ _ _=>byQ 32 L r
noncomputable def xo8 (a b:Nat):Nat:=Nat.mod (Nat.xor a b) 256
noncomputable def kz (k:List Nat) (lk i:Nat):Nat:=@Bool.rec (fun _=>Nat) 0 (nN k i) (Nat.blt i lk)
noncomputable def zfS (k:List Nat) (lk x:Nat):List Nat:=lsF 64 fun i=>xo8 (kz k lk i) x
noncomputable def hmL (cp:CP) (p32 p64:Nat→List Nat) (k:List Nat) (lk:Nat) (m:List Nat) (lm nb:Nat):List Nat:=vD cp p32 p64 (apL (zfS k lk 92) (vD cp p32 p64 (apL (zfS k lk 54) (lsF lm (nN m))) (Nat.add 64 lm) nb)) 96 2
def Zf (n:Nat) (v:KV) (f:List Nat→Prop):Prop:=Xu (fun u cl e off len c=>chk (nd (xF e) (nd (Nat.beq len n) (isO off n c))) 940 (f (lsO c off n))) (BadN 941) v
theorem zpV (C:Ctx):Keep C (X1 C):=⟨fun _ h=>h,fun _ _=>rfl,fun _ _=>rfl,fun u b h=>by
 cases u
 ·exact .inl h
 ·exact .inr h,fun _ _ _=>rfl⟩
theorem zEr {C:Ctx}{u cl:Bool}{n:Nat}{f g:Nat→V}{m:Ab.M}(h:R C (.ro u cl .sc n f) m) (hfg:∀ i,i < n→f i=g i):R (X1 C) (.ro true false .sc n g) m:=by
 obtain⟨a,c,h1,h2,h3,h4⟩:=h
 refine⟨a,c,h1,h2,(fun h=>by cases h),h4.imp (fun h=>h) ?_⟩
 rintro⟨b,o,q1,q2,q3⟩
 refine⟨b,o,q1,?_,fun i hi=>?_⟩
 ·cases u
  ·exact .inl q2
  ·exact .inr q2
 ·rw[←hfg i hi]
  exact R.keep (C:=C.pur) (C':=(X1 C).pur) ⟨fun _ h=>h,fun _ _=>rfl,fun _ _=>rfl,fun u b h=>by
   cases u
   ·exact .inl h
   ·exact .inr h,fun _ _ _=>rfl⟩ _ _ (q3 i hi)
theorem zcZ {n:Nat}{v:KV}{f:List Nat→Prop}(h:Zf n v f):∃ l:List Nat,f l∧∀ C m,R C v.v m→R (X1 C) (wL n l).v m:=by
 rcases xJ h with ⟨u,cl,e,off,len,c,rfl,h7⟩ | ⟨_,h7⟩
 ·obtain⟨h8,h5⟩:=ze h7
  obtain⟨h10,h11⟩:=zd.1 h8
  obtain⟨h12,h13⟩:=zd.1 h11
  obtain rfl:=jB h10
  obtain rfl:=zI h12
  obtain⟨h14,h15⟩:=zd.1 h13
  obtain⟨m,g,hv,hg⟩:=we h14
  have hro:(KV.ro u cl .sc off len c).v=.ro u cl .sc len fun i=>g (off + i):=by
   rw[Xx]
   congr 1
   funext i
   rw[hv]; rfl
  have hgi:∀ i,i < len→g (off + i)=.int .u8 (.ofNat (ntK c (off + i))):=fun i hi=>by
   obtain⟨n',hn⟩:=ziw (Jp h15 i (List.mem_range.1 (List.mem_range.2 hi)))
   rw[hg (off + i)]
   unfold ntK
   rw[show zQ (off + i) c=_ from hn]; rfl
  refine⟨_,h5,fun C md hr=>?_⟩
  ·rw[hro] at hr
   refine zEr hr fun i hi=>?_
   rw[hgi i hi]
   show _=(kU8 (nN (lsO c off len) (0 + i))).v
   rw[Nat.zero_add,zd6 c off len i hi]
   rfl
 ·exact h7.elim
noncomputable def sHm (lk lm nb:Nat):zh:=fun l K=>la2 l fun x y=>Zf lk x fun k=>Zf lm y fun m=>K (kBy 32 (nN (hmL cfR R32 R64 k lk m lm nb)))
theorem kHm {lk lm nb:Nat}(h:∀ k m:List Nat,zjh cfR lk k lm m (hmL cfR R32 R64 k lk m lm nb)):KCS Tryz.prog 108 (sHm lk lm nb):=by
 have h0:∀ k m:List Nat,KCS Tryz.prog 108 (zq [wL lk k,wL lm m] (kBy 32 (nN (hmL cfR R32 R64 k lk m lm nb)))):=fun k m=>xm ⟨Tryz.f108,Tryz.func108,by kernel_rfl,by kernel_rfl⟩ fun l K hs=>by
  obtain⟨rfl,hk⟩:=hs
  refine⟨E55 cfR,znh,rfl,300,byQ 32 (hmL cfR R32 R64 k lk m lm nb),_,hk,jY _,fun r hr=>?_,h k m⟩
  have:=XU hr.1
  rwa [hr.2] at this
 refine⟨⟨Tryz.f108,Tryz.func108,by kernel_rfl,by kernel_rfl⟩,fun l K hs=>?_⟩
 obtain⟨x,y,rfl,h1⟩:=ju hs
 obtain⟨k,h2,rx⟩:=zcZ h1
 obtain⟨m,h3,ry⟩:=zcZ h2
 refine (za7 (h0 k m) (l:=[x,y]) (l':=[wL lk k,wL lm m]) (w:=kBy 32 (nN (hmL cfR R32 R64 k lk m lm nb))) (fun C md hr=>?_) (by kernel_rfl) (jY _) fun K hK=>⟨rfl,hK⟩).2 [x,y] K ⟨rfl,h3⟩
 exact R.cons_map (rx C) (fun md=>R.cons_map (ry C) fun md=>R.keep (zpV C) _ md) hr
theorem zm9 (cp:CP) (k m:List Nat):zjh cp 7 k 32 m (hmL cp R32 R64 k 7 m 32 2)=qB (hmL cp R32 R64 k 7 m 32 2):=by kernel_rfl
theorem ztL (cp:CP) (k m:List Nat):zjh cp 32 k 8 m (hmL cp R32 R64 k 32 m 8 2)=qB (hmL cp R32 R64 k 32 m 8 2):=by kernel_rfl
theorem ztM (cp:CP) (k m:List Nat):zjh cp 32 k 4 m (hmL cp R32 R64 k 32 m 4 2)=qB (hmL cp R32 R64 k 32 m 4 2):=by kernel_rfl
theorem zna (cp:CP) (k m:List Nat):zjh cp 32 k 48 m (hmL cp R32 R64 k 32 m 48 2)=qB (hmL cp R32 R64 k 32 m 48 2):=by kernel_rfl
abbrev HM:=List Nat→Nat→List Nat→Nat→List Nat
noncomputable def sH1 (h:HM) (lk lm:Nat):zh:=fun l K=>la2 l fun x y=>Zf lk x fun k=>Zf lm y fun m=>K (kBy 32 (nN (h k lk m lm)))
noncomputable def zjM (h:HM):zh:=fun l K=>la2 l fun x y=>Xu (fun _ _ _ _ n _=>@Bool.rec (fun _=>Prop) (@Bool.rec (fun _=>Prop) (@Bool.rec (fun _=>Prop) (@Bool.rec (fun _=>Prop) (BadN 950) (sH1 h 32 48 l K) (Nat.beq n 48)) (sH1 h 32 4 l K) (Nat.beq n 4)) (sH1 h 32 8 l K) (Nat.beq n 8)) (sH1 h 7 32 l K) (Nat.beq n 32)) (BadN 951) y
noncomputable def hmR:HM:=fun k lk m lm=>hmL cfR R32 R64 k lk m lm 2
theorem zzh:KCS Tryz.prog 108 (zjM hmR):=⟨⟨Tryz.f108,Tryz.func108,by kernel_rfl,by kernel_rfl⟩,fun l K hs=>by
 obtain⟨x,y,rfl,h1⟩:=ju hs
 rcases xJ h1 with ⟨_,_,_,_,n,_,_,h2⟩ | ⟨_,h2⟩
 ·cases e1:Nat.beq n 32 with
  | true=>rw[e1] at h2; exact (kHm fun k m=>Eq.mpr (zm9 cfR k m) ⟨rfl,rfl⟩).2 _ K h2
  | false =>
   rw[e1] at h2
   cases e2:Nat.beq n 8 with
   | true=>rw[e2] at h2; exact (kHm fun k m=>Eq.mpr (ztL cfR k m) ⟨rfl,rfl⟩).2 _ K h2
   | false =>
    rw[e2] at h2
    cases e3:Nat.beq n 4 with
    | true=>rw[e3] at h2; exact (kHm fun k m=>Eq.mpr (ztM cfR k m) ⟨rfl,rfl⟩).2 _ K h2
    | false =>
     rw[e3] at h2
     cases e4:Nat.beq n 48 with
     | true=>rw[e4] at h2; exact (kHm fun k m=>Eq.mpr (zna cfR k m) ⟨rfl,rfl⟩).2 _ K h2
     | false=>rw[e4] at h2; exact (show BadN 950 from h2).elim
 ·exact (show BadN 951 from h2).elim⟩
noncomputable def ztN (h:HM):KEnv:=EO0.tab [(108,zjM h)]
def zDH (h:HM) (m:List Nat) (K:KV→Prop):Prop:=zi (ztN h) (zj (ztN h) 300) 0 101 [kBy 32 (nN m)] .e 0 0 fun r _ _ _=>K r
noncomputable def zzi (h:HM) (m:List Nat):List Nat:=h [99,97,105,115,115,111,110] 7 (lsF 32 (nN m)) 32
noncomputable def znb (h:HM) (m:List Nat):List Nat:=h (lsF 32 (nN (zzi h m))) 32 [101,110,99,114,121,112,116,1] 8
noncomputable def znc (h:HM) (m:List Nat):List Nat:=h (lsF 32 (nN (zzi h m))) 32 [109,97,99,1] 4
noncomputable def zjN (a b:List Nat):KV:=.tup (.cons (kBy 16 (nN a)) (.cons (kBy 32 (nN b)) .nl))
theorem zDI (h:HM) (m:List Nat) (K:KV→Prop):zDH h m K=K (zjN (znb h m) (znc h m)):=by kernel_rfl
theorem ztO (a b:List Nat):zA (zjN a b).v=true:=by kernel_rfl
theorem zpy:KCS Tryz.prog 101 (xM (fun m:List Nat=>[kBy 32 (nN m)]) (fun _=>True) fun m=>zjN (znb hmR m) (znc hmR m)):=xm ⟨Tryz.f101,Tryz.func101,by kernel_rfl,by kernel_rfl⟩ fun l K hs=>by
 obtain⟨m,rfl,_,hk⟩:=hs
 exact⟨ztN hmR,zr.tab (l:=[(108,zjM hmR)]) ⟨zzh,trivial⟩,rfl,300,fun r=>r=zjN (znb hmR m) (znc hmR m),_,hk,ztO _ _,fun r hr=>by rw[hr]; exact Imp.refl _,Eq.mpr (zDI hmR m _) rfl⟩
abbrev AF:=List Nat→List Nat→List Nat
noncomputable def zrp (P:List Nat→Prop) (aes:AF):zh:=fun l K=>la2 l fun x y=>chk (isA .u8 16 x) 960 (chk (isA .u8 16 y) 961 (P (lsK x 16)∧K (kBy 16 (nN (aes (lsK x 16) (lsK y 16))))))
noncomputable def E34 (P:List Nat→Prop) (aes:AF) (h:HM):KEnv:=EO0.tab [(280,zrp P aes),(108,zjM h)]
noncomputable def noK (a b:Nat):KV:=.cons (je a) (.cons (XZ b) .nl)
def p34 (P:List Nat→Prop) (aes:AF) (h:HM) (en mc:List Nat) (i a b:Nat) (p:List Nat) (K:KV→Prop):Prop:=zi (E34 P aes h) (zj (E34 P aes h) 300) 0 34 [kBy 16 (nN en),kBy 32 (nN mc),nI i,noK a b,kBy 32 (nN p)] .e 0 0 fun r _ _ _=>K r
noncomputable def zrq (a b c:Nat):List Nat:=apL (R32 a) (apL (R64 b) (R32 c))
noncomputable def ZO (aes:AF) (en:List Nat) (a b:Nat) (p:List Nat):List Nat:=lsF 32 fun j=>xo8 (nN p j) (nN (aes (lsF 16 (nN en)) (lsF 16 (nN (zrq a b (Nat.div j 16))))) (Nat.mod j 16))
noncomputable def zrr (i a b:Nat) (d:List Nat):List Nat:=lsF 48 (nN (apL (R32 (Nat.mod i 4294967296)) (apL (R32 a) (apL (R64 b) d))))
noncomputable def Jo (h:HM) (mc:List Nat) (i a b:Nat) (d:List Nat):List Nat:=h (lsF 32 (nN mc)) 32 (zrr i a b d) 48
noncomputable def zio (d t:List Nat):KV:=.tup (.cons (kBy 32 (nN d)) (.cons (kBy 32 (nN t)) .nl))
theorem e34 (P:List Nat→Prop) (aes:AF) (h:HM) (en mc:List Nat) (i a b:Nat) (p:List Nat) (K:KV→Prop):p34 P aes h en mc i a b p K=(P (lsF 16 (nN en))∧P (lsF 16 (nN en))∧K (zio (ZO aes en a b p) (Jo h mc i a b (ZO aes en a b p)))):=by kernel_rfl
def x6 (l:List Nat):Prop:=∀ i,nN l i < 256
theorem zwG (k b:List Nat) (h:x6 k):KOk (zms (nN k) (gE (nN k)) (nN b) (C.encR (nN b) (gE (nN k)))):=zr.tab (l:=[(301,zq [xx (nN k)] (wdO (gE (nN k)))),(300,zq [wdO (gE (nN k)),xx (nN b)] (xx (C.encR (nN b) (gE (nN k)))))]) ⟨⟨zoV.1,fun l K hs=>zoV.2 l K (by
  obtain⟨rfl,h1⟩:=hs
  exact⟨nN k,rfl,h,h1⟩)⟩,⟨zoW.1,fun l K hs=>zoW.2 l K (by
  obtain⟨rfl,h1⟩:=hs
  exact⟨(nN b,gE (nN k)),rfl,trivial,h1⟩)⟩,trivial⟩
theorem zwH:KCS Tryz.prog 280 (zrp x6 wK):=zbR ⟨Tryz.f280,Tryz.func280,by kernel_rfl,by kernel_rfl⟩ fun l K hs=>by
 obtain⟨x,y,rfl,h1⟩:=ju hs
 obtain⟨h2,h3⟩:=ze h1
 obtain⟨h4,h5,h6⟩:=ze h3
 refine⟨zms (nN (lsK x 16)) (gE (nN (lsK x 16))) (nN (lsK y 16)) (C.encR (nN (lsK y 16)) (gE (nN (lsK x 16)))),zwG _ _ h5,rfl,300,fun r=>r=xx (C.encR (nN (lsK y 16)) (gE (nN (lsK x 16)))),_,[xx (nN (lsK x 16)),xx (nN (lsK y 16))],h6,jY _,fun r hr=>?_,?_,?_⟩
 ·rw[hr,qr]
  exact ziy 16 _
 ·rw[qr,qr]
  exact Jm (XU h2) (XU h4)
 ·show zwE _ _ _ _ _
  rw[zB8]
  exact⟨rfl,rfl,rfl⟩
abbrev P6s:=List Nat×List Nat×Nat×Nat×Nat×List Nat
noncomputable def zCa (x:P6s):List KV:=[kBy 16 (nN x.1),kBy 32 (nN x.2.1),nI x.2.2.1,noK x.2.2.2.1 x.2.2.2.2.1,kBy 32 (nN x.2.2.2.2.2)]
noncomputable def sdL (x:P6s):List Nat:=ZO wK x.1 x.2.2.2.1 x.2.2.2.2.1 x.2.2.2.2.2
noncomputable def zcj (x:P6s):List Nat:=Jo hmR x.2.1 x.2.2.1 x.2.2.2.1 x.2.2.2.2.1 (sdL x)
theorem zrW (d t:List Nat):zA (zio d t).v=true:=by kernel_rfl
theorem ZQ {n:Nat}{l:List Nat}(h:x6 l):x6 (lsF n (nN l)):=fun i=>by
 rcases Nat.lt_or_ge i n with hi | hi
 ·rw[vR hi]; exact h i
 ·exact xV (by omega) (xy fun i _=>h i) i
theorem zwI:KOk (E34 x6 wK hmR):=zr.tab (l:=[(280,zrp x6 wK),(108,zjM hmR)]) ⟨zwH,zzh,trivial⟩
theorem ziz:KCS Tryz.prog 34 (xM zCa (fun x=>x6 x.1) fun x=>zio (sdL x) (zcj x)):=xm ⟨Tryz.f34,Tryz.func34,by kernel_rfl,by kernel_rfl⟩ fun l K hs=>by
 obtain⟨⟨en,mc,i,a,b,p⟩,rfl,h,hk⟩:=hs
 have h:x6 en:=h
 exact⟨E34 x6 wK hmR,zwI,rfl,300,fun r=>r=zio (sdL (en,mc,i,a,b,p)) (zcj (en,mc,i,a,b,p)),_,hk,zrW _ _,fun r hr=>by rw[hr]; exact Imp.refl _,Eq.mpr (e34 x6 wK hmR en mc i a b p _) ⟨ZQ h,ZQ h,rfl⟩⟩
noncomputable def zwJ (n:Nat):Bool:=nd (Nat.beq (C.mul 1 n) n) (nd (Nat.beq (C.mul 2 n) (C.dbl n)) (Nat.beq (C.mul 3 n) (C.x8 (C.dbl n) n)))
noncomputable def ziA (p:Nat→Bool) (n:Nat):Bool:=@Nat.rec (fun _=>Bool) true (fun k ih=>nd (p k) ih) n
theorem zed {p:Nat→Bool}:∀ {n:Nat},ziA p n=true→∀ i,i < n→p i=true
 | 0,_,i,hi=>absurd hi (Nat.not_lt_zero i)
 | n + 1,h,i,hi=>by
  obtain⟨h1,h2⟩:=zd.1 (show nd (p n) (ziA p n)=true from h)
  by_cases e:i=n
  ·rw[e]; exact h1
  ·exact zed h2 i (by omega)
theorem zmt:ziA zwJ 256=true:=by kernel_rfl
theorem zwK {n:Nat}(h:n < 256):C.mul 1 n=n∧C.mul 2 n=C.dbl n∧C.mul 3 n=C.x8 (C.dbl n) n:=by
 obtain⟨h1,h2⟩:=zd.1 (zed zmt n h)
 obtain⟨h2,h3⟩:=zd.1 h2
 exact⟨zI h1,zI h2,zI h3⟩
theorem ziB {a b:Nat}(ha:a < 256) (hb:b < 256):a ^^^ b < 256:=Nat.xor_lt_two_pow (n:=8) ha hb
theorem zwL {a b:Nat}(ha:a < 256) (hb:b < 256):C.x8 a b=a ^^^ b:=Nat.mod_eq_of_lt (ziB ha hb)
theorem Yi (n:Nat):C.dbl n < 256:=by
 unfold C.dbl
 cases Nat.blt 127 n<;>exact Nat.mod_lt _ (by decide)
theorem zrX {a b c d:Nat}(ha:a < 256) (hb:b < 256) (hc:c < 256) (hd:d < 256) :
  C.x8 (C.x8 (C.x8 (C.x8 0 (C.dbl a)) (C.x8 (C.dbl b) b)) c) d=C.mx0 a b c d ∧
  C.x8 (C.x8 (C.x8 (C.x8 0 (C.dbl b)) (C.x8 (C.dbl c) c)) d) a=C.mx1 a b c d ∧
  C.x8 (C.x8 (C.x8 (C.x8 0 (C.dbl c)) (C.x8 (C.dbl d) d)) a) b=C.mx2 a b c d ∧
  C.x8 (C.x8 (C.x8 (C.x8 0 (C.dbl d)) (C.x8 (C.dbl a) a)) b) c=C.mx3 a b c d:=by
 have da:=Yi a
 have db:=Yi b
 have dc:=Yi c
 have dd:=Yi d
 unfold C.mx0 C.mx1 C.mx2 C.mx3
 generalize C.dbl a=A at *
 generalize C.dbl b=B at *
 generalize C.dbl c=D at *
 generalize C.dbl d=F at *
 have z:(0:Nat) < 256:=by omega
 have e:∀ {p q:Nat},p < 256→q < 256→C.x8 p q=p ^^^ q:=fun h1 h2=>zwL h1 h2
 have l:∀ {p q:Nat},p < 256→q < 256→p ^^^ q < 256:=fun h1 h2=>ziB h1 h2
 refine⟨?_,?_,?_,?_⟩
 all_goals
  simp (maxDischargeDepth:=10) only [e,l,ha,hb,hc,hd,da,db,dc,dd,z,Nat.zero_xor]
  ac_rfl
theorem zrY {x:Nat→Nat}(h:∀ i,x i < 256) (i:Nat):C.mix x i=C.mixR x i:=by
 unfold C.mix C.mixR
 simp only[jj]
 have m:=fun j=>zwK (h j)
 have ha:=h (4 * (i / 4))
 have hb:=h (4 * (i / 4) + 1)
 have hc:=h (4 * (i / 4) + 2)
 have hd:=h (4 * (i / 4) + 3)
 obtain⟨q0,q1,q2,q3⟩:=zrX ha hb hc hd
 have hi:i % 4=0∨i % 4=1∨i % 4=2∨i % 4=3:=by omega
 rcases hi with e | e | e | e<;>rw[e]<;>simp only[(m _).1,(m _).2.1,(m _).2.2]
 ·exact q0
 ·exact q1
 ·exact q2
 ·exact q3
theorem vS (x:Nat→Nat):C.rot x=C.rotR x:=rfl
theorem Yj (f g:Nat→Nat):∀ k,C.rnd f g k=C.rndR f g k
 | 0=>rfl
 | k + 1=>funext fun i=>by
  show C.x8 (C.mix (C.rot (C.rnd f g k)) i) (g (16 * (k + 1) + i))=C.x8 (C.mixR (C.rotR (C.rndR f g k)) i) (g (16 * (k + 1) + i))
  rw[Yj f g k,vS,zrY fun j=>zd4 _ _]
theorem zrZ (f g:Nat→Nat):C.enc f g=C.encR f g:=funext fun i=>by
 show C.x8 (C.rot (C.rnd f g 9) i) (g (160 + i))=C.x8 (C.rotR (C.rndR f g 9) i) (g (160 + i))
 rw[Yj,vS]
noncomputable def w0P (x:Nat→Nat) (r k:Nat):Nat:=C.x8 (tE x r k) (C.fx x k)
noncomputable def w1P (x:Nat→Nat) (r k:Nat):Nat:=C.x8 (w0P x r k) (C.fx x (Nat.add 4 k))
noncomputable def w2P (x:Nat→Nat) (r k:Nat):Nat:=C.x8 (w1P x r k) (C.fx x (Nat.add 8 k))
noncomputable def w3P (x:Nat→Nat) (r k:Nat):Nat:=C.x8 (w2P x r k) (C.fx x (Nat.add 12 k))
noncomputable def rkP (key:Nat→Nat) (r:Nat):Nat→Nat:=@Nat.rec (fun _=>Nat→Nat) key (fun r x j=>@Bool.rec (fun _=>Nat) (@Bool.rec (fun _=>Nat) (@Bool.rec (fun _=>Nat) (w3P x r (Nat.sub j 12)) (w2P x r (Nat.sub j 8)) (Nat.blt j 12)) (w1P x r (Nat.sub j 4)) (Nat.blt j 8)) (w0P x r j) (Nat.blt j 4)) r
noncomputable def gP (key:Nat→Nat) (j:Nat):Nat:=rkP key (Nat.div j 16) (Nat.mod j 16)
theorem Vk (a b:Nat):C.x8 a b=C.x8 b a:=by
 unfold C.x8
 rw[Nat.xor_comm]
theorem zoX (x:Nat→Nat) (r k:Nat):w0P x r k=w0E x r k:=Vk _ _
theorem zoY (x:Nat→Nat) (r k:Nat):w1P x r k=w1E x r k:=by
 unfold w1P w1E
 rw[zoX,Vk]
theorem zoZ (x:Nat→Nat) (r k:Nat):w2P x r k=w2E x r k:=by
 unfold w2P w2E
 rw[zoY,Vk]
theorem zwM (x:Nat→Nat) (r k:Nat):w3P x r k=w3E x r k:=by
 unfold w3P w3E
 rw[zoZ,Vk]
theorem ziC (key:Nat→Nat):∀ r,rkP key r=rkE key r
 | 0=>rfl
 | r + 1=>by
  show (fun j=>@Bool.rec (fun _=>Nat) (@Bool.rec (fun _=>Nat) (@Bool.rec (fun _=>Nat) (w3P (rkP key r) r (Nat.sub j 12)) (w2P (rkP key r) r (Nat.sub j 8)) (Nat.blt j 12)) (w1P (rkP key r) r (Nat.sub j 4)) (Nat.blt j 8)) (w0P (rkP key r) r j) (Nat.blt j 4))=fun j=>@Bool.rec (fun _=>Nat) (@Bool.rec (fun _=>Nat) (@Bool.rec (fun _=>Nat) (w3E (rkE key r) r (Nat.sub j 12)) (w2E (rkE key r) r (Nat.sub j 8)) (Nat.blt j 12)) (w1E (rkE key r) r (Nat.sub j 4)) (Nat.blt j 8)) (w0E (rkE key r) r j) (Nat.blt j 4)
  rw[ziC key r]
  simp only[zoX,zoY,zoZ,zwM]
theorem zwN (key:Nat→Nat):gP key=gE key:=funext fun j=>by
 show rkP key (Nat.div j 16) (Nat.mod j 16)=rkE key (Nat.div j 16) (Nat.mod j 16)
 rw[ziC]
noncomputable def zrJ:zh:=fun l K=>la2 l fun a b=>z6 b fun j=>a=kU8 2∧cnd (Nat.blt j 10) (K (kU8 (nN zrb j)))
def zrK (j:Nat):Prop:=zi EO0 (zj EO0 200) 0 312 [kU8 2,nI j] .e 0 0 fun r _ _ _=>tK (kvb r (kU8 (nN zrb j)))
def zce (q:Bool):Prop:=xr (fun n=>@Bool.rec (fun _=>Prop) True (zrK n) q) 10
theorem zwr:zce true=zce false:=by kernel_rfl
noncomputable def zml:KEnv:=EO0.tab [(311,ze7),(312,zrJ)]
def zBX (key:Nat→Nat) (K:KV→Prop):Prop:=zi zml (zj zml 300) 0 295 [xx key] .e 0 0 fun r _ _ _=>K r
noncomputable def zrL (key:Nat→Nat) (r:Nat):Bool:=qa 4 fun i=>v9 (jW (kU8 0) (Nat.add 12 i) (trN (rkP key r) 16)) true .sc
def zws (key:Nat→Nat) (q:Prop) (r:Nat):Prop:=alt (zrL key r) (C.fx (rkP key r) 13 < 256∧kU8 2=kU8 2∧(C.fx (rkP key r) 14 < 256∧(C.fx (rkP key r) 15 < 256∧(C.fx (rkP key r) 12 < 256∧q)))) (BadN 37)
def zwt (key:Nat→Nat) (q:Prop) (n:Nat):Prop:=@Nat.rec (fun _=>Nat→Prop) (fun _=>q) (fun _ ih r=>zws key (ih (Nat.succ r)) r) n 0
theorem zBY (key:Nat→Nat) (K:KV→Prop):zBX key K=zwt key (K (Zi (gP key))) 10:=by kernel_rfl
noncomputable def zjI (en:List Nat) (g:Nat→Nat):zh:=fun l K=>la1 l fun x=>chk (isA .u8 16 x) 960 ([kBy 16 (nN (lsK x 16))]=[kBy 16 (nN en)]∧K (Zi g))
noncomputable def zjJ (g:Nat→Nat) (A:List Nat→List Nat):zh:=fun l K=>la2 l fun s b=>[s]=[Zi g]∧chk (isA .u8 16 b) 961 (K (kBy 16 (nN (A (lsK b 16)))))
noncomputable def ztJ (cp:CP) (en:List Nat) (g:Nat→Nat) (A:List Nat→List Nat):KEnv:=EO0.tab [(295,zjI en g),(296,zjJ g A),(276,sCp cp)]
noncomputable def ksK (en mc:List Nat):KV:=.cons (kBy 16 (nN en)) (.cons (kBy 32 (nN mc)) .nl)
def zDF (cp:CP) (en mc:List Nat) (g:Nat→Nat) (A:List Nat→List Nat) (a b:Nat) (p:List Nat) (K:KV→Prop):Prop:=zi (ztJ cp en g A) (zj (ztJ cp en g A) 300) 0 171 [ksK en mc,noK a b,kBy 32 (nN p)] .e 0 0 fun r _ _ _=>K r
noncomputable def ztK (a b c:Nat):List Nat:=apL (P32 a) (apL (P64 b) (P32 c))
noncomputable def zcK (A:List Nat→List Nat) (a b:Nat) (p:List Nat) (j:Nat):Nat:=xo8 (nN p j) (nN (A (lsF 16 (nN (ztK a b (Nat.div j 16))))) (Nat.mod j 16))
noncomputable def faP (A:List Nat→List Nat) (a b:Nat) (p:List Nat):KV:=.fa 32 fun i=>jW (kU8 0) (Nat.add 0 i) (arT (fun j=>kU8 (zcK A a b p j)) 32)
noncomputable def fiP (A:List Nat→List Nat) (a b:Nat) (p:List Nat):Bool:=qa 32 fun i=>v9 (jW (kU8 0) (Nat.add 0 i) (arT (fun j=>kU8 (zcK A a b p j)) 32)) true .sc
theorem zDG (cp:CP) (en mc:List Nat) (g:Nat→Nat) (A:List Nat→List Nat) (a b:Nat) (p:List Nat) (K:KV→Prop):zDF cp en mc g A a b p K=([kBy 16 (nN (lsF 16 (nN en)))]=[kBy 16 (nN en)]∧[Zi g]=[Zi g]∧[Zi g]=[Zi g]∧[Zi g]=[Zi g]∧alt (fiP A a b p) (K (faP A a b p)) (BadN 37)):=by kernel_rfl
noncomputable def zjO (cp:CP) (en mc:List Nat) (a b:Nat) (p dt:List Nat):KEnv:=EO0.tab [(171,zq [ksK en mc,noK a b,kBy 32 (nN p)] (kBy 32 (nN dt))),(276,sCp cp)]
noncomputable def zcL (i a b:Nat) (d:List Nat):List Nat:=apL (P32 (Nat.mod i 4294967296)) (apL (P32 a) (apL (P64 b) (lsF 32 (nN d))))
noncomputable def zcM (cp:CP) (mc:List Nat) (i a b:Nat) (d:List Nat):List Nat:=hmL cp P32 P64 mc 32 (zcL i a b d) 48 2
noncomputable def orF (n:Nat) (f:Nat→Nat):Nat:=@Nat.rec (fun _=>Nat) 0 (fun i d=>Nat.mod (Nat.lor d (f i)) 256) n
noncomputable def zii (T t:List Nat):Bool:=eqI (.ofNat (orF 32 fun i=>xo8 (nN T i) (nN t i))) 0
noncomputable def opK (v:KV) (e:Nat):KV:=.tup (.cons v (.cons (nI e) .nl))
def zBE (cp:CP) (en mc:List Nat) (i a b:Nat) (d t dt:List Nat) (K:KV→Prop):Prop:=zi (zjO cp en mc a b d dt) (zj (zjO cp en mc a b d dt) 300) 0 131 [ksK en mc,nI i,noK a b,kBy 32 (nN d),kBy 32 (nN t)] .e 0 0 fun r _ _ _=>K r
theorem zBF (cp:CP) (en mc:List Nat) (i a b:Nat) (d t dt:List Nat) (K:KV→Prop):zBE cp en mc i a b d t dt K=alt (leI 4096 (.ofNat i)) (K (opK (.ar 32 (kU8 0) .te) 1)) (alt (!(zii (zcM cp mc i a b d) t)) (K (opK (.ar 32 (kU8 0) .te) 9)) ([ksK en mc,noK a b,kBy 32 (nN d)]=[ksK en mc,noK a b,kBy 32 (nN d)]∧K (opK (kBy 32 (nN dt)) 0))):=by kernel_rfl
theorem zEs:KCS Tryz.prog 312 zrJ:=xm ⟨Tryz.f312,Tryz.func312,by kernel_rfl,by kernel_rfl⟩ fun l K hs=>by
 obtain⟨a,b,rfl,h1⟩:=ju hs
 obtain⟨j,rfl,rfl,h2⟩:=zu h1
 obtain⟨h3,hk⟩:=za.1 h2
 exact⟨EO0,zr,rfl,200,_,_,hk,rfl,fun r hr=>by rw[vC (yg hr)]; exact Imp.refl _,zw (Eq.mpr zwr (zF (fun n=>trivial) 10):zce true) j (XP.1 h3)⟩
theorem zAf:KOk zml:=zr.tab (l:=[(311,ze7),(312,zrJ)]) ⟨zd2.opn,zEs,trivial⟩
theorem zuo (key:Nat→Nat) (r:Nat):zrL key r=true:=by
 generalize hf:rkP key r=f
 have h:∀ f:Nat→Nat,∀ i,i < 4→v9 (jW (kU8 0) (Nat.add 12 i) (trN f 16)) true .sc=true:=fun f i hi=>by
  match i,hi with
  | 0,_=>rfl
  | 1,_=>rfl
  | 2,_=>rfl
  | 3,_=>rfl
 unfold zrL
 rw[hf]
 exact xE.2 fun i hi=>h f i hi
theorem YG {key:Nat→Nat}(h:∀ i,key i < 256) (r j:Nat):rkP key r j < 256:=by
 rw[ziC]
 exact Jr h r j
theorem zns {key:Nat→Nat}(h:∀ i,key i < 256) {q:Prop}(hq:q) (n:Nat):zwt key q n:=by
 have main:∀ n r,(@Nat.rec (fun _=>Nat→Prop) (fun _=>q) (fun _ ih r=>zws key (ih (Nat.succ r)) r) n r:Prop):=by
  intro n
  induction n with
  | zero=>intro r; exact hq
  | succ n ih =>
   intro r
   refine zg.2 ⟨fun _=>?_,fun q=>by rw[zuo] at q; cases q⟩
   rw[jj,jj,jj,jj]
   exact⟨YG h _ _,rfl,YG h _ _,YG h _ _,YG h _ _,ih (r + 1)⟩
 exact main n 0
theorem zup (g:Nat→Nat):zA (Zi g).v=true:=by kernel_rfl
def zDi (P:List Nat→Prop) (aes:AF) (h:HM) (en mc:List Nat) (i a b:Nat) (d t:List Nat) (K:KV→Prop):Prop:=zi (E34 P aes h) (zj (E34 P aes h) 300) 0 122 [kBy 16 (nN en),kBy 32 (nN mc),nI i,noK a b,kBy 32 (nN d),kBy 32 (nN t)] .e 0 0 fun r _ _ _=>K r
theorem zDj (P:List Nat→Prop) (aes:AF) (h:HM) (en mc:List Nat) (i a b:Nat) (d t:List Nat) (K:KV→Prop):zDi P aes h en mc i a b d t K=alt (!(eqB 32 (nN (Jo h mc i a b d)) (nN t))) (K (opK (.ar 32 (kU8 0) .te) 9)) (P (lsF 16 (nN en))∧P (lsF 16 (nN en))∧K (opK (kBy 32 (nN (ZO aes en a b d))) 0)):=by kernel_rfl
theorem ziU {n:Nat}{l:List Nat}(h:l.length=n):lsF n (nN l)=l:=Yv (by rw[vE,h]) fun i hi=>vR (by rwa [vE] at hi)
theorem zem (en:List Nat):kBy 16 (nN (lsF 16 (nN en)))=kBy 16 (nN en):=by kernel_rfl
theorem zxl (h:Nat→Nat):xr (fun i=>v9 (jW (kU8 0) (Nat.add 0 i) (arT (fun j=>kU8 (h j)) 32)) true .sc=true) 32:=⟨⟨⟨⟨⟨⟨⟨⟨⟨⟨⟨⟨⟨⟨⟨⟨⟨⟨⟨⟨⟨⟨⟨⟨⟨⟨⟨⟨⟨⟨⟨⟨trivial,rfl⟩,rfl⟩,rfl⟩,rfl⟩,rfl⟩,rfl⟩,rfl⟩,rfl⟩,rfl⟩,rfl⟩,rfl⟩,rfl⟩,rfl⟩,rfl⟩,rfl⟩,rfl⟩,rfl⟩,rfl⟩,rfl⟩,rfl⟩,rfl⟩,rfl⟩,rfl⟩,rfl⟩,rfl⟩,rfl⟩,rfl⟩,rfl⟩,rfl⟩,rfl⟩,rfl⟩,rfl⟩
attribute [local irreducible] cfS cfR zca vD
theorem zxm (A:List Nat→List Nat) (a b:Nat) (p:List Nat):fiP A a b p=true:=xE.2 fun i hi=>zw (zxl (zcK A a b p)) i hi
theorem zsu {a b c:Nat}(ha:a < 4294967296) (hb:b < 18446744073709551616) (hc:c < 4294967296):ztK a b c=zrq a b c:=by
 unfold ztK zrq
 rw[XE ha,Yx hb,XE hc]
noncomputable def AA (en bl:List Nat):List Nat:=wK (lsF 16 (nN en)) bl
theorem zmH {en:List Nat}{a b:Nat}{p:List Nat}(ha:a < 4294967296) (hb:b < 18446744073709551616) {j:Nat}(hj:j < 32):zcK (AA en) a b p j=nN (ZO wK en a b p) j:=by
 unfold ZO
 rw[vR hj]
 unfold zcK AA
 rw[zsu ha hb (show Nat.div j 16 < 4294967296 by show j / 16 < _; omega)]
theorem zxn {en:List Nat}(h:x6 en):KCS Tryz.prog 295 (zjI en (gE (nN (lsF 16 (nN en))))):=zbR ⟨Tryz.f295,Tryz.func295,by kernel_rfl,by kernel_rfl⟩ fun l K hs=>by
 obtain⟨x,rfl,h1⟩:=j3 hs
 obtain⟨h2,h3,hk⟩:=ze h1
 have hb:x6 (lsF 16 (nN en)):=ZQ h
 refine⟨zml,zAf,rfl,300,fun r=>r=Zi (gP (nN (lsF 16 (nN en)))),_,[xx (nN (lsF 16 (nN en)))],hk,zup _,fun r hr=>by rw[hr,zwN]; exact Imp.refl _,fun C m hm=>?_,Eq.mpr (zBY (nN (lsF 16 (nN en))) _) (zns hb rfl 10)⟩
 refine Imp.cons (a':=(xx (nN (lsF 16 (nN en)))).v) ?_ (Imp.refl _) C m hm
 rw[qr,zem]
 have:=XU h2
 rw[(List.cons.inj h3).1] at this
 exact this
theorem zxo (en:List Nat):KCS Tryz.prog 296 (zjJ (gE (nN (lsF 16 (nN en)))) (AA en)):=zbR zvY fun l K hs=>by
 obtain⟨x,y,rfl,h1⟩:=ju hs
 obtain⟨h2,h3⟩:=h1
 obtain⟨h4,hk⟩:=ze h3
 obtain rfl:=(List.cons.inj h2).1
 refine⟨ES,okS,rfl,200,fun r=>r=xx (C.encR (nN (lsK y 16)) (gE (nN (lsF 16 (nN en))))),_,[Zi (gE (nN (lsF 16 (nN en)))),xx (nN (lsK y 16))],hk,jY _,fun r hr=>?_,?_,?_⟩
 ·rw[hr,qr]
  exact ziy 16 _
 ·rw[qr]
  exact Jm (Imp.refl _) (XU h4)
 ·have:=zbt (nN (lsK y 16)) (gE (nN (lsF 16 (nN en))))
  rw[zrZ] at this
  exact this
theorem zmI {A:List Nat→List Nat}{a b:Nat}{p:List Nat}{d:List Nat}(h:∀ j,j < 32→zcK A a b p j=nN d j):Imp (faP A a b p).v (kBy 32 (nN d)).v:=qV (n:=32) (f:=fun i=>kU8 (nN d i)) (d:=kU8 0) fun i hi=>by
 show (jW (kU8 0) (Nat.add 0 i) (arT (fun j=>kU8 (zcK A a b p j)) 32)).v=_
 rw[ZN,va,y5 _ _ 32 i hi,h i hi]
structure noOk (a b:Nat):Prop where
 a:a < 4294967296
 b:b < 18446744073709551616
theorem zxp {en mc p:List Nat}{a b:Nat}(he:x6 en) (H:noOk a b):KCS Tryz.prog 171 (zq [ksK en mc,noK a b,kBy 32 (nN p)] (kBy 32 (nN (ZO wK en a b p)))):=xm ⟨Tryz.f171,Tryz.func171,by kernel_rfl,by kernel_rfl⟩ fun l K hs=>by
 obtain⟨rfl,hk⟩:=hs
 refine⟨ztJ cfS en (gE (nN (lsF 16 (nN en)))) (AA en),zr.tab (l:=[(295,zjI en (gE (nN (lsF 16 (nN en))))),(296,zjJ (gE (nN (lsF 16 (nN en)))) (AA en)),(276,sCp cfS)]) ⟨zxn he,zxo en,Ya.opn,trivial⟩,rfl,300,fun r=>r=faP (AA en) a b p,_,hk,jY _,fun r hr=>by rw[hr]; exact zmI fun j hj=>zmH H.a H.b hj,Eq.mpr (zDG cfS en mc _ _ a b p _) ⟨by rw[zem],rfl,rfl,rfl,zg.2 ⟨fun _=>rfl,fun q=>by rw[zxm] at q; cases q⟩⟩⟩
theorem ziV (a b:Nat):xo8 a b < 256:=Nat.mod_lt _ (by omega)
theorem zen (k:List Nat) (x:Nat):zfS (lsF 32 (nN k)) 32 x=zfS k 32 x:=by
 unfold zfS
 refine qT fun i hi=>?_
 unfold kz
 cases hb:Nat.blt i 32 with
 | false=>rfl
 | true =>
  show xo8 (nN (lsF 32 (nN k)) i) x=xo8 (nN k i) x
  rw[vR (XP.1 hb)]
theorem zeo (k:List Nat) (lk x:Nat):∀ b∈zfS k lk x,b < 256:=xy fun i _=>ziV _ _
theorem zsv {i a b:Nat}{d:List Nat}(H:noOk a b) (hd:d.length=32):apL (R32 (Nat.mod i 4294967296)) (apL (R32 a) (apL (R64 b) d))=zcL i a b d:=by
 unfold zcL
 rw[ziU hd,XE H.a,Yx H.b,XE (show Nat.mod i 4294967296 < 4294967296 from Nat.mod_lt _ (by omega))]
theorem zsw {i a b:Nat}{d:List Nat}(hd:∀ x∈d,x < 256) (hl:d.length=32):∀ x∈zcL i a b d,x < 256:=by
 unfold zcL
 rw[ziU hl]
 exact zT (jF _) (zT (jF _) (zT (Vo _) hd))
theorem zsx {mc d:List Nat}{i a b:Nat}(H:noOk a b) (hd:∀ x∈d,x < 256) (hl:d.length=32):zcM cfS mc i a b d=Jo hmR mc i a b d:=by
 have hm:∀ x∈lsF 48 (nN (zcL i a b d)),x < 256:=xy fun j _=>xV (by omega) (zsw hd hl) j
 unfold Jo hmR zcM hmL
 have e1:lsF 48 (nN (zrr i a b d))=lsF 48 (nN (zcL i a b d)):=by
  refine qT fun j hj=>?_
  unfold zrr
  rw[vR hj,zsv H hl]
 rw[e1,zen,zen]
 rw[JD (by show 64 + 48 < _; omega) (zT (zeo _ _ _) hm)]
 rw[JD (by omega) (zT (zeo _ _ _) (Vp _ _ _ _ _))]
theorem leB {i:Nat}(h:i < 4096):leI 4096 (.ofNat i)=false:=by
 cases e:leI 4096 (.ofNat i) with
 | false=>rfl
 | true=>exact absurd (j8 (a:=4096).1 e) (by omega)
theorem zsy {en mc p:List Nat}{a b:Nat}(he:x6 en) (H:noOk a b):KOk (zjO cfS en mc a b p (ZO wK en a b p)):=zr.tab (l:=[(171,zq [ksK en mc,noK a b,kBy 32 (nN p)] (kBy 32 (nN (ZO wK en a b p)))),(276,sCp cfS)]) ⟨zxp he H,Ya.opn,trivial⟩
theorem zxq {f:Nat→Nat}(hf:∀ i,f i < 256):∀ n,(orF n f=0↔∀ i,i < n→f i=0)∧orF n f < 256
 | 0=>⟨⟨fun _ i h=>absurd h (Nat.not_lt_zero i),fun _=>rfl⟩,(by show 0 < 256; omega)⟩
 | n + 1=>by
  obtain⟨h1,h2⟩:=zxq hf n
  have e:orF (n + 1) f=Nat.mod (Nat.lor (orF n f) (f n)) 256:=rfl
  have hl:(orF n f) ||| (f n) < 256:=Nat.or_lt_two_pow (n:=8) h2 (hf n)
  have e2:orF (n + 1) f=(orF n f) ||| (f n):=by rw[e]; exact Nat.mod_eq_of_lt hl
  refine⟨?_,by rw[e2]; exact hl⟩
  rw[e2,Nat.or_eq_zero_iff,h1]
  constructor
  ·rintro⟨a,b⟩ i hi
   by_cases q:i=n
   ·rw[q]; exact b
   ·exact a i (by omega)
  ·intro h
   exact⟨fun i hi=>h i (by omega),h n (by omega)⟩
theorem zo8 {a b:Nat}(ha:a < 256) (hb:b < 256):xo8 a b=0↔a=b:=by
 have e:xo8 a b=a ^^^ b:=Nat.mod_eq_of_lt (ziB ha hb)
 rw[e]
 constructor
 ·intro h
  have:(a ^^^ b) ^^^ b=a:=by rw[Nat.xor_assoc,Nat.xor_self,Nat.xor_zero]
  rw[h,Nat.zero_xor] at this
  exact this.symm
 ·intro h
  rw[h,Nat.xor_self]
theorem ziW {f g:Nat→Nat}:∀ {n:Nat},eqB n f g=true↔∀ i,i < n→f i=g i
 | 0=>⟨fun _ i h=>absurd h (Nat.not_lt_zero i),fun _=>rfl⟩
 | n + 1=>by
  show nd (eqB n f g) (eqN (f n) (g n))=true↔_
  rw[zd,ziW,z9]
  constructor
  ·rintro⟨a,b⟩ i hi
   by_cases q:i=n
   ·rw[q]; exact b
   ·exact a i (by omega)
  ·intro h
   exact⟨fun i hi=>h i (by omega),h n (by omega)⟩
theorem zsz {T t:List Nat}(hT:x6 T) (ht:x6 t):zii T t=eqB 32 (nN T) (nN t):=by
 have h:=(zxq (f:=fun i=>xo8 (nN T i) (nN t i)) (fun i=>ziV _ _) 32).1
 have k:zii T t=true↔eqB 32 (nN T) (nN t)=true:=by
  rw[ziW]
  show eqI (.ofNat (orF 32 fun i=>xo8 (nN T i) (nN t i))) 0=true↔_
  rw[show eqI (.ofNat (orF 32 fun i=>xo8 (nN T i) (nN t i))) 0=true↔(orF 32 fun i=>xo8 (nN T i) (nN t i))=0 from z9 (b:=0),h]
  exact⟨fun q i hi=>(zo8 (hT i) (ht i)).1 (q i hi),fun q i hi=>(zo8 (hT i) (ht i)).2 (q i hi)⟩
 cases e:zii T t with
 | true=>rw[k.1 e]
 | false =>
  cases e2:eqB 32 (nN T) (nN t) with
  | false=>rfl
  | true=>rw[k.2 e2] at e; cases e
end
end Go.K
set_option maxRecDepth 100000
namespace Go.K
open Go.Ab Go.RowKit Go.Y Go.Proofs
noncomputable section
attribute [local instance 10000] gO
noncomputable def gst (v x:Nat):Nat:=Nat.lor (Nat.mod (Nat.mul (Nat.mod v 18446744073709551616) 256) 18446744073709551616) (Nat.mod x 18446744073709551616)
noncomputable def X3 (l:List Nat) (k:Nat):Nat:=Nat.mod (Nat.mod (gst (gst (gst (gst 0 (nN l k)) (nN l (Nat.add k 1))) (nN l (Nat.add k 2))) (nN l (Nat.add k 3))) 18446744073709551616) 4294967296
noncomputable def znN (l:List Nat) (k:Nat):Nat:=Nat.mod (gst (gst (gst (gst (gst (gst (gst (gst 0 (nN l k)) (nN l (Nat.add k 1))) (nN l (Nat.add k 2))) (nN l (Nat.add k 3))) (nN l (Nat.add k 4))) (nN l (Nat.add k 5))) (nN l (Nat.add k 6))) (nN l (Nat.add k 7))) 18446744073709551616
noncomputable def EGr:KEnv:=EO0.tab [(125,zf3),(247,zf4)]
def zEU (l:List Nat) (K:KV→Prop):Prop:=zi EGr (zj EGr 300) 0 281 [wL 4 l] .e 0 0 fun r _ _ _=>K r
noncomputable def tE2 (v:KV) (e:Nat):KV:=.tup (.cons v (.cons (nI e) .nl))
theorem zEV (l:List Nat) (K:KV→Prop):zEU l K=K (tE2 (je (X3 l 0)) 0):=by kernel_rfl
noncomputable def yo (l:List Nat):En:=⟨nN l 0,lsF 32 fun i=>nN l (Nat.add 1 i)⟩
noncomputable def zc5:KV:=.cons (kU8 0) (.cons (.ar 32 (kU8 0) .te) .nl)
def zEW (l:List Nat) (K:KV→Prop):Prop:=zi EGr (zj EGr 300) 0 283 [wL 33 l] .e 0 0 fun r _ _ _=>K r
def zEX (l:List Nat) (K:KV→Prop):Prop:=zi EGr (zj EGr 300) 0 282 [wL 45 l] .e 0 0 fun r _ _ _=>K r
noncomputable def zuI (l:List Nat) (k:Nat):KV:=.ar 32 (kU8 (nN l k)) (arT (fun i=>kU8 (nN l (Nat.add k i))) 32)
noncomputable def enK (l:List Nat):KV:=.cons (kU8 (nN l 0)) (.cons (zuI l 1) .nl)
theorem zEY (l:List Nat) (K:KV→Prop):zEW l K=alt (!(eqI (.ofNat ((yo l).e)) 0)) (K (tE2 zc5 ((yo l).e))) (K (tE2 (enK l) 0)):=by kernel_rfl
noncomputable def rcG (l:List Nat):Rc:=⟨nN l 0,X3 l 1,znN l 5,lsF 32 fun i=>nN l (Nat.add 13 i)⟩
noncomputable def zkC (l:List Nat):KV:=.cons (je (X3 l 1)) (.cons (XZ (znN l 5)) .nl)
noncomputable def zAw (l:List Nat):KV:=.cons (kU8 (nN l 0)) (.cons (zkC l) (.cons (zuI l 13) .nl))
noncomputable def zc6:KV:=.cons (kU8 0) (.cons (.cons (je 0) (.cons (XZ 0) .nl)) (.cons (.ar 32 (kU8 0) .te) .nl))
theorem zEZ (l:List Nat) (K:KV→Prop):zEX l K=alt (kvb (zkC l) (zkC l)) (alt (!(eqI (.ofNat ((rcG l).e)) 0)) (K (tE2 zc6 ((rcG l).e))) (K (tE2 (zAw l) 0))) (BadN 181):=by kernel_rfl
end
end Go.K
