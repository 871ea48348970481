/- caissonlaw17.V: Of, its loop over slots. No condition. -/
import Derived.Test.YtkllahedaiddgaaGreatDoorZD3
import Derived.Test.YtkllahedaiddgaaGreatDoorRW
set_option linter.unusedSimpArgs false
set_option linter.unusedVariables false
set_option maxRecDepth 100000
namespace Go.K
open Go.Ab Go.RowKit Go.Y Go.Proofs
noncomputable section
attribute [local instance 10000] gO
structure VE where
 x:Vx
 n:Nat
 m:Nat
 L:Nat
 a:List Nat
 b:List Nat
 bl:Nat→List Nat
 dl:Nat→List Nat
 tl:Nat→List Nat
 P:KV→Prop
 δ:KV→Dd
 f:Nat→KV
 g:Nat→KV
 sl:Nat→Nat
 em:Nat→Nat→Bool
 F:Nat→Nat→Nd
 P6:List KV→Prop
 κ:List KV→Nat
 ln:Nat→Nat
 bs:Nat→List Nat
 D:List Nat
noncomputable def VE.rcF (y:VE):KV:=.ro false false vT 0 y.n (.fa y.n y.g)
noncomputable def VE.slF (y:VE):KV:=.ro false false .sc 0 y.m (.fa y.m fun i=>nI (y.sl i))
noncomputable def zyI (y:VE):List (Nat×zh):=[(102,zq [kU8 y.x.ms] (kBy 32 (nN (Qk y.x.ms)))),(101,zq [kBy 32 (nN (Qk y.x.ms))] (zjN y.a y.b)),(103,zq [nI y.n] (nI y.L)),(62,zzg),(34,ztG y.a y.b y.bl y.dl y.tl),(35,fun l K=>la2 l fun b c=>z6 b fun i=>z6 c fun s=>cnd (nd (Nat.blt i 24) (Nat.ble s 1)) (K (nI (Nat.add (Nat.mul 2 i) s)))),
 (104,zq [nI y.n] (nI y.m)),(28,zq [nI y.n] (nI (hS y.n))),(81,fun l K=>la2 l fun a b=>z6 b fun l=>[a]=[nI y.n]∧cnd (Nat.ble l 2) (K (nI (zE y.n l)))),
 (46,fun l K=>la3 l fun a b c=>z6 b fun l=>z6 c fun j=>[a]=[y.rcF]∧cnd (Nat.ble l 2) (K (.bool (y.em l j)))),
 (44,fun l K=>la4 l fun a b c d=>z6 c fun l=>z6 d fun j=>[a,b]=[y.rcF,y.slF]∧cnd (isS y.n l j) (K (y.F l j).k)),
 (82,fun l K=>la3 l fun a b c=>z6 b fun l=>z6 c fun j=>[a]=[nI y.n]∧cnd (isS y.n l j) (K (nI (zo y.n l j)))),
 (27,fun l K=>la4 l fun a b c d=>z6 b fun l=>z6 c fun j=>z6 d fun s=>[a]=[nI y.n]∧cnd (nd (isS y.n l j) (Nat.ble s 1)) (K (nI (zt y.n l j s)))),
 (25,zq [y.rcF,y.slF] (kBy 32 (nN y.D))),(66,fun l K=>y.P6 l∧K (wL (Nat.succ (y.ln (y.κ l))) (y.bs (y.κ l))))]
noncomputable def E30 (y:VE):KEnv:={ (EO0.tab (zyI y)).tabB [(71,zq [nI y.L] (dK y.L X2)),(65,ztH y.L y.P y.δ)] with sc:=true }
def zyJ (y:VE) (Q:QT) (R:RT):Prop:=pc (E30 y) 30 (l30.take 6) [1,2,3,4] [0,1,2] (z7 (mOf 30) 0 [y.x.k],[],0) Q R
theorem zDa (y:VE) (Q:QT) (R:RT):zyJ y Q R=cnd (b63 y.x.nb) (cnd (b63 y.x.n) ([kU8 y.x.ms]=[kU8 y.x.ms]∧[kBy 32 (nN (Qk y.x.ms))]=[kBy 32 (nN (Qk y.x.ms))]∧[nI y.x.n]=[nI y.n]∧[nI y.L]=[nI y.L]∧Q .normal (v30 0) (z30 y.x (JA y.x.n y.a y.b y.L X2 xO .nils .nils .nils)) 3)):=by kernel_rfl
noncomputable def Z1 (i:Nat) (f:Nat→Nat):KBlk:=⟨.row 3,.arr i .sc,.fa i fun j=>nI (f j)⟩
noncomputable def vl2 (y:VE) (d:Dd) (c s:KV):KV:=JA y.n y.a y.b y.L d c (.row 3 (.arr 32 .sc) y.n) (.row 4 vT y.n) s
noncomputable def zz2 (y:VE) (d:Dd) (q:Nat→Nat) (i:Nat):List (Nat×KBlk):=[(0,bx 66 vV y.x.k),(1,bx 80 zX zVl),(2,bx 80 zX (vl2 y d xO (ztF i 5 .sc))),(3,qZ y.n y.f),(4,vH y.n y.g)]++@Nat.rec (fun _=>List (Nat×KBlk)) [] (fun k _=>[(5,Z1 (Nat.succ k) q)]) i
noncomputable def n2 (i:Nat):Nat:=@Nat.rec (fun _=>Nat) 5 (fun _ _=>6) i
noncomputable def t30 (y:VE) (d:Dd) (q:Nat→Nat) (i:Nat):LS:=([(1,.ptr 0 [] vV),(2,.ptr 1 [] zX),(3,.ptr 2 [] zX),(8,nI i)],zz2 y d q i,n2 i)
noncomputable def st1 (y:VE) (d:Dd):LS:=([(1,.ptr 0 [] vV),(2,.ptr 1 [] zX),(3,.ptr 2 [] zX)],[(0,bx 66 vV y.x.k),(1,bx 80 zX zVl),(2,bx 80 zX (vl2 y d xO .nils)),(3,qZ y.n y.f),(4,vH y.n y.g)],5)
noncomputable def o30 (y:VE) (d:Dd) (c s:KV):List (Option KBlk):=[some (bx 66 vV y.x.k),some (bx 80 zX zVl),some (bx 80 zX (vl2 y d c s)),some (qZ y.n y.f),some (vH y.n y.g)]
def zyK (y:VE) (d:Dd) (Q:QT) (R:RT):Prop:=pc (E30 y) 30 ((l30.drop 7).take 1) [1,2,3,8] [0,1,2,3,4] (st1 y d) Q R
theorem zDb (y:VE) (d:Dd) (Q:QT) (R:RT):zyK y d Q R=Q .normal (v30 0) (o30 y d xO .nils) 5:=by kernel_rfl
noncomputable def b2s:Code:=lpB (blB (l30.getD 8 .skip))
def zmT (y:VE) (d:Dd) (q:Nat→Nat) (i:Nat) (li:List Nat) (Q:QT) (R:RT):Prop:=pc (E30 y) 30 (fl b2s) [1,2,3,8] li (t30 y d q i) Q R
noncomputable def rS1 (v:Nat):KBlk:=⟨.row 3,.arr 1 .sc,kAr 1 (nI 0) fun _=>nI v⟩
noncomputable def rSS (k v:Nat) (q:Nat→Nat):KBlk:=⟨.row 3,.arr (Nat.add (Nat.succ k) 1) .sc,.fa (Nat.add (Nat.succ k) 1) fun i=>ifN i (Nat.add (Nat.succ k) 0) (nI v) (nI (q i))⟩
noncomputable def ssV (y:VE) (i:Nat):Nat:=y.x.ss (Nat.add 0 i) % 2
def zmU (y:VE) (i:Nat) (p q:Prop):Prop:=alt (ltN i y.x.s) (cnd (ixB (.ofNat i) y.x.s) (cnd (b63 (ssV y i)) p)) q
def q30 (y:VE) (d:Dd) (i id:Nat) (b:KBlk) (Q:QT) (nx:Nat):Prop:=Q .normal (v30 i) (apO (o30 y d xO (.row id .sc i)) [some b]) nx
theorem zyL (y:VE) (d:Dd) (q:Nat→Nat) (Q:QT) (R:RT):zmT y d q 0 [0,1,2,3,4,6] Q R=([nI y.n]=[nI y.n]∧alt (ltN 0 y.m) (zmU y 0 (q30 y d 1 6 (rS1 (ssV y 0)) Q 7) (q30 y d 1 6 (rS1 0) Q 7)) (Q (.exit 2) (v30 0) (apO (o30 y d xO .nils) [none]) 5)):=by kernel_rfl
theorem zyM (y:VE) (d:Dd) (q:Nat→Nat) (k:Nat) (Q:QT) (R:RT):zmT y d q (Nat.succ k) [0,1,2,3,4,7,5] Q R=([nI y.n]=[nI y.n]∧alt (ltN (Nat.succ k) y.m) (zmU y (Nat.succ k) (cnd (apB (Nat.succ k) 1) (cnd (b63 (Nat.add (Nat.succ k) 1)) (Q .normal (v30 (Nat.add (Nat.succ k) 1)) (apO (o30 y d xO (.row 7 .sc (Nat.add (Nat.succ k) 1))) [some (rSS k (ssV y (Nat.succ k)) q),some (ded (Nat.succ k) .sc)]) 8)))
  (cnd (apB (Nat.succ k) 1) (cnd (b63 (Nat.add (Nat.succ k) 1)) (Q .normal (v30 (Nat.add (Nat.succ k) 1)) (apO (o30 y d xO (.row 7 .sc (Nat.add (Nat.succ k) 1))) [some (rSS k 0 q),some (ded (Nat.succ k) .sc)]) 8))))
  (Q (.exit 2) (v30 (Nat.succ k)) (apO (o30 y d xO (.row 5 .sc (Nat.succ k))) [none,some (Z1 (Nat.succ k) q)]) 6)):=by kernel_rfl
def zyN (y:VE) (d:Dd) (q:Nat→Nat) (k:Nat) (Q:QT) (R:RT):Prop:=pc (E30 y) 30 ((l30.drop 9).take 3) [1,2,3,10,11] [0,1,2,3,4,5] (t30 y d q (Nat.succ k)) Q R
noncomputable def t3s (y:VE) (d:Dd) (l:Nat):LS:=([(1,.ptr 0 [] vV),(2,.ptr 1 [] zX),(3,.ptr 2 [] zX),(10,nI (hS y.n)),(11,nI l)],[(0,bx 66 vV y.x.k),(1,bx 80 zX zVl),(2,bx 80 zX (vl2 y d xO (.row 5 .sc y.m))),(3,qZ y.n y.f),(4,vH y.n y.g),(5,Z1 y.m y.sl)],6)
noncomputable def t3j (y:VE) (d:Dd) (l j:Nat):LS:=([(1,.ptr 0 [] vV),(2,.ptr 1 [] zX),(3,.ptr 2 [] zX),(10,nI (hS y.n)),(11,nI l),(12,nI j)],[(0,bx 66 vV y.x.k),(1,bx 80 zX zVl),(2,bx 80 zX (vl2 y d xO (.row 5 .sc y.m))),(3,qZ y.n y.f),(4,vH y.n y.g),(5,Z1 y.m y.sl)],6)
noncomputable def b3n:Code:=lpB (blB (l30.getD 12 .skip))
noncomputable def x3n:Code:=blB ((fl b3n).getD 2 .skip)
noncomputable def b3j:Code:=lpB (blB ((fl x3n).getD 1 .skip))
def zyO (y:VE) (d:Dd) (l:Nat) (Q:QT) (R:RT):Prop:=pc (E30 y) 30 ((fl b3n).take 2) [1,2,3,10,11] [0,1,2,3,4,5] (t3s y d l) Q R
def zyP (y:VE) (d:Dd) (l:Nat) (Q:QT) (R:RT):Prop:=pc (E30 y) 30 ((fl x3n).take 1) [1,2,3,10,11,12] [0,1,2,3,4,5] (t3s y d l) Q R
def zyQ (y:VE) (d:Dd) (l j:Nat) (Q:QT) (R:RT):Prop:=pc (E30 y) 30 (fl b3j) [1,2,3,10,11,12] [0,1,2,3,4,5] (t3j y d l j) Q R
def zyR (y:VE) (d:Dd) (l j:Nat) (Q:QT) (R:RT):Prop:=pc (E30 y) 30 ((fl b3n).drop 3) [1,2,3,10,11] [0,1,2,3,4,5] (t3j y d l j) Q R
def zyS (y:VE) (d:Dd) (l:Nat) (Q:QT) (R:RT):Prop:=pc (E30 y) 30 (l30.drop 13) [] [3,4,5] (t3s y d l) Q R
noncomputable def v3s (y:VE) (l:Nat):List KV:=[.ptr 0 [] vV,.ptr 1 [] zX,.ptr 2 [] zX,nI (hS y.n),nI l]
noncomputable def zmV (y:VE) (l j:Nat):List KV:=[.ptr 0 [] vV,.ptr 1 [] zX,.ptr 2 [] zX,nI (hS y.n),nI l,nI j]
noncomputable def o3 (y:VE) (d:Dd):List (Option KBlk):=apO (o30 y d xO (.row 5 .sc y.m)) [some (Z1 y.m y.sl)]
noncomputable def epV (y:VE):Nat:=y.x.ep % 2
noncomputable def rSE (k v:Nat) (q:Nat→Nat):KBlk:=⟨.row 3,.arr (Nat.succ k) .sc,.fa (Nat.succ k) fun j=>ifN j (Nat.sub (Nat.succ k) 1) (nI v) (nI (q j))⟩
theorem zDc (y:VE) (d:Dd) (q:Nat→Nat) (k:Nat) (Q:QT) (R:RT):zyN y d q k Q R=cnd (b63 (Nat.sub (Nat.succ k) 1)) (cnd (b63 (epV y)) (cnd (ixB (.ofNat (Nat.sub (Nat.succ k) 1)) (Nat.succ k)) ([nI y.n]=[nI y.n]∧Q .normal (v3s y 0) (apO (o30 y d xO (.row 5 .sc (Nat.succ k))) [some (rSE k (epV y) q)]) 6))):=by kernel_rfl
theorem zDd (y:VE) (d:Dd) (l:Nat) (Q:QT) (R:RT):zyO y d l Q R=alt (leN l (hS y.n)) (Q .normal (v3s y l) (o3 y d) 6) (Q (.exit 4) (v3s y l) (o3 y d) 6):=by kernel_rfl
theorem zDe (y:VE) (d:Dd) (l:Nat) (Q:QT) (R:RT):zyP y d l Q R=Q .normal (zmV y l 0) (o3 y d) 6:=by kernel_rfl
theorem zDf (y:VE) (d:Dd) (l j:Nat) (Q:QT) (R:RT):zyR y d l j Q R=cnd (b63 (Nat.add l 1)) (Q .normal (v3s y (Nat.add l 1)) (o3 y d) 6):=by kernel_rfl
noncomputable def zmW (y:VE):Bool:=nd (qa y.n fun i=>zS 0 (y.g i)) (Nat.ble y.n y.n)
noncomputable def ztj (y:VE):Bool:=nd (qa y.m fun i=>zS 0 (nI (y.sl i))) (Nat.ble y.m y.m)
noncomputable def zyT (y:VE):KV:=.cons (kBy 32 (nN y.D)) (.cons (XZ (Nat.mod y.x.ep 18446744073709551616)) (.cons (XZ 1000) .nl))
theorem zDg (y:VE) (d:Dd) (l:Nat) (Q:QT) (R:RT):zyS y d l Q R=alt (zmW y) (alt (ztj y) ([y.rcF,y.slF]=[y.rcF,y.slF]∧R (vl2 y d (zyT y) (.row 5 .sc y.m)) [some (qZ y.n y.f),some (vH y.n y.g),some (Z1 y.m y.sl)] 6) (BadN 221)) (BadN 221):=by kernel_rfl
noncomputable def cvB (y:VE) (k:Nat):Cv:=⟨true,Nat.succ (y.ln k),pkA (byK (.fa (Nat.succ (y.ln k)) fun i=>kU8 (nN (y.bs k) i)) 0) (Nat.succ (y.ln k))⟩
noncomputable def stB (y:VE) (k:Nat):Bool:=qa (Nat.succ (y.ln k)) fun j=>is8 (zQ (Nat.add 0 j) (KV.fa (Nat.succ (y.ln k)) fun i=>kU8 (nN (y.bs k) i)))
def nx3 (y:VE) (d:Dd) (l j:Nat) (Q:QT):Prop:=cnd (b63 (Nat.add j 1)) (Q .normal (zmV y l (Nat.add j 1)) (o3 y d) 6)
def wr3 (y:VE) (d:Dd) (l j:Nat) (Q:QT):Prop:=alt (zmW y) (alt (ztj y) ([y.rcF,y.slF]=[y.rcF,y.slF]∧cnd (isS y.n l j) (y.P6 [(y.F l j).k]∧[nI y.n]=[nI y.n]∧cnd (isS y.n l j) (cnd (ixB (.ofNat (zo y.n l j)) y.m) ([nI y.n]=[nI y.n]∧cnd (nd (isS y.n l j) (Nat.ble (y.sl (zo y.n l j)) 1)) (cnd (stB y (y.κ [(y.F l j).k])) (y.P (dK y.L d)∧nx3 y (vg (y.δ (dK y.L d)) (zt y.n l j (y.sl (zo y.n l j))) (cvB y (y.κ [(y.F l j).k]))) l j Q)))))) (BadN 221)) (BadN 221)
theorem zDh (y:VE) (d:Dd) (l j:Nat) (Q:QT) (R:RT):zyQ y d l j Q R=([nI y.n]=[nI y.n]∧cnd (Nat.ble l 2) (alt (ltN j (zE y.n l)) (alt (eqN l (hS y.n)) (wr3 y d l j Q) (alt (zmW y) ([y.rcF]=[y.rcF]∧cnd (Nat.ble l 2) (alt (!(y.em l j)) (wr3 y d l j Q) (nx3 y d l j Q))) (BadN 221))) (Q (.exit 6) (zmV y l j) (o3 y d) 6))):=by kernel_rfl
def znO (y:VE) (d:Dd) (f g:Nat→KV) (i:Nat) (li:List Nat) (Q:QT) (R:RT):Prop:=pc (E30 y) 30 (fl b30) [1,2,3,4] li (s30 y.x y.n y.a y.b y.L d f g i) Q R
theorem zAx (y:VE) (d:Dd) (f g:Nat→KV) (Q:QT) (R:RT):znO y d f g 0 [0,1,2,6,7,8,9] Q R=alt (ltN 0 y.n) (zm8 y.x 0 (ztI y.x y.a y.b y.bl y.dl y.L y.P d 0 (Q .normal (v30 1) (apO (z30 y.x (ym y.n y.a y.b y.L (vg (y.δ (dK y.L d)) (zf1 y.x 0) (cvW (y.dl 0))) 7 9 1)) [some (rB1 (kBy 32 (nN (wj (y.x.pp (Nat.add 0 0) 1))))),some (rB1 (kBy 32 (nN (wj (y.x.pp (Nat.add 0 0) 1))))),some (rR1 (rcW y.x 0 (y.tl 0))),some (rR1 (rcW y.x 0 (y.tl 0)))]) 10)) (Q .normal (v30 1) (apO (z30 y.x (ym y.n y.a y.b y.L d 6 8 1)) [some (rB1 z70),some (rR1 rcZ),some (rR1 rcZ),none]) 9)) (Q (.exit 0) (v30 0) (apO (z30 y.x (JA y.n y.a y.b y.L d xO .nils .nils .nils)) [none,none,none,none]) 3):=by kernel_rfl
theorem zAy (y:VE) (d:Dd) (f g:Nat→KV) (k:Nat) (Q:QT) (R:RT):znO y d f g (Nat.succ k) [0,1,2,3,4,8,9,10,11] Q R=alt (ltN (Nat.succ k) y.n) (zm8 y.x (Nat.succ k) (ztI y.x y.a y.b y.bl y.dl y.L y.P d (Nat.succ k) (cnd (apB (Nat.succ k) 1) (cnd (apB (Nat.succ k) 1) (cnd (b63 (Nat.add (Nat.succ k) 1)) (Q .normal (v30 (Nat.add (Nat.succ k) 1)) (apO (z30 y.x (ym y.n y.a y.b y.L (vg (y.δ (dK y.L d)) (zf1 y.x (Nat.succ k)) (cvW (y.dl (Nat.succ k)))) 9 11 (Nat.add (Nat.succ k) 1))) [some (ded (Nat.succ k) (.arr 32 .sc)),some (ded (Nat.succ k) vT),some (rB1 (kBy 32 (nN (wj (y.x.pp (Nat.add 0 (Nat.succ k)) 1))))),some (rBS k (kBy 32 (nN (wj (y.x.pp (Nat.add 0 (Nat.succ k)) 1)))) f),some (rR1 (rcW y.x (Nat.succ k) (y.tl (Nat.succ k)))),some (rRS k (rcW y.x (Nat.succ k) (y.tl (Nat.succ k))) g)]) 12)))))
  (cnd (apB (Nat.succ k) 1) (cnd (apB (Nat.succ k) 1) (cnd (b63 (Nat.add (Nat.succ k) 1)) (Q .normal (v30 (Nat.add (Nat.succ k) 1)) (apO (z30 y.x (ym y.n y.a y.b y.L d 8 10 (Nat.add (Nat.succ k) 1))) [some (ded (Nat.succ k) (.arr 32 .sc)),some (ded (Nat.succ k) vT),some (rBS k z70 f),some (rR1 rcZ),some (rRS k rcZ g),none]) 11)))))
  (Q (.exit 0) (v30 (Nat.succ k)) (apO (z30 y.x (ym y.n y.a y.b y.L d 3 4 (Nat.succ k))) [some (qZ (Nat.succ k) f),some (vH (Nat.succ k) g),none,none,none,none]) 5):=by kernel_rfl
end
end Go.K
set_option maxRecDepth 100000
namespace Go.K
open Go.Ab Go.RowKit Go.Y Go.Proofs
noncomputable section
attribute [local instance 10000] gO
attribute [local irreducible] kpre cOf mOf rOf JL zj l30 b30 wj sdL zcj
theorem zC5:Tryz.f30.ntmps=217:=by kernel_rfl
noncomputable def rhV (r r' i:Nat):Nat:=@Bool.rec (fun _=>Nat) (@Bool.rec (fun _=>Nat) i r' (Nat.beq i 4)) r (Nat.beq i 3)
theorem RnB.toI {F:List Nat}{ρ:Nat→Nat}{n:Nat}{μ:Mem}{v w w':V}(h:RnB μ F ρ n v w) (hi:Imp w w'):RnB μ F ρ n v w':=fun B H C M q1 q2 q3 m hm=>hi _ _ (h B H C M q1 q2 q3 m hm)
section
variable {x:Vx}{n:Nat}{a b:List Nat}{L B N:Nat}
noncomputable abbrev zjz (x:Vx) (n:Nat) (a b:List Nat) (L:Nat) (i:Nat):LS:=s30 x n a b L (dV x a b i) (q9 x) (wa x a b) i
theorem ztg (x:Vx) (n:Nat) (a b:List Nat) (L:Nat):∀ i,nd (ltL (zjz x n a b L i).2.2 (zjz x n a b L i).2.1) (jR (mOf 30) (zjz x n a b L i).1)=true
 | 0=>by kernel_rfl
 | k + 1=>by kernel_rfl
theorem Za (x:Vx):zS 0 (bx 66 vV x.k).v=true:=by kernel_rfl
theorem Zb:zS 0 (bx 80 zX zVl).v=true:=by kernel_rfl
theorem vF (l:List Nat):zS 0 (kBy 32 (nN l))=true:=by kernel_rfl
theorem qv (l:List Nat):zS 0 (kBy 16 (nN l))=true:=by kernel_rfl
theorem dKb (L:Nat) (d:Dd):zS 0 (dK L d)=true:=by kernel_rfl
theorem rcb (y:Rc):zS 0 y.k=true:=by kernel_rfl
theorem pkV {F:List Nat}{zm:KZ}{r r':Nat}{sh:Shape}(c:Nat) (h:rhV r r' c=c) (hb:c < 5):RnV (am zm) F (rhV r r') 5 (KV.ptr c [] sh).v (KV.ptr c [] sh).v:=(show RnB (am zm) F (rhV r r') 5 (V.ptr c [] sh) (V.ptr c [] sh) from RnB.ptr h hb).v
theorem zmS {k r r':Nat}{d:Dd}{f g:Nat→KV}{b1 b2:KBlk}{tr:KTm}{zm:KZ}(hF:zbU [] (rhV r r') 5 (zzf x (ym n a b L d 3 4 (Nat.succ k)) f g (Nat.succ k))=true) (ht:[1,2,3,4].map (zn tr)=v30 (Nat.succ k)) (hz:[0,1,2].map (kb zm)=z30 x (ym n a b L d r r' (Nat.succ k)))
  (h3:kb zm r=some b1) (k1:b1.k=.row 70) (s1:b1.sh=.arr (Nat.succ k) (.arr 32 .sc)) (r1:RnB (am zm) [] (rhV r r') 5 b1.v.v (qZ (Nat.succ k) f).v.v)
  (h4:kb zm r'=some b2) (k2:b2.k=.row 96) (s2:b2.sh=.arr (Nat.succ k) vT) (r2:RnB (am zm) [] (rhV r r') 5 b2.v.v (vH (Nat.succ k) g).v.v):atS (mOf 30) (s30 x n a b L d f g (Nat.succ k)) tr zm:=by
 have g0:kb zm 0=some (bx 66 vV x.k):=congrArg (fun l=>l.getD 0 none) hz
 have g1:kb zm 1=some (bx 80 zX zVl):=congrArg (fun l=>l.getD 1 none) hz
 have g2:kb zm 2=some (bx 80 zX (ym n a b L d r r' (Nat.succ k))):=congrArg (fun l=>l.getD 2 none) hz
 refine atS.of (s:=s30 x n a b L d f g (Nat.succ k)) [] (rhV r r') (vs:=v30 (Nat.succ k)) (os:=[some (bx 66 vV x.k),some (bx 80 zX zVl),some (bx 80 zX (ym n a b L d r r' (Nat.succ k))),some b1,some b2]) ht ?_ hF
  ⟨pkV 0 rfl (ltk rfl),pkV 1 rfl (ltk rfl),pkV 2 rfl (ltk rfl),nfV rfl,trivial⟩
  ⟨RnK.nf (Za x),RnK.nf Zb,RnK.mk' rfl rfl (RnB.cons (nfB (v:=nI n) rfl) (RnB.cons (nfB (qv a)) (RnB.cons (nfB (vF b)) (RnB.cons (nfB (dKb L d)) (RnB.cons (nfB (v:=xO) rfl) (RnB.cons (show RnB (am zm) [] (rhV r r') 5 (V.row r (.arr 32 .sc) (Nat.succ k)) (V.row 3 (.arr 32 .sc) (Nat.succ k)) from RnB.row rfl (ltk rfl)) (RnB.cons (show RnB (am zm) [] (rhV r r') 5 (V.row r' vT (Nat.succ k)) (V.row 4 vT (Nat.succ k)) from RnB.row rfl (ltk rfl)) (nfB (v:=.cons .nils .nl) rfl)))))))),⟨b1,rfl,k1,s1,r1⟩,⟨b2,rfl,k2,s2,r2⟩,trivial⟩
 show [kb zm 0,kb zm 1,kb zm 2,kb zm r,kb zm r']=_
 rw[g0,g1,g2,h3,h4]
section
variable {F:List Nat}{ρ:Nat→Nat}{zm:KZ}
theorem zyy {f:Nat→KV}{v:KV}(h:RnB (am zm) F ρ 5 v.v (f 0).v):RnB (am zm) F ρ 5 (rB1 v).v.v (qZ 1 f).v.v:=RnB.arr fun j hj=>by
 obtain rfl:j=0:=by omega
 exact h
theorem zyz {f:Nat→KV}{v:KV}(h:RnB (am zm) F ρ 5 v.v (f 0).v):RnB (am zm) F ρ 5 (rR1 v).v.v (vH 1 f).v.v:=RnB.arr fun j hj=>by
 obtain rfl:j=0:=by omega
 exact h
theorem zyA {f:Nat→KV}{k:Nat}{v:KV}(h:RnB (am zm) F ρ 5 v.v (f (Nat.succ k)).v) (hb:∀ i,zS 0 (f i)=true):RnB (am zm) F ρ 5 (rBS k v f).v.v (qZ (Nat.succ (Nat.succ k)) f).v.v:=RnB.arr fun j hj=>by
 show RnB (am zm) F ρ 5 (ifN j (Nat.succ k) v (f j)).v (f j).v
 rw[jp]
 by_cases e:j=Nat.succ k
 ·rw[if_pos e,e]; exact h
 ·rw[if_neg e]; exact nfB (hb _)
theorem zyB {f:Nat→KV}{k:Nat}{v:KV}(h:RnB (am zm) F ρ 5 v.v (f (Nat.succ k)).v) (hb:∀ i,zS 0 (f i)=true):RnB (am zm) F ρ 5 (rRS k v f).v.v (vH (Nat.succ (Nat.succ k)) f).v.v:=RnB.arr fun j hj=>by
 show RnB (am zm) F ρ 5 (ifN j (Nat.succ k) v (f j)).v (f j).v
 rw[jp]
 by_cases e:j=Nat.succ k
 ·rw[if_pos e,e]; exact h
 ·rw[if_neg e]; exact nfB (hb _)
end
theorem zyC {i:Nat}(h:wrV x i):blV x i=wj (x.pp i 1):=if_pos h
theorem zC6 {i:Nat}(h:¬ wrV x i):blV x i=z32:=if_neg h
theorem zC7 {i:Nat}(h:wrV x i):(rcV x a b i).k=rcW x i (tlV x a b i):=by
 unfold rcV
 rw[if_pos h]; rfl
theorem zC8 {i:Nat}(h:¬ wrV x i):rcV x a b i=zRc:=if_neg h
theorem d_y {i:Nat}(h:wrV x i):dV x a b (i + 1)=vg (dV x a b i) (zf1 x i) (cvW (dlV x a b i)):=if_pos h
theorem d_n {i:Nat}(h:¬ wrV x i):dV x a b (i + 1)=dV x a b i:=if_neg h
theorem f_n {F:List Nat}{ρ:Nat→Nat}{zm:KZ}{i:Nat}(h:¬ wrV x i):RnB (am zm) F ρ 5 z70.v (q9 x i).v:=by
 show RnB (am zm) F ρ 5 z70.v (kBy 32 (nN (blV x i))).v
 rw[zC6 h]
 exact RnB.toI (nfB (v:=z70) rfl) qb
theorem g_n {F:List Nat}{ρ:Nat→Nat}{zm:KZ}{i:Nat}(h:¬ wrV x i):RnB (am zm) F ρ 5 rcZ.v (wa x a b i).v:=by
 show RnB (am zm) F ρ 5 rcZ.v (rcV x a b i).k.v
 rw[zC8 h]
 exact RnB.toI (nfB (v:=rcZ) rfl) qR
theorem f_y {F:List Nat}{ρ:Nat→Nat}{zm:KZ}{i:Nat}(h:wrV x i):RnB (am zm) F ρ 5 (kBy 32 (nN (wj (x.pp (Nat.add 0 i) 1)))).v (q9 x i).v:=by
 show RnB (am zm) F ρ 5 _ (kBy 32 (nN (blV x i))).v
 rw[zyC h,va]
 exact nfB (vF _)
theorem g_y {F:List Nat}{ρ:Nat→Nat}{zm:KZ}{i:Nat}(h:wrV x i):RnB (am zm) F ρ 5 (rcW x i (tlV x a b i)).v (wa x a b i).v:=by
 show RnB (am zm) F ρ 5 _ (rcV x a b i).k.v
 rw[←zC7 h]
 exact nfB (rcb _)
theorem zpq {i:Nat}{p q:Prop}(h1:wrV x i→p) (h2:¬ wrV x i→q):zm8 x i p q:=by
 unfold zm8
 refine zg.2 ⟨fun e=>?_,fun e=>h2 fun h=>?_⟩
 ·have e:=xw.1 e
  refine za.2 ⟨xq.2 e,zg.2 ⟨fun e2=>h1 ⟨e,xw.1 e2⟩,fun e2=>h2 fun h=>?_⟩⟩
  have:=(bf xw).1 e2
  exact this h.2
 ·have:=(bf xw).1 e
  exact this h.1
theorem zpr {i:Nat}{q:Prop}(h:wrV x i) (hi:i < 24) (hs:zeN (dlV x a b i)=true) (hg:zbu L (dV x a b i)) (hq:q):ztI x a b (blV x) (dlV x a b) L (P65 L) (dV x a b i) i q:=by
 have h3:yl x i < 3:=Nat.mod_lt _ (by omega)
 have h0:=h.2
 refine za.2 ⟨xq.2 h.1,za.2 ⟨xq.2 h.1,?_,rfl,za.2 ⟨zH.2 (by omega),za.2 ⟨ja.2 h0,za.2 ⟨zH.2 (by show yl x i - 1 < _; omega),za.2 ⟨zd.2 ⟨XP.2 hi,ja.2 (by show yl x i - 1≤1; omega)⟩,za.2 ⟨hs,⟨_,rfl,hg⟩,hq⟩⟩⟩⟩⟩⟩⟩
 rw[zyC h,va]
theorem zth (f:Nat→Nat):xr (fun i=>zQ i (kBy 32 f)=kU8 (f i)) 32:=⟨⟨⟨⟨⟨⟨⟨⟨⟨⟨⟨⟨⟨⟨⟨⟨⟨⟨⟨⟨⟨⟨⟨⟨⟨⟨⟨⟨⟨⟨⟨⟨trivial,rfl⟩,rfl⟩,rfl⟩,rfl⟩,rfl⟩,rfl⟩,rfl⟩,rfl⟩,rfl⟩,rfl⟩,rfl⟩,rfl⟩,rfl⟩,rfl⟩,rfl⟩,rfl⟩,rfl⟩,rfl⟩,rfl⟩,rfl⟩,rfl⟩,rfl⟩,rfl⟩,rfl⟩,rfl⟩,rfl⟩,rfl⟩,rfl⟩,rfl⟩,rfl⟩,rfl⟩,rfl⟩
theorem zjA {l:List Nat}(h:x6 l):zeN l=true:=by
 unfold zeN
 refine xE.2 fun i hi=>?_
 have e:zQ (Nat.add 0 i) (kBy 32 (nN l))=kU8 (nN l i):=by
  rw[va]
  exact zw (zth (nN l)) i hi
 rw[e]
 exact XP.2 (h i)
theorem zps {x:Vx}{a b:List Nat}(i:Nat):x6 (dlV x a b i):=fun j=>by
 unfold dlV sdL ZO
 exact xV (by omega) (xy fun j _=>Nat.mod_lt _ (by omega)) j
end
end
end Go.K
set_option maxRecDepth 100000
namespace Go.K
open Go.Ab Go.RowKit Go.Y Go.Proofs
noncomputable section
attribute [local instance 10000] gO
structure VC where
 x:Vx
 n:Nat
 m:Nat
 L:Nat
 a:List Nat
 b:List Nat
 sl:Nat→Nat
 em:Nat→Nat→Bool
 F:Nat→Nat→Nd
 P6:List KV→Prop
 κ:List KV→Nat
 ln:Nat→Nat
 bs:Nat→List Nat
 D:List Nat
noncomputable abbrev VC.y (c:VC):VE:={ x:=c.x,n:=c.n,m:=c.m,L:=c.L,a:=c.a,b:=c.b,bl:=blV c.x,dl:=dlV c.x c.a c.b,tl:=tlV c.x c.a c.b,P:=P65 c.L,δ:=deD c.L,f:=q9 c.x,g:=wa c.x c.a c.b,sl:=c.sl,em:=c.em,F:=c.F,P6:=c.P6,κ:=c.κ,ln:=c.ln,bs:=c.bs,D:=c.D }
attribute [local irreducible] kpre cOf mOf rOf JL zj l30 b30 wj sdL zcj
section
variable {B N:Nat}
theorem zCh {c:VC}{d:Dd}{tr:KTm}{zm:KZ}(ht:[1,2,3].map (zn tr)=[.ptr 0 [] vV,.ptr 1 [] zX,.ptr 2 [] zX]) (h0:kb zm 0=some (bx 66 vV c.x.k)) (h1:kb zm 1=some (bx 80 zX zVl)) (h2:kb zm 2=some (bx 80 zX (vl2 c.y d xO .nils))) (h3:kb zm 3=some (qZ c.n (q9 c.x))) (h4:kb zm 4=some (vH c.n (wa c.x c.a c.b))):atS (mOf 30) (st1 c.y d) tr zm:=by
 refine atS.of (s:=st1 c.y d) [] id (vs:=[.ptr 0 [] vV,.ptr 1 [] zX,.ptr 2 [] zX]) (os:=[some (bx 66 vV c.x.k),some (bx 80 zX zVl),some (bx 80 zX (vl2 c.y d xO .nils)),some (qZ c.n (q9 c.x)),some (vH c.n (wa c.x c.a c.b))]) ht ?_ (by kernel_rfl)
  ⟨xG (ltk rfl),xG (ltk rfl),xG (ltk rfl),trivial⟩
  ⟨RnK.nf (Za c.x),RnK.nf Zb,RnK.mk' rfl rfl (RnB.cons (nfB (v:=nI c.n) rfl) (RnB.cons (nfB (qv c.a)) (RnB.cons (nfB (vF c.b)) (RnB.cons (nfB (dKb c.L d)) (RnB.cons (nfB (v:=xO) rfl) (RnB.cons (show RnB (am zm) [] id 5 (V.row 3 (.arr 32 .sc) c.n) (V.row 3 (.arr 32 .sc) c.n) from RnB.row rfl (ltk rfl)) (RnB.cons (show RnB (am zm) [] id 5 (V.row 4 vT c.n) (V.row 4 vT c.n) from RnB.row rfl (ltk rfl)) (nfB (v:=.cons .nils .nl) rfl)))))))),⟨_,rfl,rfl,rfl,RnB.arr fun j hj=>nfB (vF _)⟩,⟨_,rfl,rfl,rfl,RnB.arr fun j hj=>nfB (rcb _)⟩,trivial⟩
 show [kb zm 0,kb zm 1,kb zm 2,kb zm 3,kb zm 4]=_
 rw[h0,h1,h2,h3,h4]
theorem zCi {c:VC}(hE:KOk (E30 c.y)) (hN:217≤N) (h0:0 < c.n) (hn:c.n≤20) (Q:K4) (tr:KTm) (zm:KZ) (ht:[1,2,3,4].map (zn tr)=v30 0) (hz:[0,1,2].map (kb zm)=z30 c.x (JA c.n c.a c.b c.L X2 xO .nils .nils .nils)) (m1:MB (am zm) 3) (m2:INV (mOf 30) tr)
  (h:∀ tr zm,atS (mOf 30) (st1 c.y (dV c.x c.a c.b c.n)) tr zm→MB (am zm) 5→INV (mOf 30) tr→JL (E30 c.y) B N (mOf 30) (l30.drop 7) tr zm 5 Q):JL (E30 c.y) B N (mOf 30) (l30.drop 6) tr zm 3 Q:=by
 have hg:∀ i,i < 21→zbu c.L (dV c.x c.a c.b i):=fun i hi j _=>by
  have:=ze8 c.x c.a c.b i j
  omega
 have hδ:∀ d,c.y.δ (dK c.y.L d)=d:=fun d=>zc9 c.L d
 refine JL.loopT hE (fun i=>zjz c.x c.n c.a c.b c.L i) (fun i=>c.n - i) (fun i=>i≤c.n) (id:=0) (b:=b30) (l2:=l30.drop 7) (by kernel_rfl) (ztg c.x c.n c.a c.b c.L) 0 (Nat.zero_le _) ?_ m1 m2 ?_
 ·exact atS.of (s:=zjz c.x c.n c.a c.b c.L 0) [] id ht hz (by kernel_rfl) ⟨xG (ltk rfl),xG (ltk rfl),xG (ltk rfl),jh _ rfl,trivial⟩ ⟨RnK.nf (Za c.x),RnK.nf Zb,RnK.mk' rfl rfl (RnB.cons (nfB (v:=nI c.n) rfl) (RnB.cons (nfB (qv c.a)) (RnB.cons (nfB (vF c.b)) (RnB.cons (nfB (dKb c.L _)) (nfB (v:=.cons xO (.cons .nils (.cons .nils (.cons .nils .nl)))) rfl))))),trivial⟩
 intro i hi
 cases i with
 | zero =>
  refine JL.all (n:=60) hE rfl (rOf 30) [1,2,3,4] [0,1,2,6,7,8,9] hN (by kernel_rfl) (ztg c.x c.n c.a c.b c.L 0) (fun v=>False) (fun v tr zm nx h1 h2 h3 h4=>h1.elim) ?_
  show znO c.y (dV c.x c.a c.b 0) (q9 c.x) (wa c.x c.a c.b) 0 [0,1,2,6,7,8,9] _ _
  rw[zAx]
  refine zg.2 ⟨fun q=>zpq (fun hw=>zpr hw (by omega) (zjA (zps 0)) (hg 0 (by omega)) ?_) (fun hw=>?_),fun q=>absurd h0 (by have:=(bf xw).1 q; omega)⟩
  ·intro tr zm ht hz hmb hi
   have g7:kb zm 7=some (rB1 (kBy 32 (nN (wj (c.x.pp (Nat.add 0 0) 1))))):=congrArg (fun l=>l.getD 4 none) hz
   have g9:kb zm 9=some (rR1 (rcW c.x 0 (tlV c.x c.a c.b 0))):=congrArg (fun l=>l.getD 6 none) hz
   have hz':[0,1,2].map (kb zm)=z30 c.x (ym c.n c.a c.b c.L (dV c.x c.a c.b 1) 7 9 (Nat.succ 0)):=by
    rw[d_y hw]
    have:=congrArg (fun l=>l.take 3) hz
    rw[hδ] at this
    exact this
   exact⟨1,by omega,by omega,zmS (x:=c.x) (n:=c.n) (a:=c.a) (b:=c.b) (L:=c.L) (k:=0) (r:=7) (r':=9) (by kernel_rfl) ht hz' g7 rfl rfl (zyy (f_y hw)) g9 rfl rfl (zyz (g_y hw))⟩
  ·intro tr zm ht hz hmb hi
   have g6:kb zm 6=some (rB1 z70):=congrArg (fun l=>l.getD 3 none) hz
   have g8:kb zm 8=some (rR1 rcZ):=congrArg (fun l=>l.getD 5 none) hz
   have hz':[0,1,2].map (kb zm)=z30 c.x (ym c.n c.a c.b c.L (dV c.x c.a c.b 1) 6 8 (Nat.succ 0)):=by
    rw[d_n hw]
    exact congrArg (fun l=>l.take 3) hz
   exact⟨1,by omega,by omega,zmS (x:=c.x) (n:=c.n) (a:=c.a) (b:=c.b) (L:=c.L) (k:=0) (r:=6) (r':=8) (by kernel_rfl) ht hz' g6 rfl rfl (zyy (f_n hw)) g8 rfl rfl (zyz (g_n hw))⟩
 | succ k =>
  refine JL.all (n:=60) hE rfl (rOf 30) [1,2,3,4] [0,1,2,3,4,8,9,10,11] hN (by kernel_rfl) (ztg c.x c.n c.a c.b c.L (k + 1)) (fun v=>False) (fun v tr zm nx h1 h2 h3 h4=>h1.elim) ?_
  show znO c.y (dV c.x c.a c.b (Nat.succ k)) (q9 c.x) (wa c.x c.a c.b) (Nat.succ k) [0,1,2,3,4,8,9,10,11] _ _
  rw[zAy]
  refine zg.2 ⟨fun q=>?_,fun q=>?_⟩
  ·have q:Nat.succ k < c.n:=xw.1 q
   refine zpq (fun hw=>zpr hw (by omega) (zjA (zps _)) (hg _ (by omega)) (za.2 ⟨qd (by omega),za.2 ⟨qd (by omega),za.2 ⟨zH.2 (by show k + 1 + 1 < _; omega),?_⟩⟩⟩)) (fun hw=>za.2 ⟨qd (by omega),za.2 ⟨qd (by omega),za.2 ⟨zH.2 (by show k + 1 + 1 < _; omega),?_⟩⟩⟩)
   ·intro tr zm ht hz hmb hi
    have g9:kb zm 9=some (rBS k (kBy 32 (nN (wj (c.x.pp (Nat.add 0 (Nat.succ k)) 1)))) (q9 c.x)):=congrArg (fun l=>l.getD 6 none) hz
    have g11:kb zm 11=some (rRS k (rcW c.x (Nat.succ k) (tlV c.x c.a c.b (Nat.succ k))) (wa c.x c.a c.b)):=congrArg (fun l=>l.getD 8 none) hz
    have hz':[0,1,2].map (kb zm)=z30 c.x (ym c.n c.a c.b c.L (dV c.x c.a c.b (Nat.succ k + 1)) 9 11 (Nat.succ (Nat.succ k))):=by
     rw[d_y hw]
     have:=congrArg (fun l=>l.take 3) hz
     rw[hδ] at this
     exact this
    exact⟨k + 2,by omega,by omega,zmS (x:=c.x) (n:=c.n) (a:=c.a) (b:=c.b) (L:=c.L) (k:=Nat.succ k) (r:=9) (r':=11) (by kernel_rfl) ht hz' g9 rfl rfl (zyA (f_y hw) fun _=>vF _) g11 rfl rfl (zyB (g_y hw) fun _=>rcb _)⟩
   ·intro tr zm ht hz hmb hi
    have g8:kb zm 8=some (rBS k z70 (q9 c.x)):=congrArg (fun l=>l.getD 5 none) hz
    have g10:kb zm 10=some (rRS k rcZ (wa c.x c.a c.b)):=congrArg (fun l=>l.getD 7 none) hz
    have hz':[0,1,2].map (kb zm)=z30 c.x (ym c.n c.a c.b c.L (dV c.x c.a c.b (Nat.succ k + 1)) 8 10 (Nat.succ (Nat.succ k))):=by
     rw[d_n hw]
     exact congrArg (fun l=>l.take 3) hz
    exact⟨k + 2,by omega,by omega,zmS (x:=c.x) (n:=c.n) (a:=c.a) (b:=c.b) (L:=c.L) (k:=Nat.succ k) (r:=8) (r':=10) (by kernel_rfl) ht hz' g8 rfl rfl (zyA (f_n hw) fun _=>vF _) g10 rfl rfl (zyB (g_n hw) fun _=>rcb _)⟩
  ·have q:¬ (Nat.succ k < c.n):=(bf xw).1 q
   have hk:c.n=Nat.succ k:=by omega
   intro tr zm ht hz hmb hi
   refine zeu 0 ?_
   have g3:kb zm 3=some (qZ (Nat.succ k) (q9 c.x)):=congrArg (fun l=>l.getD 3 none) hz
   have g4:kb zm 4=some (vH (Nat.succ k) (wa c.x c.a c.b)):=congrArg (fun l=>l.getD 4 none) hz
   have hz':[0,1,2].map (kb zm)=z30 c.x (ym c.n c.a c.b c.L (dV c.x c.a c.b (Nat.succ k)) 3 4 (Nat.succ k)):=congrArg (fun l=>l.take 3) hz
   refine h tr zm ?_ hmb hi
   rw[hk]
   have ht':[1,2,3].map (zn tr)=[.ptr 0 [] vV,.ptr 1 [] zX,.ptr 2 [] zX]:=congrArg (fun l=>l.take 3) ht
   have g0:kb zm 0=some (bx 66 vV c.x.k):=congrArg (fun l=>l.getD 0 none) hz
   have g1:kb zm 1=some (bx 80 zX zVl):=congrArg (fun l=>l.getD 1 none) hz
   have g2:kb zm 2=some (bx 80 zX (ym c.n c.a c.b c.L (dV c.x c.a c.b (Nat.succ k)) 3 4 (Nat.succ k))):=congrArg (fun l=>l.getD 2 none) hz
   refine zCh ht' g0 g1 ?_ ?_ ?_
   ·rw[g2]
    show some (bx 80 zX (ym c.n c.a c.b c.L (dV c.x c.a c.b (Nat.succ k)) 3 4 (Nat.succ k)))=some (bx 80 zX (JA c.n c.a c.b c.L (dV c.x c.a c.b (Nat.succ k)) xO (.row 3 (.arr 32 .sc) c.n) (.row 4 vT c.n) .nils))
    rw[hk]
    rfl
   ·rw[g3]
    show some (qZ (Nat.succ k) (q9 c.x))=some (qZ c.n (q9 c.x))
    rw[hk]
   ·rw[g4]
    show some (vH (Nat.succ k) (wa c.x c.a c.b))=some (vH c.n (wa c.x c.a c.b))
    rw[hk]
end
end
end Go.K
set_option maxRecDepth 100000
namespace Go.K
open Go.Ab Go.RowKit Go.Y Go.Proofs
noncomputable section
attribute [local instance 10000] gO
noncomputable def slP (x:Vx) (i:Nat):Nat:=if i < x.s then x.ss i % 2 else 0
noncomputable def XY (x:Vx) (m:Nat) (i:Nat):Nat:=if i=m - 1 then x.ep % 2 else slP x i
theorem zrx (x:Vx) (i:Nat):slP x i≤1:=by
 unfold slP
 split
 ·have:=Nat.mod_lt (x.ss i) (show 0 < 2 by omega); omega
 ·omega
theorem zd7 (x:Vx) (m i:Nat):XY x m i≤1:=by
 unfold XY
 split
 ·have:=Nat.mod_lt x.ep (show 0 < 2 by omega); omega
 ·exact zrx x i
attribute [local irreducible] kpre cOf mOf rOf JL zj l30 b30 b2s wj sdL zcj
noncomputable def rh5 (r i:Nat):Nat:=@Bool.rec (fun _=>Nat) i r (Nat.beq i 5)
section
variable {c:VC}{B N:Nat}{d:Dd}
theorem hsS (c:VC) (d:Dd):∀ i,nd (ltL (t30 c.y d (slP c.x) i).2.2 (t30 c.y d (slP c.x) i).2.1) (jR (mOf 30) (t30 c.y d (slP c.x) i).1)=true
 | 0=>by kernel_rfl
 | k + 1=>by kernel_rfl
theorem pk5 {F:List Nat}{zm:KZ}{r:Nat}{sh:Shape}(b:Nat) (h:rh5 r b=b) (hb:b < 6):RnV (am zm) F (rh5 r) 6 (KV.ptr b [] sh).v (KV.ptr b [] sh).v:=(show RnB (am zm) F (rh5 r) 6 (V.ptr b [] sh) (V.ptr b [] sh) from RnB.ptr h hb).v
theorem rn5 {zm:KZ}{r:Nat}(b n:Nat) {e:Shape}(h:rh5 r 5=b) (hb:5 < 6):RnB (am zm) [] (rh5 r) 6 (V.row b e n) (V.row 5 e n):=by
 subst h
 exact RnB.row rfl hb
theorem za0 {k r:Nat}{b1:KBlk}{tr:KTm}{zm:KZ}(hF:zbU [] (rh5 r) 6 (zz2 c.y d (slP c.x) (Nat.succ k))=true) (ht:[1,2,3,8].map (zn tr)=v30 (Nat.succ k)) (hz:[0,1,2,3,4].map (kb zm)=o30 c.y d xO (.row r .sc (Nat.succ k)))
  (h5:kb zm r=some b1) (k1:b1.k=.row 3) (s1:b1.sh=.arr (Nat.succ k) .sc) (r1:RnB (am zm) [] (rh5 r) 6 b1.v.v (Z1 (Nat.succ k) (slP c.x)).v.v):atS (mOf 30) (t30 c.y d (slP c.x) (Nat.succ k)) tr zm:=by
 have g0:kb zm 0=some (bx 66 vV c.x.k):=congrArg (fun l=>l.getD 0 none) hz
 have g1:kb zm 1=some (bx 80 zX zVl):=congrArg (fun l=>l.getD 1 none) hz
 have g2:kb zm 2=some (bx 80 zX (vl2 c.y d xO (.row r .sc (Nat.succ k)))):=congrArg (fun l=>l.getD 2 none) hz
 have g3:kb zm 3=some (qZ c.n (q9 c.x)):=congrArg (fun l=>l.getD 3 none) hz
 have g4:kb zm 4=some (vH c.n (wa c.x c.a c.b)):=congrArg (fun l=>l.getD 4 none) hz
 refine atS.of (s:=t30 c.y d (slP c.x) (Nat.succ k)) [] (rh5 r) (vs:=v30 (Nat.succ k)) (os:=[some (bx 66 vV c.x.k),some (bx 80 zX zVl),some (bx 80 zX (vl2 c.y d xO (.row r .sc (Nat.succ k)))),some (qZ c.n (q9 c.x)),some (vH c.n (wa c.x c.a c.b)),some b1]) ht ?_ hF
  ⟨pk5 0 rfl (ltk rfl),pk5 1 rfl (ltk rfl),pk5 2 rfl (ltk rfl),nfV rfl,trivial⟩
  ⟨RnK.nf (Za c.x),RnK.nf Zb,RnK.mk' rfl rfl (RnB.cons (nfB (v:=nI c.n) rfl) (RnB.cons (nfB (qv c.a)) (RnB.cons (nfB (vF c.b)) (RnB.cons (nfB (dKb c.L d)) (RnB.cons (nfB (v:=xO) rfl) (RnB.cons (show RnB (am zm) [] (rh5 r) 6 (V.row 3 (.arr 32 .sc) c.n) (V.row 3 (.arr 32 .sc) c.n) from RnB.row rfl (ltk rfl)) (RnB.cons (show RnB (am zm) [] (rh5 r) 6 (V.row 4 vT c.n) (V.row 4 vT c.n) from RnB.row rfl (ltk rfl)) (RnB.cons (show RnB (am zm) [] (rh5 r) 6 (V.row r .sc (Nat.succ k)) (V.row 5 .sc (Nat.succ k)) from rn5 r _ rfl (ltk rfl)) (nfB (v:=.nl) rfl))))))))),⟨_,rfl,rfl,rfl,RnB.arr fun j hj=>nfB (vF _)⟩,⟨_,rfl,rfl,rfl,RnB.arr fun j hj=>nfB (rcb _)⟩,⟨b1,rfl,k1,s1,r1⟩,trivial⟩
 show [kb zm 0,kb zm 1,kb zm 2,kb zm 3,kb zm 4,kb zm r]=_
 rw[g0,g1,g2,g3,g4,h5]
theorem zwn {F:List Nat}{ρ:Nat→Nat}{zm:KZ}{f:Nat→Nat}{v:Nat}(h:v=f 0):RnB (am zm) F ρ 6 (rS1 v).v.v (Z1 1 f).v.v:=RnB.arr fun j hj=>by
 obtain rfl:j=0:=by omega
 subst h
 exact nfB (v:=nI (f 0)) rfl
theorem zwo {F:List Nat}{ρ:Nat→Nat}{zm:KZ}{f:Nat→Nat}{k v:Nat}(h:v=f (Nat.succ k)):RnB (am zm) F ρ 6 (rSS k v f).v.v (Z1 (Nat.succ (Nat.succ k)) f).v.v:=RnB.arr fun j hj=>by
 show RnB (am zm) F ρ 6 (ifN j (Nat.succ k) (nI v) (nI (f j))).v (nI (f j)).v
 rw[jp]
 by_cases e:j=Nat.succ k
 ·rw[if_pos e,e,h]; exact nfB (v:=nI (f (Nat.succ k))) rfl
 ·rw[if_neg e]; exact nfB (v:=nI (f j)) rfl
theorem zoL {i:Nat}{p q:Prop}(h1:ssV c.y i=slP c.x i→p) (h2:0=slP c.x i→q):zmU c.y i p q:=by
 unfold zmU
 refine zg.2 ⟨fun e=>?_,fun e=>h2 ?_⟩
 ·have e:i < c.x.s:=xw.1 e
  have e2:ssV c.y i=slP c.x i:=by
   show c.x.ss (Nat.add 0 i) % 2=_
   rw[va]
   unfold slP
   rw[if_pos e]
  exact za.2 ⟨xq.2 e,za.2 ⟨zH.2 (by show c.x.ss (Nat.add 0 i) % 2 < _; have:=Nat.mod_lt (c.x.ss (Nat.add 0 i)) (show 0 < 2 by omega); omega),h1 e2⟩⟩
 ·have e:¬ i < c.x.s:=(bf xw).1 e
  unfold slP
  rw[if_neg e]
theorem zBU (hE:KOk (E30 c.y)) (hN:217≤N) (h0:0 < c.m) (hm:c.m≤1000) (Q:K4) (tr:KTm) (zm:KZ) (ht:atS (mOf 30) (st1 c.y d) tr zm) (m1:MB (am zm) 5) (m2:INV (mOf 30) tr)
  (h:∀ tr zm,atS (mOf 30) (t30 c.y d (slP c.x) c.m) tr zm→MB (am zm) 6→INV (mOf 30) tr→JL (E30 c.y) B N (mOf 30) (l30.drop 9) tr zm 6 Q):JL (E30 c.y) B N (mOf 30) (l30.drop 7) tr zm 5 Q:=by
 refine JL.preS hE ht (vp (by kernel_rfl)) ?_
 refine JL.stp (n:=60) hE rfl 1 (rOf 30) [1,2,3,8] [0,1,2,3,4] hN (by kernel_rfl) (by kernel_rfl) (fun v=>False) (fun v tr zm nx h1 h2 h3 h4=>h1.elim) ?_
 show zyK c.y d _ _
 rw[zDb]
 intro tr zm ht hz hmb hi
 show JL (E30 c.y) B N (mOf 30) ((l30.drop 7).drop 1) tr zm 5 _
 rw[show (l30.drop 7).drop 1=l30.drop 8 from List.drop_drop]
 refine JL.loopT hE (fun i=>t30 c.y d (slP c.x) i) (fun i=>c.m - i) (fun i=>i≤c.m) (id:=2) (b:=b2s) (l2:=l30.drop 9) (by kernel_rfl) (hsS c d) 0 (Nat.zero_le _) ?_ hmb hi ?_
 ·exact atS.of (s:=t30 c.y d (slP c.x) 0) [] id ht hz (by kernel_rfl) ⟨xG (ltk rfl),xG (ltk rfl),xG (ltk rfl),jh _ rfl,trivial⟩ ⟨RnK.nf (Za c.x),RnK.nf Zb,RnK.mk' rfl rfl (RnB.cons (nfB (v:=nI c.n) rfl) (RnB.cons (nfB (qv c.a)) (RnB.cons (nfB (vF c.b)) (RnB.cons (nfB (dKb c.L d)) (RnB.cons (nfB (v:=xO) rfl) (RnB.cons (show RnB (am zm) [] id 5 (V.row 3 (.arr 32 .sc) c.n) (V.row 3 (.arr 32 .sc) c.n) from RnB.row rfl (ltk rfl)) (RnB.cons (show RnB (am zm) [] id 5 (V.row 4 vT c.n) (V.row 4 vT c.n) from RnB.row rfl (ltk rfl)) (nfB (v:=.cons .nils .nl) rfl)))))))),⟨_,rfl,rfl,rfl,RnB.arr fun j hj=>nfB (vF _)⟩,⟨_,rfl,rfl,rfl,RnB.arr fun j hj=>nfB (rcb _)⟩,trivial⟩
 intro i hi
 cases i with
 | zero =>
  refine JL.all (n:=60) hE rfl (rOf 30) [1,2,3,8] [0,1,2,3,4,6] hN (by kernel_rfl) (hsS c d 0) (fun v=>False) (fun v tr zm nx h1 h2 h3 h4=>h1.elim) ?_
  show zmT c.y d (slP c.x) 0 [0,1,2,3,4,6] _ _
  rw[zyL]
  refine⟨rfl,zg.2 ⟨fun q=>zoL (fun hw=>?_) (fun hw=>?_),fun q=>absurd h0 ((bf xw).1 q)⟩⟩
  all_goals
   intro tr zm ht hz hmb hi
   have hz':[0,1,2,3,4].map (kb zm)=o30 c.y d xO (.row 6 .sc (Nat.succ 0)):=congrArg (fun l=>l.take 5) hz
  ·have g6:kb zm 6=some (rS1 (ssV c.y 0)):=congrArg (fun l=>l.getD 5 none) hz
   exact⟨1,by omega,by omega,za0 (k:=0) (r:=6) (by kernel_rfl) ht hz' g6 rfl rfl (zwn hw)⟩
  ·have g6:kb zm 6=some (rS1 0):=congrArg (fun l=>l.getD 5 none) hz
   exact⟨1,by omega,by omega,za0 (k:=0) (r:=6) (by kernel_rfl) ht hz' g6 rfl rfl (zwn hw)⟩
 | succ k =>
  refine JL.all (n:=60) hE rfl (rOf 30) [1,2,3,8] [0,1,2,3,4,7,5] hN (by kernel_rfl) (hsS c d (k + 1)) (fun v=>False) (fun v tr zm nx h1 h2 h3 h4=>h1.elim) ?_
  show zmT c.y d (slP c.x) (Nat.succ k) [0,1,2,3,4,7,5] _ _
  rw[zyM]
  refine⟨rfl,zg.2 ⟨fun q=>?_,fun q=>?_⟩⟩
  ·have q:Nat.succ k < c.m:=xw.1 q
   refine zoL (fun hw=>za.2 ⟨qd (by omega),za.2 ⟨zH.2 (by show k + 1 + 1 < _; omega),?_⟩⟩) (fun hw=>za.2 ⟨qd (by omega),za.2 ⟨zH.2 (by show k + 1 + 1 < _; omega),?_⟩⟩)
   all_goals
    intro tr zm ht hz hmb hi
    have hz':[0,1,2,3,4].map (kb zm)=o30 c.y d xO (.row 7 .sc (Nat.succ (Nat.succ k))):=congrArg (fun l=>l.take 5) hz
   ·have g7:kb zm 7=some (rSS k (ssV c.y (Nat.succ k)) (slP c.x)):=congrArg (fun l=>l.getD 5 none) hz
    exact⟨k + 2,by omega,by omega,za0 (k:=Nat.succ k) (r:=7) (by kernel_rfl) ht hz' g7 rfl rfl (zwo hw)⟩
   ·have g7:kb zm 7=some (rSS k 0 (slP c.x)):=congrArg (fun l=>l.getD 5 none) hz
    exact⟨k + 2,by omega,by omega,za0 (k:=Nat.succ k) (r:=7) (by kernel_rfl) ht hz' g7 rfl rfl (zwo hw)⟩
  ·have q:¬ (Nat.succ k < c.m):=(bf xw).1 q
   have hk:c.m=Nat.succ k:=by omega
   intro tr zm ht hz hmb hi
   refine zeu 2 ?_
   refine h tr zm ?_ hmb hi
   rw[hk]
   have hz':[0,1,2,3,4].map (kb zm)=o30 c.y d xO (.row 5 .sc (Nat.succ k)):=congrArg (fun l=>l.take 5) hz
   have g5:kb zm 5=some (Z1 (Nat.succ k) (slP c.x)):=congrArg (fun l=>l.getD 6 none) hz
   exact za0 (k:=k) (r:=5) (by kernel_rfl) ht hz' g5 rfl rfl (RnB.arr fun j hj=>nfB (v:=nI (slP c.x j)) rfl)
end
end
end Go.K
